/- ReadNote of the program and of the reference return the same; lengths up to 2^20; no condition but what the library's variables hold, for the program's. -/
import Derived.Test.YthgllpocljeegaaGreatDoorReadNote0
import Derived.Test.YthgllpocljeegaaGreatDoorSplitS
import Derived.Test.YthgllpocljeegaaGreatDoorQB
namespace Go.Proofs.YthgllpocljeegaaGreatDoor
open Go.RowKit Go.Sort

set_option maxHeartbeats 6400000 in
set_option maxRecDepth 100000 in
theorem rnI_any (s : ByteArray) (w : World) (hs : s.size ≤ 1048576) (env : Env w) : Calls Tryz.prog 11 #[.string s] w fun e w' => e = .returned (.tuple #[.agg #[.int .i64 (rnN s.data.toList).1, .int .i64 (rnN s.data.toList).2], .bool (rnB s.data.toList)]) ∧ Below w.heap.size w w' := by
  obtain ⟨L, hL⟩ : ∃ L, s.data.toList = L := ⟨_, rfl⟩
  have hsz : L.length = s.size := by rw [← hL, sz_len]
  have rb0 := RB.new w
  have b0 := bl_alloc (Below.refl w.heap.size w) (.cells #[.int .i64 0, .int .i64 0] 38)
  have env1 := env.bl b0
  obtain ⟨m, hm⟩ := env1.ml
  have cs := Tryz.strings_Cut s ⟨#[58]⟩ m (w.alloc (.cells #[.int .i64 0, .int .i64 0] 38)) (by omega) hm
  rw [hL]
  obtain ⟨a, r, f, hcut, hcase, hlen⟩ : ∃ a r f, Lib.cut L [58] = (a, r, f) ∧ ((f = false ∧ (58 : UInt8) ∉ L) ∨ (f = true ∧ L = a ++ 58 :: r ∧ (58 : UInt8) ∉ a)) ∧ a.length ≤ 1048576 ∧ r.length ≤ 1048576 := by
    rcases cut_one 58 L with ⟨h1, h2⟩ | ⟨a, r, h1, h2, h3⟩
    · exact ⟨L, [], false, h2, .inl ⟨rfl, h1⟩, by omega, by simp⟩
    · have h4 := congrArg List.length h1
      rw [List.length_append, List.length_cons] at h4
      exact ⟨a, r, true, h3, .inr ⟨rfl, h1, h2⟩, by omega, by omega⟩
  have cs : Calls Tryz.prog 24 #[.string s, .string ⟨#[58]⟩] (w.alloc (.cells #[.int .i64 0, .int .i64 0] 38)) fun e w' => e = .returned (.tuple #[.string (baL a), .string (baL r), .bool f]) ∧ ∃ n, w' = (w.alloc (.cells #[.int .i64 0, .int .i64 0] 38)).drewN n := by
    rw [show (⟨#[58]⟩ : ByteArray).data.toList = [58] from rfl, hL, hcut] at cs
    exact cs
  have ca := fun W (h : Below w.heap.size w W) => puI_any (baL a) W (by rw [baL_size]; omega) (env.bl h)
  have cb := fun W (h : Below w.heap.size w W) => puI_any (baL r) W (by rw [baL_size]; omega) (env.bl h)
  rw [baL_data] at ca cb
  generalize baL a = Sa at *
  generalize baL r = Sr at *
  have ENV := Lib.hid env
  rcases hcase with ⟨rfl, hmi⟩ | ⟨rfl, hLe, ha⟩
  · obtain ⟨q1, q2⟩ := rn_no (rn_miss hmi)
    rw [q1, q2]
    obtain ⟨n1, hn1⟩ : ∃ n, puN a = n := ⟨_, rfl⟩
    obtain ⟨b1, hb1⟩ : ∃ b, puB a = b := ⟨_, rfl⟩
    obtain ⟨n2, hn2⟩ : ∃ n, puN r = n := ⟨_, rfl⟩
    obtain ⟨b2, hb2⟩ : ∃ b, puB r = b := ⟨_, rfl⟩
    rw [hn1, hb1] at ca
    rw [hn2, hb2] at cb
    clear q1 q2 hn1 hb1 hn2 hb2 hmi hcut
    have CA := Lib.hid ca
    have CB := Lib.hid cb
    have CS := Lib.hid cs
    clear ca cb cs hm env1 env hL hlen hsz
    go_enter Tryz.func11, Tryz.ntmps11
    go_wp2_with fail
    refine CS.out.mono ?_
    rintro e w1 ⟨rfl, nd, rfl⟩
    have rb := rb0.bl (bl_drewN (Below.refl _ _) nd)
    have bel : Below w.heap.size w ((w.alloc (.cells #[.int .i64 0, .int .i64 0] 38)).drewN nd) := bl_drewN b0 nd
    clear rb0 b0 CS
    generalize (w.alloc (.cells #[.int .i64 0, .int .i64 0] 38)).drewN nd = w1 at *
    go_wp2_with fail
    refine (CA.out _ bel).mono ?_
    rintro e w2 ⟨rfl, b2⟩
    replace rb := rb.bl b2
    replace bel := bl_to bel b2
    clear b2 CA
    go_wp2_with fail
    refine (CB.out _ bel).mono ?_
    rintro e w3 ⟨rfl, b3⟩
    replace rb := rb.bl b3
    replace bel := bl_to bel b3
    have ⟨q0, q1, p0, p1, lt⟩ := rb
    clear b3 CB
    go_wp2
    (refine bodyPost_ret (v := .tuple #[.agg #[.int .i64 0, .int .i64 0], .bool false]) (by simp [results, Tryz.results11, go_sem, q0, q1, lt]) rfl ⟨rfl, by (repeat' (first | (with_reducible exact Below.refl _ _) | (with_reducible refine bl_alloc ?_ _) | (with_reducible refine bl_drewN ?_ _) | (with_reducible refine bl_drew ?_) | (with_reducible assumption) | (with_reducible refine bl_to ?_ (by assumption)) | (with_reducible refine Below.trans ?_ (by assumption)) | (with_reducible refine Below.trans ?_ (Below.mono (by assumption) ?_)) | (with_reducible refine bl_set ?_ ?_ _) | (simp; done) | (simp; omega) | omega))⟩)
  cases hpa : puF a with
  | none =>
    obtain ⟨q1, q2⟩ := rn_no (rn_none1 hLe ha hpa)
    rw [q1, q2]
    obtain ⟨q3, q4⟩ := pu_no hpa
    rw [q3, q4] at ca
    obtain ⟨n2, hn2⟩ : ∃ n, puN r = n := ⟨_, rfl⟩
    obtain ⟨b2, hb2⟩ : ∃ b, puB r = b := ⟨_, rfl⟩
    rw [hn2, hb2] at cb
    clear q1 q2 q3 q4 hpa hn2 hb2 hcut hLe ha
    have CA := Lib.hid ca
    have CB := Lib.hid cb
    have CS := Lib.hid cs
    clear ca cb cs hm env1 env hL hlen hsz
    go_enter Tryz.func11, Tryz.ntmps11
    go_wp2_with fail
    refine CS.out.mono ?_
    rintro e w1 ⟨rfl, nd, rfl⟩
    have rb := rb0.bl (bl_drewN (Below.refl _ _) nd)
    have bel : Below w.heap.size w ((w.alloc (.cells #[.int .i64 0, .int .i64 0] 38)).drewN nd) := bl_drewN b0 nd
    clear rb0 b0 CS
    generalize (w.alloc (.cells #[.int .i64 0, .int .i64 0] 38)).drewN nd = w1 at *
    go_wp2_with fail
    refine (CA.out _ bel).mono ?_
    rintro e w2 ⟨rfl, b2⟩
    replace rb := rb.bl b2
    replace bel := bl_to bel b2
    clear b2 CA
    go_wp2_with fail
    refine (CB.out _ bel).mono ?_
    rintro e w3 ⟨rfl, b3⟩
    replace rb := rb.bl b3
    replace bel := bl_to bel b3
    have ⟨q0, q1, p0, p1, lt⟩ := rb
    clear b3 CB
    go_wp2
    (refine bodyPost_ret (v := .tuple #[.agg #[.int .i64 0, .int .i64 0], .bool false]) (by simp [results, Tryz.results11, go_sem, q0, q1, lt]) rfl ⟨rfl, by (repeat' (first | (with_reducible exact Below.refl _ _) | (with_reducible refine bl_alloc ?_ _) | (with_reducible refine bl_drewN ?_ _) | (with_reducible refine bl_drew ?_) | (with_reducible assumption) | (with_reducible refine bl_to ?_ (by assumption)) | (with_reducible refine Below.trans ?_ (by assumption)) | (with_reducible refine Below.trans ?_ (Below.mono (by assumption) ?_)) | (with_reducible refine bl_set ?_ ?_ _) | (simp; done) | (simp; omega) | omega))⟩)
  | some t =>
  obtain ⟨q3, q4⟩ := pu_yes hpa
  rw [q3, q4] at ca
  cases hpb : puF r with
  | none =>
    obtain ⟨q1, q2⟩ := rn_no (rn_none2 hLe ha hpb)
    rw [q1, q2]
    obtain ⟨q5, q6⟩ := pu_no hpb
    rw [q5, q6] at cb
    clear q1 q2 q3 q4 q5 q6 hpa hpb hcut hLe ha
    have CA := Lib.hid ca
    have CB := Lib.hid cb
    have CS := Lib.hid cs
    clear ca cb cs hm env1 env hL hlen hsz
    go_enter Tryz.func11, Tryz.ntmps11
    go_wp2_with fail
    refine CS.out.mono ?_
    rintro e w1 ⟨rfl, nd, rfl⟩
    have rb := rb0.bl (bl_drewN (Below.refl _ _) nd)
    have bel : Below w.heap.size w ((w.alloc (.cells #[.int .i64 0, .int .i64 0] 38)).drewN nd) := bl_drewN b0 nd
    clear rb0 b0 CS
    generalize (w.alloc (.cells #[.int .i64 0, .int .i64 0] 38)).drewN nd = w1 at *
    go_wp2_with fail
    refine (CA.out _ bel).mono ?_
    rintro e w2 ⟨rfl, b2⟩
    replace rb := rb.bl b2
    replace bel := bl_to bel b2
    clear b2 CA
    go_wp2_with fail
    refine (CB.out _ bel).mono ?_
    rintro e w3 ⟨rfl, b3⟩
    replace rb := rb.bl b3
    replace bel := bl_to bel b3
    have ⟨q0, q1, p0, p1, lt⟩ := rb
    clear b3 CB
    go_wp2
    (refine bodyPost_ret (v := .tuple #[.agg #[.int .i64 0, .int .i64 0], .bool false]) (by simp [results, Tryz.results11, go_sem, q0, q1, lt]) rfl ⟨rfl, by (repeat' (first | (with_reducible exact Below.refl _ _) | (with_reducible refine bl_alloc ?_ _) | (with_reducible refine bl_drewN ?_ _) | (with_reducible refine bl_drew ?_) | (with_reducible assumption) | (with_reducible refine bl_to ?_ (by assumption)) | (with_reducible refine Below.trans ?_ (by assumption)) | (with_reducible refine Below.trans ?_ (Below.mono (by assumption) ?_)) | (with_reducible refine bl_set ?_ ?_ _) | (simp; done) | (simp; omega) | omega))⟩)
  | some p =>
  obtain ⟨q5, q6⟩ := pu_yes hpb
  rw [q5, q6] at cb
  by_cases hb : t ≤ 1000 ∧ p ≤ 60
  · obtain ⟨q7, q8⟩ := rn_some3 hLe ha hpa hpb hb
    obtain ⟨q1, q2⟩ := rn_yes q7
    rw [q1, q2]
    have hie : s.toList.isEmpty = false := by
      rw [Lib.toList_data, hL, hLe]
      cases a <;> rfl
    have cn := fun W (h : Below w.heap.size w W) => ntI_any (t : Int) (p : Int) W (ENV.out.tab.bl h)
    rw [nt_in hb (by rw [hL]; exact q8)] at cn
    have CN := Lib.hid cn
    clear q1 q2 q3 q4 q5 q6 q7 q8 hpa hpb cn hb hcut hLe ha
    have CA := Lib.hid ca
    have CB := Lib.hid cb
    have CS := Lib.hid cs
    clear ca cb cs hm env1 env hL hlen hsz
    go_enter Tryz.func11, Tryz.ntmps11
    go_wp2_with fail
    refine CS.out.mono ?_
    rintro e w1 ⟨rfl, nd, rfl⟩
    have rb := rb0.bl (bl_drewN (Below.refl _ _) nd)
    have bel : Below w.heap.size w ((w.alloc (.cells #[.int .i64 0, .int .i64 0] 38)).drewN nd) := bl_drewN b0 nd
    clear rb0 b0 CS
    generalize (w.alloc (.cells #[.int .i64 0, .int .i64 0] 38)).drewN nd = w1 at *
    go_wp2_with fail
    refine (CA.out _ bel).mono ?_
    rintro e w2 ⟨rfl, b2⟩
    replace rb := rb.bl b2
    replace bel := bl_to bel b2
    clear b2 CA
    go_wp2_with fail
    refine (CB.out _ bel).mono ?_
    rintro e w3 ⟨rfl, b3⟩
    replace rb := rb.bl b3
    replace bel := bl_to bel b3
    have ⟨q0, q1, p0, p1, lt⟩ := rb
    clear b3 CB
    go_wp2_with fail
    refine (CN.out _ (by (repeat' (first | (with_reducible exact Below.refl _ _) | (with_reducible refine bl_alloc ?_ _) | (with_reducible refine bl_drewN ?_ _) | (with_reducible refine bl_drew ?_) | (with_reducible assumption) | (with_reducible refine bl_to ?_ (by assumption)) | (with_reducible refine Below.trans ?_ (by assumption)) | (with_reducible refine Below.trans ?_ (Below.mono (by assumption) ?_)) | (with_reducible refine bl_set ?_ ?_ _) | (simp; done) | (simp; omega) | omega)))).mono ?_
    rintro e w4 ⟨rfl, b4⟩
    have d0 : w4.cell? ⟨w3.heap.size, 0, none⟩ = some (.int .i64 (t : Int)) := (b4.cell (p := ⟨w3.heap.size, 0, none⟩) (by simp)).trans (by simp [go_sem])
    have d1 : w4.cell? ⟨w3.heap.size, 1, none⟩ = some (.int .i64 (p : Int)) := (b4.cell (p := ⟨w3.heap.size, 1, none⟩) (by simp)).trans (by simp [go_sem])
    replace rb := (rb.bl (bl_alloc (Below.refl _ _) _)).bl b4
    replace bel := bl_to (bl_alloc bel _) b4
    clear b4 q0 q1 p0 p1 lt
    have ⟨q0, q1, p0, p1, lt⟩ := rb
    go_wp2
    (refine bodyPost_ret (v := .tuple #[.agg #[.int .i64 t, .int .i64 p], .bool true]) (by simp [results, Tryz.results11, go_sem, q0, q1, lt]) rfl ⟨rfl, by (repeat' (first | (with_reducible exact Below.refl _ _) | (with_reducible refine bl_alloc ?_ _) | (with_reducible refine bl_drewN ?_ _) | (with_reducible refine bl_drew ?_) | (with_reducible assumption) | (with_reducible refine bl_to ?_ (by assumption)) | (with_reducible refine Below.trans ?_ (by assumption)) | (with_reducible refine Below.trans ?_ (Below.mono (by assumption) ?_)) | (with_reducible refine bl_set ?_ ?_ _) | (simp; done) | (simp; omega) | omega))⟩)
  · obtain ⟨q1, q2⟩ := rn_no (rn_none3 hLe ha hpa hpb hb)
    rw [q1, q2]
    have cn := fun W (h : Below w.heap.size w W) => ntI_any (t : Int) (p : Int) W (ENV.out.tab.bl h)
    rw [nt_out hb] at cn
    have CN := Lib.hid cn
    clear q1 q2 q3 q4 q5 q6 hpa hpb cn hb hcut hLe ha
    have CA := Lib.hid ca
    have CB := Lib.hid cb
    have CS := Lib.hid cs
    clear ca cb cs hm env1 env hL hlen hsz
    go_enter Tryz.func11, Tryz.ntmps11
    go_wp2_with fail
    refine CS.out.mono ?_
    rintro e w1 ⟨rfl, nd, rfl⟩
    have rb := rb0.bl (bl_drewN (Below.refl _ _) nd)
    have bel : Below w.heap.size w ((w.alloc (.cells #[.int .i64 0, .int .i64 0] 38)).drewN nd) := bl_drewN b0 nd
    clear rb0 b0 CS
    generalize (w.alloc (.cells #[.int .i64 0, .int .i64 0] 38)).drewN nd = w1 at *
    go_wp2_with fail
    refine (CA.out _ bel).mono ?_
    rintro e w2 ⟨rfl, b2⟩
    replace rb := rb.bl b2
    replace bel := bl_to bel b2
    clear b2 CA
    go_wp2_with fail
    refine (CB.out _ bel).mono ?_
    rintro e w3 ⟨rfl, b3⟩
    replace rb := rb.bl b3
    replace bel := bl_to bel b3
    have ⟨q0, q1, p0, p1, lt⟩ := rb
    clear b3 CB
    go_wp2_with fail
    refine (CN.out _ (by (repeat' (first | (with_reducible exact Below.refl _ _) | (with_reducible refine bl_alloc ?_ _) | (with_reducible refine bl_drewN ?_ _) | (with_reducible refine bl_drew ?_) | (with_reducible assumption) | (with_reducible refine bl_to ?_ (by assumption)) | (with_reducible refine Below.trans ?_ (by assumption)) | (with_reducible refine Below.trans ?_ (Below.mono (by assumption) ?_)) | (with_reducible refine bl_set ?_ ?_ _) | (simp; done) | (simp; omega) | omega)))).mono ?_
    rintro e w4 ⟨rfl, b4⟩
    replace rb := (rb.bl (bl_alloc (Below.refl _ _) _)).bl b4
    replace bel := bl_to (bl_alloc bel _) b4
    clear b4 q0 q1 p0 p1 lt
    have ⟨q0, q1, p0, p1, lt⟩ := rb
    go_wp2
    (refine bodyPost_ret (v := .tuple #[.agg #[.int .i64 0, .int .i64 0], .bool false]) (by simp [results, Tryz.results11, go_sem, q0, q1, lt]) rfl ⟨rfl, by (repeat' (first | (with_reducible exact Below.refl _ _) | (with_reducible refine bl_alloc ?_ _) | (with_reducible refine bl_drewN ?_ _) | (with_reducible refine bl_drew ?_) | (with_reducible assumption) | (with_reducible refine bl_to ?_ (by assumption)) | (with_reducible refine Below.trans ?_ (by assumption)) | (with_reducible refine Below.trans ?_ (Below.mono (by assumption) ?_)) | (with_reducible refine bl_set ?_ ?_ _) | (simp; done) | (simp; omega) | omega))⟩)
end Go.Proofs.YthgllpocljeegaaGreatDoor
