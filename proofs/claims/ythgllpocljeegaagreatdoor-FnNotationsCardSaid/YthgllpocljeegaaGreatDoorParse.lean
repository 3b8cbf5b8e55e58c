/- ParseUint of the program and of the reference return the same; lengths up to 2^20; no condition but what the library's variables hold, for the program's. -/
import Derived.Test.YthgllpocljeegaaGreatDoorRead0
import Derived.Test.YthgllpocljeegaaGreatDoorReadShelf
import Derived.Lib.SmallJoins
namespace Go.Proofs.YthgllpocljeegaaGreatDoor
open Go.RowKit Go.Sort

/-- what the library's variables hold -/
structure Env (w : World) : Prop where
  tab : Tab10 w
  ml : ∃ m, w.cell? ⟨0, 0, none⟩ = some (.int .i64 m)
  es : ∃ te pe, w.cell? ⟨1, 0, none⟩ = some (.iface te pe)
  er : ∃ te pe, w.cell? ⟨2, 0, none⟩ = some (.iface te pe)
theorem Env.bl {w W : World} (h : Env w) (b : Below w.heap.size w W) : Env W := by
  obtain ⟨t, ⟨m, e⟩, ⟨t1, p1, e1⟩, ⟨t2, p2, e2⟩⟩ := h
  exact ⟨t.bl b, ⟨m, (b.cell (p := ⟨0, 0, none⟩) (World.block_lt_of_cell? w ⟨0, 0, none⟩ e)).trans e⟩, ⟨t1, p1, (b.cell (p := ⟨1, 0, none⟩) (World.block_lt_of_cell? w ⟨1, 0, none⟩ e1)).trans e1⟩, ⟨t2, p2, (b.cell (p := ⟨2, 0, none⟩) (World.block_lt_of_cell? w ⟨2, 0, none⟩ e2)).trans e2⟩⟩
/-- what ParseUint answers -/
def puN (l : List UInt8) : Nat := (puF l).getD 0
def puB (l : List UInt8) : Bool := (puF l).isSome
theorem pu_no {l : List UInt8} (h : puF l = none) : puN l = 0 ∧ puB l = false := by simp [puN, puB, h]
theorem pu_yes {l : List UInt8} {n : Nat} (h : puF l = some n) : puN l = n ∧ puB l = true := by simp [puN, puB, h]
theorem puN_bd (l : List UInt8) : puN l ≤ 1000000000 := puF_bd
theorem toList_ne {a b : ByteArray} (h : ¬ a = b) : (a.toList == b.toList) = false := by
  rw [beq_eq_false_iff_ne, Lib.toList_data, Lib.toList_data]
  exact fun e => h (ba_ext e)
theorem sz_len (s : ByteArray) : s.data.toList.length = s.size := by rw [Array.length_toList]; rfl
theorem byte_at (s : ByteArray) (k : Nat) (h : k < s.size) : s.data.toList[k]'(by rw [sz_len]; exact h) = s[k] := rfl
theorem valN_step (s : ByteArray) (k : Nat) (h : k < s.size) : valN s.data.toList (k + 1) = 10 * valN s.data.toList k + (s[k].toNat - 48) := by
  rw [valN]
  congr 3
  rw [List.getD_eq_getElem?_getD, List.getElem?_eq_getElem (by rw [sz_len]; exact h)]
  rfl
theorem digs_take {s : ByteArray} {k : Nat} (h : k < s.size) (ha : (s.data.toList.take k).all dgB = true) (hd : 48 ≤ s[k].toNat ∧ s[k].toNat ≤ 57) : (s.data.toList.take (k + 1)).all dgB = true := by
  rw [List.take_succ_eq_append_getElem (by rw [sz_len]; exact h), List.all_append, ha, byte_at s k h]
  simp [dgB, hd]
theorem valN_take_lt {l : List UInt8} {k : Nat} (ha : (l.take k).all dgB = true) (h : k ≤ l.length) : valN l k < 10 ^ k := by
  have h1 := valN_append (l.take k) (l.drop k) k (by rw [List.length_take]; omega)
  rw [List.take_append_drop] at h1
  rw [h1]
  exact valN_lt ha k (by rw [List.length_take]; omega)
set_option maxHeartbeats 3200000 in
set_option maxRecDepth 100000 in
theorem puI_any (s : ByteArray) (w : World) (hs : s.size ≤ 1048576) (env : Env w) : Calls Tryz.prog 25 #[.string s] w fun e w' => e = .returned (.tuple #[.int .i64 (puN s.data.toList), .bool (puB s.data.toList)]) ∧ Below w.heap.size w w' := by
  by_cases hv : ∃ v, Lib.atoiAll s.data.toList = .ok v
  rotate_left
  · have hp : puF s.data.toList = none := puF_none fun n hn e => hv ⟨n, by rw [e]; exact atoi_dec (by omega)⟩
    obtain ⟨q1, q2⟩ := pu_no hp
    rw [q1, q2]
    have ca := Tryz.atoi_bad s (by omega) (fun v h => hv ⟨v, h⟩) w env.es env.er
    clear hp q1 q2 hv
    go_enter Tryz.func25, Tryz.ntmps25
    go_wp2_with fail
    refine ca.mono ?_
    rintro e w1 ⟨n, N, rfl, b1⟩
    go_wp2
    exact bodyPost_ret (v := .tuple #[.int .i64 0, .bool false]) (by simp [results, Tryz.results25, go_sem]) rfl ⟨rfl, b1⟩
  obtain ⟨v, hv⟩ := hv
  have ca : Calls Tryz.prog 42 #[.string s] w fun e w' => e = .returned (.tuple #[.int .i64 v, .nilIface]) ∧ Below w.heap.size w w' := (Tryz.strconv_Atoi_ok s (by omega) v hv w).mono fun e w' h => ⟨h.1, by
    rcases h.2 with h2 | ⟨t, h2⟩
    · rw [h2]; exact Below.refl _ _
    · rw [h2]; exact Go.Joins.below_bytesWorld _ _ _ _ (Nat.le_refl _)⟩
  have hsame : ∀ n, n ≤ 1000000000 → s.data.toList = Lib.decDigits n → v = (n : Int) := fun n hn e => by
    have := atoi_dec (n := n) (by omega)
    rw [← e, hv] at this
    cases this
    rfl
  by_cases h0 : v < 0
  · obtain ⟨q1, q2⟩ := pu_no (puF_none fun n hn e => by have := hsame n hn e; omega)
    rw [q1, q2]
    clear hsame hv q1 q2
    go_enter Tryz.func25, Tryz.ntmps25
    go_wp2_with fail
    refine ca.mono ?_
    rintro e w1 ⟨rfl, b1⟩
    go_wp2
    exact bodyPost_ret (v := .tuple #[.int .i64 0, .bool false]) (by simp [results, Tryz.results25, go_sem]) rfl ⟨rfl, b1⟩
  by_cases h9 : 1000000000 < v
  · obtain ⟨q1, q2⟩ := pu_no (puF_none fun n hn e => by have := hsame n hn e; omega)
    rw [q1, q2]
    clear hsame hv q1 q2
    go_enter Tryz.func25, Tryz.ntmps25
    go_wp2_with fail
    refine ca.mono ?_
    rintro e w1 ⟨rfl, b1⟩
    go_wp2
    exact bodyPost_ret (v := .tuple #[.int .i64 0, .bool false]) (by simp [results, Tryz.results25, go_sem]) rfl ⟨rfl, b1⟩
  obtain ⟨V, rfl⟩ := Int.eq_ofNat_of_zero_le (show 0 ≤ v by omega)
  have cf := fun W t => fmtI_any V W (by omega) t
  by_cases he : fmtT V = s
  · obtain ⟨q1, q2⟩ := pu_yes (puF_some.2 ⟨show V ≤ 1000000000 by omega, show s.data.toList = Lib.decDigits V by rw [← he, fmtT_data]⟩)
    rw [q1, q2]
    rw [he] at cf
    have CF := Lib.hid cf
    clear hsame hv q1 q2 he cf
    go_enter Tryz.func25, Tryz.ntmps25
    go_wp2_with fail
    refine ca.mono ?_
    rintro e w1 ⟨rfl, b1⟩
    go_wp2_with (go_at_call 26; refine (CF.out _ (env.tab.bl b1)).mono ?_; rintro e w2 ⟨rfl, b2⟩)
    exact bodyPost_ret (v := .tuple #[.int .i64 V, .bool true]) (by simp [results, Tryz.results25, go_sem]) rfl ⟨rfl, bl_to b1 b2⟩
  · obtain ⟨q1, q2⟩ := pu_no (puF_none (l := s.data.toList) fun n hn e => he (by
      have h1 := hsame n hn e
      have hnv : V = n := by omega
      rw [hnv]
      exact ba_ext (by rw [fmtT_data, e])))
    rw [q1, q2]
    have hne := toList_ne he
    generalize fmtT V = T at *
    have CF := Lib.hid cf
    clear hsame hv q1 q2 cf
    go_enter Tryz.func25, Tryz.ntmps25
    go_wp2_with fail
    refine ca.mono ?_
    rintro e w1 ⟨rfl, b1⟩
    go_wp2_with (go_at_call 26; refine (CF.out _ (env.tab.bl b1)).mono ?_; rintro e w2 ⟨rfl, b2⟩)
    exact bodyPost_ret (v := .tuple #[.int .i64 0, .bool false]) (by simp [results, Tryz.results25, go_sem]) rfl ⟨rfl, bl_to b1 b2⟩
end Go.Proofs.YthgllpocljeegaaGreatDoor
