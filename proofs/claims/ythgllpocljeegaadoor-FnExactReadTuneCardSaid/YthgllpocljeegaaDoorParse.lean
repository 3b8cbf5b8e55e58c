/- ParseUint of the program and of the reference return the same; lengths up to 2^20; no condition but what the library's variables hold, for the program's. -/
import Derived.Test.YthgllpocljeegaaDoorRead0
import Derived.Test.YthgllpocljeegaaDoorReadShelf
import Derived.Lib.SmallJoins
namespace Go.Proofs.YthgllpocljeegaaDoor
open Go.RowKit Go.Sort

/-- what the library's variables hold -/
structure Env (w : World) : Prop where
  tab : Tab10 w
  ml : ∃ m, w.cell? ⟨0, 0, none⟩ = some (.int .i64 m)
  es : ∃ te pe, w.cell? ⟨1, 0, none⟩ = some (.iface te pe)
  er : ∃ te pe, w.cell? ⟨2, 0, none⟩ = some (.iface te pe)
theorem Env.bl {w W : World} (h : Env w) (b : Below w.heap.size w W) : Env W := by
  obtain ⟨t, ⟨m, e⟩, ⟨t1, p1, e1⟩, ⟨t2, p2, e2⟩⟩ := h
  exact ⟨t.bl b, ⟨m, (b.cell (p := ⟨0, 0, none⟩) (World.block_lt_of_cell? w ⟨0, 0, none⟩ e)).trans e⟩, ⟨t1, p1, (b.cell (p := ⟨1, 0, none⟩) (World.block_lt_of_cell? w ⟨1, 0, none⟩ e1)).trans e1⟩, ⟨t2, p2, (b.cell (p := ⟨2, 0, none⟩) (World.block_lt_of_cell? w ⟨2, 0, none⟩ e2)).trans e2⟩⟩
/-- what ParseUint answers -/
def puN (l : List UInt8) : Nat := (puF l).getD 0
def puB (l : List UInt8) : Bool := (puF l).isSome
theorem pu_no {l : List UInt8} (h : puF l = none) : puN l = 0 ∧ puB l = false := by simp [puN, puB, h]
theorem pu_yes {l : List UInt8} {n : Nat} (h : puF l = some n) : puN l = n ∧ puB l = true := by simp [puN, puB, h]
theorem puN_bd (l : List UInt8) : puN l ≤ 1000000000 := puF_bd
theorem toList_ne {a b : ByteArray} (h : ¬ a = b) : (a.toList == b.toList) = false := by
  rw [beq_eq_false_iff_ne, Lib.toList_data, Lib.toList_data]
  exact fun e => h (ba_ext e)
theorem sz_len (s : ByteArray) : s.data.toList.length = s.size := by rw [Array.length_toList]; rfl
theorem byte_at (s : ByteArray) (k : Nat) (h : k < s.size) : s.data.toList[k]'(by rw [sz_len]; exact h) = s[k] := rfl
theorem valN_step (s : ByteArray) (k : Nat) (h : k < s.size) : valN s.data.toList (k + 1) = 10 * valN s.data.toList k + (s[k].toNat - 48) := by
  rw [valN]
  congr 3
  rw [List.getD_eq_getElem?_getD, List.getElem?_eq_getElem (by rw [sz_len]; exact h)]
  rfl
theorem digs_take {s : ByteArray} {k : Nat} (h : k < s.size) (ha : (s.data.toList.take k).all dgB = true) (hd : 48 ≤ s[k].toNat ∧ s[k].toNat ≤ 57) : (s.data.toList.take (k + 1)).all dgB = true := by
  rw [List.take_succ_eq_append_getElem (by rw [sz_len]; exact h), List.all_append, ha, byte_at s k h]
  simp [dgB, hd]
theorem valN_take_lt {l : List UInt8} {k : Nat} (ha : (l.take k).all dgB = true) (h : k ≤ l.length) : valN l k < 10 ^ k := by
  have h1 := valN_append (l.take k) (l.drop k) k (by rw [List.length_take]; omega)
  rw [List.take_append_drop] at h1
  rw [h1]
  exact valN_lt ha k (by rw [List.length_take]; omega)
set_option maxHeartbeats 3200000 in
set_option maxRecDepth 100000 in
theorem puS_any (s : ByteArray) (w : World) (hs : s.size ≤ 1048576) : Calls Tryd.prog 30 #[.string s] w fun e w' => e = .returned (.tuple #[.int .i64 (puN s.data.toList), .bool (puB s.data.toList)]) ∧ Below w.heap.size w w' := by
  by_cases h10 : 10 < s.size
  · obtain ⟨q1, q2⟩ := pu_no (puF_long (l := s.data.toList) (by rw [sz_len]; exact h10))
    rw [q1, q2]
    go_enter Tryd.func30, Tryd.ntmps30
    go_wp2
    exact bodyPost_ret (v := .tuple #[.int .i64 0, .bool false]) (by simp [results, Tryd.results30, go_sem]) rfl ⟨rfl, Below.refl _ _⟩
  obtain ⟨N, hN⟩ : ∃ N, puN s.data.toList = N := ⟨_, rfl⟩
  obtain ⟨b, hb⟩ : ∃ b, puB s.data.toList = b := ⟨_, rfl⟩
  rw [hN, hb]
  have hno : puF s.data.toList = none → N = 0 ∧ b = false := fun h => by rw [← hN, ← hb]; exact pu_no h
  have hyes : ∀ n, puF s.data.toList = some n → N = n ∧ b = true := fun n h => by rw [← hN, ← hb]; exact pu_yes h
  have HNO := Lib.hid hno
  have HYES := Lib.hid hyes
  clear hno hyes hN hb
  go_enter Tryd.func30, Tryd.ntmps30
  go_wp2
  go_loop [4, 5] (fun n i => ∃ k : Nat, k ≤ s.size ∧ i = .int .i64 k ∧ n = .int .i64 (valN s.data.toList k : Nat) ∧ (s.data.toList.take k).all dgB = true) (fun _ i => s.size - (intOf i).toNat)
  case atStart => exact ⟨0, Nat.zero_le _, rfl, rfl, by simp⟩
  case round =>
    obtain ⟨k, hk, rfl, rfl, ha⟩ := hrel
    have hvl := valN_take_lt ha (by rw [sz_len]; exact hk)
    have hv10 : valN s.data.toList k < 10 ^ 10 := Nat.lt_of_lt_of_le hvl (Nat.pow_le_pow_right (by omega) (by omega))
    have HA := Lib.hid ha
    clear ha hvl
    obtain ⟨V, hV⟩ : ∃ V, valN s.data.toList k = V := ⟨_, rfl⟩
    rw [hV] at hv10
    rw [hV]
    have HV := Lib.hid hV
    clear hV
    by_cases hlt : k < s.size
    · have hlt' : (k : Int) < (s.size : Int) := by omega
      by_cases c1 : (s[k].toNat : Int) < 48
      · have hn := HNO.out (puF_bad (k := k) (by rw [sz_len]; exact hlt) (by rw [byte_at s k hlt, dgB, decide_eq_false_iff_not]; omega))
        obtain ⟨rfl, rfl⟩ := hn
        go_wp2
        exact bodyPost_ret (v := .tuple #[.int .i64 0, .bool false]) (by simp [results, Tryd.results30, go_sem]) rfl ⟨rfl, Below.refl _ _⟩
      · by_cases c2 : 57 < (s[k].toNat : Int)
        · have hn := HNO.out (puF_bad (k := k) (by rw [sz_len]; exact hlt) (by rw [byte_at s k hlt, dgB, decide_eq_false_iff_not]; omega))
          obtain ⟨rfl, rfl⟩ := hn
          go_wp2
          exact bodyPost_ret (v := .tuple #[.int .i64 0, .bool false]) (by simp [results, Tryd.results30, go_sem]) rfl ⟨rfl, Below.refl _ _⟩
        · have hnx := Lib.hid (valN_step s k hlt)
          have hdt := Lib.hid (digs_take hlt HA.out (by omega))
          have y1 : IntKind.i64.wrap (10 * (V : Int)) = 10 * (V : Int) := IntWalk.i64_in _ (by omega)
          have y2 : IntKind.i64.wrap (10 * (V : Int) + (s[k].toNat : Int)) = 10 * (V : Int) + (s[k].toNat : Int) := IntWalk.i64_in _ (by omega)
          have y3 : IntKind.i64.wrap (10 * (V : Int) + (s[k].toNat : Int) - 48) = 10 * (V : Int) + (s[k].toNat : Int) - 48 := IntWalk.i64_in _ (by omega)
          go_wp2
          go_round
          case rel => exact ⟨k + 1, by omega, by go_num, by rw [hnx.out, HV.out]; congr 1; omega, hdt.out⟩
          case measure => simp [intOf]; omega
    · have hke : k = s.size := by omega
      have hlt' : ¬ (k : Int) < (s.size : Int) := by omega
      have hVl : valN s.data.toList s.data.toList.length = V := by rw [sz_len, ← hke]; exact HV.out
      by_cases hbig : 1000000000 < (V : Int)
      · obtain ⟨rfl, rfl⟩ := HNO.out (puF_big (l := s.data.toList) (by rw [hVl]; omega))
        clear hVl hke
        go_wp2
        exact bodyPost_ret (v := .tuple #[.int .i64 0, .bool false]) (by simp [results, Tryd.results30, go_sem]) rfl ⟨rfl, Below.refl _ _⟩
      · have cf := fmtS_any V w (by omega)
        by_cases he : fmtT V = s
        · obtain ⟨rfl, rfl⟩ := HYES.out V (by have := puF_yes (l := s.data.toList) (by rw [hVl]; omega) (by rw [hVl, ← fmtT_data, he]); rw [hVl] at this; exact this)
          rw [he] at cf
          clear hVl hke he
          go_wp2_with (go_at_call 23; refine cf.mono ?_; rintro e w1 ⟨rfl, b1⟩)
          exact bodyPost_ret (v := .tuple #[.int .i64 N, .bool true]) (by simp [results, Tryd.results30, go_sem]) rfl ⟨rfl, b1⟩
        · obtain ⟨rfl, rfl⟩ := HNO.out (puF_other (l := s.data.toList) (by rw [hVl, ← fmtT_data]; exact fun e => he (ba_ext e)))
          have hne := toList_ne he
          generalize fmtT V = T at *
          clear hVl hke
          go_wp2_with (go_at_call 23; refine cf.mono ?_; rintro e w1 ⟨rfl, b1⟩)
          exact bodyPost_ret (v := .tuple #[.int .i64 0, .bool false]) (by simp [results, Tryd.results30, go_sem]) rfl ⟨rfl, b1⟩
set_option maxHeartbeats 3200000 in
set_option maxRecDepth 100000 in
theorem puI_any (s : ByteArray) (w : World) (hs : s.size ≤ 1048576) (env : Env w) : Calls Tryd.prog 32 #[.string s] w fun e w' => e = .returned (.tuple #[.int .i64 (puN s.data.toList), .bool (puB s.data.toList)]) ∧ Below w.heap.size w w' := by
  by_cases hv : ∃ v, Lib.atoiAll s.data.toList = .ok v
  rotate_left
  · have hp : puF s.data.toList = none := puF_none fun n hn e => hv ⟨n, by rw [e]; exact atoi_dec (by omega)⟩
    obtain ⟨q1, q2⟩ := pu_no hp
    rw [q1, q2]
    have ca := Tryd.atoi_bad s (by omega) (fun v h => hv ⟨v, h⟩) w env.es env.er
    clear hp q1 q2 hv
    go_enter Tryd.func32, Tryd.ntmps32
    go_wp2_with fail
    refine ca.mono ?_
    rintro e w1 ⟨n, N, rfl, b1⟩
    go_wp2
    exact bodyPost_ret (v := .tuple #[.int .i64 0, .bool false]) (by simp [results, Tryd.results32, go_sem]) rfl ⟨rfl, b1⟩
  obtain ⟨v, hv⟩ := hv
  have ca : Calls Tryd.prog 42 #[.string s] w fun e w' => e = .returned (.tuple #[.int .i64 v, .nilIface]) ∧ Below w.heap.size w w' := (Tryd.strconv_Atoi_ok s (by omega) v hv w).mono fun e w' h => ⟨h.1, by
    rcases h.2 with h2 | ⟨t, h2⟩
    · rw [h2]; exact Below.refl _ _
    · rw [h2]; exact Go.Joins.below_bytesWorld _ _ _ _ (Nat.le_refl _)⟩
  have hsame : ∀ n, n ≤ 1000000000 → s.data.toList = Lib.decDigits n → v = (n : Int) := fun n hn e => by
    have := atoi_dec (n := n) (by omega)
    rw [← e, hv] at this
    cases this
    rfl
  by_cases h0 : v < 0
  · obtain ⟨q1, q2⟩ := pu_no (puF_none fun n hn e => by have := hsame n hn e; omega)
    rw [q1, q2]
    clear hsame hv q1 q2
    go_enter Tryd.func32, Tryd.ntmps32
    go_wp2_with fail
    refine ca.mono ?_
    rintro e w1 ⟨rfl, b1⟩
    go_wp2
    exact bodyPost_ret (v := .tuple #[.int .i64 0, .bool false]) (by simp [results, Tryd.results32, go_sem]) rfl ⟨rfl, b1⟩
  by_cases h9 : 1000000000 < v
  · obtain ⟨q1, q2⟩ := pu_no (puF_none fun n hn e => by have := hsame n hn e; omega)
    rw [q1, q2]
    clear hsame hv q1 q2
    go_enter Tryd.func32, Tryd.ntmps32
    go_wp2_with fail
    refine ca.mono ?_
    rintro e w1 ⟨rfl, b1⟩
    go_wp2
    exact bodyPost_ret (v := .tuple #[.int .i64 0, .bool false]) (by simp [results, Tryd.results32, go_sem]) rfl ⟨rfl, b1⟩
  obtain ⟨V, rfl⟩ := Int.eq_ofNat_of_zero_le (show 0 ≤ v by omega)
  have cf := fun W t => fmtI_any V W (by omega) t
  by_cases he : fmtT V = s
  · obtain ⟨q1, q2⟩ := pu_yes (puF_some.2 ⟨show V ≤ 1000000000 by omega, show s.data.toList = Lib.decDigits V by rw [← he, fmtT_data]⟩)
    rw [q1, q2]
    rw [he] at cf
    have CF := Lib.hid cf
    clear hsame hv q1 q2 he cf
    go_enter Tryd.func32, Tryd.ntmps32
    go_wp2_with fail
    refine ca.mono ?_
    rintro e w1 ⟨rfl, b1⟩
    go_wp2_with (go_at_call 25; refine (CF.out _ (env.tab.bl b1)).mono ?_; rintro e w2 ⟨rfl, b2⟩)
    exact bodyPost_ret (v := .tuple #[.int .i64 V, .bool true]) (by simp [results, Tryd.results32, go_sem]) rfl ⟨rfl, bl_to b1 b2⟩
  · obtain ⟨q1, q2⟩ := pu_no (puF_none (l := s.data.toList) fun n hn e => he (by
      have h1 := hsame n hn e
      have hnv : V = n := by omega
      rw [hnv]
      exact ba_ext (by rw [fmtT_data, e])))
    rw [q1, q2]
    have hne := toList_ne he
    generalize fmtT V = T at *
    have CF := Lib.hid cf
    clear hsame hv q1 q2 cf
    go_enter Tryd.func32, Tryd.ntmps32
    go_wp2_with fail
    refine ca.mono ?_
    rintro e w1 ⟨rfl, b1⟩
    go_wp2_with (go_at_call 25; refine (CF.out _ (env.tab.bl b1)).mono ?_; rintro e w2 ⟨rfl, b2⟩)
    exact bodyPost_ret (v := .tuple #[.int .i64 0, .bool false]) (by simp [results, Tryd.results32, go_sem]) rfl ⟨rfl, bl_to b1 b2⟩
end Go.Proofs.YthgllpocljeegaaDoor
