/- CylinderOk of the program and of the reference; lengths up to 2^20. -/
import Derived.Test.YthgllpocljeegaaGreatDoorRowPin
import Derived.Test.YthgllpocljeegaaGreatDoorStCylinder
import Derived.Test.YthgllpocljeegaaGreatDoorAppPin
import Derived.Test.YthgllpocljeegaaGreatDoorTail
import Derived.BigQuiet
import Derived.Deep.QuietTactic
namespace Go.Proofs.YthgllpocljeegaaGreatDoor
open Go.RowKit

/-- by angle, then by track -/
def ltP (a b : Int × Int) : Bool := decide (a.2 < b.2 ∨ a.2 = b.2 ∧ a.1 < b.1)
def cmpP (a b : Int × Int) : Int := if ltP a b then -1 else if a = b then 0 else 1
theorem cmpP_yes {a b : Int × Int} (h : ltP a b = true) : cmpP a b = -1 := by rw [cmpP, if_pos h]
theorem cmpP_no {a b : Int × Int} (h : ltP a b = false) : 0 ≤ cmpP a b := by
  rw [cmpP, if_neg (by simp [h])]
  split <;> omega
def pinB (st tr : Int) (a : Int × Int) : Bool := inB a.1 0 (tr - 1) && inB a.2 0 (st - 1)
def spB (st tr : Int) (l : List (Int × Int)) (k : Nat) : Bool := pinB st tr (gP l k) && (decide (k = 0) || ltP (gP l (k - 1)) (gP l k))
def okP (st tr : Int) (l : List (Int × Int)) : Nat → Bool
  | 0 => true
  | k + 1 => okP st tr l k && spB st tr l k
theorem okP_at {st tr : Int} {l : List (Int × Int)} {n k : Nat} (h : okP st tr l n = true) (hk : k < n) : spB st tr l k = true := by
  induction n with
  | zero => omega
  | succ n ih =>
    rw [okP, Bool.and_eq_true] at h
    by_cases e : k = n
    · rw [e]; exact h.2
    · exact ih h.1 (by omega)
theorem okP_no {st tr : Int} {l : List (Int × Int)} {n k : Nat} (hk : k < n) (h : spB st tr l k = false) : okP st tr l n = false := by
  cases ho : okP st tr l n with
  | false => rfl
  | true => rw [okP_at ho hk] at h; cases h
theorem okP_all {st tr : Int} {l : List (Int × Int)} {n : Nat} (h : ∀ k, k < n → spB st tr l k = true) : okP st tr l n = true := by
  induction n with
  | zero => rfl
  | succ n ih => rw [okP, ih (fun k hk => h k (by omega)), h n (by omega)]; rfl
theorem pinB_iff {st tr : Int} {a : Int × Int} : pinB st tr a = true ↔ (0 ≤ a.1 ∧ a.1 ≤ tr - 1) ∧ (0 ≤ a.2 ∧ a.2 ≤ st - 1) := by
  simp only [pinB, Bool.and_eq_true, inB_iff]
theorem ltP_iff {a b : Int × Int} : ltP a b = true ↔ a.2 < b.2 ∨ a.2 = b.2 ∧ a.1 < b.1 := by simp [ltP]
theorem spB_iff {st tr : Int} {l : List (Int × Int)} {k : Nat} : spB st tr l k = true ↔ pinB st tr (gP l k) = true ∧ (k = 0 ∨ ltP (gP l (k - 1)) (gP l k) = true) := by
  simp [spB]
theorem okP_bd {st tr : Int} {l : List (Int × Int)} {n k : Nat} (h : okP st tr l n = true) (hk : k < n) : (0 ≤ (gP l k).1 ∧ (gP l k).1 ≤ tr - 1) ∧ (0 ≤ (gP l k).2 ∧ (gP l k).2 ≤ st - 1) :=
  pinB_iff.1 (spB_iff.1 (okP_at h hk)).1
theorem okP_lt {st tr : Int} {l : List (Int × Int)} {n j k : Nat} (h : okP st tr l n = true) (hj : j < k) (hk : k < n) : ltP (gP l j) (gP l k) = true := by
  induction k with
  | zero => omega
  | succ k ih =>
    have hs := (spB_iff.1 (okP_at h hk)).2
    have hs : ltP (gP l k) (gP l (k + 1)) = true := by
      rcases hs with hs | hs
      · omega
      · exact hs
    by_cases e : j = k
    · rw [e]; exact hs
    · have := ih (by omega) (by omega)
      rw [ltP_iff] at this hs ⊢
      omega
def cylB (st tr : Int) (l : List (Int × Int)) : Bool := inB st 4 96 && inB tr 1 100 && decide (l.length ≤ 100) && okP st tr l l.length
theorem cylB_iff {st tr : Int} {l : List (Int × Int)} (h : cylB st tr l = true) : (4 ≤ st ∧ st ≤ 96) ∧ (1 ≤ tr ∧ tr ≤ 100) ∧ l.length ≤ 100 ∧ okP st tr l l.length = true := by
  simp only [cylB, Bool.and_eq_true, decide_eq_true_eq, inB_iff] at h
  exact ⟨h.1.1.1, h.1.1.2, h.1.2, h.2⟩

set_option maxHeartbeats 800000 in
theorem compareP_any (a0 a1 b0 b1 : Int) (w : World) : Calls Tryz.prog 35 #[.agg #[.int .i64 a0, .int .i64 a1], .agg #[.int .i64 b0, .int .i64 b1]] w fun e w' => e = .returned (.int .i64 (cmpP (a0, a1) (b0, b1))) ∧ Below w.heap.size w w' := by
  by_cases h1 : a1 < b1
  · go_enter Tryz.func35, Tryz.ntmps35
    go_wp2
    go_ret
    exact ⟨ret_int (by simp [cmpP, ltP, h1]), by (repeat' (first | (with_reducible exact Below.refl _ _) | (with_reducible refine bl_alloc ?_ _) | (with_reducible refine bl_drewN ?_ _) | (with_reducible refine bl_drew ?_) | (with_reducible assumption) | (with_reducible refine bl_to ?_ (by assumption)) | (with_reducible refine Below.trans ?_ (by assumption)) | (with_reducible refine Below.trans ?_ (Below.mono (by assumption) ?_)) | (with_reducible refine bl_set ?_ ?_ _) | (simp; done) | (simp; omega) | omega))⟩
  by_cases h2 : a1 = b1
  · subst h2
    by_cases h3 : a0 < b0
    · go_enter Tryz.func35, Tryz.ntmps35
      go_wp2
      go_ret
      exact ⟨ret_int (by simp [cmpP, ltP, h3]), by (repeat' (first | (with_reducible exact Below.refl _ _) | (with_reducible refine bl_alloc ?_ _) | (with_reducible refine bl_drewN ?_ _) | (with_reducible refine bl_drew ?_) | (with_reducible assumption) | (with_reducible refine bl_to ?_ (by assumption)) | (with_reducible refine Below.trans ?_ (by assumption)) | (with_reducible refine Below.trans ?_ (Below.mono (by assumption) ?_)) | (with_reducible refine bl_set ?_ ?_ _) | (simp; done) | (simp; omega) | omega))⟩
    by_cases h4 : a0 = b0
    · subst h4
      go_enter Tryz.func35, Tryz.ntmps35
      go_wp2
      go_ret
      exact ⟨ret_int (by simp [cmpP, ltP]), by (repeat' (first | (with_reducible exact Below.refl _ _) | (with_reducible refine bl_alloc ?_ _) | (with_reducible refine bl_drewN ?_ _) | (with_reducible refine bl_drew ?_) | (with_reducible assumption) | (with_reducible refine bl_to ?_ (by assumption)) | (with_reducible refine Below.trans ?_ (by assumption)) | (with_reducible refine Below.trans ?_ (Below.mono (by assumption) ?_)) | (with_reducible refine bl_set ?_ ?_ _) | (simp; done) | (simp; omega) | omega))⟩
    · go_enter Tryz.func35, Tryz.ntmps35
      go_wp2
      go_ret
      exact ⟨ret_int (by simp [cmpP, ltP, h3, h4]), by (repeat' (first | (with_reducible exact Below.refl _ _) | (with_reducible refine bl_alloc ?_ _) | (with_reducible refine bl_drewN ?_ _) | (with_reducible refine bl_drew ?_) | (with_reducible assumption) | (with_reducible refine bl_to ?_ (by assumption)) | (with_reducible refine Below.trans ?_ (by assumption)) | (with_reducible refine Below.trans ?_ (Below.mono (by assumption) ?_)) | (with_reducible refine bl_set ?_ ?_ _) | (simp; done) | (simp; omega) | omega))⟩
  · go_enter Tryz.func35, Tryz.ntmps35
    go_wp2
    go_ret
    exact ⟨ret_int (by simp [cmpP, ltP, h1, h2]), by (repeat' (first | (with_reducible exact Below.refl _ _) | (with_reducible refine bl_alloc ?_ _) | (with_reducible refine bl_drewN ?_ _) | (with_reducible refine bl_drew ?_) | (with_reducible assumption) | (with_reducible refine bl_to ?_ (by assumption)) | (with_reducible refine Below.trans ?_ (by assumption)) | (with_reducible refine Below.trans ?_ (Below.mono (by assumption) ?_)) | (with_reducible refine bl_set ?_ ?_ _) | (simp; done) | (simp; omega) | omega))⟩
set_option maxHeartbeats 800000 in
theorem lessP_any (a0 a1 b0 b1 : Int) (w : World) : Calls Tryz.prog 51 #[.agg #[.int .i64 a0, .int .i64 a1], .agg #[.int .i64 b0, .int .i64 b1]] w fun e w' => e = .returned (.bool (ltP (a0, a1) (b0, b1))) ∧ Below w.heap.size w w' := by
  by_cases h1 : a1 < b1
  · go_enter Tryz.func51, Tryz.ntmps51
    go_wp2
    go_ret
    exact ⟨ret_bool (by simp [ltP, h1]), by (repeat' (first | (with_reducible exact Below.refl _ _) | (with_reducible refine bl_alloc ?_ _) | (with_reducible refine bl_drewN ?_ _) | (with_reducible refine bl_drew ?_) | (with_reducible assumption) | (with_reducible refine bl_to ?_ (by assumption)) | (with_reducible refine Below.trans ?_ (by assumption)) | (with_reducible refine Below.trans ?_ (Below.mono (by assumption) ?_)) | (with_reducible refine bl_set ?_ ?_ _) | (simp; done) | (simp; omega) | omega))⟩
  by_cases h2 : a1 = b1
  · subst h2
    by_cases h3 : a0 < b0
    · go_enter Tryz.func51, Tryz.ntmps51
      go_wp2
      go_ret
      exact ⟨ret_bool (by simp [ltP, h3]), by (repeat' (first | (with_reducible exact Below.refl _ _) | (with_reducible refine bl_alloc ?_ _) | (with_reducible refine bl_drewN ?_ _) | (with_reducible refine bl_drew ?_) | (with_reducible assumption) | (with_reducible refine bl_to ?_ (by assumption)) | (with_reducible refine Below.trans ?_ (by assumption)) | (with_reducible refine Below.trans ?_ (Below.mono (by assumption) ?_)) | (with_reducible refine bl_set ?_ ?_ _) | (simp; done) | (simp; omega) | omega))⟩
    · go_enter Tryz.func51, Tryz.ntmps51
      go_wp2
      go_ret
      exact ⟨ret_bool (by simp [ltP, h3]), by (repeat' (first | (with_reducible exact Below.refl _ _) | (with_reducible refine bl_alloc ?_ _) | (with_reducible refine bl_drewN ?_ _) | (with_reducible refine bl_drew ?_) | (with_reducible assumption) | (with_reducible refine bl_to ?_ (by assumption)) | (with_reducible refine Below.trans ?_ (by assumption)) | (with_reducible refine Below.trans ?_ (Below.mono (by assumption) ?_)) | (with_reducible refine bl_set ?_ ?_ _) | (simp; done) | (simp; omega) | omega))⟩
  · go_enter Tryz.func51, Tryz.ntmps51
    go_wp2
    go_ret
    exact ⟨ret_bool (by simp [ltP, h1, h2]), by (repeat' (first | (with_reducible exact Below.refl _ _) | (with_reducible refine bl_alloc ?_ _) | (with_reducible refine bl_drewN ?_ _) | (with_reducible refine bl_drew ?_) | (with_reducible assumption) | (with_reducible refine bl_to ?_ (by assumption)) | (with_reducible refine Below.trans ?_ (by assumption)) | (with_reducible refine Below.trans ?_ (Below.mono (by assumption) ?_)) | (with_reducible refine bl_set ?_ ?_ _) | (simp; done) | (simp; omega) | omega))⟩

set_option maxHeartbeats 3200000 in
set_option maxRecDepth 100000 in
theorem cylI_ok (st tr : Int) (v : Value) (l : List (Int × Int)) (w : World) (h1 : RdP w v l) (hl : l.length ≤ 1048576) :
    Calls Tryz.prog 20 #[.agg #[.int .i64 st, .int .i64 tr, v]] w fun e w' => e = .returned (.bool (cylB st tr l)) ∧ Below w.heap.size w w' := by
  obtain ⟨A1, c1, rfl, hc, hm⟩ := h1.form
  unfold maxLen at hm
  cases hs : inB st 4 96
  · go_enter Tryz.func20, Tryz.ntmps20
    go_wp2_with (go_at_call 22; refine (within_any _ _ _ _).mono ?_; rintro e w' ⟨rfl, rfl⟩)
    go_ret
    exact ⟨ret_bool (by simp [cylB, hs]), by (repeat' (first | (with_reducible exact Below.refl _ _) | (with_reducible refine bl_alloc ?_ _) | (with_reducible refine bl_drewN ?_ _) | (with_reducible refine bl_drew ?_) | (with_reducible assumption) | (with_reducible refine bl_to ?_ (by assumption)) | (with_reducible refine Below.trans ?_ (by assumption)) | (with_reducible refine Below.trans ?_ (Below.mono (by assumption) ?_)) | (with_reducible refine bl_set ?_ ?_ _) | (simp; done) | (simp; omega) | omega))⟩
  cases ht : inB tr 1 100
  · go_enter Tryz.func20, Tryz.ntmps20
    go_wp2_with (go_at_call 22; refine (within_any _ _ _ _).mono ?_; rintro e w' ⟨rfl, rfl⟩)
    go_ret
    exact ⟨ret_bool (by simp [cylB, ht]), by (repeat' (first | (with_reducible exact Below.refl _ _) | (with_reducible refine bl_alloc ?_ _) | (with_reducible refine bl_drewN ?_ _) | (with_reducible refine bl_drew ?_) | (with_reducible assumption) | (with_reducible refine bl_to ?_ (by assumption)) | (with_reducible refine Below.trans ?_ (by assumption)) | (with_reducible refine Below.trans ?_ (Below.mono (by assumption) ?_)) | (with_reducible refine bl_set ?_ ?_ _) | (simp; done) | (simp; omega) | omega))⟩
  by_cases h8 : l.length ≤ 100
  rotate_left
  · have h8b : decide (100 < (l.length : Int)) = true := by simp; omega
    go_enter Tryz.func20, Tryz.ntmps20
    go_wp2_with (go_at_call 22; refine (within_any _ _ _ _).mono ?_; rintro e w' ⟨rfl, rfl⟩)
    go_ret
    exact ⟨ret_bool (by simp [cylB, h8]), by (repeat' (first | (with_reducible exact Below.refl _ _) | (with_reducible refine bl_alloc ?_ _) | (with_reducible refine bl_drewN ?_ _) | (with_reducible refine bl_drew ?_) | (with_reducible assumption) | (with_reducible refine bl_to ?_ (by assumption)) | (with_reducible refine Below.trans ?_ (by assumption)) | (with_reducible refine Below.trans ?_ (Below.mono (by assumption) ?_)) | (with_reducible refine bl_set ?_ ?_ _) | (simp; done) | (simp; omega) | omega))⟩
  have h8b : decide (100 < (l.length : Int)) = false := by simp; omega
  obtain ⟨s1, s2⟩ := inB_iff.1 hs
  obtain ⟨t1, t2⟩ := inB_iff.1 ht
  go_enter Tryz.func20, Tryz.ntmps20
  go_wp2_with (go_at_call 22; refine (within_any _ _ _ _).mono ?_; rintro e w' ⟨rfl, rfl⟩)
  go_loopw [24] (fun i wr => ∃ k : Nat, k ≤ l.length ∧ i = .int .i64 k ∧ okP st tr l k = true ∧ Below w.heap.size w wr ∧ w.heap.size < wr.heap.size ∧ wr.cell? ⟨w.heap.size, 0, none⟩ = some (.int .i64 st) ∧ wr.cell? ⟨w.heap.size, 1, none⟩ = some (.int .i64 tr) ∧ wr.cell? ⟨w.heap.size, 2, none⟩ = some (.slice A1 l.length c1)) (fun i _ => l.length - (intOf i).toNat)
  case atStart => exact ⟨0, Nat.zero_le _, rfl, rfl, by (repeat' (first | (with_reducible exact Below.refl _ _) | (with_reducible refine bl_alloc ?_ _) | (with_reducible refine bl_drewN ?_ _) | (with_reducible refine bl_drew ?_) | (with_reducible assumption) | (with_reducible refine bl_to ?_ (by assumption)) | (with_reducible refine Below.trans ?_ (by assumption)) | (with_reducible refine Below.trans ?_ (Below.mono (by assumption) ?_)) | (with_reducible refine bl_set ?_ ?_ _) | (simp; done) | (simp; omega) | omega)), by simp, by simp [go_sem], by simp [go_sem], by simp [go_sem]⟩
  case round =>
    obtain ⟨k, hk, rfl, ha, bel, y0, x0, x1, x2⟩ := hrel
    have HA := Lib.hid ha
    clear ha
    by_cases hlt : k < l.length
    · obtain ⟨b, o, rfl, hb, e0, e1⟩ := RdP.at_ (h1.bl bel) hlt
      have hlt' : (k : Int) < (l.length : Int) := by omega
      cases hp : inB (gP l k).1 0 (tr - 1)
      · have hj := Lib.hid (okP_no hlt (show spB st tr l k = false by simp [spB, pinB, hp]))
        clear h1
        go_wp2_with (go_at_call 22; refine (within_any _ _ _ _).mono ?_; rintro e w' ⟨rfl, rfl⟩)
        go_ret
        exact ⟨ret_bool (by simp [cylB, hj.out]), by (repeat' (first | (with_reducible exact Below.refl _ _) | (with_reducible refine bl_alloc ?_ _) | (with_reducible refine bl_drewN ?_ _) | (with_reducible refine bl_drew ?_) | (with_reducible assumption) | (with_reducible refine bl_to ?_ (by assumption)) | (with_reducible refine Below.trans ?_ (by assumption)) | (with_reducible refine Below.trans ?_ (Below.mono (by assumption) ?_)) | (with_reducible refine bl_set ?_ ?_ _) | (simp; done) | (simp; omega) | omega))⟩
      cases hq : inB (gP l k).2 0 (st - 1)
      · have hj := Lib.hid (okP_no hlt (show spB st tr l k = false by simp [spB, pinB, hq]))
        clear h1
        go_wp2_with (go_at_call 22; refine (within_any _ _ _ _).mono ?_; rintro e w' ⟨rfl, rfl⟩)
        go_ret
        exact ⟨ret_bool (by simp [cylB, hj.out]), by (repeat' (first | (with_reducible exact Below.refl _ _) | (with_reducible refine bl_alloc ?_ _) | (with_reducible refine bl_drewN ?_ _) | (with_reducible refine bl_drew ?_) | (with_reducible assumption) | (with_reducible refine bl_to ?_ (by assumption)) | (with_reducible refine Below.trans ?_ (by assumption)) | (with_reducible refine Below.trans ?_ (Below.mono (by assumption) ?_)) | (with_reducible refine bl_set ?_ ?_ _) | (simp; done) | (simp; omega) | omega))⟩
      by_cases hz : k = 0
      · have hj := Lib.hid (show okP st tr l (k + 1) = true by rw [okP, HA.out]; rw [spB, pinB, hp, hq]; simp [hz])
        have hzd : decide (0 < k) = false := by simp [hz]
        clear h1 hz
        go_wp2_with (go_at_call 22; refine (within_any _ _ _ _).mono ?_; rintro e w' ⟨rfl, rfl⟩)
        go_quiet (fail)
        go_wp2
        go_roundw
        case rel => exact ⟨k + 1, by omega, by go_num, hj.out, by (repeat' (first | (with_reducible exact Below.refl _ _) | (with_reducible refine bl_alloc ?_ _) | (with_reducible refine bl_drewN ?_ _) | (with_reducible refine bl_drew ?_) | (with_reducible assumption) | (with_reducible refine bl_to ?_ (by assumption)) | (with_reducible refine Below.trans ?_ (by assumption)) | (with_reducible refine Below.trans ?_ (Below.mono (by assumption) ?_)) | (with_reducible refine bl_set ?_ ?_ _) | (simp; done) | (simp; omega) | omega)), by simp; omega, by simp [go_sem, y0, x0], by simp [go_sem, y0, x1], by simp [go_sem, y0, x2]⟩
        case measure => simp [intOf]; omega
      · have hzd : decide (0 < k) = true := by simp; omega
        have hze : 0 < k := by omega
        have kt : ((k : Int) - 1).toNat = k - 1 := by omega
        have k0 : (0 : Int) ≤ (k : Int) - 1 := by omega
        have k1 : (k : Int) - 1 < (l.length : Int) := by omega
        obtain ⟨b', o', hbo, _, d0, d1⟩ := RdP.at_ (h1.bl bel) (k := k - 1) (by omega)
        obtain ⟨rfl, rfl⟩ : b = b' ∧ o = o' := by simpa using hbo
        clear hbo h1 hz
        cases hc2 : ltP (gP l (k - 1)) (gP l k)
        · have hj := Lib.hid (okP_no hlt (show spB st tr l k = false by simp [spB, hc2]; omega))
          have hc3 : 0 ≤ cmpP ((gP l (k - 1)).1, (gP l (k - 1)).2) ((gP l k).1, (gP l k).2) := cmpP_no hc2
          go_wp2_with (go_at_call 22; refine (within_any _ _ _ _).mono ?_; rintro e w' ⟨rfl, rfl⟩)
          (refine region_tail 10 (by kernel_rfl) (by kernel_rfl) ?_; simp only [List.take_succ_cons, List.take_zero, List.drop_succ_cons, List.drop_zero]; (repeat (first | go_big_quiet_skip | (go_big_quiet_want; go_big_quiet_op; (first | go_big_quiet_on | (apply Exists.intro; refine ⟨?_, ?_⟩; (focus (first | fail | fail)); go_big_quiet_on))))); try refine wpQuiet_nil ?_)
          change wpList _ _ _ _ _ (wr.alloc (Obj.cells #[.int .i64 (gP l k).1, .int .i64 (gP l k).2] 44)).drew
          have bel' : Below w.heap.size w (wr.alloc (Obj.cells #[.int .i64 (gP l k).1, .int .i64 (gP l k).2] 44)).drew := by (repeat' (first | (with_reducible exact Below.refl _ _) | (with_reducible refine bl_alloc ?_ _) | (with_reducible refine bl_drewN ?_ _) | (with_reducible refine bl_drew ?_) | (with_reducible assumption) | (with_reducible refine bl_to ?_ (by assumption)) | (with_reducible refine Below.trans ?_ (by assumption)) | (with_reducible refine Below.trans ?_ (Below.mono (by assumption) ?_)) | (with_reducible refine bl_set ?_ ?_ _) | (simp; done) | (simp; omega) | omega))
          have y0' : w.heap.size < (wr.alloc (Obj.cells #[.int .i64 (gP l k).1, .int .i64 (gP l k).2] 44)).drew.heap.size := by simp; omega
          replace x0 : (wr.alloc (Obj.cells #[.int .i64 (gP l k).1, .int .i64 (gP l k).2] 44)).drew.cell? ⟨w.heap.size, 0, none⟩ = _ := (by simp [go_sem, y0] : _ = wr.cell? ⟨w.heap.size, 0, none⟩).trans x0
          replace x1 : (wr.alloc (Obj.cells #[.int .i64 (gP l k).1, .int .i64 (gP l k).2] 44)).drew.cell? ⟨w.heap.size, 1, none⟩ = _ := (by simp [go_sem, y0] : _ = wr.cell? ⟨w.heap.size, 1, none⟩).trans x1
          replace x2 : (wr.alloc (Obj.cells #[.int .i64 (gP l k).1, .int .i64 (gP l k).2] 44)).drew.cell? ⟨w.heap.size, 2, none⟩ = _ := (by simp [go_sem, y0] : _ = wr.cell? ⟨w.heap.size, 2, none⟩).trans x2
          clear bel e0 e1 d0 d1 y0
          generalize (wr.alloc (Obj.cells #[.int .i64 (gP l k).1, .int .i64 (gP l k).2] 44)).drew = w2 at *
          go_wp2_with (go_at_call 35; refine (compareP_any _ _ _ _ _).mono ?_; rintro e w3 ⟨rfl, b3⟩)
          go_ret
          exact ⟨ret_bool (by simp [cylB, hj.out]), bl_to bel' b3⟩
        · have hj := Lib.hid (show okP st tr l (k + 1) = true by rw [okP, HA.out]; simp [spB, pinB, hp, hq, hc2])
          have hc3 : cmpP ((gP l (k - 1)).1, (gP l (k - 1)).2) ((gP l k).1, (gP l k).2) < 0 := by rw [show cmpP _ _ = -1 from cmpP_yes hc2]; omega
          go_wp2_with (go_at_call 22; refine (within_any _ _ _ _).mono ?_; rintro e w' ⟨rfl, rfl⟩)
          (refine region_tail 10 (by kernel_rfl) (by kernel_rfl) ?_; simp only [List.take_succ_cons, List.take_zero, List.drop_succ_cons, List.drop_zero]; (repeat (first | go_big_quiet_skip | (go_big_quiet_want; go_big_quiet_op; (first | go_big_quiet_on | (apply Exists.intro; refine ⟨?_, ?_⟩; (focus (first | fail | fail)); go_big_quiet_on))))); try refine wpQuiet_nil ?_)
          change wpList _ _ _ _ _ (wr.alloc (Obj.cells #[.int .i64 (gP l k).1, .int .i64 (gP l k).2] 44)).drew
          have bel' : Below w.heap.size w (wr.alloc (Obj.cells #[.int .i64 (gP l k).1, .int .i64 (gP l k).2] 44)).drew := by (repeat' (first | (with_reducible exact Below.refl _ _) | (with_reducible refine bl_alloc ?_ _) | (with_reducible refine bl_drewN ?_ _) | (with_reducible refine bl_drew ?_) | (with_reducible assumption) | (with_reducible refine bl_to ?_ (by assumption)) | (with_reducible refine Below.trans ?_ (by assumption)) | (with_reducible refine Below.trans ?_ (Below.mono (by assumption) ?_)) | (with_reducible refine bl_set ?_ ?_ _) | (simp; done) | (simp; omega) | omega))
          have y0' : w.heap.size < (wr.alloc (Obj.cells #[.int .i64 (gP l k).1, .int .i64 (gP l k).2] 44)).drew.heap.size := by simp; omega
          replace x0 : (wr.alloc (Obj.cells #[.int .i64 (gP l k).1, .int .i64 (gP l k).2] 44)).drew.cell? ⟨w.heap.size, 0, none⟩ = _ := (by simp [go_sem, y0] : _ = wr.cell? ⟨w.heap.size, 0, none⟩).trans x0
          replace x1 : (wr.alloc (Obj.cells #[.int .i64 (gP l k).1, .int .i64 (gP l k).2] 44)).drew.cell? ⟨w.heap.size, 1, none⟩ = _ := (by simp [go_sem, y0] : _ = wr.cell? ⟨w.heap.size, 1, none⟩).trans x1
          replace x2 : (wr.alloc (Obj.cells #[.int .i64 (gP l k).1, .int .i64 (gP l k).2] 44)).drew.cell? ⟨w.heap.size, 2, none⟩ = _ := (by simp [go_sem, y0] : _ = wr.cell? ⟨w.heap.size, 2, none⟩).trans x2
          clear bel e0 e1 d0 d1 y0
          generalize (wr.alloc (Obj.cells #[.int .i64 (gP l k).1, .int .i64 (gP l k).2] 44)).drew = w2 at *
          go_wp2_with (go_at_call 35; refine (compareP_any _ _ _ _ _).mono ?_; rintro e w3 ⟨rfl, b3⟩)
          go_roundw
          case rel => exact ⟨k + 1, by omega, by go_num, hj.out, bl_to bel' b3, Nat.lt_of_lt_of_le y0' b3.size, (b3.cell (p := ⟨w.heap.size, 0, none⟩) y0').trans x0, (b3.cell (p := ⟨w.heap.size, 1, none⟩) y0').trans x1, (b3.cell (p := ⟨w.heap.size, 2, none⟩) y0').trans x2⟩
          case measure => simp [intOf]; omega
    · obtain rfl : k = l.length := by omega
      go_wp2
      go_ret
      exact ⟨ret_bool (by simp [cylB, HA.out, h8, hs, ht]), bel⟩

end Go.Proofs.YthgllpocljeegaaGreatDoor
