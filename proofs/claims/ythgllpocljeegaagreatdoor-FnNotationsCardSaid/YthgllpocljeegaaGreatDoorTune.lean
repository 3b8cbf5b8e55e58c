/- TuneOk and NotesAt of the program and of the reference; lengths up to 2^20. -/
import Derived.Test.YthgllpocljeegaaGreatDoorBell0
import Derived.Test.YthgllpocljeegaaGreatDoorAppNote
import Derived.BigQuiet
import Derived.Deep.QuietTactic
import Derived.Test.YthgllpocljeegaaGreatDoorTail
namespace Go.Proofs.YthgllpocljeegaaGreatDoor
open Go.RowKit

def cmpN (a b : Int × Int) : Int := if ltN a b then -1 else if a = b then 0 else 1
theorem cmpN_yes {a b : Int × Int} (h : ltN a b = true) : cmpN a b = -1 := by rw [cmpN, if_pos h]
theorem cmpN_no {a b : Int × Int} (h : ltN a b = false) : 0 ≤ cmpN a b := by
  rw [cmpN, if_neg (by simp [h])]
  split <;> omega

set_option maxHeartbeats 800000 in
theorem compare_any (a0 a1 b0 b1 : Int) (w : World) : Calls Tryz.prog 29 #[.agg #[.int .i64 a0, .int .i64 a1], .agg #[.int .i64 b0, .int .i64 b1]] w fun e w' => e = .returned (.int .i64 (cmpN (a0, a1) (b0, b1))) ∧ Below w.heap.size w w' := by
  by_cases h1 : a0 < b0
  · go_enter Tryz.func29, Tryz.ntmps29
    go_wp2
    go_ret
    exact ⟨ret_int (by simp [cmpN, ltN, h1]), by (repeat' (first | (with_reducible exact Below.refl _ _) | (with_reducible refine bl_alloc ?_ _) | (with_reducible refine bl_drewN ?_ _) | (with_reducible refine bl_drew ?_) | (with_reducible assumption) | (with_reducible refine bl_to ?_ (by assumption)) | (with_reducible refine Below.trans ?_ (by assumption)) | (with_reducible refine Below.trans ?_ (Below.mono (by assumption) ?_)) | (with_reducible refine bl_set ?_ ?_ _) | (simp; done) | (simp; omega) | omega))⟩
  by_cases h2 : a0 = b0
  · subst h2
    by_cases h3 : a1 < b1
    · go_enter Tryz.func29, Tryz.ntmps29
      go_wp2
      go_ret
      exact ⟨ret_int (by simp [cmpN, ltN, h3]), by (repeat' (first | (with_reducible exact Below.refl _ _) | (with_reducible refine bl_alloc ?_ _) | (with_reducible refine bl_drewN ?_ _) | (with_reducible refine bl_drew ?_) | (with_reducible assumption) | (with_reducible refine bl_to ?_ (by assumption)) | (with_reducible refine Below.trans ?_ (by assumption)) | (with_reducible refine Below.trans ?_ (Below.mono (by assumption) ?_)) | (with_reducible refine bl_set ?_ ?_ _) | (simp; done) | (simp; omega) | omega))⟩
    by_cases h4 : a1 = b1
    · subst h4
      go_enter Tryz.func29, Tryz.ntmps29
      go_wp2
      go_ret
      exact ⟨ret_int (by simp [cmpN, ltN]), by (repeat' (first | (with_reducible exact Below.refl _ _) | (with_reducible refine bl_alloc ?_ _) | (with_reducible refine bl_drewN ?_ _) | (with_reducible refine bl_drew ?_) | (with_reducible assumption) | (with_reducible refine bl_to ?_ (by assumption)) | (with_reducible refine Below.trans ?_ (by assumption)) | (with_reducible refine Below.trans ?_ (Below.mono (by assumption) ?_)) | (with_reducible refine bl_set ?_ ?_ _) | (simp; done) | (simp; omega) | omega))⟩
    · go_enter Tryz.func29, Tryz.ntmps29
      go_wp2
      go_ret
      exact ⟨ret_int (by simp [cmpN, ltN, h3, h4]), by (repeat' (first | (with_reducible exact Below.refl _ _) | (with_reducible refine bl_alloc ?_ _) | (with_reducible refine bl_drewN ?_ _) | (with_reducible refine bl_drew ?_) | (with_reducible assumption) | (with_reducible refine bl_to ?_ (by assumption)) | (with_reducible refine Below.trans ?_ (by assumption)) | (with_reducible refine Below.trans ?_ (Below.mono (by assumption) ?_)) | (with_reducible refine bl_set ?_ ?_ _) | (simp; done) | (simp; omega) | omega))⟩
  · go_enter Tryz.func29, Tryz.ntmps29
    go_wp2
    go_ret
    exact ⟨ret_int (by simp [cmpN, ltN, h1, h2]), by (repeat' (first | (with_reducible exact Below.refl _ _) | (with_reducible refine bl_alloc ?_ _) | (with_reducible refine bl_drewN ?_ _) | (with_reducible refine bl_drew ?_) | (with_reducible assumption) | (with_reducible refine bl_to ?_ (by assumption)) | (with_reducible refine Below.trans ?_ (by assumption)) | (with_reducible refine Below.trans ?_ (Below.mono (by assumption) ?_)) | (with_reducible refine bl_set ?_ ?_ _) | (simp; done) | (simp; omega) | omega))⟩
set_option maxHeartbeats 800000 in
theorem less_any (a0 a1 b0 b1 : Int) (w : World) : Calls Tryz.prog 45 #[.agg #[.int .i64 a0, .int .i64 a1], .agg #[.int .i64 b0, .int .i64 b1]] w fun e w' => e = .returned (.bool (ltN (a0, a1) (b0, b1))) ∧ Below w.heap.size w w' := by
  by_cases h1 : a0 < b0
  · go_enter Tryz.func45, Tryz.ntmps45
    go_wp2
    go_ret
    exact ⟨ret_bool (by simp [ltN, h1]), by (repeat' (first | (with_reducible exact Below.refl _ _) | (with_reducible refine bl_alloc ?_ _) | (with_reducible refine bl_drewN ?_ _) | (with_reducible refine bl_drew ?_) | (with_reducible assumption) | (with_reducible refine bl_to ?_ (by assumption)) | (with_reducible refine Below.trans ?_ (by assumption)) | (with_reducible refine Below.trans ?_ (Below.mono (by assumption) ?_)) | (with_reducible refine bl_set ?_ ?_ _) | (simp; done) | (simp; omega) | omega))⟩
  by_cases h2 : a0 = b0
  · subst h2
    by_cases h3 : a1 < b1
    · go_enter Tryz.func45, Tryz.ntmps45
      go_wp2
      go_ret
      exact ⟨ret_bool (by simp [ltN, h3]), by (repeat' (first | (with_reducible exact Below.refl _ _) | (with_reducible refine bl_alloc ?_ _) | (with_reducible refine bl_drewN ?_ _) | (with_reducible refine bl_drew ?_) | (with_reducible assumption) | (with_reducible refine bl_to ?_ (by assumption)) | (with_reducible refine Below.trans ?_ (by assumption)) | (with_reducible refine Below.trans ?_ (Below.mono (by assumption) ?_)) | (with_reducible refine bl_set ?_ ?_ _) | (simp; done) | (simp; omega) | omega))⟩
    · go_enter Tryz.func45, Tryz.ntmps45
      go_wp2
      go_ret
      exact ⟨ret_bool (by simp [ltN, h3]), by (repeat' (first | (with_reducible exact Below.refl _ _) | (with_reducible refine bl_alloc ?_ _) | (with_reducible refine bl_drewN ?_ _) | (with_reducible refine bl_drew ?_) | (with_reducible assumption) | (with_reducible refine bl_to ?_ (by assumption)) | (with_reducible refine Below.trans ?_ (by assumption)) | (with_reducible refine Below.trans ?_ (Below.mono (by assumption) ?_)) | (with_reducible refine bl_set ?_ ?_ _) | (simp; done) | (simp; omega) | omega))⟩
  · go_enter Tryz.func45, Tryz.ntmps45
    go_wp2
    go_ret
    exact ⟨ret_bool (by simp [ltN, h1, h2]), by (repeat' (first | (with_reducible exact Below.refl _ _) | (with_reducible refine bl_alloc ?_ _) | (with_reducible refine bl_drewN ?_ _) | (with_reducible refine bl_drew ?_) | (with_reducible assumption) | (with_reducible refine bl_to ?_ (by assumption)) | (with_reducible refine Below.trans ?_ (by assumption)) | (with_reducible refine Below.trans ?_ (Below.mono (by assumption) ?_)) | (with_reducible refine bl_set ?_ ?_ _) | (simp; done) | (simp; omega) | omega))⟩

set_option maxHeartbeats 1600000 in
set_option maxRecDepth 100000 in
theorem tuneI_ok (v : Value) (l : List (Int × Int)) (w : World) (h1 : RdN w v l) (hl : l.length ≤ 1048576) :
    Calls Tryz.prog 16 #[v] w fun e w' => e = .returned (.bool (tuneB l)) ∧ Below w.heap.size w w' := by
  obtain ⟨A1, c1, rfl, _, hm⟩ := h1.form
  unfold maxLen at hm
  by_cases h8 : l.length ≤ 40
  rotate_left
  · have h8b : decide (40 < (l.length : Int)) = true := by simp; omega
    go_enter Tryz.func16, Tryz.ntmps16
    go_wp2
    go_ret
    exact ⟨ret_bool (by simp [tuneB, h8]), by (repeat' (first | (with_reducible exact Below.refl _ _) | (with_reducible refine bl_alloc ?_ _) | (with_reducible refine bl_drewN ?_ _) | (with_reducible refine bl_drew ?_) | (with_reducible assumption) | (with_reducible refine bl_to ?_ (by assumption)) | (with_reducible refine Below.trans ?_ (by assumption)) | (with_reducible refine Below.trans ?_ (Below.mono (by assumption) ?_)) | (with_reducible refine bl_set ?_ ?_ _) | (simp; done) | (simp; omega) | omega))⟩
  have h8b : decide (40 < (l.length : Int)) = false := by simp; omega
  go_enter Tryz.func16, Tryz.ntmps16
  go_wp2
  go_loopw [10] (fun i wr => ∃ k : Nat, k ≤ l.length ∧ i = .int .i64 k ∧ okN l k = true ∧ Below w.heap.size w wr) (fun i _ => l.length - (intOf i).toNat)
  case atStart => exact ⟨0, Nat.zero_le _, rfl, rfl, Below.refl _ _⟩
  case round =>
    obtain ⟨k, hk, rfl, ha, bel⟩ := hrel
    have HA := Lib.hid ha
    clear ha
    by_cases hlt : k < l.length
    · obtain ⟨b, o, rfl, hb, e0, e1⟩ := RdN.at_ (h1.bl bel) hlt
      have hlt' : (k : Int) < (l.length : Int) := by omega
      cases hp : inB (gN l k).1 0 1000
      · have hj := Lib.hid (okN_no hlt (show stpB l k = false by simp [stpB, noteB, hp]))
        clear h1
        go_wp2
        go_quiet ((first | (go_at_call 22; exact Calls.quiet_of_same ((within_any _ _ _ _).mono (fun _ _ h => ⟨h.1, h.2.symm⟩)))))
        go_wp2
        go_ret
        exact ⟨ret_bool (by simp [tuneB, hj.out]), by (repeat' (first | (with_reducible exact Below.refl _ _) | (with_reducible refine bl_alloc ?_ _) | (with_reducible refine bl_drewN ?_ _) | (with_reducible refine bl_drew ?_) | (with_reducible assumption) | (with_reducible refine bl_to ?_ (by assumption)) | (with_reducible refine Below.trans ?_ (by assumption)) | (with_reducible refine Below.trans ?_ (Below.mono (by assumption) ?_)) | (with_reducible refine bl_set ?_ ?_ _) | (simp; done) | (simp; omega) | omega))⟩
      cases hq : inB (gN l k).2 0 60
      · have hj := Lib.hid (okN_no hlt (show stpB l k = false by simp [stpB, noteB, hq]))
        clear h1
        go_wp2
        go_quiet ((first | (go_at_call 22; exact Calls.quiet_of_same ((within_any _ _ _ _).mono (fun _ _ h => ⟨h.1, h.2.symm⟩)))))
        go_wp2
        go_ret
        exact ⟨ret_bool (by simp [tuneB, hj.out]), by (repeat' (first | (with_reducible exact Below.refl _ _) | (with_reducible refine bl_alloc ?_ _) | (with_reducible refine bl_drewN ?_ _) | (with_reducible refine bl_drew ?_) | (with_reducible assumption) | (with_reducible refine bl_to ?_ (by assumption)) | (with_reducible refine Below.trans ?_ (by assumption)) | (with_reducible refine Below.trans ?_ (Below.mono (by assumption) ?_)) | (with_reducible refine bl_set ?_ ?_ _) | (simp; done) | (simp; omega) | omega))⟩
      by_cases hz : k = 0
      · have hj := Lib.hid (show okN l (k + 1) = true by rw [okN, HA.out]; rw [stpB, noteB, hp, hq]; simp [hz])
        have hzd : decide (0 < k) = false := by simp [hz]
        clear h1 hz
        go_wp2
        go_quiet ((first | (go_at_call 22; exact Calls.quiet_of_same ((within_any _ _ _ _).mono (fun _ _ h => ⟨h.1, h.2.symm⟩)))))
        go_wp2
        go_roundw
        case rel => exact ⟨k + 1, by omega, by go_num, hj.out, by (repeat' (first | (with_reducible exact Below.refl _ _) | (with_reducible refine bl_alloc ?_ _) | (with_reducible refine bl_drewN ?_ _) | (with_reducible refine bl_drew ?_) | (with_reducible assumption) | (with_reducible refine bl_to ?_ (by assumption)) | (with_reducible refine Below.trans ?_ (by assumption)) | (with_reducible refine Below.trans ?_ (Below.mono (by assumption) ?_)) | (with_reducible refine bl_set ?_ ?_ _) | (simp; done) | (simp; omega) | omega))⟩
        case measure => simp [intOf]; omega
      · have hzd : decide (0 < k) = true := by simp; omega
        have hze : 0 < k := by omega
        have kt : ((k : Int) - 1).toNat = k - 1 := by omega
        have k0 : (0 : Int) ≤ (k : Int) - 1 := by omega
        have k1 : (k : Int) - 1 < (l.length : Int) := by omega
        obtain ⟨b', o', hbo, _, d0, d1⟩ := RdN.at_ (h1.bl bel) (k := k - 1) (by omega)
        obtain ⟨rfl, rfl⟩ : b = b' ∧ o = o' := by simpa using hbo
        clear hbo h1 hz
        cases hc : ltN (gN l (k - 1)) (gN l k)
        · have hj := Lib.hid (okN_no hlt (show stpB l k = false by simp [stpB, hc]; omega))
          have hc2 : 0 ≤ cmpN ((gN l (k - 1)).1, (gN l (k - 1)).2) ((gN l k).1, (gN l k).2) := cmpN_no hc
          go_wp2
          (refine region_tail 20 (by kernel_rfl) (by kernel_rfl) ?_; simp only [List.take_succ_cons, List.take_zero, List.drop_succ_cons, List.drop_zero]; (repeat (first | go_big_quiet_skip | (go_big_quiet_want; go_big_quiet_op; (first | go_big_quiet_on | (apply Exists.intro; refine ⟨?_, ?_⟩; (focus (first | (go_at_call 22; exact (within_any _ _ _ _).mono (fun _ _ h => ⟨h.1, h.2.symm⟩)) | fail)); go_big_quiet_on))))); try refine wpQuiet_nil ?_)
          change wpList _ _ _ _ _ (wr.alloc (Obj.cells #[.int .i64 (gN l k).1, .int .i64 (gN l k).2] 38)).drew
          have bel' : Below w.heap.size w (wr.alloc (Obj.cells #[.int .i64 (gN l k).1, .int .i64 (gN l k).2] 38)).drew := by (repeat' (first | (with_reducible exact Below.refl _ _) | (with_reducible refine bl_alloc ?_ _) | (with_reducible refine bl_drewN ?_ _) | (with_reducible refine bl_drew ?_) | (with_reducible assumption) | (with_reducible refine bl_to ?_ (by assumption)) | (with_reducible refine Below.trans ?_ (by assumption)) | (with_reducible refine Below.trans ?_ (Below.mono (by assumption) ?_)) | (with_reducible refine bl_set ?_ ?_ _) | (simp; done) | (simp; omega) | omega))
          clear bel e0 e1 d0 d1
          generalize (wr.alloc (Obj.cells #[.int .i64 (gN l k).1, .int .i64 (gN l k).2] 38)).drew = w2 at *
          go_wp2_with (go_at_call 29; refine (compare_any _ _ _ _ _).mono ?_; rintro e w3 ⟨rfl, b3⟩)
          go_ret
          exact ⟨ret_bool (by simp [tuneB, hj.out]), bl_to bel' b3⟩
        · have hj := Lib.hid (show okN l (k + 1) = true by rw [okN, HA.out]; simp [stpB, noteB, hp, hq, hc])
          have hc2 : cmpN ((gN l (k - 1)).1, (gN l (k - 1)).2) ((gN l k).1, (gN l k).2) < 0 := by rw [show cmpN _ _ = -1 from cmpN_yes hc]; omega
          go_wp2
          (refine region_tail 20 (by kernel_rfl) (by kernel_rfl) ?_; simp only [List.take_succ_cons, List.take_zero, List.drop_succ_cons, List.drop_zero]; (repeat (first | go_big_quiet_skip | (go_big_quiet_want; go_big_quiet_op; (first | go_big_quiet_on | (apply Exists.intro; refine ⟨?_, ?_⟩; (focus (first | (go_at_call 22; exact (within_any _ _ _ _).mono (fun _ _ h => ⟨h.1, h.2.symm⟩)) | fail)); go_big_quiet_on))))); try refine wpQuiet_nil ?_)
          change wpList _ _ _ _ _ (wr.alloc (Obj.cells #[.int .i64 (gN l k).1, .int .i64 (gN l k).2] 38)).drew
          have bel' : Below w.heap.size w (wr.alloc (Obj.cells #[.int .i64 (gN l k).1, .int .i64 (gN l k).2] 38)).drew := by (repeat' (first | (with_reducible exact Below.refl _ _) | (with_reducible refine bl_alloc ?_ _) | (with_reducible refine bl_drewN ?_ _) | (with_reducible refine bl_drew ?_) | (with_reducible assumption) | (with_reducible refine bl_to ?_ (by assumption)) | (with_reducible refine Below.trans ?_ (by assumption)) | (with_reducible refine Below.trans ?_ (Below.mono (by assumption) ?_)) | (with_reducible refine bl_set ?_ ?_ _) | (simp; done) | (simp; omega) | omega))
          clear bel e0 e1 d0 d1
          generalize (wr.alloc (Obj.cells #[.int .i64 (gN l k).1, .int .i64 (gN l k).2] 38)).drew = w2 at *
          go_wp2_with (go_at_call 29; refine (compare_any _ _ _ _ _).mono ?_; rintro e w3 ⟨rfl, b3⟩)
          go_roundw
          case rel => exact ⟨k + 1, by omega, by go_num, hj.out, bl_to bel' b3⟩
          case measure => simp [intOf]; omega
    · obtain rfl : k = l.length := by omega
      go_wp2
      go_ret
      exact ⟨ret_bool (by simp [tuneB, HA.out, h8]), bel⟩

end Go.Proofs.YthgllpocljeegaaGreatDoor
