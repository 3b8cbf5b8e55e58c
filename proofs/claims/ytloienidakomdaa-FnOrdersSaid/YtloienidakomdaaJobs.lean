/- JobsOk of the program and of the reference return the same; lengths up to 2^20. -/
import Derived.Test.YtloienidakomdaaRowJob
namespace Go.Proofs.Ytloienidakomdaa
open Go.RowKit

def jobB (a : Int × Int × Int) : Bool := inB a.1 1 30 && inB a.2.1 0 200 && inB a.2.2 0 1000
def jobsB (l : List (Int × Int × Int)) : Bool := decide (l.length ≤ 8) && l.all jobB

set_option maxHeartbeats 1600000 in
theorem jobsI_any (v : Value) (l : List (Int × Int × Int)) (w : World) (h1 : RdJ w v l) (hl : l.length ≤ 1048576) :
    Calls Try.prog 30 #[v] w fun e w' => e = .returned (.bool (jobsB l)) ∧ Below w.heap.size w w' := by
  obtain ⟨A1, c1, rfl, _, _⟩ := h1.form
  by_cases h8 : l.length ≤ 8
  · have h8b : decide (8 < (l.length : Int)) = false := by simp; omega
    go_enter Try.func30, Try.ntmps30
    go_wp2
    go_loopw [10] (fun i wr => ∃ k : Nat, k ≤ l.length ∧ i = .int .i64 k ∧ (l.take k).all jobB = true ∧ Below w.heap.size w wr) (fun i _ => l.length - (intOf i).toNat)
    case atStart => exact ⟨0, Nat.zero_le _, rfl, by simp, Below.refl _ _⟩
    case round =>
      obtain ⟨k, hk, rfl, ha, bel⟩ := hrel
      have HA := Lib.hid ha
      clear ha
      by_cases hlt : k < l.length
      · obtain ⟨b, o, rfl, hb, e0, e1, e2⟩ := RdJ.at_ (h1.bl bel) hlt
        have hlt' : (k : Int) < (l.length : Int) := by omega
        clear h1
        cases hp : inB (gJ l k).1 1 30
        rotate_left
        cases hq : inB (gJ l k).2.1 0 200
        rotate_left
        cases hr : inB (gJ l k).2.2 0 1000
        rotate_left
        · have hj := Lib.hid (show jobB (gJ l k) = true by simp [jobB, hp, hq, hr])
          go_wp2_with (go_at_call 47; refine (within_any _ _ _ _).mono ?_; rintro e w' ⟨rfl, rfl⟩)
          go_roundw
          case rel => exact ⟨k + 1, by omega, by go_num, by rw [all_take_J hlt, HA.out, hj.out]; rfl, by (repeat' (first | (with_reducible exact Below.refl _ _) | (with_reducible refine bl_alloc ?_ _) | (with_reducible refine bl_drewN ?_ _) | (with_reducible refine bl_drew ?_) | (with_reducible assumption) | (with_reducible refine bl_to ?_ (by assumption)) | (with_reducible refine Below.trans ?_ (by assumption)) | (with_reducible refine Below.trans ?_ (Below.mono (by assumption) ?_)) | (with_reducible refine bl_set ?_ ?_ _) | (simp; done) | (simp; omega) | omega))⟩
          case measure => simp [intOf]; omega
        all_goals
          have hj := Lib.hid (all_no_J (P := jobB) hlt (show jobB (gJ l k) = false by simp [jobB, *]))
          go_wp2_with (go_at_call 47; refine (within_any _ _ _ _).mono ?_; rintro e w' ⟨rfl, rfl⟩)
          go_ret
          exact ⟨ret_bool (by simp [jobsB, hj.out]), by (repeat' (first | (with_reducible exact Below.refl _ _) | (with_reducible refine bl_alloc ?_ _) | (with_reducible refine bl_drewN ?_ _) | (with_reducible refine bl_drew ?_) | (with_reducible assumption) | (with_reducible refine bl_to ?_ (by assumption)) | (with_reducible refine Below.trans ?_ (by assumption)) | (with_reducible refine Below.trans ?_ (Below.mono (by assumption) ?_)) | (with_reducible refine bl_set ?_ ?_ _) | (simp; done) | (simp; omega) | omega))⟩
      · go_wp2
        go_ret
        exact ⟨ret_bool (by have := HA.out; rw [List.take_of_length_le (by omega)] at this; simp [jobsB, h8, this]), by (repeat' (first | (with_reducible exact Below.refl _ _) | (with_reducible refine bl_alloc ?_ _) | (with_reducible refine bl_drewN ?_ _) | (with_reducible refine bl_drew ?_) | (with_reducible assumption) | (with_reducible refine bl_to ?_ (by assumption)) | (with_reducible refine Below.trans ?_ (by assumption)) | (with_reducible refine Below.trans ?_ (Below.mono (by assumption) ?_)) | (with_reducible refine bl_set ?_ ?_ _) | (simp; done) | (simp; omega) | omega))⟩
  · have h8b : decide (8 < (l.length : Int)) = true := by simp; omega
    go_enter Try.func30, Try.ntmps30
    go_wp2
    go_ret
    exact ⟨ret_bool (by simp [jobsB, h8]), by (repeat' (first | (with_reducible exact Below.refl _ _) | (with_reducible refine bl_alloc ?_ _) | (with_reducible refine bl_drewN ?_ _) | (with_reducible refine bl_drew ?_) | (with_reducible assumption) | (with_reducible refine bl_to ?_ (by assumption)) | (with_reducible refine Below.trans ?_ (by assumption)) | (with_reducible refine Below.trans ?_ (Below.mono (by assumption) ?_)) | (with_reducible refine bl_set ?_ ?_ _) | (simp; done) | (simp; omega) | omega))⟩

set_option maxHeartbeats 1600000 in
theorem jobsS_any (v : Value) (l : List (Int × Int × Int)) (w : World) (h1 : RdJ w v l) (hl : l.length ≤ 1048576) :
    Calls Try.prog 31 #[v] w fun e w' => e = .returned (.bool (jobsB l)) ∧ Below w.heap.size w w' := by
  obtain ⟨A1, c1, rfl, _, _⟩ := h1.form
  go_enter Try.func31, Try.ntmps31
  go_wp2
  go_loopw [3] (fun i wr => ∃ k : Nat, k ≤ l.length ∧ i = .int .i64 k ∧ (l.take k).all jobB = true ∧ Below w.heap.size w wr) (fun i _ => l.length - (intOf i).toNat)
  case atStart => exact ⟨0, Nat.zero_le _, rfl, by simp, Below.refl _ _⟩
  case round =>
    obtain ⟨k, hk, rfl, ha, bel⟩ := hrel
    have HA := Lib.hid ha
    clear ha
    by_cases hlt : k < l.length
    · obtain ⟨b, o, rfl, hb, e0, e1, e2⟩ := RdJ.at_ (h1.bl bel) hlt
      have hlt' : (k : Int) < (l.length : Int) := by omega
      clear h1
      cases hp : inB (gJ l k).1 1 30
      rotate_left
      cases hq : inB (gJ l k).2.1 0 200
      rotate_left
      cases hr : inB (gJ l k).2.2 0 1000
      rotate_left
      · have hj := Lib.hid (show jobB (gJ l k) = true by simp [jobB, hp, hq, hr])
        go_wp2_with (go_at_call 38; refine (l01In_any _ _ _ _).mono ?_; rintro e w' ⟨rfl, rfl⟩)
        go_roundw
        case rel => exact ⟨k + 1, by omega, by go_num, by rw [all_take_J hlt, HA.out, hj.out]; rfl, by (repeat' (first | (with_reducible exact Below.refl _ _) | (with_reducible refine bl_alloc ?_ _) | (with_reducible refine bl_drewN ?_ _) | (with_reducible refine bl_drew ?_) | (with_reducible assumption) | (with_reducible refine bl_to ?_ (by assumption)) | (with_reducible refine Below.trans ?_ (by assumption)) | (with_reducible refine Below.trans ?_ (Below.mono (by assumption) ?_)) | (with_reducible refine bl_set ?_ ?_ _) | (simp; done) | (simp; omega) | omega))⟩
        case measure => simp [intOf]; omega
      all_goals
        have hj := Lib.hid (all_no_J (P := jobB) hlt (show jobB (gJ l k) = false by simp [jobB, *]))
        go_wp2_with (go_at_call 38; refine (l01In_any _ _ _ _).mono ?_; rintro e w' ⟨rfl, rfl⟩)
        go_ret
        exact ⟨ret_bool (by simp [jobsB, hj.out]), by (repeat' (first | (with_reducible exact Below.refl _ _) | (with_reducible refine bl_alloc ?_ _) | (with_reducible refine bl_drewN ?_ _) | (with_reducible refine bl_drew ?_) | (with_reducible assumption) | (with_reducible refine bl_to ?_ (by assumption)) | (with_reducible refine Below.trans ?_ (by assumption)) | (with_reducible refine Below.trans ?_ (Below.mono (by assumption) ?_)) | (with_reducible refine bl_set ?_ ?_ _) | (simp; done) | (simp; omega) | omega))⟩
    · go_wp2
      go_ret
      exact ⟨ret_bool (by have := HA.out; rw [List.take_of_length_le (by omega)] at this; simp [jobsB, this]; try omega), by (repeat' (first | (with_reducible exact Below.refl _ _) | (with_reducible refine bl_alloc ?_ _) | (with_reducible refine bl_drewN ?_ _) | (with_reducible refine bl_drew ?_) | (with_reducible assumption) | (with_reducible refine bl_to ?_ (by assumption)) | (with_reducible refine Below.trans ?_ (by assumption)) | (with_reducible refine Below.trans ?_ (Below.mono (by assumption) ?_)) | (with_reducible refine bl_set ?_ ?_ _) | (simp; done) | (simp; omega) | omega))⟩
end Go.Proofs.Ytloienidakomdaa
