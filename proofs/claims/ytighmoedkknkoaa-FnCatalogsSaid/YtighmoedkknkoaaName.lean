/- NameOk of the program and of the reference return the same; lengths up to 2^20. -/
import Derived.Test.YtighmoedkknkoaaData
namespace Go.Proofs.Ytighmoedkknkoaa
open Go.RowKit

/-- a letter or a digit -/
def nmC (c : UInt8) : Bool := decide ((97 ≤ (c.toNat : Int) ∧ (c.toNat : Int) ≤ 122) ∨ (48 ≤ (c.toNat : Int) ∧ (c.toNat : Int) ≤ 57))
def nameB (s : ByteArray) : Bool := inB s.size 1 12 && s.data.toList.all nmC
theorem bytes_take_succ (s : ByteArray) (k : Nat) (h : k < s.size) : s.data.toList.take (k + 1) = s.data.toList.take k ++ [s[k]] := by
  rw [List.take_succ_eq_append_getElem (by simpa using h)]; rfl
theorem bytes_mem (s : ByteArray) (k : Nat) (h : k < s.size) : s[k] ∈ s.data.toList := by
  have : s[k] = s.data.toList[k]'(by simpa using h) := rfl
  rw [this]
  exact List.getElem_mem _
theorem bytes_no {P : UInt8 → Bool} {s : ByteArray} {k : Nat} (h : k < s.size) (hp : P s[k] = false) : s.data.toList.all P = false := by
  cases ha : s.data.toList.all P with
  | false => rfl
  | true => rw [List.all_eq_true] at ha; rw [ha _ (bytes_mem s k h)] at hp; cases hp

set_option maxHeartbeats 1600000 in
theorem nameI_any (s : ByteArray) (w : World) (hs : s.size ≤ 1048576) : Calls Try.prog 34 #[.string s] w fun e w' => e = .returned (.bool (nameB s)) ∧ w = w' := by
  cases hi : inB s.size 1 12
  · go_enter Try.func34, Try.ntmps34
    go_wp2_with (go_at_call 56; refine (within_any _ _ _ _).mono ?_; rintro e w' ⟨rfl, rfl⟩)
    go_ret
    exact ⟨ret_bool (by simp [nameB, hi]), rfl⟩
  go_enter Try.func34, Try.ntmps34
  go_wp2_with (go_at_call 56; refine (within_any _ _ _ _).mono ?_; rintro e w' ⟨rfl, rfl⟩)
  go_loop [3] (fun i => ∃ k : Nat, k ≤ s.size ∧ i = .int .i64 k ∧ (s.data.toList.take k).all nmC = true) (fun i => s.size - (intOf i).toNat)
  case atStart => exact ⟨0, Nat.zero_le _, rfl, by simp⟩
  case round =>
    obtain ⟨k, hk, rfl, ha⟩ := hrel
    have HA := Lib.hid ha
    clear ha
    by_cases hlt : k < s.size
    · have hlt' : (k : Int) < (s.size : Int) := by omega
      have hc : (97 ≤ (s[k].toNat : Int) ∧ (s[k].toNat : Int) ≤ 122) ∨ 122 < (s[k].toNat : Int) ∨ (s[k].toNat : Int) < 48 ∨ (48 ≤ (s[k].toNat : Int) ∧ (s[k].toNat : Int) ≤ 57) ∨ (57 < (s[k].toNat : Int) ∧ (s[k].toNat : Int) < 97) := by omega
      rcases hc with ⟨c1, c2⟩ | c1 | c1 | ⟨c1, c2⟩ | ⟨c1, c2⟩
      · have hp := Lib.hid (show nmC s[k] = true by unfold nmC; rw [decide_eq_true_eq]; omega)
        have d97 : decide ((97 : Int) ≤ (s[k].toNat : Int)) = true := by simp only [decide_eq_true_eq]; omega
        have d122 : decide ((s[k].toNat : Int) ≤ 122) = true := by simp only [decide_eq_true_eq]; omega
        have d48 : decide ((48 : Int) ≤ (s[k].toNat : Int)) = true := by simp only [decide_eq_true_eq]; omega
        have d57 : decide ((s[k].toNat : Int) ≤ 57) = false := by simp only [decide_eq_false_iff_not]; omega
        go_wp2
        go_round
        case rel => exact ⟨k + 1, by omega, by go_num, by rw [bytes_take_succ s k hlt, List.all_append, HA.out]; simp [hp.out]⟩
        case measure => simp [intOf]; omega
      · have hp := Lib.hid (bytes_no (P := nmC) hlt (show nmC s[k] = false by unfold nmC; rw [decide_eq_false_iff_not]; omega))
        have d97 : decide ((97 : Int) ≤ (s[k].toNat : Int)) = true := by simp only [decide_eq_true_eq]; omega
        have d122 : decide ((s[k].toNat : Int) ≤ 122) = false := by simp only [decide_eq_false_iff_not]; omega
        have d48 : decide ((48 : Int) ≤ (s[k].toNat : Int)) = true := by simp only [decide_eq_true_eq]; omega
        have d57 : decide ((s[k].toNat : Int) ≤ 57) = false := by simp only [decide_eq_false_iff_not]; omega
        go_wp2
        go_ret
        exact ⟨ret_bool (by simp [nameB, hp.out]), rfl⟩
      · have hp := Lib.hid (bytes_no (P := nmC) hlt (show nmC s[k] = false by unfold nmC; rw [decide_eq_false_iff_not]; omega))
        have d97 : decide ((97 : Int) ≤ (s[k].toNat : Int)) = false := by simp only [decide_eq_false_iff_not]; omega
        have d122 : decide ((s[k].toNat : Int) ≤ 122) = true := by simp only [decide_eq_true_eq]; omega
        have d48 : decide ((48 : Int) ≤ (s[k].toNat : Int)) = false := by simp only [decide_eq_false_iff_not]; omega
        have d57 : decide ((s[k].toNat : Int) ≤ 57) = true := by simp only [decide_eq_true_eq]; omega
        go_wp2
        go_ret
        exact ⟨ret_bool (by simp [nameB, hp.out]), rfl⟩
      · have hp := Lib.hid (show nmC s[k] = true by unfold nmC; rw [decide_eq_true_eq]; omega)
        have d97 : decide ((97 : Int) ≤ (s[k].toNat : Int)) = false := by simp only [decide_eq_false_iff_not]; omega
        have d122 : decide ((s[k].toNat : Int) ≤ 122) = true := by simp only [decide_eq_true_eq]; omega
        have d48 : decide ((48 : Int) ≤ (s[k].toNat : Int)) = true := by simp only [decide_eq_true_eq]; omega
        have d57 : decide ((s[k].toNat : Int) ≤ 57) = true := by simp only [decide_eq_true_eq]; omega
        go_wp2
        go_round
        case rel => exact ⟨k + 1, by omega, by go_num, by rw [bytes_take_succ s k hlt, List.all_append, HA.out]; simp [hp.out]⟩
        case measure => simp [intOf]; omega
      · have hp := Lib.hid (bytes_no (P := nmC) hlt (show nmC s[k] = false by unfold nmC; rw [decide_eq_false_iff_not]; omega))
        have d97 : decide ((97 : Int) ≤ (s[k].toNat : Int)) = false := by simp only [decide_eq_false_iff_not]; omega
        have d122 : decide ((s[k].toNat : Int) ≤ 122) = true := by simp only [decide_eq_true_eq]; omega
        have d48 : decide ((48 : Int) ≤ (s[k].toNat : Int)) = true := by simp only [decide_eq_true_eq]; omega
        have d57 : decide ((s[k].toNat : Int) ≤ 57) = false := by simp only [decide_eq_false_iff_not]; omega
        go_wp2
        go_ret
        exact ⟨ret_bool (by simp [nameB, hp.out]), rfl⟩
    · go_wp2
      go_ret
      exact ⟨ret_bool (by have := HA.out; rw [List.take_of_length_le (by simp; omega)] at this; simp [nameB, hi, this]), rfl⟩

set_option maxHeartbeats 1600000 in
theorem nameS_any (s : ByteArray) (w : World) (hs : s.size ≤ 1048576) : Calls Try.prog 37 #[.string s] w fun e w' => e = .returned (.bool (nameB s)) ∧ w = w' := by
  go_enter Try.func37, Try.ntmps37
  go_wp2
  go_loop [3] (fun i => ∃ k : Nat, k ≤ s.size ∧ i = .int .i64 k ∧ (s.data.toList.take k).all nmC = true) (fun i => s.size - (intOf i).toNat)
  case atStart => exact ⟨0, Nat.zero_le _, rfl, by simp⟩
  case round =>
    obtain ⟨k, hk, rfl, ha⟩ := hrel
    have HA := Lib.hid ha
    clear ha
    by_cases hlt : k < s.size
    · have hlt' : (k : Int) < (s.size : Int) := by omega
      have hc : (97 ≤ (s[k].toNat : Int) ∧ (s[k].toNat : Int) ≤ 122) ∨ 122 < (s[k].toNat : Int) ∨ (s[k].toNat : Int) < 48 ∨ (48 ≤ (s[k].toNat : Int) ∧ (s[k].toNat : Int) ≤ 57) ∨ (57 < (s[k].toNat : Int) ∧ (s[k].toNat : Int) < 97) := by omega
      rcases hc with ⟨c1, c2⟩ | c1 | c1 | ⟨c1, c2⟩ | ⟨c1, c2⟩
      · have hp := Lib.hid (show nmC s[k] = true by unfold nmC; rw [decide_eq_true_eq]; omega)
        have d97 : decide ((97 : Int) ≤ (s[k].toNat : Int)) = true := by simp only [decide_eq_true_eq]; omega
        have d122 : decide ((s[k].toNat : Int) ≤ 122) = true := by simp only [decide_eq_true_eq]; omega
        have d48 : decide ((48 : Int) ≤ (s[k].toNat : Int)) = true := by simp only [decide_eq_true_eq]; omega
        have d57 : decide ((s[k].toNat : Int) ≤ 57) = false := by simp only [decide_eq_false_iff_not]; omega
        go_wp2
        go_round
        case rel => exact ⟨k + 1, by omega, by go_num, by rw [bytes_take_succ s k hlt, List.all_append, HA.out]; simp [hp.out]⟩
        case measure => simp [intOf]; omega
      · have hp := Lib.hid (bytes_no (P := nmC) hlt (show nmC s[k] = false by unfold nmC; rw [decide_eq_false_iff_not]; omega))
        have d97 : decide ((97 : Int) ≤ (s[k].toNat : Int)) = true := by simp only [decide_eq_true_eq]; omega
        have d122 : decide ((s[k].toNat : Int) ≤ 122) = false := by simp only [decide_eq_false_iff_not]; omega
        have d48 : decide ((48 : Int) ≤ (s[k].toNat : Int)) = true := by simp only [decide_eq_true_eq]; omega
        have d57 : decide ((s[k].toNat : Int) ≤ 57) = false := by simp only [decide_eq_false_iff_not]; omega
        go_wp2
        go_ret
        exact ⟨ret_bool (by simp [nameB, hp.out]), rfl⟩
      · have hp := Lib.hid (bytes_no (P := nmC) hlt (show nmC s[k] = false by unfold nmC; rw [decide_eq_false_iff_not]; omega))
        have d97 : decide ((97 : Int) ≤ (s[k].toNat : Int)) = false := by simp only [decide_eq_false_iff_not]; omega
        have d122 : decide ((s[k].toNat : Int) ≤ 122) = true := by simp only [decide_eq_true_eq]; omega
        have d48 : decide ((48 : Int) ≤ (s[k].toNat : Int)) = false := by simp only [decide_eq_false_iff_not]; omega
        have d57 : decide ((s[k].toNat : Int) ≤ 57) = true := by simp only [decide_eq_true_eq]; omega
        go_wp2
        go_ret
        exact ⟨ret_bool (by simp [nameB, hp.out]), rfl⟩
      · have hp := Lib.hid (show nmC s[k] = true by unfold nmC; rw [decide_eq_true_eq]; omega)
        have d97 : decide ((97 : Int) ≤ (s[k].toNat : Int)) = false := by simp only [decide_eq_false_iff_not]; omega
        have d122 : decide ((s[k].toNat : Int) ≤ 122) = true := by simp only [decide_eq_true_eq]; omega
        have d48 : decide ((48 : Int) ≤ (s[k].toNat : Int)) = true := by simp only [decide_eq_true_eq]; omega
        have d57 : decide ((s[k].toNat : Int) ≤ 57) = true := by simp only [decide_eq_true_eq]; omega
        go_wp2
        go_round
        case rel => exact ⟨k + 1, by omega, by go_num, by rw [bytes_take_succ s k hlt, List.all_append, HA.out]; simp [hp.out]⟩
        case measure => simp [intOf]; omega
      · have hp := Lib.hid (bytes_no (P := nmC) hlt (show nmC s[k] = false by unfold nmC; rw [decide_eq_false_iff_not]; omega))
        have d97 : decide ((97 : Int) ≤ (s[k].toNat : Int)) = false := by simp only [decide_eq_false_iff_not]; omega
        have d122 : decide ((s[k].toNat : Int) ≤ 122) = true := by simp only [decide_eq_true_eq]; omega
        have d48 : decide ((48 : Int) ≤ (s[k].toNat : Int)) = true := by simp only [decide_eq_true_eq]; omega
        have d57 : decide ((s[k].toNat : Int) ≤ 57) = false := by simp only [decide_eq_false_iff_not]; omega
        go_wp2
        go_ret
        exact ⟨ret_bool (by simp [nameB, hp.out]), rfl⟩
    · go_wp2_with (go_at_call 57; refine (l01In_any _ _ _ _).mono ?_; rintro e w' ⟨rfl, rfl⟩)
      go_ret
      exact ⟨ret_bool (by have := HA.out; rw [List.take_of_length_le (by simp; omega)] at this; simp [nameB, this]), rfl⟩

end Go.Proofs.Ytighmoedkknkoaa
