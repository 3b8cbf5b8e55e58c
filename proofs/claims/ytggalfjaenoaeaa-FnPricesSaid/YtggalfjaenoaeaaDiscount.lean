/- Discount, BestCount of the program and of the reference return the same; no condition. -/
import Derived.Test.YtggalfjaenoaeaaBase
import Derived.BigQuiet
namespace Go.Proofs.Ytggalfjaenoaeaa
open Go.RowKit

def discF (p n : Int) : Int := if inB p 0 10000 && inB n 0 100 then (if 20 ≤ n then p * n - p * n * 12 / 100 else if 5 ≤ n then p * n - p * n * 5 / 100 else p * n) else -1

theorem mul_bd (p n : Int) (h1 : 0 ≤ p) (h2 : p ≤ 10000) (h3 : 0 ≤ n) (h4 : n ≤ 100) : 0 ≤ p * n ∧ p * n ≤ 1000000 := by
  refine ⟨Int.mul_nonneg h1 h3, ?_⟩
  calc p * n ≤ 10000 * n := Int.mul_le_mul_of_nonneg_right h2 h3
    _ ≤ 1000000 := by omega

set_option maxHeartbeats 400000 in
theorem discI_any (p n : Int) (w : World) : Calls Try.prog 23 #[.int .i64 p, .int .i64 n] w fun e w' => e = .returned (.int .i64 (discF p n)) ∧ w = w' := by
  cases h1 : inB p 0 10000
  rotate_left
  cases h2 : inB n 0 100
  rotate_left
  obtain ⟨b1a, b1b⟩ := inB_iff.1 h1
  obtain ⟨b2a, b2b⟩ := inB_iff.1 h2
  obtain ⟨b3a, b3b⟩ := mul_bd p n b1a b1b b2a b2b
  all_goals
    go_enter Try.func23, Try.ntmps23
    go_wp2_with (go_at_call 50; refine (within_any _ _ _ _).mono ?_; rintro e w' ⟨rfl, rfl⟩)
    all_goals
      go_ret
      exact ⟨ret_int (by simp [discF, *]; try omega), rfl⟩

set_option maxHeartbeats 400000 in
theorem discS_any (p n : Int) (w : World) : Calls Try.prog 22 #[.int .i64 p, .int .i64 n] w fun e w' => e = .returned (.int .i64 (discF p n)) ∧ w = w' := by
  cases h1 : inB p 0 10000
  rotate_left
  cases h2 : inB n 0 100
  rotate_left
  obtain ⟨b1a, b1b⟩ := inB_iff.1 h1
  obtain ⟨b2a, b2b⟩ := inB_iff.1 h2
  obtain ⟨b3a, b3b⟩ := mul_bd p n b1a b1b b2a b2b
  all_goals
    go_enter Try.func22, Try.ntmps22
    go_wp2_with (go_at_call 49; refine (l01In_any _ _ _ _).mono ?_; rintro e w' ⟨rfl, rfl⟩)
    all_goals
      go_ret
      exact ⟨ret_int (by simp [discF, *]; try omega), rfl⟩

theorem discount_law (p n : Int) (w : World) : Calls Try.prog 6 #[.int .i64 p, .int .i64 n] w fun e w' => e = .returned (.bool true) ∧ Below w.heap.size w w' := by
  go_enter Try.func6, Try.ntmps6
  go_wp2_with (first | (go_at_call 22; refine (discS_any _ _ _).mono ?_; rintro e w' ⟨rfl, rfl⟩) | (go_at_call 23; refine (discI_any _ _ _).mono ?_; rintro e w' ⟨rfl, rfl⟩))
  go_ret
  exact ⟨rfl, Below.refl _ _⟩

/-- the greatest number up to n at which P holds, else 0 -/
def downF (P : Nat → Bool) : Nat → Nat
  | 0 => 0
  | n + 1 => if P (n + 1) then n + 1 else downF P n
theorem downF_le (P : Nat → Bool) (n : Nat) : downF P n ≤ n := by
  induction n with
  | zero => exact Nat.le_refl _
  | succ n ih => unfold downF; split <;> omega
def affB (p m : Int) (n : Nat) : Bool := decide (discF p n ≤ m)
def bestF (p m : Int) : Int := if inB p 1 10000 && decide (0 ≤ m) then downF (affB p m) 100 else -1
theorem discF_zero (p : Int) (h : inB p 0 10000 = true) : discF p 0 = 0 := by
  have : inB 0 0 100 = true := by decide
  simp [discF, h, this]
theorem downF_no {P : Nat → Bool} {n : Nat} (h : P n = false) : downF P n = downF P (n - 1) := by
  cases n with
  | zero => rfl
  | succ n => simp [downF, h]
theorem downF_yes {P : Nat → Bool} {n : Nat} (h : P n = true) : downF P n = n := by
  cases n with
  | zero => rfl
  | succ n => simp [downF, h]

set_option maxHeartbeats 400000 in
theorem bestI_any (p m : Int) (w : World) : Calls Try.prog 27 #[.int .i64 p, .int .i64 m] w fun e w' => e = .returned (.int .i64 (bestF p m)) ∧ w = w' := by
  cases h1 : inB p 1 10000
  · go_enter Try.func27, Try.ntmps27
    go_wp2_with (go_at_call 50; refine (within_any _ _ _ _).mono ?_; rintro e w' ⟨rfl, rfl⟩)
    go_ret
    exact ⟨ret_int (by simp [bestF, *]), rfl⟩
  · by_cases h2 : 0 ≤ m
    · obtain ⟨b1a, b1b⟩ := inB_iff.1 h1
      have h0 : inB p 0 10000 = true := inB_yes (by omega) b1b
      go_enter Try.func27, Try.ntmps27
      go_wp2_with (go_at_call 50; refine (within_any _ _ _ _).mono ?_; rintro e w' ⟨rfl, rfl⟩)
      go_loop [5] (fun c => ∃ k : Nat, k ≤ 100 ∧ c = .int .i64 k ∧ downF (affB p m) k = downF (affB p m) 100) (fun c => (intOf c).toNat)
      case atStart => exact ⟨100, Nat.le_refl _, rfl, rfl⟩
      case round =>
        obtain ⟨k, hk, rfl, hd⟩ := hrel
        have HD := Lib.hid hd
        clear hd
        by_cases hc : discF p k ≤ m
        · go_wp2_with (go_at_call 23; refine (discI_any _ _ _).mono ?_; rintro e w' ⟨rfl, rfl⟩)
          go_ret
          exact ⟨ret_int (by have := HD.out; have e : affB p m k = true := by simp [affB, hc]
                             rw [downF_yes e] at this; simp [bestF, h1, h2, ← this]), rfl⟩
        · have hk0 : k ≠ 0 := by
            rintro rfl
            have := discF_zero p h0
            simp at hc
            omega
          go_wp2_with (go_at_call 23; refine (discI_any _ _ _).mono ?_; rintro e w' ⟨rfl, rfl⟩)
          go_round
          case rel => exact ⟨k - 1, by omega, by congr 1; omega, by rw [← HD.out]; exact (downF_no (by simp [affB, hc])).symm⟩
          case measure => simp [intOf]; omega
    · have hd : decide (0 ≤ m) = false := by simpa using h2
      go_enter Try.func27, Try.ntmps27
      go_wp2_with (go_at_call 50; refine (within_any _ _ _ _).mono ?_; rintro e w' ⟨rfl, rfl⟩)
      go_ret
      exact ⟨ret_int (by simp [bestF, h2]), rfl⟩

set_option maxHeartbeats 400000 in
theorem bestS_any (p m : Int) (w : World) : Calls Try.prog 26 #[.int .i64 p, .int .i64 m] w fun e w' => e = .returned (.int .i64 (bestF p m)) ∧ w = w' := by
  cases h1 : inB p 1 10000
  · go_enter Try.func26, Try.ntmps26
    go_wp2_with (go_at_call 49; refine (l01In_any _ _ _ _).mono ?_; rintro e w' ⟨rfl, rfl⟩)
    go_ret
    exact ⟨ret_int (by simp [bestF, *]), rfl⟩
  · by_cases h2 : 0 ≤ m
    · obtain ⟨b1a, b1b⟩ := inB_iff.1 h1
      have h0 : inB p 0 10000 = true := inB_yes (by omega) b1b
      go_enter Try.func26, Try.ntmps26
      go_wp2_with (go_at_call 49; refine (l01In_any _ _ _ _).mono ?_; rintro e w' ⟨rfl, rfl⟩)
      go_loop [5] (fun c => ∃ k : Nat, k ≤ 100 ∧ c = .int .i64 k ∧ downF (affB p m) k = downF (affB p m) 100) (fun c => (intOf c).toNat)
      case atStart => exact ⟨100, Nat.le_refl _, rfl, rfl⟩
      case round =>
        obtain ⟨k, hk, rfl, hd⟩ := hrel
        have HD := Lib.hid hd
        clear hd
        by_cases hc : discF p k ≤ m
        · go_wp2_with (go_at_call 22; refine (discS_any _ _ _).mono ?_; rintro e w' ⟨rfl, rfl⟩)
          go_ret
          exact ⟨ret_int (by have := HD.out; have e : affB p m k = true := by simp [affB, hc]
                             rw [downF_yes e] at this; simp [bestF, h1, h2, ← this]), rfl⟩
        · have hk0 : k ≠ 0 := by
            rintro rfl
            have := discF_zero p h0
            simp at hc
            omega
          go_wp2_with (go_at_call 22; refine (discS_any _ _ _).mono ?_; rintro e w' ⟨rfl, rfl⟩)
          go_round
          case rel => exact ⟨k - 1, by omega, by congr 1; omega, by rw [← HD.out]; exact (downF_no (by simp [affB, hc])).symm⟩
          case measure => simp [intOf]; omega
    · have hd : decide (0 ≤ m) = false := by simpa using h2
      go_enter Try.func26, Try.ntmps26
      go_wp2_with (go_at_call 49; refine (l01In_any _ _ _ _).mono ?_; rintro e w' ⟨rfl, rfl⟩)
      go_ret
      exact ⟨ret_int (by simp [bestF, h2]), rfl⟩


theorem best_law (p m : Int) (w : World) : Calls Try.prog 8 #[.int .i64 p, .int .i64 m] w fun e w' => e = .returned (.bool true) ∧ Below w.heap.size w w' := by
  go_enter Try.func8, Try.ntmps8
  go_wp2_with (first | (go_at_call 26; refine (bestS_any _ _ _).mono ?_; rintro e w' ⟨rfl, rfl⟩) | (go_at_call 27; refine (bestI_any _ _ _).mono ?_; rintro e w' ⟨rfl, rfl⟩))
  go_ret
  exact ⟨rfl, Below.refl _ _⟩
end Go.Proofs.Ytggalfjaenoaeaa
