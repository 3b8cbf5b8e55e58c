/- The plain law of FnPrices. -/
import Derived.Test.YtggalfjaenoaeaaDrawOffer
import Derived.Test.YtggalfjaenoaeaaOffer
import Derived.Test.YtggalfjaenoaeaaDiscount
import Derived.Test.YtggalfjaenoaeaaMore
namespace Go.Proofs.Ytggalfjaenoaeaa
open Go.RowKit

theorem disc_case {p : Int} {n : Int} (h1 : 0 ≤ p) (h2 : p ≤ 10000) (h3 : 0 ≤ n) (h4 : n ≤ 100) : discF p n = if 20 ≤ n then p * n - p * n * 12 / 100 else if 5 ≤ n then p * n - p * n * 5 / 100 else p * n := by
  simp [discF, inB_yes h1 h2, inB_yes h3 h4]
theorem disc_bd {p : Int} {n : Int} (h1 : 0 ≤ p) (h2 : p ≤ 10000) (h3 : 0 ≤ n) (h4 : n ≤ 100) : 0 ≤ discF p n ∧ discF p n ≤ p * n ∧ 88 * (p * n) ≤ 100 * discF p n := by
  rw [disc_case h1 h2 h3 h4]
  have := (mul_bd p n h1 h2 h3 h4).1
  generalize p * n = x at *
  split
  · omega
  · split <;> omega
theorem mul_mono {p n m : Int} (h1 : 0 ≤ p) (h : n ≤ m) : p * n ≤ p * m := Int.mul_le_mul_of_nonneg_left h h1
/-- a cheaper greater count: 20 or 5 is cheaper -/
theorem disc_less {p n m : Int} (h1 : 0 ≤ p) (h2 : p ≤ 10000) (h3 : 0 ≤ n) (h4 : n < m) (h5 : m ≤ 100) (h : discF p m < discF p n) : discF p 20 < discF p n ∨ discF p 5 < discF p n := by
  have em := disc_case h1 h2 (show 0 ≤ m by omega) h5
  have en := disc_case h1 h2 h3 (show n ≤ 100 by omega)
  have e20 := disc_case h1 h2 (show (0:Int) ≤ 20 by omega) (by omega)
  have e5 := disc_case h1 h2 (show (0:Int) ≤ 5 by omega) (by omega)
  rw [if_pos (by omega)] at e20
  rw [if_neg (by omega), if_pos (by omega)] at e5
  have b0 := (mul_bd p n h1 h2 h3 (by omega)).1
  have b1 := mul_mono h1 (show n ≤ m by omega)
  by_cases m20 : 20 ≤ m
  · left
    rw [if_pos m20] at em
    have b2 := mul_mono h1 m20
    rw [em] at h
    generalize p * m = y at *
    generalize p * 20 = z at *
    omega
  · by_cases m5 : 5 ≤ m
    · right
      rw [if_neg m20, if_pos m5] at em
      have b2 := mul_mono h1 m5
      rw [em] at h
      generalize p * m = y at *
      generalize p * 5 = z at *
      omega
    · rw [if_neg m20, if_neg m5] at em
      rw [if_neg (by omega), if_neg (by omega)] at en
      omega
theorem lessB_some {p : Int} {n j : Nat} (h : lessB p n j = true) : ∃ m : Nat, n < m ∧ m ≤ n + j ∧ discF p m < discF p n := by
  induction j with
  | zero => simp [lessB] at h
  | succ j ih =>
    rw [lessB, Bool.or_eq_true] at h
    rcases h with h | h
    · obtain ⟨m, h1, h2, h3⟩ := ih h
      exact ⟨m, h1, by omega, h3⟩
    · exact ⟨n + 1 + j, by omega, by omega, of_decide_eq_true h⟩
theorem mflN_mem {p : Int} {n : Nat} {x : Int} : x ∈ mflN p n ↔ ∃ k : Nat, x = k ∧ 0 < k ∧ k < n ∧ lessB p k (100 - k) = true := by
  induction n with
  | zero => simp [mflN]
  | succ n ih =>
    unfold mflN
    split
    · rename_i h
      rw [List.mem_append, List.mem_singleton, ih]
      constructor
      · rintro (⟨k, e, h1, h2, h3⟩ | e)
        · exact ⟨k, e, h1, by omega, h3⟩
        · exact ⟨n, e, h.1, by omega, h.2⟩
      · rintro ⟨k, e, h1, h2, h3⟩
        by_cases hk : k = n
        · right; rw [e, hk]
        · left; exact ⟨k, e, h1, by omega, h3⟩
    · rename_i h
      rw [ih]
      constructor
      · rintro ⟨k, e, h1, h2, h3⟩; exact ⟨k, e, h1, by omega, h3⟩
      · rintro ⟨k, e, h1, h2, h3⟩
        by_cases hk : k = n
        · exact absurd ⟨hk ▸ h1, hk ▸ h3⟩ h
        · exact ⟨k, e, h1, by omega, h3⟩
/-- each listed count: 1 to 99, and 20 or 5 is cheaper -/
theorem mfl_each {p x : Int} (h1 : 1 ≤ p) (h2 : p ≤ 10000) (hx : x ∈ mflF p) : (1 ≤ x ∧ x ≤ 99) ∧ (discF p 20 < discF p x ∨ discF p 5 < discF p x) := by
  rw [mflF, if_pos (inB_yes h1 h2), mflN_mem] at hx
  obtain ⟨k, rfl, k1, k2, k3⟩ := hx
  obtain ⟨m, m1, m2, m3⟩ := lessB_some k3
  exact ⟨by omega, disc_less (by omega) h2 (by omega) (by omega) (by omega) m3⟩
theorem mfl_19 {p : Int} (h1 : 23 ≤ p) (h2 : p ≤ 10000) : (mflF p).contains 19 = true := by
  rw [mflF, if_pos (inB_yes (by omega) h2), List.contains_iff_mem, mflN_mem]
  refine ⟨19, rfl, by omega, by omega, lessB_hit (n := 19) (m := 20) (by omega) (by omega) ?_⟩
  show discF p 20 < discF p 19
  rw [disc_case (by omega) h2 (by omega) (by omega), disc_case (by omega) h2 (by omega) (by omega), if_pos (by omega), if_neg (by omega), if_pos (by omega)]
  omega
theorem mfl_1 {p : Int} (h1 : 23 ≤ p) (h2 : p ≤ 10000) : (mflF p).contains 1 = false := by
  rw [mflF, if_pos (inB_yes (by omega) h2), ← Bool.not_eq_true, List.contains_iff_mem, mflN_mem]
  rintro ⟨k, e, k1, k2, k3⟩
  obtain rfl : k = 1 := by omega
  obtain ⟨m, m1, m2, m3⟩ := lessB_some k3
  have b := disc_bd (p := p) (n := (m : Int)) (by omega) h2 (by omega) (by omega)
  have b1 := mul_mono (p := p) (n := 2) (m := (m : Int)) (by omega) (by omega)
  have e1 := disc_case (p := p) (n := ((1 : Nat) : Int)) (by omega) h2 (by omega) (by omega)
  rw [if_neg (by omega), if_neg (by omega)] at e1
  rw [e1] at m3
  generalize p * (m : Int) = y at *
  omega
theorem disc_4 {p : Int} (h1 : 0 ≤ p) (h2 : p ≤ 10000) : discF p 4 = 4 * p := by
  rw [disc_case h1 h2 (by omega) (by omega), if_neg (by omega), if_neg (by omega)]
  omega
theorem downF_top {P : Nat → Bool} {n : Nat} (h : downF P n < n) : P (downF P n + 1) = false := by
  induction n with
  | zero => omega
  | succ n ih =>
    cases hp : P (n + 1) with
    | true => rw [downF_yes hp] at h; omega
    | false =>
      rw [downF_no hp] at h ⊢
      simp only [Nat.add_sub_cancel] at h ⊢
      by_cases hn : downF P n < n
      · exact ih hn
      · have := downF_le P n
        have e : downF P n = n := by omega
        rw [e]; exact hp
theorem downF_hit {P : Nat → Bool} {n : Nat} (h0 : P 0 = true) : P (downF P n) = true := by
  induction n with
  | zero => exact h0
  | succ n ih =>
    cases hp : P (n + 1) with
    | true => rw [downF_yes hp]; exact hp
    | false => rw [downF_no hp]; exact ih
theorem best_bd {p m : Int} (h1 : 1 ≤ p) (h2 : p ≤ 10000) (hm : 0 ≤ m) : ∃ b : Nat, bestF p m = b ∧ b ≤ 100 ∧ discF p b ≤ m ∧ (b < 100 → m < discF p (b + 1)) := by
  have e : bestF p m = downF (affB p m) 100 := by simp [bestF, inB_yes h1 h2, hm]
  refine ⟨_, e, downF_le _ _, ?_, fun hb => ?_⟩
  · have := downF_hit (P := affB p m) (n := 100) (by simp [affB, discF_zero p (inB_yes (by omega) h2)]; exact hm)
    simpa [affB] using this
  · have := downF_top hb
    simp only [affB, decide_eq_false_iff_not] at this
    rw [Int.natCast_add] at this
    exact Int.not_le.1 this
theorem price_bd {t p d : Int} (h : offB t p d = true) : 23 ≤ priceF t p d ∧ priceF t p d ≤ 147 := by
  obtain ⟨ht, hp, hd⟩ := offB_iff.1 h
  have hw : 0 ≤ woodF d ∧ woodF d ≤ 30 := by unfold woodF; split <;> (try split) <;> (try split) <;> omega
  rw [priceF, if_pos h]
  omega
/-- the wood: the dearest that the money pays -/
theorem ch_spec {t p d m : Int} (h : offB t p d = true) : (0 ≤ chF t p d m ∧ chF t p d m ≤ 3 ∧ priceF t p (chF t p d m) ≤ m ∧ (chF t p d m < 3 → m < priceF t p (chF t p d m + 1))) ∨ (chF t p d m = -1 ∧ m < priceF t p 0) := by
  unfold chF
  rw [if_pos h]
  split
  · rename_i a; exact .inl ⟨by omega, by omega, a, fun h => by omega⟩
  · split
    · rename_i a b; exact .inl ⟨by omega, by omega, b, fun _ => by show m < priceF t p 3; omega⟩
    · split
      · rename_i a b c; exact .inl ⟨by omega, by omega, c, fun _ => by show m < priceF t p 2; omega⟩
      · split
        · rename_i a b c e; exact .inl ⟨by omega, by omega, e, fun _ => by show m < priceF t p 1; omega⟩
        · exact .inr ⟨rfl, by omega⟩
end Go.Proofs.Ytggalfjaenoaeaa
