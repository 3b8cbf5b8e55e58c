/- The sets of jobs and their gains: the plain law; no condition. -/
import Derived.Test.YtloienidakomdaaAit
namespace Go.Proofs.Ytloienidakomdaa
open Go.RowKit

theorem i64_and_natG (a b : Nat) (ha : a < 9223372036854775808) (hb : b < 9223372036854775808) : bits .and .i64 (a : Int) (b : Int) = ((a &&& b : Nat) : Int) := by
  have hx : a &&& b ≤ a := Nat.and_le_left
  show IntKind.i64.wrap ((BitVec.ofInt 64 (a : Int) &&& BitVec.ofInt 64 (b : Int)).toNat : Int) = _
  rw [BitVec.toNat_and, BitVec.ofInt_natCast, BitVec.ofInt_natCast, BitVec.toNat_ofNat, BitVec.toNat_ofNat, Nat.mod_eq_of_lt (by omega), Nat.mod_eq_of_lt (by omega)]
  exact IntWalk.i64_in _ (by omega)
/-- bit k of s -/
def bt (s k : Nat) : Bool := s / 2 ^ k % 2 == 1
theorem bt_and (s k : Nat) (hs : s ≤ 255) : bits .and .i64 ((s : Int) / 2 ^ k) 1 = ((s / 2 ^ k % 2 : Nat) : Int) := by
  have h1 : s / 2 ^ k ≤ s := Nat.div_le_self _ _
  have e : (s : Int) / 2 ^ k = ((s / 2 ^ k : Nat) : Int) := by simp
  rw [e, show (1 : Int) = ((1 : Nat) : Int) by rfl, i64_and_natG _ _ (by omega) (by omega), Nat.and_one_is_mod]
theorem bt_zero (k : Nat) : bt 0 k = false := by simp [bt]
theorem bt_high {s n k : Nat} (hs : s < 2 ^ n) (hk : n ≤ k) : bt s k = false := by
  have : s / 2 ^ k = 0 := Nat.div_eq_of_lt (Nat.lt_of_lt_of_le hs (Nat.pow_le_pow_right (by omega) hk))
  simp [bt, this]
def memS (s : Nat) : Nat → List Int
  | 0 => []
  | k + 1 => if bt s k then memS s k ++ [(k : Int)] else memS s k
def partS (l : List (Int × Int × Int)) (s : Nat) : Nat → List (Int × Int × Int)
  | 0 => []
  | k + 1 => if bt s k then partS l s k ++ [gJ l k] else partS l s k
def gnS (l : List (Int × Int × Int)) (s : Nat) : Nat → Int
  | 0 => 0
  | k + 1 => if bt s k then gnS l s k + (gJ l k).2.2 else gnS l s k
theorem memS_len (s k : Nat) : (memS s k).length ≤ k := by
  induction k with
  | zero => simp [memS]
  | succ k ih => unfold memS; split <;> (try simp) <;> omega
theorem partS_len (l : List (Int × Int × Int)) (s k : Nat) : (partS l s k).length ≤ k := by
  induction k with
  | zero => simp [partS]
  | succ k ih => unfold partS; split <;> (try simp) <;> omega
theorem memS_mem {s k : Nat} {x : Int} (h : x ∈ memS s k) : 0 ≤ x ∧ x < k := by
  induction k with
  | zero => simp [memS] at h
  | succ k ih =>
    unfold memS at h
    split at h
    · rw [List.mem_append, List.mem_singleton] at h
      rcases h with h | rfl
      · have := ih h; omega
      · omega
    · have := ih h; omega
theorem memS_high {s n k : Nat} (hs : s < 2 ^ n) (hk : n ≤ k) : memS s k = memS s n := by
  induction k with
  | zero => rw [show n = 0 by omega]
  | succ k ih =>
    by_cases e : n = k + 1
    · rw [e]
    · rw [memS, bt_high hs (by omega)]
      exact ih (by omega)
/-- the jobs at the first j places of M -/
def atJ (l : List (Int × Int × Int)) (M : List Int) : List (Int × Int × Int) := M.map fun x => gJ l x.toNat
def sgN (l : List (Int × Int × Int)) (M : List Int) : Nat → Int
  | 0 => 0
  | j + 1 => sgN l M j + (gJ l (gi M j).toNat).2.2
def psN (p : List (Int × Int × Int)) : Nat → Int
  | 0 => 0
  | j + 1 => psN p j + (gJ p j).2.2
theorem gi_append1 {L M : List Int} {k : Nat} (h : k < L.length) : gi (L ++ M) k = gi L k := by simp [gi, List.getElem?_append_left h]
theorem gi_append2 {L : List Int} {x : Int} : gi (L ++ [x]) L.length = x := by simp [gi]
theorem gJ_append1 {L M : List (Int × Int × Int)} {k : Nat} (h : k < L.length) : gJ (L ++ M) k = gJ L k := by simp [gJ, List.getElem?_append_left h]
theorem gJ_append2 {L : List (Int × Int × Int)} {x : Int × Int × Int} : gJ (L ++ [x]) L.length = x := by simp [gJ]
theorem sgN_append (l : List (Int × Int × Int)) (M N : List Int) (j : Nat) (hj : j ≤ M.length) : sgN l (M ++ N) j = sgN l M j := by
  induction j with
  | zero => rfl
  | succ j ih => rw [sgN, sgN, ih (by omega), gi_append1 (by omega)]
theorem psN_append (M N : List (Int × Int × Int)) (j : Nat) (hj : j ≤ M.length) : psN (M ++ N) j = psN M j := by
  induction j with
  | zero => rfl
  | succ j ih => rw [psN, psN, ih (by omega), gJ_append1 (by omega)]
theorem sgN_mem (l : List (Int × Int × Int)) (s k : Nat) : sgN l (memS s k) (memS s k).length = gnS l s k := by
  induction k with
  | zero => rfl
  | succ k ih =>
    unfold memS gnS
    split
    · rw [List.length_append, List.length_singleton, sgN, sgN_append _ _ _ _ (Nat.le_refl _), ih, gi_append2, Int.toNat_natCast]
    · exact ih
theorem psN_part (l : List (Int × Int × Int)) (s k : Nat) : psN (partS l s k) (partS l s k).length = gnS l s k := by
  induction k with
  | zero => rfl
  | succ k ih =>
    unfold partS gnS
    split
    · rw [List.length_append, List.length_singleton, psN, psN_append _ _ _ (Nat.le_refl _), ih, gJ_append2]
    · exact ih
theorem atJ_mem (l : List (Int × Int × Int)) (s k : Nat) : atJ l (memS s k) = partS l s k := by
  induction k with
  | zero => rfl
  | succ k ih =>
    unfold memS partS
    split
    · rw [atJ, List.map_append, ← atJ, ih]; simp
    · exact ih
theorem atJ_take {l : List (Int × Int × Int)} {M : List Int} {j : Nat} (h : j < M.length) : atJ l (M.take (j + 1)) = atJ l (M.take j) ++ [gJ l (gi M j).toNat] := by
  rw [take_succ_gi h, atJ, List.map_append, ← atJ]
  rfl
theorem gnS_bd {l : List (Int × Int × Int)} (hj : jobsB l = true) (s k : Nat) (hk : k ≤ l.length) : 0 ≤ gnS l s k ∧ gnS l s k ≤ 1000 * k := by
  induction k with
  | zero => simp [gnS]
  | succ k ih =>
    have := ih (by omega)
    have b := (jobB_bd hj (k := k) (by omega)).2
    unfold gnS
    split <;> omega
theorem sgN_bd {l : List (Int × Int × Int)} (hj : jobsB l = true) {M : List Int} (hM : ∀ x ∈ M, 0 ≤ x ∧ x < (l.length : Int)) (j : Nat) (h : j ≤ M.length) : 0 ≤ sgN l M j ∧ sgN l M j ≤ 1000 * j := by
  induction j with
  | zero => simp [sgN]
  | succ j ih =>
    have := ih (by omega)
    have hm := hM _ (gi_mem (show j < M.length by omega))
    have b := (jobB_bd hj (k := (gi M j).toNat) (by omega)).2
    rw [sgN]
    omega
def gofF (l : List (Int × Int × Int)) (s : Nat) : Int := if aitF (partS l s l.length) then gnS l s l.length else -1
/-- the best set below s, and its gain -/
def bst (l : List (Int × Int × Int)) : Nat → Nat × Int
  | 0 => (0, 0)
  | s + 1 => if (bst l s).2 < gofF l s then (s, gofF l s) else bst l s
theorem partS_zero (l : List (Int × Int × Int)) (k : Nat) : partS l 0 k = [] := by
  induction k with
  | zero => rfl
  | succ k ih => rw [partS, bt_zero]; exact ih
theorem gnS_zero (l : List (Int × Int × Int)) (k : Nat) : gnS l 0 k = 0 := by
  induction k with
  | zero => rfl
  | succ k ih => rw [gnS, bt_zero]; exact ih
theorem ait_nil : aitF [] = true := by decide
theorem gof_zero (l : List (Int × Int × Int)) : gofF l 0 = 0 := by rw [gofF, partS_zero, ait_nil, if_pos rfl, gnS_zero]
theorem bst_spec (l : List (Int × Int × Int)) (s : Nat) : (0 ≤ (bst l s).2 ∧ ∀ t, t < s → gofF l t ≤ (bst l s).2) ∧ gofF l (bst l s).1 = (bst l s).2 ∧ (∀ t, t < (bst l s).1 → gofF l t < (bst l s).2) ∧ ((bst l s).1 = 0 ∨ (bst l s).1 < s) := by
  induction s with
  | zero => exact ⟨⟨Int.le_refl _, fun t h => by omega⟩, gof_zero l, fun t h => by simp [bst] at h, .inl rfl⟩
  | succ s ih =>
    obtain ⟨⟨i1, i2⟩, i3, i4, i5⟩ := ih
    by_cases h : (bst l s).2 < gofF l s
    · rw [bst, if_pos h]
      refine ⟨⟨by simp only; omega, fun t ht => ?_⟩, rfl, fun t ht => ?_, .inr (by simp)⟩
      · by_cases e : t = s
        · rw [e]; exact Int.le_refl _
        · have := i2 t (by omega); simp only; omega
      · have := i2 t ht; simp only; omega
    · rw [bst, if_neg h]
      refine ⟨⟨i1, fun t ht => ?_⟩, i3, i4, ?_⟩
      · by_cases e : t = s
        · rw [e]; omega
        · exact i2 t (by omega)
      · rcases i5 with i5 | i5
        · exact .inl i5
        · exact .inr (by omega)
theorem bst_max (l : List (Int × Int × Int)) (s : Nat) : (bst l (s + 1)).2 = max (bst l s).2 (gofF l s) := by
  rw [bst]
  split <;> omega
def bestF (l : List (Int × Int × Int)) : Nat := (bst l (2 ^ l.length)).1
def mostF (l : List (Int × Int × Int)) : Int := (bst l (2 ^ l.length)).2
theorem best_lt (l : List (Int × Int × Int)) : bestF l < 2 ^ l.length := by
  have hp : 0 < 2 ^ l.length := Nat.pow_pos (by omega)
  rcases (bst_spec l (2 ^ l.length)).2.2.2 with h | h
  · rw [bestF, h]; exact hp
  · exact h
theorem gof_best (l : List (Int × Int × Int)) : gofF l (bestF l) = mostF l := (bst_spec l _).2.1
theorem gn_best (l : List (Int × Int × Int)) : gnS l (bestF l) l.length = mostF l := by
  have h1 := gof_best l
  have h2 := (bst_spec l (2 ^ l.length)).1.1
  rw [gofF] at h1
  split at h1
  · exact h1
  · rw [mostF] at h1; omega
def galF (l : List (Int × Int × Int)) : List Int := if jobsB l then memS (bestF l) l.length else []
def mogF (l : List (Int × Int × Int)) : Int := if jobsB l then mostF l else -1
theorem galF_len (l : List (Int × Int × Int)) : (galF l).length ≤ l.length := by
  unfold galF
  split
  · exact memS_len _ _
  · simp
theorem pow_le8 {n : Nat} (h : n ≤ 8) : 1 ≤ 2 ^ n ∧ 2 ^ n ≤ 256 := ⟨Nat.pow_pos (by omega), Nat.pow_le_pow_right (n := 2) (by omega) h⟩
end Go.Proofs.Ytloienidakomdaa
