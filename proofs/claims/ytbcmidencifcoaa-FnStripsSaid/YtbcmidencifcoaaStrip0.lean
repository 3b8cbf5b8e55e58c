/- The plain laws of strips; no condition. -/
import Derived.Test.YtbcmidencifcoaaBell0
namespace Go.Proofs.Ytbcmidencifcoaa
open Go.RowKit

def stripB (n : Int) (l : List (Int × Int)) : Bool := inB n 1 2000 && tuneB l && l.all fun a => decide (a.1 < n)
theorem stripB_iff {n : Int} {l : List (Int × Int)} (h : stripB n l = true) : (1 ≤ n ∧ n ≤ 2000) ∧ tuneB l = true ∧ ∀ k, k < l.length → (gN l k).1 < n := by
  simp only [stripB, Bool.and_eq_true, inB_iff] at h
  refine ⟨h.1.1, h.1.2, fun k hk => ?_⟩
  have := List.all_eq_true.1 h.2 _ (gN_mem hk)
  simpa using this
theorem stripB_mk {n : Int} {l : List (Int × Int)} (h1 : inB n 1 2000 = true) (h2 : tuneB l = true) (h3 : ∀ k, k < l.length → (gN l k).1 < n) : stripB n l = true := by
  simp only [stripB, h1, h2, Bool.true_and, List.all_eq_true, decide_eq_true_eq]
  intro a ha
  obtain ⟨k, hk, e⟩ := List.mem_iff_getElem.1 ha
  have := h3 k hk
  rw [gN_eq hk, e] at this
  exact this
theorem stripB_no {n : Int} {l : List (Int × Int)} {k : Nat} (hk : k < l.length) (h : ¬ (gN l k).1 < n) : stripB n l = false := by
  cases e : stripB n l with
  | false => rfl
  | true => exact absurd ((stripB_iff e).2.2 k hk) h
/-- of a tune the last note is enough -/
theorem stripB_last {n : Int} {l : List (Int × Int)} (h1 : inB n 1 2000 = true) (h2 : tuneB l = true) (h0 : 0 < l.length) : stripB n l = decide ((gN l (l.length - 1)).1 < n) := by
  by_cases h : (gN l (l.length - 1)).1 < n
  · rw [stripB_mk h1 h2 (fun k hk => Int.lt_of_le_of_lt (okN_mono (tuneB_iff h2).2 (by omega) (show l.length - 1 < l.length by omega)) h)]
    simp [h]
  · rw [stripB_no (k := l.length - 1) (by omega) h]
    simp [h]
theorem stripB_empty {n : Int} {l : List (Int × Int)} (h1 : inB n 1 2000 = true) (h2 : tuneB l = true) (h0 : l.length = 0) : stripB n l = true :=
  stripB_mk h1 h2 (fun k hk => by omega)

/-- the notes from a to b among the first k -/
def hinN (l : List (Int × Int)) (a b : Int) : Nat → Int
  | 0 => 0
  | k + 1 => hinN l a b k + (if a ≤ (gN l k).1 ∧ (gN l k).1 < b then 1 else 0)
theorem hinN_bd (l : List (Int × Int)) (a b : Int) (k : Nat) : 0 ≤ hinN l a b k ∧ hinN l a b k ≤ k := by
  induction k with
  | zero => exact ⟨Int.le_refl _, by simp [hinN]⟩
  | succ k ih => unfold hinN; split <;> omega
theorem hinN_yes {l : List (Int × Int)} {a b : Int} {k : Nat} (h1 : a ≤ (gN l k).1) (h2 : (gN l k).1 < b) : hinN l a b (k + 1) = hinN l a b k + 1 := by rw [hinN, if_pos ⟨h1, h2⟩]
theorem hinN_no1 {l : List (Int × Int)} {a b : Int} {k : Nat} (h1 : ¬ a ≤ (gN l k).1) : hinN l a b (k + 1) = hinN l a b k := by rw [hinN, if_neg (fun h => h1 h.1)]; omega
theorem hinN_no2 {l : List (Int × Int)} {a b : Int} {k : Nat} (h1 : ¬ (gN l k).1 < b) : hinN l a b (k + 1) = hinN l a b k := by rw [hinN, if_neg (fun h => h1 h.2)]; omega
def hinF (n : Int) (l : List (Int × Int)) (a b : Int) : Int := if stripB n l then hinN l a b l.length else -1

/-- the notes, each d later -/
def shN (l : List (Int × Int)) (d : Int) : Nat → List (Int × Int)
  | 0 => []
  | k + 1 => shN l d k ++ [((gN l k).1 + d, (gN l k).2)]
theorem shN_len (l : List (Int × Int)) (d : Int) (k : Nat) : (shN l d k).length = k := by
  induction k with
  | zero => rfl
  | succ k ih => simp [shN, ih]
theorem gN_app1 {l m : List (Int × Int)} {k : Nat} (h : k < l.length) : gN (l ++ m) k = gN l k := by
  simp [gN, List.getElem?_append_left h]
theorem gN_app2 {l m : List (Int × Int)} {k : Nat} (h : l.length ≤ k) : gN (l ++ m) k = gN m (k - l.length) := by
  simp [gN, List.getElem?_append_right h]
theorem shN_get {l : List (Int × Int)} {d : Int} {n k : Nat} (h : k < n) : gN (shN l d n) k = ((gN l k).1 + d, (gN l k).2) := by
  induction n with
  | zero => omega
  | succ n ih =>
    rw [shN]
    by_cases e : k = n
    · subst e
      rw [gN_app2 (by rw [shN_len]; exact Nat.le_refl _), shN_len]
      simp [gN]
    · rw [gN_app1 (by rw [shN_len]; omega)]
      exact ih (by omega)
/-- the notes before time m -/
def cuA (l : List (Int × Int)) (m : Int) : Nat → List (Int × Int)
  | 0 => []
  | k + 1 => if (gN l k).1 < m then cuA l m k ++ [gN l k] else cuA l m k
/-- the others, m earlier -/
def cuB (l : List (Int × Int)) (m : Int) : Nat → List (Int × Int)
  | 0 => []
  | k + 1 => if (gN l k).1 < m then cuB l m k else cuB l m k ++ [((gN l k).1 - m, (gN l k).2)]
theorem cu_len (l : List (Int × Int)) (m : Int) (k : Nat) : (cuA l m k).length + (cuB l m k).length = k := by
  induction k with
  | zero => rfl
  | succ k ih => unfold cuA cuB; split <;> simp <;> omega
theorem cuA_yes {l : List (Int × Int)} {m : Int} {k : Nat} (h : (gN l k).1 < m) : cuA l m (k + 1) = cuA l m k ++ [gN l k] := by rw [cuA, if_pos h]
theorem cuB_yes {l : List (Int × Int)} {m : Int} {k : Nat} (h : (gN l k).1 < m) : cuB l m (k + 1) = cuB l m k := by rw [cuB, if_pos h]
theorem cuA_no {l : List (Int × Int)} {m : Int} {k : Nat} (h : ¬ (gN l k).1 < m) : cuA l m (k + 1) = cuA l m k := by rw [cuA, if_neg h]
theorem cuB_no {l : List (Int × Int)} {m : Int} {k : Nat} (h : ¬ (gN l k).1 < m) : cuB l m (k + 1) = cuB l m k ++ [((gN l k).1 - m, (gN l k).2)] := by rw [cuB, if_neg h]
def cutB (n : Int) (l : List (Int × Int)) (m : Int) : Bool := stripB n l && inB m 1 (n - 1)
def cutAn (n : Int) (l : List (Int × Int)) (m : Int) : Int := if cutB n l m then m else 0
def cutBn (n : Int) (l : List (Int × Int)) (m : Int) : Int := if cutB n l m then n - m else 0
def cutAl (n : Int) (l : List (Int × Int)) (m : Int) : List (Int × Int) := if cutB n l m then cuA l m l.length else []
def cutBl (n : Int) (l : List (Int × Int)) (m : Int) : List (Int × Int) := if cutB n l m then cuB l m l.length else []
/-- two strips in one -/
def gluB (n1 : Int) (l1 : List (Int × Int)) (n2 : Int) (l2 : List (Int × Int)) : Bool := stripB n1 l1 && stripB n2 l2 && stripB (n1 + n2) (l1 ++ shN l2 n1 l2.length)
def gluN (n1 : Int) (l1 : List (Int × Int)) (n2 : Int) (l2 : List (Int × Int)) : Int := if gluB n1 l1 n2 l2 then n1 + n2 else 0
def gluL (n1 : Int) (l1 : List (Int × Int)) (n2 : Int) (l2 : List (Int × Int)) : List (Int × Int) := if gluB n1 l1 n2 l2 then l1 ++ shN l2 n1 l2.length else []
def lastF (l : List (Int × Int)) : Int := if tuneB l then (if l.length = 0 then 0 else (gN l (l.length - 1)).1 - (gN l 0).1) else -1
/-- the strip of a tune -/
def sofN (l : List (Int × Int)) (a b : Int) : Int := a + lastF l + 1 + b
def sofL (l : List (Int × Int)) (a : Int) : List (Int × Int) := shN l (a - (gN l 0).1) l.length
def sofB (l : List (Int × Int)) (a b : Int) : Bool := tuneB l && decide (0 < l.length) && inB a 0 100 && inB b 0 100 && stripB (sofN l a b) (sofL l a)
def sofFn (l : List (Int × Int)) (a b : Int) : Int := if sofB l a b then sofN l a b else 0
def sofFl (l : List (Int × Int)) (a b : Int) : List (Int × Int) := if sofB l a b then sofL l a else []
end Go.Proofs.Ytbcmidencifcoaa
