/- The plain law of a strip turned; no condition. -/
import Derived.Test.YtbcmidencifcoaaSortN
import Derived.Test.YtbcmidencifcoaaStrip0
namespace Go.Proofs.Ytbcmidencifcoaa
open Go.RowKit

/-- the holes among the first k, seen from the other end -/
def rvN (n : Int) (l : List (Int × Int)) : Nat → List (Int × Int)
  | 0 => []
  | k + 1 => rvN n l k ++ [(n - 1 - (gN l k).1, (gN l k).2)]
theorem rvN_len (n : Int) (l : List (Int × Int)) (k : Nat) : (rvN n l k).length = k := by
  induction k with
  | zero => rfl
  | succ k ih => rw [rvN, List.length_append, ih]; rfl
theorem rvN_mem {n : Int} {l : List (Int × Int)} {k : Nat} {x : Int × Int} : x ∈ rvN n l k ↔ ∃ j, j < k ∧ x = (n - 1 - (gN l j).1, (gN l j).2) := by
  induction k with
  | zero => simp [rvN]
  | succ k ih =>
    rw [rvN, List.mem_append, ih, List.mem_singleton]
    constructor
    · rintro (⟨j, h1, h2⟩ | h)
      · exact ⟨j, by omega, h2⟩
      · exact ⟨k, by omega, h⟩
    · rintro ⟨j, h1, h2⟩
      by_cases e : j = k
      · subst e; exact .inr h2
      · exact .inl ⟨j, by omega, h2⟩
theorem rvN_nodup {n : Int} {l : List (Int × Int)} {m : Nat} (h : okN l m = true) : ∀ k, k ≤ m → (rvN n l k).Nodup := by
  intro k
  induction k with
  | zero => intro _; simp [rvN]
  | succ k ih =>
    intro hk
    rw [rvN, List.nodup_append]
    refine ⟨ih (by omega), by simp, fun a ha b hb => ?_⟩
    rw [List.mem_singleton] at hb
    obtain ⟨j, hj, rfl⟩ := rvN_mem.1 ha
    subst hb
    intro e
    have := okN_lt h hj (show k < m by omega)
    rw [ltN_iff] at this
    simp only [Prod.mk.injEq] at e
    omega
def turB (n : Int) (l : List (Int × Int)) : Bool := stripB n l && stripB n (srtN (rvN n l l.length))
def turL (n : Int) (l : List (Int × Int)) : List (Int × Int) := if turB n l then srtN (rvN n l l.length) else l
theorem turL_len {n : Int} {l : List (Int × Int)} : (turL n l).length ≤ l.length := by
  unfold turL
  split
  · have := srtN_len (rvN n l l.length)
    rw [rvN_len] at this
    exact this
  · exact Nat.le_refl _
end Go.Proofs.Ytbcmidencifcoaa
