/- l29Split of the reference: the pieces of a text; lengths up to 2^20. -/
import Derived.Test.YthgllpocljeegaaGreatDoorNum
import Derived.Test.YthgllpocljeegaaGreatDoorAppStr
import Derived.Test.YthgllpocljeegaaGreatDoorParse
namespace Go.Proofs.YthgllpocljeegaaGreatDoor
open Go.RowKit

/-- what the loop holds: the pieces R lie ahead of b, and from b to k there is no c -/
def SplSt (c : UInt8) (L : List UInt8) (k b : Nat) (R : List (List UInt8)) : Prop :=
  (k ≤ L.length ∧ b ≤ k ∧ spl c L = R ++ spl c (L.drop b) ∧ c ∉ (L.drop b).take (k - b)) ∨ (k = L.length + 1 ∧ spl c L = R)
theorem splst_zero (c : UInt8) (L : List UInt8) : SplSt c L 0 0 [] := .inl ⟨Nat.zero_le _, Nat.le_refl _, by simp, by simp⟩
theorem splst_end {c : UInt8} {L : List UInt8} {b : Nat} {R : List (List UInt8)} (h : SplSt c L L.length b R) : b ≤ L.length ∧ SplSt c L (L.length + 1) (L.length + 1) (R ++ [(L.drop b).take (L.length - b)]) := by
  rcases h with ⟨_, hb, h1, h2⟩ | ⟨h, _⟩
  · have e : (L.drop b).take (L.length - b) = L.drop b := List.take_of_length_le (by rw [List.length_drop]; exact Nat.le_refl _)
    rw [e] at h2 ⊢
    exact ⟨hb, .inr ⟨rfl, by rw [h1, spl_none h2]⟩⟩
  · omega
theorem splst_hit {c : UInt8} {L : List UInt8} {k b : Nat} {R : List (List UInt8)} (h : SplSt c L k b R) (hk : k < L.length) (hc : L[k] = c) : b ≤ k ∧ SplSt c L (k + 1) (k + 1) (R ++ [(L.drop b).take (k - b)]) := by
  rcases h with ⟨_, hb, h1, h2⟩ | ⟨h, _⟩
  · have e : L.drop b = (L.drop b).take (k - b) ++ c :: L.drop (k + 1) := by
      have h3 := List.take_append_drop (k - b) (L.drop b)
      rw [List.drop_drop, show b + (k - b) = k by omega, List.drop_eq_getElem_cons hk, hc] at h3
      exact h3.symm
    refine ⟨hb, .inl ⟨by omega, Nat.le_refl _, ?_, by simp⟩⟩
    rw [h1, List.append_assoc, e, spl_hit h2, ← e]
    rfl
  · omega
theorem splst_miss {c : UInt8} {L : List UInt8} {k b : Nat} {R : List (List UInt8)} (h : SplSt c L k b R) (hk : k < L.length) (hc : L[k] ≠ c) : SplSt c L (k + 1) b R := by
  rcases h with ⟨_, hb, h1, h2⟩ | ⟨h, _⟩
  · refine .inl ⟨by omega, by omega, h1, ?_⟩
    have e : (L.drop b).take (k + 1 - b) = (L.drop b).take (k - b) ++ [L[k]] := by
      rw [show k + 1 - b = k - b + 1 by omega, List.take_succ_eq_append_getElem (by rw [List.length_drop]; omega), List.getElem_drop]
      congr 2
      congr 1
      omega
    rw [e, List.mem_append, List.mem_singleton]
    exact fun q => q.elim h2 (fun q => hc q.symm)
  · omega
theorem splst_done {c : UInt8} {L : List UInt8} {b : Nat} {R : List (List UInt8)} (h : SplSt c L (L.length + 1) b R) : spl c L = R := by
  rcases h with ⟨h, _⟩ | ⟨_, h⟩
  · omega
  · exact h
theorem piece_ba (s : ByteArray) (b k : Nat) : s.extract b k = baL ((s.data.toList.drop b).take (k - b)) := ba_ext (by rw [extract_data, baL_data])
end Go.Proofs.YthgllpocljeegaaGreatDoor
