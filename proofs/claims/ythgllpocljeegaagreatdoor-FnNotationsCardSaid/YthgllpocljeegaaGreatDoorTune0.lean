/- The text of a tune: as the reference lays it up and as strings.Join does; no condition. -/
import Derived.Test.YthgllpocljeegaaGreatDoorNoteText
import Derived.Test.YthgllpocljeegaaGreatDoorBell0
import Derived.Lib.Join
namespace Go.Proofs.YthgllpocljeegaaGreatDoor
open Go.RowKit

theorem ntT_size (t p : Int) : (ntT t p).size ≤ 21 := by
  unfold ntT
  split
  · rename_i h
    simp only [Bool.and_eq_true, inB_iff] at h
    have h1 := fmtT_size (n := t.toNat) (by omega)
    have h2 := fmtT_size (n := p.toNat) (by omega)
    have e : (⟨#[58]⟩ : ByteArray).size = 1 := rfl
    rw [ByteArray.size_append, ByteArray.size_append]
    omega
  · exact Nat.zero_le _
/-- the text of note k -/
def ntK (l : List (Int × Int)) (k : Nat) : ByteArray := ntT (gN l k).1 (gN l k).2
def ttN (l : List (Int × Int)) : Nat → ByteArray
  | 0 => ⟨#[]⟩
  | k + 1 => (if k = 0 then ⟨#[]⟩ else ttN l k ++ ⟨#[32]⟩) ++ ntK l k
def wdN (l : List (Int × Int)) : Nat → List ByteArray
  | 0 => []
  | k + 1 => wdN l k ++ [ntK l k]
theorem wdN_len (l : List (Int × Int)) (k : Nat) : (wdN l k).length = k := by
  induction k with
  | zero => rfl
  | succ k ih => rw [wdN, List.length_append, ih]; rfl
theorem ttN_size (l : List (Int × Int)) (k : Nat) : (ttN l k).size ≤ 22 * k := by
  induction k with
  | zero => exact Nat.le_refl _
  | succ k ih =>
    have h1 := ntT_size (gN l k).1 (gN l k).2
    have e : (⟨#[32]⟩ : ByteArray).size = 1 := rfl
    have e0 : (⟨#[]⟩ : ByteArray).size = 0 := rfl
    rw [ttN, ByteArray.size_append]
    unfold ntK
    split
    · omega
    · rw [ByteArray.size_append]; omega
theorem join_snoc (xs : List (List UInt8)) (x sep : List UInt8) (h : xs ≠ []) : Lib.join (xs ++ [x]) sep = Lib.join xs sep ++ sep ++ x := by
  induction xs with
  | nil => exact absurd rfl h
  | cons a r ih =>
    cases r with
    | nil => simp [Lib.join, List.intercalate]
    | cons b r =>
      have := ih (by simp)
      unfold Lib.join at this ⊢
      rw [List.cons_append, List.cons_append, List.intercalate_cons_cons, ← List.cons_append, this, List.intercalate_cons_cons]
      simp
theorem ttN_join (l : List (Int × Int)) (k : Nat) : Lib.join ((wdN l k).map (·.data.toList)) [32] = (ttN l k).data.toList := by
  induction k with
  | zero => rfl
  | succ k ih =>
    rw [wdN, List.map_append, ttN]
    by_cases h0 : k = 0
    · subst h0
      rw [if_pos rfl, ba_nil_append]
      simp [wdN, Lib.join, List.intercalate]
    · rw [if_neg h0]
      have hne : (wdN l k).map (·.data.toList) ≠ [] := by
        intro e
        have := congrArg List.length e
        rw [List.length_map, wdN_len] at this
        exact h0 this
      simp only [List.map_cons, List.map_nil]
      rw [join_snoc _ _ _ hne, ih]
      simp [ByteArray.data_append]
def ttF (l : List (Int × Int)) : ByteArray := if tuneB l then ttN l l.length else ⟨#[]⟩
theorem tuneB_len {l : List (Int × Int)} (h : tuneB l = true) : l.length ≤ 40 := by
  simp only [tuneB, Bool.and_eq_true, decide_eq_true_eq] at h
  omega
end Go.Proofs.YthgllpocljeegaaGreatDoor
