/- What ParseUint, ReadNote and ReadTune answer, in plain words; no condition. -/
import Derived.Test.YthgllpocljeegaaGreatDoorNum
import Derived.Test.YthgllpocljeegaaGreatDoorNoteText
import Derived.Test.YthgllpocljeegaaGreatDoorBell0
namespace Go.Proofs.YthgllpocljeegaaGreatDoor
open Go.Lib

/-- the number that l spells, as ParseUint reads it -/
def puF (l : List UInt8) : Option Nat := if valN l l.length ≤ 1000000000 ∧ decDigits (valN l l.length) = l then some (valN l l.length) else none
theorem puF_some {l : List UInt8} {n : Nat} : puF l = some n ↔ n ≤ 1000000000 ∧ l = decDigits n := by
  unfold puF
  constructor
  · intro h
    split at h
    · rename_i hc
      cases h
      exact ⟨hc.1, hc.2.symm⟩
    · cases h
  · rintro ⟨h, rfl⟩
    rw [valN_dec, if_pos ⟨h, rfl⟩]
theorem puF_none {l : List UInt8} (h : ∀ n, n ≤ 1000000000 → l ≠ decDigits n) : puF l = none := by
  cases hp : puF l with
  | none => rfl
  | some n => exact absurd (puF_some.1 hp).2 (h n (puF_some.1 hp).1)
theorem puF_bad {l : List UInt8} {k : Nat} (hk : k < l.length) (h : dgB l[k] = false) : puF l = none := puF_none fun n _ e => by
  have := dec_all n
  rw [← e, List.all_eq_true] at this
  rw [this _ (List.getElem_mem hk)] at h
  cases h
theorem puF_long {l : List UInt8} (h : 10 < l.length) : puF l = none := puF_none fun n hn e => by
  have := dec_len (n := n) (by omega)
  rw [← e] at this
  omega
theorem puF_big {l : List UInt8} (h : 1000000000 < valN l l.length) : puF l = none := by
  unfold puF
  rw [if_neg (by omega)]
theorem puF_other {l : List UInt8} (h : decDigits (valN l l.length) ≠ l) : puF l = none := by
  unfold puF
  rw [if_neg (fun e => h e.2)]
theorem puF_yes {l : List UInt8} (h : valN l l.length ≤ 1000000000) (h2 : decDigits (valN l l.length) = l) : puF l = some (valN l l.length) := by
  unfold puF
  rw [if_pos ⟨h, h2⟩]
theorem puF_bd {l : List UInt8} : (puF l).getD 0 ≤ 1000000000 := by
  cases h : puF l with
  | none => simp
  | some n => simpa using (puF_some.1 h).1

/-- the note that l spells -/
def rnF (l : List UInt8) : Option (Nat × Nat) :=
  match spl 58 l with
  | [a, b] => match puF a, puF b with
    | some t, some p => if t ≤ 1000 ∧ p ≤ 60 then some (t, p) else none
    | _, _ => none
  | _ => none
/-- the bytes of a note's text -/
def ntL (t p : Nat) : List UInt8 := decDigits t ++ 58 :: decDigits p
theorem c58 (n : Nat) : (58 : UInt8) ∉ decDigits n := dec_no n 58 (by decide)
theorem c32 (n : Nat) : (32 : UInt8) ∉ decDigits n := dec_no n 32 (by decide)
theorem spl_note (t p : Nat) : spl 58 (ntL t p) = [decDigits t, decDigits p] := by rw [ntL, spl_hit (c58 t), spl_none (c58 p)]
theorem ntL_32 (t p : Nat) : (32 : UInt8) ∉ ntL t p := by
  unfold ntL
  rw [List.mem_append, List.mem_cons]
  rintro (h | h | h)
  · exact c32 t h
  · exact absurd h (by decide)
  · exact c32 p h
theorem spl_two {c : UInt8} {l a b : List UInt8} (h : spl c l = [a, b]) : l = a ++ c :: b := by
  have h1 := spl_join c l
  rw [h] at h1
  rw [← h1]
  simp [List.intercalate]
theorem rnF_some {l : List UInt8} {t p : Nat} : rnF l = some (t, p) ↔ (t ≤ 1000 ∧ p ≤ 60) ∧ l = ntL t p := by
  constructor
  · intro h
    unfold rnF at h
    split at h
    · rename_i a b hs
      split at h
      · rename_i t' p' ht hp
        split at h
        · rename_i hb
          cases h
          refine ⟨hb, ?_⟩
          rw [spl_two hs, (puF_some.1 ht).2, (puF_some.1 hp).2]
          rfl
        · cases h
      · cases h
    · cases h
  · rintro ⟨hb, rfl⟩
    unfold rnF
    rw [spl_note]
    have e1 : puF (decDigits t) = some t := puF_some.2 ⟨by omega, rfl⟩
    have e2 : puF (decDigits p) = some p := puF_some.2 ⟨by omega, rfl⟩
    simp only [e1, e2]
    rw [if_pos hb]
theorem ntT_data {t p : Nat} (h : t ≤ 1000 ∧ p ≤ 60) : (ntT t p).data.toList = ntL t p := by
  have h1 : inB (t : Int) 0 1000 = true := inB_yes (by omega) (by omega)
  have h2 : inB (p : Int) 0 60 = true := inB_yes (by omega) (by omega)
  rw [ntT, h1, h2]
  simp only [Bool.and_self, if_true, Int.toNat_natCast, ByteArray.data_append, Array.toList_append, fmtT_data, ntL]
  simp
theorem ntT_none {t p : Int} (h : ¬ ((0 ≤ t ∧ t ≤ 1000) ∧ (0 ≤ p ∧ p ≤ 60))) : ntT t p = ⟨#[]⟩ := by
  unfold ntT
  rw [if_neg]
  simp only [Bool.and_eq_true, inB_iff]
  exact h
theorem dec_len2 {n k : Nat} (h : n < 10 ^ k) (hk : 0 < k) : (decDigits n).length ≤ k := by
  have e : (fmtT n).size = (decDigits n).length := by simp [fmtT, ByteArray.size]
  by_cases h0 : n = 0
  · subst h0; rw [dec_lt (by omega)]; simp; omega
  · rw [← e, fmtT_digT n h0]; exact digT_size k n h
theorem ntL_len {t p : Nat} (h : t ≤ 1000 ∧ p ≤ 60) : (ntL t p).length ≤ 7 := by
  have h1 := dec_len2 (n := t) (k := 4) (by omega) (by omega)
  have h2 := dec_len2 (n := p) (k := 2) (by omega) (by omega)
  rw [ntL, List.length_append, List.length_cons]
  omega
theorem ntL_pos (t p : Nat) : ntL t p ≠ [] := by simp [ntL]
theorem rnF_len {l : List UInt8} (h : 7 < l.length) : rnF l = none := by
  cases hr : rnF l with
  | none => rfl
  | some x =>
    obtain ⟨t, p⟩ := x
    obtain ⟨hb, rfl⟩ := rnF_some.1 hr
    have := ntL_len hb
    omega
/-- what ReadNote answers -/
def rnN (l : List UInt8) : Nat × Nat := (rnF l).getD (0, 0)
def rnB (l : List UInt8) : Bool := (rnF l).isSome
theorem rn_no {l : List UInt8} (h : rnF l = none) : rnN l = (0, 0) ∧ rnB l = false := by simp [rnN, rnB, h]
theorem rn_yes {l : List UInt8} {t p : Nat} (h : rnF l = some (t, p)) : rnN l = (t, p) ∧ rnB l = true := by simp [rnN, rnB, h]
end Go.Proofs.YthgllpocljeegaaGreatDoor
