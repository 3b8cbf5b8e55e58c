/- What ReadGrid computes: the pins of a drawn grid, by track and by angle; no condition. -/
import Derived.Test.YthgllpocljeegaaGreatDoorSortedP
import Derived.Test.YthgllpocljeegaaGreatDoorRowStr
import Derived.Test.YthgllpocljeegaaGreatDoorBuildCylinder
namespace Go.Proofs.YthgllpocljeegaaGreatDoor
open Go.RowKit

def byS (s : ByteArray) (k : Nat) : Int := ((s.data.toList.getD k 0).toNat : Int)
theorem byS_eq {s : ByteArray} {k : Nat} (h : k < s.size) : byS s k = (s[k].toNat : Int) := by
  have h2 : k < s.data.toList.length := by simpa using h
  unfold byS
  rw [List.getD_eq_getElem?_getD, List.getElem?_eq_getElem h2, Option.getD_some]
  simp
  rfl
def okB (b : Int) : Bool := decide (b = 120 ∨ b = 46)
def okG (S : Nat) (L : List ByteArray) (n : Nat) : Bool := (List.range n).all fun t => decide ((gS L t).size = S) && (List.range S).all fun a => okB (byS (gS L t) a)
theorem okG_iff {S : Nat} {L : List ByteArray} {n : Nat} : okG S L n = true ↔ ∀ t, t < n → (gS L t).size = S ∧ ∀ a, a < S → okB (byS (gS L t) a) = true := by
  simp [okG, List.all_eq_true]
theorem okG_no {S : Nat} {L : List ByteArray} {n t : Nat} (ht : t < n) (h : (gS L t).size ≠ S) : okG S L n = false := by
  cases q : okG S L n with
  | false => rfl
  | true => exact absurd (okG_iff.1 q t ht).1 h
theorem okG_no2 {S : Nat} {L : List ByteArray} {n t a : Nat} (ht : t < n) (ha : a < S) (h : okB (byS (gS L t) a) = false) : okG S L n = false := by
  cases q : okG S L n with
  | false => rfl
  | true => rw [(okG_iff.1 q t ht).2 a ha] at h; cases h
def rowP (s : ByteArray) (t : Nat) : Nat → List (Int × Int)
  | 0 => []
  | a + 1 => if byS s a = 120 then rowP s t a ++ [((t : Int), (a : Int))] else rowP s t a
def iP (S : Nat) (L : List ByteArray) : Nat → List (Int × Int)
  | 0 => []
  | t + 1 => iP S L t ++ rowP (gS L t) t S
def colP (L : List ByteArray) (a : Nat) : Nat → List (Int × Int)
  | 0 => []
  | t + 1 => if byS (gS L t) a = 120 then colP L a t ++ [((t : Int), (a : Int))] else colP L a t
def sP (L : List ByteArray) (n : Nat) : Nat → List (Int × Int)
  | 0 => []
  | a + 1 => sP L n a ++ colP L a n
theorem rowP_yes {s : ByteArray} {t a : Nat} (h : byS s a = 120) : rowP s t (a + 1) = rowP s t a ++ [((t : Int), (a : Int))] := by rw [rowP, if_pos h]
theorem rowP_no {s : ByteArray} {t a : Nat} (h : ¬ byS s a = 120) : rowP s t (a + 1) = rowP s t a := by rw [rowP, if_neg h]
theorem colP_yes {L : List ByteArray} {t a : Nat} (h : byS (gS L t) a = 120) : colP L a (t + 1) = colP L a t ++ [((t : Int), (a : Int))] := by rw [colP, if_pos h]
theorem colP_no {L : List ByteArray} {t a : Nat} (h : ¬ byS (gS L t) a = 120) : colP L a (t + 1) = colP L a t := by rw [colP, if_neg h]
theorem rowP_len (s : ByteArray) (t a : Nat) : (rowP s t a).length ≤ a := by
  induction a with
  | zero => simp [rowP]
  | succ a ih => rw [rowP]; split <;> (try simp only [List.length_append, List.length_singleton]) <;> omega
theorem colP_len (L : List ByteArray) (a t : Nat) : (colP L a t).length ≤ t := by
  induction t with
  | zero => simp [colP]
  | succ t ih => rw [colP]; split <;> (try simp only [List.length_append, List.length_singleton]) <;> omega
theorem iP_len (S : Nat) (L : List ByteArray) (t : Nat) : (iP S L t).length ≤ t * S := by
  induction t with
  | zero => simp [iP]
  | succ t ih => rw [iP, List.length_append, Nat.succ_mul]; have := rowP_len (gS L t) t S; omega
theorem sP_len (L : List ByteArray) (n a : Nat) : (sP L n a).length ≤ a * n := by
  induction a with
  | zero => simp [sP]
  | succ a ih => rw [sP, List.length_append, Nat.succ_mul]; have := colP_len L a n; omega
theorem rowP_mem {s : ByteArray} {t n : Nat} {p : Int × Int} : p ∈ rowP s t n ↔ ∃ a, a < n ∧ byS s a = 120 ∧ p = ((t : Int), (a : Int)) := by
  induction n with
  | zero => simp [rowP]
  | succ n ih =>
    rw [rowP]
    split
    · rename_i h
      rw [List.mem_append, ih, List.mem_singleton]
      constructor
      · rintro (⟨a, ha, q⟩ | rfl)
        · exact ⟨a, by omega, q⟩
        · exact ⟨n, by omega, h, rfl⟩
      · rintro ⟨a, ha, q, rfl⟩
        by_cases e : a = n
        · subst e; exact .inr rfl
        · exact .inl ⟨a, by omega, q, rfl⟩
    · rename_i h
      rw [ih]
      constructor
      · rintro ⟨a, ha, q⟩
        exact ⟨a, by omega, q⟩
      · rintro ⟨a, ha, q, e⟩
        by_cases e2 : a = n
        · subst e2; exact absurd q h
        · exact ⟨a, by omega, q, e⟩
theorem colP_mem {L : List ByteArray} {a n : Nat} {p : Int × Int} : p ∈ colP L a n ↔ ∃ t, t < n ∧ byS (gS L t) a = 120 ∧ p = ((t : Int), (a : Int)) := by
  induction n with
  | zero => simp [colP]
  | succ n ih =>
    rw [colP]
    split
    · rename_i h
      rw [List.mem_append, ih, List.mem_singleton]
      constructor
      · rintro (⟨t, ha, q⟩ | rfl)
        · exact ⟨t, by omega, q⟩
        · exact ⟨n, by omega, h, rfl⟩
      · rintro ⟨t, ha, q, rfl⟩
        by_cases e : t = n
        · subst e; exact .inr rfl
        · exact .inl ⟨t, by omega, q, rfl⟩
    · rename_i h
      rw [ih]
      constructor
      · rintro ⟨t, ha, q⟩
        exact ⟨t, by omega, q⟩
      · rintro ⟨t, ha, q, e⟩
        by_cases e2 : t = n
        · subst e2; exact absurd q h
        · exact ⟨t, by omega, q, e⟩
theorem iP_mem {S : Nat} {L : List ByteArray} {n : Nat} {p : Int × Int} : p ∈ iP S L n ↔ ∃ t, t < n ∧ ∃ a, a < S ∧ byS (gS L t) a = 120 ∧ p = ((t : Int), (a : Int)) := by
  induction n with
  | zero => simp [iP]
  | succ n ih =>
    rw [iP, List.mem_append, ih, rowP_mem]
    constructor
    · rintro (⟨t, ha, q⟩ | q)
      · exact ⟨t, by omega, q⟩
      · exact ⟨n, by omega, q⟩
    · rintro ⟨t, ha, q⟩
      by_cases e : t = n
      · subst e; exact .inr q
      · exact .inl ⟨t, by omega, q⟩
theorem sP_mem {L : List ByteArray} {n S : Nat} {p : Int × Int} : p ∈ sP L n S ↔ ∃ a, a < S ∧ ∃ t, t < n ∧ byS (gS L t) a = 120 ∧ p = ((t : Int), (a : Int)) := by
  induction S with
  | zero => simp [sP]
  | succ S ih =>
    rw [sP, List.mem_append, ih, colP_mem]
    constructor
    · rintro (⟨t, ha, q⟩ | q)
      · exact ⟨t, by omega, q⟩
      · exact ⟨S, by omega, q⟩
    · rintro ⟨t, ha, q⟩
      by_cases e : t = S
      · subst e; exact .inr q
      · exact .inl ⟨t, by omega, q⟩
theorem rowP_nd (s : ByteArray) (t n : Nat) : (rowP s t n).Nodup := by
  induction n with
  | zero => simp [rowP]
  | succ n ih =>
    rw [rowP]
    split
    · refine List.nodup_append.2 ⟨ih, by simp, ?_⟩
      intro x hx y hy e
      subst e
      rw [List.mem_singleton] at hy
      obtain ⟨a, ha, _, rfl⟩ := rowP_mem.1 hx
      have := congrArg Prod.snd hy
      simp at this
      omega
    · exact ih
theorem iP_nd (S : Nat) (L : List ByteArray) (n : Nat) : (iP S L n).Nodup := by
  induction n with
  | zero => simp [iP]
  | succ n ih =>
    rw [iP]
    refine List.nodup_append.2 ⟨ih, rowP_nd _ _ _, ?_⟩
    intro x hx y hy e
    subst e
    obtain ⟨t, ht, a, _, _, rfl⟩ := iP_mem.1 hx
    obtain ⟨a', _, _, e⟩ := rowP_mem.1 hy
    have := congrArg Prod.fst e
    simp at this
    omega
theorem colP_pw (L : List ByteArray) (a n : Nat) : (colP L a n).Pairwise fun x y => ltP x y = true := by
  induction n with
  | zero => simp [colP]
  | succ n ih =>
    rw [colP]
    split
    · refine List.pairwise_append.2 ⟨ih, by simp, ?_⟩
      intro x hx y hy
      rw [List.mem_singleton] at hy
      subst hy
      obtain ⟨t, ht, _, rfl⟩ := colP_mem.1 hx
      rw [ltP_iff]
      show (a : Int) < a ∨ (a : Int) = a ∧ (t : Int) < n
      omega
    · exact ih
theorem sP_pw (L : List ByteArray) (n S : Nat) : (sP L n S).Pairwise fun x y => ltP x y = true := by
  induction S with
  | zero => simp [sP]
  | succ S ih =>
    rw [sP]
    refine List.pairwise_append.2 ⟨ih, colP_pw _ _ _, ?_⟩
    intro x hx y hy
    obtain ⟨a, ha, t, _, _, rfl⟩ := sP_mem.1 hx
    obtain ⟨t', _, _, rfl⟩ := colP_mem.1 hy
    rw [ltP_iff]
    show (a : Int) < S ∨ (a : Int) = S ∧ (t : Int) < t'
    omega
theorem srt_iP (S : Nat) (L : List ByteArray) (n : Nat) : srtP (iP S L n) = sP L n S := by
  refine srt_eq ordP (sP_pw L n S) fun x => ?_
  rw [sP_mem, iP_mem]
  constructor
  · rintro ⟨a, ha, t, ht, q⟩; exact ⟨t, ht, a, ha, q⟩
  · rintro ⟨t, ht, a, ha, q⟩; exact ⟨a, ha, t, ht, q⟩
def rgB (L : List ByteArray) : Bool := inB L.length 1 100 && inB (gS L 0).size 4 96 && okG (gS L 0).size L L.length && cylB (gS L 0).size L.length (sP L L.length (gS L 0).size)
def rgS (L : List ByteArray) : Int := if rgB L then (gS L 0).size else 0
def rgT (L : List ByteArray) : Int := if rgB L then L.length else 0
def rgL (L : List ByteArray) : List (Int × Int) := if rgB L then sP L L.length (gS L 0).size else []
theorem rgL_len (L : List ByteArray) : (rgL L).length ≤ 1048576 := by
  unfold rgL
  cases h : rgB L with
  | false => simp
  | true =>
    simp only [rgB, Bool.and_eq_true, inB_iff] at h
    have h1 := sP_len L L.length (gS L 0).size
    have h2 : (gS L 0).size * L.length ≤ 96 * 100 := Nat.mul_le_mul (by omega) (by omega)
    simp only [if_true]
    omega
def NewCylB (n r : Int) (l : List (Int × Int)) (b : Bool) (w : World) (en : Ending) (w' : World) : Prop :=
  ∃ A c, en = .returned (.tuple #[.agg #[.int .i64 n, .int .i64 r, .slice A l.length c], .bool b]) ∧ w'.ownsRow w.heap.size 44 2 (.slice A l.length c) l.length (cP l) ∧ Below w.heap.size w w'
theorem okB_120 : okB 120 = true := by decide
theorem okB_46 : okB 46 = true := by decide
theorem okB_no {b : Int} (h1 : ¬ b = 120) (h2 : ¬ b = 46) : okB b = false := by simp [okB, h1, h2]
end Go.Proofs.YthgllpocljeegaaGreatDoor
