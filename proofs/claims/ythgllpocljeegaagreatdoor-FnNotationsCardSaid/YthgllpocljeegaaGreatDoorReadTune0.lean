/- What ReadTune answers, in plain words; no condition. -/
import Derived.Test.YthgllpocljeegaaGreatDoorReadNote
import Derived.Test.YthgllpocljeegaaGreatDoorTune
namespace Go.Proofs.YthgllpocljeegaaGreatDoor
open Go.RowKit

/-- the note of piece k -/
def wkN (P : List (List UInt8)) (k : Nat) : Int × Int := (((rnN (P.getD k [])).1 : Int), ((rnN (P.getD k [])).2 : Int))
def wsN (P : List (List UInt8)) : Nat → List (Int × Int)
  | 0 => []
  | k + 1 => wsN P k ++ [wkN P k]
def wsB (P : List (List UInt8)) : Nat → Bool
  | 0 => true
  | k + 1 => wsB P k && rnB (P.getD k [])
theorem wsN_len (P : List (List UInt8)) (k : Nat) : (wsN P k).length = k := by
  induction k with
  | zero => rfl
  | succ k ih => rw [wsN, List.length_append, ih]; rfl
theorem wsB_at {P : List (List UInt8)} {n k : Nat} (h : wsB P n = true) (hk : k < n) : rnB (P.getD k []) = true := by
  induction n with
  | zero => omega
  | succ n ih =>
    rw [wsB, Bool.and_eq_true] at h
    by_cases e : k = n
    · rw [e]; exact h.2
    · exact ih h.1 (by omega)
theorem wsB_no {P : List (List UInt8)} {n k : Nat} (hk : k < n) (h : rnB (P.getD k []) = false) : wsB P n = false := by
  cases hb : wsB P n with
  | false => rfl
  | true => rw [wsB_at hb hk] at h; cases h
def rtB (L : List UInt8) : Bool := if L = [] then true else wsB (spl 32 L) (spl 32 L).length && tuneB (wsN (spl 32 L) (spl 32 L).length)
def rtL (L : List UInt8) : List (Int × Int) := if L = [] then [] else if rtB L then wsN (spl 32 L) (spl 32 L).length else []
theorem rt_nil : rtB [] = true ∧ rtL [] = [] := by simp [rtB, rtL]
theorem rt_no {L : List UInt8} (h0 : L ≠ []) (h : wsB (spl 32 L) (spl 32 L).length = false ∨ tuneB (wsN (spl 32 L) (spl 32 L).length) = false) : rtB L = false ∧ rtL L = [] := by
  have : rtB L = false := by
    rw [rtB, if_neg h0]
    rcases h with h | h <;> simp [h]
  simp [rtL, h0, this]
theorem rt_yes {L : List UInt8} (h0 : L ≠ []) (h1 : wsB (spl 32 L) (spl 32 L).length = true) (h2 : tuneB (wsN (spl 32 L) (spl 32 L).length) = true) : rtB L = true ∧ rtL L = wsN (spl 32 L) (spl 32 L).length := by
  have : rtB L = true := by rw [rtB, if_neg h0, h1, h2]; rfl
  simp [rtL, h0, this]
theorem inter_len {c : UInt8} {P : List (List UInt8)} {n : Nat} (h : ∀ k, k < P.length → (P.getD k []).length ≤ n) : ([c].intercalate P).length ≤ (n + 1) * P.length := by
  induction P with
  | nil => simp [List.intercalate]
  | cons a r ih =>
    have h0 : a.length ≤ n := h 0 (by simp)
    have ih := ih (fun k hk => by have := h (k + 1) (by simpa using hk); simpa using this)
    cases r with
    | nil => simp [List.intercalate]; omega
    | cons b r =>
      rw [List.intercalate_cons_cons, List.length_append, List.length_append]
      simp only [List.length_cons, List.length_nil] at *
      rw [Nat.mul_add (n + 1) (r.length + 1) 1]
      omega
theorem rt_long {L : List UInt8} (h : 400 < L.length) : rtB L = false ∧ rtL L = [] := by
  have h0 : L ≠ [] := fun e => by rw [e] at h; simp at h
  refine rt_no h0 ?_
  cases h1 : wsB (spl 32 L) (spl 32 L).length with
  | false => exact .inl rfl
  | true =>
    refine .inr ?_
    cases h2 : tuneB (wsN (spl 32 L) (spl 32 L).length) with
    | false => rfl
    | true =>
      exfalso
      have h3 := (tuneB_iff h2).1
      rw [wsN_len] at h3
      have h4 := inter_len (c := 32) (P := spl 32 L) (n := 7) (fun k hk => by
        have := wsB_at h1 hk
        unfold rnB at this
        cases hr : rnF ((spl 32 L).getD k []) with
        | none => rw [hr] at this; cases this
        | some x =>
          obtain ⟨t, p⟩ := x
          obtain ⟨hb, he⟩ := rnF_some.1 hr
          rw [he]
          exact ntL_len hb)
      rw [spl_join] at h4
      omega
theorem inter_ge {c : UInt8} {P : List (List UInt8)} (h : ∀ k, k < P.length → 1 ≤ (P.getD k []).length) : 2 * P.length ≤ ([c].intercalate P).length + 1 := by
  induction P with
  | nil => simp [List.intercalate]
  | cons a r ih =>
    have h0 : 1 ≤ a.length := h 0 (by simp)
    have ih := ih (fun k hk => by have := h (k + 1) (by simpa using hk); simpa using this)
    cases r with
    | nil => simp [List.intercalate]; omega
    | cons b r =>
      rw [List.intercalate_cons_cons, List.length_append, List.length_append]
      simp only [List.length_cons, List.length_nil] at *
      omega
theorem rt_cnt {L : List UInt8} (h : wsB (spl 32 L) (spl 32 L).length = true) : 2 * (spl 32 L).length ≤ L.length + 1 := by
  have h4 := inter_ge (c := 32) (P := spl 32 L) (fun k hk => by
    have := wsB_at h hk
    unfold rnB at this
    cases hr : rnF ((spl 32 L).getD k []) with
    | none => rw [hr] at this; cases this
    | some x =>
      obtain ⟨t, p⟩ := x
      obtain ⟨hb, he⟩ := rnF_some.1 hr
      rw [he, ntL]
      simp
      omega)
  rw [spl_join] at h4
  exact h4
theorem spl_len (c : UInt8) (l : List UInt8) : (spl c l).length ≤ l.length + 1 := by
  induction l with
  | nil => simp [spl]
  | cons b r ih =>
    have hp := spl_pos c r
    unfold spl
    split
    · simp; omega
    · match hq : spl c r with
      | [] => simp
      | x :: xs => rw [hq] at ih; simp at ih ⊢; omega
theorem gS_map (P : List (List UInt8)) {k : Nat} (h : k < P.length) : gS (P.map baL) k = baL (P.getD k []) := by
  rw [gS_eq (by simpa using h)]
  simp [h]
theorem piece_len (L : List UInt8) {k : Nat} (h : k < (spl 32 L).length) : ((spl 32 L).getD k []).length ≤ L.length := by
  have h1 := spl_join 32 L
  have h2 : ∀ (P : List (List UInt8)) (k : Nat), k < P.length → (P.getD k []).length ≤ ([32].intercalate P : List UInt8).length := by
    intro P
    induction P with
    | nil => intro k hk; simp at hk
    | cons a r ih =>
      intro k hk
      cases r with
      | nil =>
        obtain rfl : k = 0 := by simpa using hk
        simp [List.intercalate]
      | cons b r =>
        rw [List.intercalate_cons_cons, List.length_append, List.length_append]
        cases k with
        | zero => simp; omega
        | succ k =>
          have := ih k (by simpa using hk)
          simp only [List.getD_cons_succ] at this ⊢
          omega
  have := h2 _ k h
  rw [h1] at this
  exact this
def NewNB (l : List (Int × Int)) (b : Bool) (w : World) (en : Ending) (w' : World) : Prop :=
  ∃ A c, en = .returned (.tuple #[.slice A l.length c, .bool b]) ∧ w'.ownsRow w.heap.size 38 2 (.slice A l.length c) l.length (cN l) ∧ Below w.heap.size w w'
end Go.Proofs.YthgllpocljeegaaGreatDoor
