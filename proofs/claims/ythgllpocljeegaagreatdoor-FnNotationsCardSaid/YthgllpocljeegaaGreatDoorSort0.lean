/- Sorting by insertion, each element once; no condition. -/
import Derived.Test.YthgllpocljeegaaGreatDoorBase
namespace Go.Proofs.YthgllpocljeegaaGreatDoor
/-! sorting by insertion, for an order that is given as a Bool -/
section
variable {α : Type}
/-- the order is strict and total -/
structure SOrd (lt : α → α → Bool) : Prop where
  irr : ∀ a, lt a a = false
  trans : ∀ a b c, lt a b = true → lt b c = true → lt a c = true
  tot : ∀ a b, lt a b = false → a ≠ b → lt b a = true
variable {lt : α → α → Bool}
/-- two rising lists with the same elements are the same -/
theorem pw_eq (o : SOrd lt) : ∀ (l m : List α), l.Pairwise (fun a b => lt a b = true) → m.Pairwise (fun a b => lt a b = true) → (∀ x, x ∈ l ↔ x ∈ m) → l = m := by
  intro l
  induction l with
  | nil =>
    intro m _ _ h
    cases m with
    | nil => rfl
    | cons y m => have := (h y).2 (by simp); simp at this
  | cons x l ih =>
    intro m hl hm h
    cases m with
    | nil => have := (h x).1 (by simp); simp at this
    | cons y m =>
      rw [List.pairwise_cons] at hl hm
      have e : x = y := by
        rcases List.mem_cons.1 ((h x).1 (by simp)) with e | hx
        · exact e
        · rcases List.mem_cons.1 ((h y).2 (by simp)) with e | hy
          · exact e.symm
          · have a := hm.1 x hx
            have b := hl.1 y hy
            have := o.trans _ _ _ a b
            rw [o.irr] at this; cases this
      subst e
      congr 1
      refine ih m hl.2 hm.2 fun z => ?_
      have hz := h z
      rw [List.mem_cons, List.mem_cons] at hz
      constructor
      · intro hin
        rcases hz.1 (.inr hin) with e | h'
        · subst e; have := hl.1 _ hin; rw [o.irr] at this; cases this
        · exact h'
      · intro hin
        rcases hz.2 (.inr hin) with e | h'
        · subst e; have := hm.1 _ hin; rw [o.irr] at this; cases this
        · exact h'
theorem pw_nodup (o : SOrd lt) {l : List α} (h : l.Pairwise (fun a b => lt a b = true)) : l.Nodup := h.imp (fun {a b} hab e => by subst e; rw [o.irr] at hab; cases hab)
end
section
variable {α : Type} [DecidableEq α] (lt : α → α → Bool)
/-- x put in at its place, if it is not there -/
def insF (x : α) : List α → List α
  | [] => [x]
  | y :: l => if lt y x then y :: insF x l else if y = x then y :: l else x :: y :: l
def srtF (l : List α) : List α := l.foldl (fun a x => insF lt x a) []
variable {lt}
theorem insF_at {x : α} : ∀ (l : List α) (n : Nat), n ≤ l.length → (∀ j (h : j < l.length), j < n → lt l[j] x = true) → (∀ h : n < l.length, lt l[n] x = false) →
    insF lt x l = if h : n < l.length then (if l[n] = x then l else l.take n ++ x :: l.drop n) else l ++ [x] := by
  intro l
  induction l with
  | nil => intro n hn _ _; simp [insF]
  | cons y l ih =>
    intro n hn h1 h2
    cases n with
    | zero =>
      have h3 : lt y x = false := h2 (by simp)
      simp [insF, h3]
    | succ n =>
      have h3 : lt y x = true := h1 0 (by simp) (by omega)
      have := ih n (by simpa using hn) (fun j h hj => h1 (j + 1) (by simpa using h) (by omega)) (fun h => h2 (by simpa using h))
      simp only [insF, h3, if_true, this, List.length_cons, Nat.add_lt_add_iff_right, List.getElem_cons_succ]
      split
      · split <;> simp
      · simp
theorem insF_mem {x y : α} {l : List α} : y ∈ insF lt x l ↔ y = x ∨ y ∈ l := by
  induction l with
  | nil => simp [insF]
  | cons z l ih =>
    unfold insF
    split
    · simp only [List.mem_cons, ih]
      exact ⟨fun h => by rcases h with h | h | h <;> simp [h], fun h => by rcases h with h | h | h <;> simp [h]⟩
    · split
      · rename_i h; subst h
        simp
      · simp
theorem insF_len {x : α} {l : List α} : (insF lt x l).length ≤ l.length + 1 := by
  induction l with
  | nil => simp [insF]
  | cons z l ih =>
    unfold insF
    split
    · simp; omega
    · split <;> simp
theorem insF_pw (o : SOrd lt) {x : α} {l : List α} (h : l.Pairwise (fun a b => lt a b = true)) : (insF lt x l).Pairwise (fun a b => lt a b = true) := by
  induction l with
  | nil => simp [insF]
  | cons z l ih =>
    rw [List.pairwise_cons] at h
    unfold insF
    split
    · rename_i hz
      rw [List.pairwise_cons]
      refine ⟨fun a ha => ?_, ih h.2⟩
      rcases insF_mem.1 ha with rfl | ha
      · exact hz
      · exact h.1 a ha
    · rename_i hz
      split
      · exact List.pairwise_cons.2 h
      · rename_i hne
        have hx : lt x z = true := o.tot z x (by simpa using hz) hne
        refine List.pairwise_cons.2 ⟨fun a ha => ?_, List.pairwise_cons.2 h⟩
        rcases List.mem_cons.1 ha with rfl | ha
        · exact hx
        · exact o.trans _ _ _ hx (h.1 a ha)
theorem srt_snoc (l : List α) (x : α) : srtF lt (l ++ [x]) = insF lt x (srtF lt l) := by simp [srtF]
theorem fold_mem {y : α} (l a : List α) : y ∈ l.foldl (fun a x => insF lt x a) a ↔ y ∈ a ∨ y ∈ l := by
  induction l generalizing a with
  | nil => simp
  | cons z l ih =>
    rw [List.foldl_cons, ih, insF_mem, List.mem_cons]
    exact ⟨fun h => by rcases h with (h | h) | h <;> simp [h], fun h => by rcases h with h | h | h <;> simp [h]⟩
theorem srt_mem {y : α} {l : List α} : y ∈ srtF lt l ↔ y ∈ l := by simp [srtF, fold_mem]
theorem fold_pw (o : SOrd lt) (l a : List α) (h : a.Pairwise (fun a b => lt a b = true)) : (l.foldl (fun a x => insF lt x a) a).Pairwise (fun a b => lt a b = true) := by
  induction l generalizing a with
  | nil => exact h
  | cons z l ih => exact ih _ (insF_pw o h)
theorem srt_pw (o : SOrd lt) (l : List α) : (srtF lt l).Pairwise (fun a b => lt a b = true) := fold_pw o l [] List.Pairwise.nil
theorem fold_len (l a : List α) : (l.foldl (fun a x => insF lt x a) a).length ≤ a.length + l.length := by
  induction l generalizing a with
  | nil => simp
  | cons z l ih =>
    rw [List.foldl_cons, List.length_cons]
    have := ih (insF lt z a)
    have h2 := insF_len (lt := lt) (x := z) (l := a)
    omega
theorem srt_len (l : List α) : (srtF lt l).length ≤ l.length := by
  have := fold_len (lt := lt) l []
  simpa [srtF] using this
theorem srt_eq (o : SOrd lt) {l m : List α} (h : m.Pairwise (fun a b => lt a b = true)) (hm : ∀ x, x ∈ m ↔ x ∈ l) : srtF lt l = m :=
  pw_eq o _ _ (srt_pw o l) h fun x => by rw [srt_mem, hm]
end
end Go.Proofs.YthgllpocljeegaaGreatDoor
