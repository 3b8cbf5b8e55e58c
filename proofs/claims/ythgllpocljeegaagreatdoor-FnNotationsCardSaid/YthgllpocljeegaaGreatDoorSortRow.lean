/- A row of the call's own behind slices.SortFunc; no condition. -/
import Derived.Test.YthgllpocljeegaaGreatDoorData
import Derived.Shelf.SlSortCmp.WholeK
namespace Go.Proofs.YthgllpocljeegaaGreatDoor
open Go.RowKit Go.Shelf Go.Lib
open Go.Sort (grow flatK get_flatK size_flatK HoldsK onCells putCells ahead grow_grow)

theorem flatMap_get {α : Type} (enc : α → List Value) (k : Nat) (h0 : 0 < k) (hk : ∀ x, (enc x).length = k) (l : List α) : ∀ t, (l.flatMap enc)[t]? = (l[t / k]?).bind (fun x => (enc x)[t % k]?) := by
  induction l with
  | nil => intro t; simp
  | cons x l ih =>
    intro t
    rw [List.flatMap_cons]
    by_cases h : t < k
    · rw [List.getElem?_append_left (by rw [hk]; exact h), Nat.div_eq_of_lt h, Nat.mod_eq_of_lt h]
      simp
    · have e1 : t / k = (t - k) / k + 1 := by rw [← Nat.add_div_right _ h0]; congr 1; omega
      have e2 : t % k = (t - k) % k := by rw [← Nat.add_mod_right (t - k) k]; congr 1; omega
      rw [List.getElem?_append_right (by rw [hk]; omega), hk, ih, e1, e2, List.getElem?_cons_succ]
theorem flat_len {α : Type} (enc : α → List Value) (k : Nat) (hk : ∀ x, (enc x).length = k) (l : List α) : (l.flatMap enc).length = l.length * k := by
  induction l with
  | nil => simp
  | cons x l ih => rw [List.flatMap_cons, List.length_append, ih, hk, List.length_cons, Nat.add_mul]; omega
theorem flat_get {α : Type} [Inhabited α] (enc : α → List Value) (k : Nat) (h0 : 0 < k) (hk : ∀ x, (enc x).length = k) (d : Array α) (t : Nat) (ht : t < d.size * k) : (d.toList.flatMap enc)[t]? = some ((flatK enc k d)[t]!) := by
  have hq : t / k < d.size := by rw [Nat.div_lt_iff_lt_mul h0]; exact ht
  have hm : t % k < k := Nat.mod_lt _ h0
  rw [get_flatK _ _ _ _ ht, flatMap_get enc k h0 hk, Array.getElem?_toList, Array.getElem?_eq_getElem hq, Option.bind_some]
  rw [getElem!_pos d _ hq, getElem!_pos _ _ (by rw [hk]; exact hm), List.getElem?_eq_getElem]
/-- what the sort holds, read off a row of the call's own -/
theorem holds_own {α : Type} [Inhabited α] {enc : α → List Value} {k : Nat} (h0 : 0 < k) (hk : ∀ x, (enc x).length = k) {w : World} {lo blk c : Nat} {e : TypeId} {d : Array α}
    (h : w.ownsRow lo e k (.slice (some ⟨blk, 0, none⟩) d.size c) d.size (d.toList.flatMap enc)) : HoldsK enc k w blk 0 d := by
  intro j hj
  rw [size_flatK] at hj
  refine ⟨?_, h.frozenAt (0 + j)⟩
  rw [Nat.zero_add, h.cellAt j hj, flat_get enc k h0 hk d j hj]
  rfl
/-- .. and the row behind it -/
theorem own_sorted {α : Type} [Inhabited α] {enc : α → List Value} {k : Nat} (h0 : 0 < k) (hk : ∀ x, (enc x).length = k) {w : World} {lo blk c n : Nat} {e : TypeId} {xs : List Value} {d' : Array α} {os : Array Obj} {m : Nat} (hm : d'.size = m)
    (h : w.ownsRow lo e k (.slice (some ⟨blk, 0, none⟩) m c) m xs) : (sortWorldK enc k w blk 0 n d' os).ownsRow lo e k (.slice (some ⟨blk, 0, none⟩) m c) m (d'.toList.flatMap enc) ∧ Below lo w (sortWorldK enc k w blk 0 n d' os) := by
  obtain ⟨hl, hv | ⟨g, cap, cur, hv, hlo, hg, hnc, hcm, hcs, htake⟩⟩ := h
  · simp at hv
  obtain ⟨rfl, _, rfl⟩ : blk = g ∧ m = m ∧ c = cap := by simpa using hv
  have hb : blk < w.heap.size := (Array.getElem?_eq_some_iff.1 hg).1
  have hF : (flatK enc k d').size = m * k := by rw [size_flatK, hm]
  have hheap : (sortWorldK enc k w blk 0 n d' os).heap = w.heap.modify blk (onCells (putCells id 0 (flatK enc k d'))) ++ os := rfl
  have hmk : m * k ≤ c * k := Nat.mul_le_mul_right k hnc
  refine ⟨⟨by rw [flat_len enc k hk]; simp [hm], .inr ⟨blk, c, putCells id 0 (flatK enc k d') cur, rfl, hlo, ?_, hnc, hcm, ?_, ?_⟩⟩, ?_⟩
  · rw [hheap, Array.getElem?_append_left (by simpa using hb), Array.getElem?_modify, if_pos rfl, hg]
    rfl
  · simp [putCells, hcs]
  · apply List.ext_getElem?
    intro t
    by_cases ht : t < m * k
    · rw [List.getElem?_take, if_pos ht, flat_get enc k h0 hk d' t (by rw [hm]; exact ht)]
      simp only [putCells, Array.getElem?_toList, Array.getElem?_mapIdx]
      rw [Array.getElem?_eq_getElem (by omega)]
      simp [hF, ht]
    · rw [List.getElem?_eq_none (by simp; omega), List.getElem?_eq_none (by rw [flat_len enc k hk]; simp [hm]; omega)]
  · refine ⟨rfl, rfl, rfl, ?_, fun i hi => ?_⟩
    · rw [hheap]; simp
    · rw [hheap, Array.getElem?_append_left (by simp; omega), Array.getElem?_modify, if_neg (by omega)]
end Go.Proofs.YthgllpocljeegaaGreatDoor
