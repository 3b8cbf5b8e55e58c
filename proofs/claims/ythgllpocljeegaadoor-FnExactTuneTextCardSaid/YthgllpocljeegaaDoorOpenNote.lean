/- A law's argument of type []Note, opened; no condition. -/
import Derived.Test.YthgllpocljeegaaDoorOpenRows
import Derived.Test.YthgllpocljeegaaDoorRowNote
namespace Go.Proofs.YthgllpocljeegaaDoor
open Go.ChangeShapes Go.WideShapes Go.ChangeAt Go.RowKit Go.Joins Go.Deep

section
variable {H : Type} {enc : TypeId × Value → H} {w : World} {base : Nat} {spare : Nat → Bool} {held : Bool} {r : Reach} {b0 : Nat} {v : Value} {d : DataW H} {p : List MemPlace}
set_option maxRecDepth 100000 in
theorem one_NoteR {n : Nat} {c : Value} {y : DataW H × List MemPlace} (hf : DataW.trod enc Tryd.prog w base spare held n 28 [c] = some y) : ∃ l : List (Int × Int), RdN w c l := by
  rcases open_slice_fields Tryd.underlying28 Tryd.underlying23 (by kernel_rfl) (by kernel_rfl) hf with ⟨hcs, _⟩ | ⟨a, len, cap, m, D, Pl, hcs, _, hlc, hcm, hm, _, hi⟩
  · obtain rfl : c = _ := by simpa using hcs
    exact ⟨[], by exact Rd.nil w 2⟩
  · obtain rfl : c = _ := by simpa using hcs
    have hlm : len ≤ m := by rw [hm]; split <;> omega
    have H : ∀ i, i < len → ∃ x : Int × Int, w.cell? (a.add (i * 2 + 0)) = some (.int .i64 x.1) ∧ w.cell? (a.add (i * 2 + 1)) = some (.int .i64 x.2) := by
      intro i hil
      obtain ⟨ys, n', _, _, _, hf⟩ := hi i (by omega)
      obtain ⟨v0, y0, k0, _, t0⟩ := hf 0 _ rfl
      obtain ⟨x0, rfl, _⟩ := one_int t0
      obtain ⟨v1, y1, k1, _, t1⟩ := hf 1 _ rfl
      obtain ⟨x1, rfl, _⟩ := one_int t1
      exact ⟨(x0, x1), k0, k1⟩
    obtain ⟨l, hl, hp⟩ := exists_list len H
    subst hl
    refine ⟨l, by rw [cN_len], _, _, rfl, hlc, hcm, fun h => by simp at h, fun hn => ?_⟩
    have h0 := (hp 0 hn).1
    rw [Nat.zero_mul] at h0
    obtain ⟨hx, hb⟩ := flat_spot h0
    refine ⟨a.block, a.off, by rw [← hx], hb, fun j u hu => ?_⟩
    have hj : j < l.length * 2 := by
      rcases Nat.lt_or_ge j (cN l).length with h | h
      · rw [cN_len] at h; exact h
      · rw [List.getElem?_eq_none h] at hu; cases hu
    have hk : j / 2 < l.length := by omega
    have hh := hp (j / 2) hk
    rw [hx, add_flat, add_flat] at hh
    have hr : j = j / 2 * 2 + 0 ∨ j = j / 2 * 2 + 1 := by omega
    rcases hr with hr | hr
    · rw [hr, cN_get0 hk, gN_eq hk] at hu
      rw [hr, ← hu]
      exact hh.1
    · rw [hr, cN_get1 hk, gN_eq hk] at hu
      rw [hr, ← hu]
      exact hh.2
set_option maxRecDepth 100000 in
theorem open_NoteR (hv : Value.okWide Tryd.prog w r b0 28 v) (h : DataW.Trod enc Tryd.prog w base spare held 28 v d p) : ∃ l : List (Int × Int), RdN w v l := by
  obtain ⟨a, len, cap, rfl⟩ := okWide_slice Tryd.underlying28 hv
  obtain ⟨fuel, hf⟩ := h
  exact one_NoteR hf
end
end Go.Proofs.YthgllpocljeegaaDoor
