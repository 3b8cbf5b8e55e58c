/- A law's argument of type []Entry or Entry, opened; no condition. -/
import Derived.Test.YtighmoedkknkoaaOpenNote
import Derived.Test.YtighmoedkknkoaaRowEntry
namespace Go.Proofs.Ytighmoedkknkoaa
open Go.ChangeShapes Go.WideShapes Go.ChangeAt Go.RowKit Go.Joins Go.Deep

section
variable {H : Type} {enc : TypeId × Value → H} {w : World} {base : Nat} {spare : Nat → Bool} {held : Bool} {r : Reach} {b0 : Nat} {v : Value} {d : DataW H} {p : List MemPlace}
set_option maxRecDepth 100000 in
theorem one_EntryR {n : Nat} {c : Value} {y : DataW H × List MemPlace} (hf : DataW.trod enc Try.prog w base spare held n 22 [c] = some y) : ∃ l : List En, RdE w c l ∧ ∀ j, j < l.length → (gE l j).1.size ≤ maxLen := by
  rcases open_slice_fields Try.underlying22 Try.underlying36 (by kernel_rfl) (by kernel_rfl) hf with ⟨hcs, _⟩ | ⟨a, len, cap, m, D, Pl, hcs, _, hlc, hcm, hm, _, hi⟩
  · obtain rfl : c = _ := by simpa using hcs
    exact ⟨[], ⟨[], ⟨rfl, fun k hk => by simp at hk⟩, by exact Rd.nil w 2⟩, fun j hj => by simp at hj⟩
  · obtain rfl : c = _ := by simpa using hcs
    have hlm : len ≤ m := by rw [hm]; split <;> omega
    have H : ∀ i, i < len → ∃ x : ByteArray × Value × List (Int × Int), w.cell? (a.add (i * 2 + 0)) = some (.string x.1) ∧ w.cell? (a.add (i * 2 + 1)) = some x.2.1 ∧ RdN w x.2.1 x.2.2 ∧ x.1.size ≤ maxLen := by
      intro i hil
      obtain ⟨ys, n', _, _, _, hf⟩ := hi i (by omega)
      obtain ⟨v0, y0, k0, _, t0⟩ := hf 0 _ rfl
      obtain ⟨x0, hx0, _, hs0⟩ := DataW.trod_string Try.underlying9 t0
      obtain rfl : v0 = .string x0 := by simpa using hx0
      obtain ⟨v1, y1, k1, _, t1⟩ := hf 1 _ rfl
      obtain ⟨x1, hx1⟩ := one_NoteR t1
      exact ⟨(x0, v1, x1), k0, k1, hx1, hs0⟩
    obtain ⟨xs, hl, hp⟩ := exists_list len H
    subst hl
    have g1 : ∀ k (h : k < xs.length), gT (xs.map fun x => (x.1, x.2.1)) k = (xs[k].1, xs[k].2.1) := fun k h => by rw [gT_eq (by simpa using h), List.getElem_map]
    have g2 : ∀ k (h : k < xs.length), gE (xs.map fun x => (x.1, x.2.2)) k = (xs[k].1, xs[k].2.2) := fun k h => by rw [gE_eq (by simpa using h), List.getElem_map]
    have hll : (xs.map fun x => (x.1, x.2.2)).length = xs.length := List.length_map _
    refine ⟨xs.map fun x => (x.1, x.2.2), ⟨xs.map fun x => (x.1, x.2.1), ⟨by simp, fun k hk => ?_⟩, by rw [cE_len, hll, List.length_map], _, _, by rw [hll], by rw [hll]; exact hlc, hcm, fun h => by simp at h, fun hn => ?_⟩, fun j hj => ?_⟩
    · rw [hll] at hk
      rw [g1 k hk, g2 k hk]
      exact ⟨rfl, (hp k hk).2.2.1⟩
    · rw [hll] at hn
      have h0 := (hp 0 hn).1
      rw [Nat.zero_mul] at h0
      obtain ⟨hx, hb⟩ := flat_spot h0
      refine ⟨a.block, a.off, by rw [← hx], hb, fun j u hu => ?_⟩
      have hj : j < xs.length * 2 := by
        rcases Nat.lt_or_ge j (cE (xs.map fun x => (x.1, x.2.1))).length with h | h
        · rw [cE_len, List.length_map] at h; exact h
        · rw [List.getElem?_eq_none h] at hu; cases hu
      have hk : j / 2 < xs.length := by omega
      have hh := hp (j / 2) hk
      rw [hx, add_flat, add_flat] at hh
      have hr : j = j / 2 * 2 + 0 ∨ j = j / 2 * 2 + 1 := by omega
      rcases hr with hr | hr
      · rw [hr, cE_get0 (by simpa using hk), g1 _ hk] at hu
        rw [hr, ← hu]
        exact hh.1
      · rw [hr, cE_get1 (by simpa using hk), g1 _ hk] at hu
        rw [hr, ← hu]
        exact hh.2.1
    · rw [hll] at hj
      rw [g2 j hj]
      exact (hp j hj).2.2.2
set_option maxRecDepth 100000 in
theorem open_EntryR (hv : Value.okWide Try.prog w r b0 22 v) (h : DataW.Trod enc Try.prog w base spare held 22 v d p) : ∃ l : List En, RdE w v l ∧ ∀ j, j < l.length → (gE l j).1.size ≤ maxLen := by
  obtain ⟨a, len, cap, rfl⟩ := okWide_slice Try.underlying22 hv
  obtain ⟨fuel, hf⟩ := h
  exact one_EntryR hf
set_option maxRecDepth 100000 in
theorem open_Entry (hv : Value.okWide Try.prog w r b0 36 v) (h : DataW.Trod enc Try.prog w base spare held 36 v d p) : ∃ (x : ByteArray) (y : Value) (l : List (Int × Int)), v = .agg #[.string x, y] ∧ RdN w y l ∧ x.size ≤ maxLen := by
  obtain ⟨c0, c1, y0, y1, m, rfl, _, _, h0, h1⟩ := open_agg2 Try.underlying36 (by kernel_rfl) (by kernel_rfl) hv h
  obtain ⟨x0, hx0, _, hs0⟩ := DataW.trod_string Try.underlying9 h0
  obtain rfl : c0 = .string x0 := by simpa using hx0
  obtain ⟨l, hl⟩ := one_NoteR h1
  exact ⟨x0, c1, l, rfl, hl, hs0⟩
end
end Go.Proofs.Ytighmoedkknkoaa
