/- A law's argument of type []string, opened; no condition. -/
import Derived.Test.YthgllpocljeegaaOpenRows
import Derived.Test.YthgllpocljeegaaRowStr
namespace Go.Proofs.Ythgllpocljeegaa
open Go.ChangeShapes Go.WideShapes Go.ChangeAt Go.RowKit Go.Joins Go.Deep

section
variable {H : Type} {enc : TypeId × Value → H} {w : World} {base : Nat} {spare : Nat → Bool} {held : Bool} {r : Reach} {b0 : Nat} {v : Value} {d : DataW H} {p : List MemPlace}
set_option maxRecDepth 100000 in
theorem one_StrR {n : Nat} {c : Value} {y : DataW H × List MemPlace} (hf : DataW.trod enc Try.prog w base spare held n 26 [c] = some y) : ∃ l : List ByteArray, RdS w c l ∧ ∀ j, j < l.length → (gS l j).size ≤ maxLen := by
  rcases open_slice Try.underlying26 hf with ⟨hcs, _⟩ | ⟨a, len, cap, m, n', D, Pl, hcs, hb, hlc, hcm, hmm, hx, hi⟩
  · obtain rfl : c = _ := by simpa using hcs
    exact ⟨[], by exact Rd.nil w 1, fun j hj => by simp at hj⟩
  · obtain rfl : c = _ := by simpa using hcs
    have hC : Try.prog.cellsOf 9 = 1 := by kernel_rfl
    have hlm : len ≤ m := by rw [hmm]; split <;> omega
    have H : ∀ i, i < len → ∃ x : ByteArray, w.cell? (a.add i) = some (.string x) ∧ x.size ≤ maxLen := by
      intro i hil
      obtain ⟨cs', hc, ht'⟩ := hi i (by omega)
      rw [hC] at hc
      obtain ⟨x0, hx0, _, hs0⟩ := DataW.trod_string Try.underlying9 ht'
      subst hx0
      obtain ⟨_, hcl, hat⟩ := World.cells?_some hc
      have h := hat 0 (by omega)
      refine ⟨x0, ?_, hs0⟩
      rw [Nat.mul_one] at h
      rw [show (a.add i).add 0 = a.add i by simp [Addr.add]] at h
      simpa using h
    obtain ⟨l, hl, hp⟩ := exists_list len H
    subst hl
    refine ⟨l, ⟨by rw [cS_len, Nat.mul_one], _, _, rfl, hlc, hcm, fun h => by simp at h, fun hn => ?_⟩, fun j hj => by rw [gS_eq hj]; exact (hp j hj).2⟩
    obtain ⟨hx, hb⟩ := flat_spot (hp 0 hn).1
    refine ⟨a.block, a.off, by rw [← hx], hb, fun j u hu => ?_⟩
    have hj : j < l.length := by
      rcases Nat.lt_or_ge j l.length with h | h
      · exact h
      · rw [List.getElem?_eq_none (by rw [cS_len]; exact h)] at hu; cases hu
    have hc := (hp j hj).1
    rw [hx, add_flat] at hc
    rw [cS_get hj, gS_eq hj] at hu
    rw [← hu]
    exact hc
set_option maxRecDepth 100000 in
theorem open_StrR (hv : Value.okWide Try.prog w r b0 26 v) (h : DataW.Trod enc Try.prog w base spare held 26 v d p) : ∃ l : List ByteArray, RdS w v l ∧ ∀ j, j < l.length → (gS l j).size ≤ maxLen := by
  obtain ⟨a, len, cap, rfl⟩ := okWide_slice Try.underlying26 hv
  obtain ⟨fuel, hf⟩ := h
  exact one_StrR hf
end
end Go.Proofs.Ythgllpocljeegaa
