/- A law's argument of type []byte, opened; no condition. -/
import Derived.Test.YthgllpocljeegaaGreatDoorOpen
import Derived.Test.YthgllpocljeegaaGreatDoorDraw
namespace Go.Proofs.YthgllpocljeegaaGreatDoor
open Go.ChangeShapes Go.WideShapes Go.ChangeAt Go.RowKit Go.Joins

section
variable {H : Type} {enc : TypeId × Value → H} {w : World} {base : Nat} {spare : Nat → Bool} {held : Bool} {r : Reach} {b0 : Nat} {v : Value} {d : DataW H} {p : List MemPlace}
theorem cB_len (l : List Int) : (cB l).length = l.length := by simp [cB]
set_option maxRecDepth 100000 in
theorem one_bytesR {n : Nat} {c : Value} {y : DataW H × List MemPlace} (hf : DataW.trod enc Tryz.prog w base spare held n 22 [c] = some y) : ∃ l : List Int, RdB w c l ∧ ∀ x ∈ l, 0 ≤ x ∧ x ≤ 255 := by
  rcases open_ints (k := .u8) Tryz.underlying22 Tryz.underlying5 (by kernel_rfl) hf with ⟨hcs, _⟩ | ⟨x, len, c', zs, hcs, _, hl, hm, hz, _, hcell, hwf⟩
  · obtain rfl : c = _ := by simpa using hcs
    exact ⟨[], by exact Rd.nil w 1, fun x hx => by simp at hx⟩
  · obtain rfl : c = _ := by simpa using hcs
    have hlz : len ≤ zs.length := by rw [hz]; split <;> omega
    have hlt : (zs.take len).length = len := by rw [List.length_take]; omega
    refine ⟨zs.take len, ?_, fun u hu => ?_⟩
    · rw [RdB, hlt]
      refine ⟨by rw [cB_len, hlt, Nat.mul_one], _, _, rfl, hl, hm, fun h => by simp at h, fun hn => ?_⟩
      obtain ⟨hx, hb⟩ := flat_spot (hcell 0 (by omega))
      refine ⟨x.block, x.off, by rw [← hx], hb, fun j u hu => ?_⟩
      have hj : j < (zs.take len).length := by
        rcases Nat.lt_or_ge j (zs.take len).length with h | h
        · exact h
        · rw [List.getElem?_eq_none (by rw [cB_len]; exact h)] at hu; cases hu
      have hjl : j < zs.length := by omega
      have hc := hcell j hjl
      rw [hx, add_flat] at hc
      rw [cB_get hj] at hu
      rw [← hu, hc, gi_eq hj]
      simp [hjl]
    · have h1 := hwf u (List.mem_of_mem_take hu)
      simpa [Lit.wf, IntKind.min, IntKind.max, IntKind.bits, IntKind.signed] using h1
set_option maxRecDepth 100000 in
theorem open_bytesR (hv : Value.okWide Tryz.prog w r b0 22 v) (h : DataW.Trod enc Tryz.prog w base spare held 22 v d p) : ∃ l : List Int, RdB w v l ∧ ∀ x ∈ l, 0 ≤ x ∧ x ≤ 255 := by
  obtain ⟨a, len, cap, rfl⟩ := okWide_slice Tryz.underlying22 hv
  obtain ⟨fuel, hf⟩ := h
  exact one_bytesR hf
end
end Go.Proofs.YthgllpocljeegaaGreatDoor
