/- A law's argument of type Cylinder, opened; no condition. -/
import Derived.Test.YthgllpocljeegaaOpenPin
import Derived.Test.YthgllpocljeegaaOpen
namespace Go.Proofs.Ythgllpocljeegaa
open Go.ChangeShapes Go.WideShapes Go.ChangeAt Go.RowKit Go.Joins Go.Deep

section
variable {H : Type} {enc : TypeId × Value → H} {w : World} {base : Nat} {spare : Nat → Bool} {held : Bool} {r : Reach} {b0 : Nat} {v : Value} {d : DataW H} {p : List MemPlace}
set_option maxRecDepth 100000 in
theorem open_cylinder (hv : Value.okWide Try.prog w r b0 24 v) (h : DataW.Trod enc Try.prog w base spare held 24 v d p) : ∃ (x z : Int) (y : Value) (l : List (Int × Int)), v = .agg #[.int .i64 x, .int .i64 z, y] ∧ RdP w y l := by
  obtain ⟨c0, c1, c2, y0, y1, y2, m, rfl, _, _, h0, h1, h2⟩ := open_agg3 Try.underlying24 (by kernel_rfl) (by kernel_rfl) hv h
  obtain ⟨x, rfl, _⟩ := one_int h0
  obtain ⟨z, rfl, _⟩ := one_int h1
  obtain ⟨l, hl⟩ := one_PinR h2
  exact ⟨x, z, c2, l, rfl, hl⟩
end
end Go.Proofs.Ythgllpocljeegaa
