/- A law's argument of type Strip, opened; no condition. -/
import Derived.Test.YtbcmidencifcoaaOpenNote
import Derived.Test.YtbcmidencifcoaaOpen
namespace Go.Proofs.Ytbcmidencifcoaa
open Go.ChangeShapes Go.WideShapes Go.ChangeAt Go.RowKit Go.Joins Go.Deep

section
variable {H : Type} {enc : TypeId × Value → H} {w : World} {base : Nat} {spare : Nat → Bool} {held : Bool} {r : Reach} {b0 : Nat} {v : Value} {d : DataW H} {p : List MemPlace}
set_option maxRecDepth 100000 in
theorem open_strip (hv : Value.okWide Try.prog w r b0 30 v) (h : DataW.Trod enc Try.prog w base spare held 30 v d p) : ∃ (x : Int) (y : Value) (l : List (Int × Int)), v = .agg #[.int .i64 x, y] ∧ RdN w y l := by
  obtain ⟨c0, c1, y0, y1, m, rfl, _, _, h0, h1⟩ := open_agg2 Try.underlying30 (by kernel_rfl) (by kernel_rfl) hv h
  obtain ⟨x, rfl, _⟩ := one_int h0
  obtain ⟨l, hl⟩ := one_NoteR h1
  exact ⟨x, c1, l, rfl, hl⟩
end
end Go.Proofs.Ytbcmidencifcoaa
