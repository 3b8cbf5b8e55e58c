/- What a law's row hands over, opened into what the walks ask; no condition. -/
import Derived.Test.YtoijjjaodfincaaData
import Derived.WalkKit
import Derived.ProofKit
import Derived.OpenShut
import Derived.ShutString
import Derived.ChangeOld
import Derived.Below
import Derived.Carry
import Derived.Lib.SmallJoins
namespace Go.Proofs.Ytoijjjaodfincaa
open Go.ChangeShapes Go.WideShapes Go.ChangeAt Go.RowKit Go.Joins

theorem own : ownKnob Try.prog.godebug = none := by kernel_rfl
theorem laidOut : laidOutB Try.prog = true := by kernel_rfl

section
variable {H : Type} {enc : TypeId × Value → H} {w : World} {base : Nat} {spare : Nat → Bool} {held : Bool} {r : Reach} {b0 : Nat} {v : Value} {d : DataW H} {p : List MemPlace}

theorem one_int {n : Nat} {c : Value} {y : DataW H × List MemPlace} (h : DataW.trod enc Try.prog w base spare held n 3 [c] = some y) : ∃ a : Int, c = .int .i64 a ∧ (Lit.int .i64 a).wf = true := by
  obtain ⟨a, e, _, wa⟩ := DataW.trod_int Try.underlying3 h
  simp at e
  exact ⟨a, e, wa⟩

theorem flat_spot {w : World} {x : Addr} {u : Value} (h : w.cell? (x.add 0) = some u) : x = ⟨x.block, x.off, none⟩ ∧ x.block < w.heap.size := by
  have h0 : x.add 0 = x := by simp [Addr.add]
  rw [h0] at h
  have h1 := World.cell?_spot h
  have h2 := World.block_lt_of_cell? w _ h
  obtain ⟨b, o, s⟩ := x
  simp at h1
  subst h1
  exact ⟨rfl, h2⟩
theorem add_flat (b o k : Nat) : (⟨b, o, none⟩ : Addr).add k = ⟨b, o + k, none⟩ := by
  unfold Addr.add
  split <;> simp_all

set_option maxRecDepth 100000 in
theorem one_intR {n : Nat} {c : Value} {y : DataW H × List MemPlace} (hf : DataW.trod enc Try.prog w base spare held n 22 [c] = some y) : ∃ l : List Int, RdI w c l := by
  rcases open_ints Try.underlying22 Try.underlying3 (by kernel_rfl) hf with ⟨hcs, _⟩ | ⟨x, len, c', zs, hcs, _, hl, hm, hz, _, hcell, _⟩
  · obtain rfl : c = _ := by simpa using hcs
    exact ⟨[], by exact Rd.nil w 1⟩
  · obtain rfl : c = _ := by simpa using hcs
    have hlz : len ≤ zs.length := by rw [hz]; split <;> omega
    have hlt : (zs.take len).length = len := by rw [List.length_take]; omega
    refine ⟨zs.take len, ?_⟩
    rw [RdI, hlt]
    refine ⟨by rw [cI_len, hlt, Nat.mul_one], _, _, rfl, hl, hm, fun h => by simp at h, fun hn => ?_⟩
    obtain ⟨hx, hb⟩ := flat_spot (hcell 0 (by omega))
    refine ⟨x.block, x.off, by rw [← hx], hb, fun j u hu => ?_⟩
    have hj : j < (zs.take len).length := by
      rcases Nat.lt_or_ge j (zs.take len).length with h | h
      · exact h
      · rw [List.getElem?_eq_none (by rw [cI_len]; exact h)] at hu; cases hu
    have hjl : j < zs.length := by omega
    have hc := hcell j hjl
    rw [hx, add_flat] at hc
    rw [cI_get hj] at hu
    rw [← hu, hc, gi_eq hj]
    simp [hjl]
set_option maxRecDepth 100000 in
theorem open_intR (hv : Value.okWide Try.prog w r b0 22 v) (h : DataW.Trod enc Try.prog w base spare held 22 v d p) : ∃ l : List Int, RdI w v l := by
  obtain ⟨a, len, cap, rfl⟩ := okWide_slice Try.underlying22 hv
  obtain ⟨fuel, hf⟩ := h
  exact one_intR hf

set_option maxRecDepth 100000 in
theorem open_disc (hv : Value.okWide Try.prog w r b0 24 v) (h : DataW.Trod enc Try.prog w base spare held 24 v d p) : ∃ (x : Int) (y : Value) (l : List Int), v = .agg #[.int .i64 x, y] ∧ RdI w y l := by
  obtain ⟨c0, c1, y0, y1, m, rfl, _, _, h0, h1⟩ := open_agg2 Try.underlying24 (by kernel_rfl) (by kernel_rfl) hv h
  obtain ⟨x, rfl, _⟩ := one_int h0
  obtain ⟨l, hl⟩ := one_intR h1
  exact ⟨x, c1, l, rfl, hl⟩

set_option maxRecDepth 100000 in
theorem open_wear (hv : Value.okWide Try.prog w r b0 38 v) (h : DataW.Trod enc Try.prog w base spare held 38 v d p) : ∃ (x : Int) (y : Value) (l : List Int), v = .agg #[y, .int .i64 x] ∧ RdI w y l := by
  obtain ⟨c0, c1, y0, y1, m, rfl, _, _, h0, h1⟩ := open_agg2 Try.underlying38 (by kernel_rfl) (by kernel_rfl) hv h
  obtain ⟨x, rfl, _⟩ := one_int h1
  obtain ⟨l, hl⟩ := one_intR h0
  exact ⟨x, c0, l, rfl, hl⟩

end
end Go.Proofs.Ytoijjjaodfincaa
