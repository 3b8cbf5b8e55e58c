/- A struct of one int and one slice of ints in a block of the call's own, whose slice grows by draws; no condition. -/
import Derived.Test.YtoijjjaodfincaaDraw2
import Derived.Deep.RegionLaw
namespace Go.Proofs.Ytoijjjaodfincaa
open Go.RowKit

theorem gr_bl {a w w' : World} {r : Option Nat} {B : Nat} (h : a.grownBy w r) (b : Below B w w') (hB : a.heap.size ≤ B) : a.grownBy w' r :=
  ⟨b.os.trans h.os, b.tape.trans h.tape, b.output.trans h.output, Nat.le_trans h.size b.size, fun i hi hn => (b.block i (by omega)).trans (h.block i hi hn)⟩
theorem rdI_box {w : World} {x : Int} {e : TypeId} {g : Nat} (hg : w.heap.size = g) : RdI (w.alloc (.cells #[.int .i64 x] e)) (.slice (some ⟨g, 0, none⟩) 1 1) [x] := by
  subst hg
  refine ⟨by simp [cI], some ⟨w.heap.size, 0, none⟩, 1, rfl, by simp, by unfold maxLen; omega, fun h => by simp at h, fun _ => ⟨w.heap.size, 0, rfl, by simp, fun j u hj => ?_⟩⟩
  match j, hj with
  | 0, hj => simp [cI] at hj; subst hj; simp [go_sem]
/-- block R: the result's, untouched; block D: the int n and the slice v (cells j and i); all else but cb's block is as it was in w -/
structure BoxSt (w : World) (cb R D i j : Nat) (wr : World) (n : Int) (v : Value) (L : List Int) : Prop where
  gg : w.grownBy wr (some cb)
  hc : cb < w.heap.size
  hR : w.heap.size ≤ R
  hD : R < D
  dl : D < wr.heap.size
  dv : wr.cell? ⟨D, i, none⟩ = some v
  dn : wr.cell? ⟨D, j, none⟩ = some (.int .i64 n)
  df : wr.frozen? ⟨D, i, none⟩ = false
  rv : wr.cell? ⟨R, i, none⟩ = some (.slice none 0 0)
  rn : wr.cell? ⟨R, j, none⟩ = some (.int .i64 0)
  rf : wr.frozen? ⟨R, i, none⟩ = false
  rg : wr.frozen? ⟨R, j, none⟩ = false
  ow : wr.ownsRow (D + 1) 3 1 v L.length (cI L)
section
variable {w wr w2 : World} {cb R D i j : Nat} {n : Int} {v v' : Value} {L : List Int}
theorem BoxSt.step (h : BoxSt w cb R D i j wr n v L) (b : Below wr.heap.size wr w2) : BoxSt w cb R D i j w2 n v L := by
  obtain ⟨gg, hc, hR, hD, dl, dv, dn, df, rv, rn, rf, rg, ow⟩ := h
  have rl : R < wr.heap.size := by omega
  exact ⟨gr_bl gg b gg.size, hc, hR, hD, Nat.lt_of_lt_of_le dl b.size, (b.cell (p := ⟨D, i, none⟩) dl).trans dv, (b.cell (p := ⟨D, j, none⟩) dl).trans dn, (b.frozen (p := ⟨D, i, none⟩) dl).trans df,
    (b.cell (p := ⟨R, i, none⟩) rl).trans rv, (b.cell (p := ⟨R, j, none⟩) rl).trans rn, (b.frozen (p := ⟨R, i, none⟩) rl).trans rf, (b.frozen (p := ⟨R, j, none⟩) rl).trans rg, own_bl ow b⟩
theorem BoxSt.draw (h : BoxSt w cb R D i j wr n v L) (g : wr.grownBy w2 (some cb)) : BoxSt w cb R D i j w2 n v L := by
  obtain ⟨gg, hc, hR, hD, dl, dv, dn, df, rv, rn, rf, rg, ow⟩ := h
  have rl : R < wr.heap.size := by omega
  obtain ⟨k, f, z⟩ := gr_keeps g
  exact ⟨gr_tr gg g, hc, hR, hD, z _ dl, (k D i dl (by omega)).trans dv, (k D j dl (by omega)).trans dn, (f D i dl (by omega)).trans df, (k R i rl (by omega)).trans rv, (k R j rl (by omega)).trans rn, (f R i rl (by omega)).trans rf, (f R j rl (by omega)).trans rg, own_draw ow g (by omega)⟩
theorem BoxSt.app (h : BoxSt w cb R D i j wr n v L) (hij : i ≠ j) (y : Int) (b : Below (D + 1) wr w2) (ow : w2.ownsRow (D + 1) 3 1 v' (L ++ [y]).length (cI (L ++ [y]))) : BoxSt w cb R D i j (w2.setCell ⟨D, i, none⟩ v') n v' (L ++ [y]) := by
  obtain ⟨gg, hc, hR, hD, dl, dv, dn, df, rv, rn, rf, rg, _⟩ := h
  have lt : D < D + 1 := by omega
  have lr : R < D + 1 := by omega
  have g2 : w.grownBy w2 (some cb) := gr_bl gg b (by omega)
  have bs : Below D w2 (w2.setCell ⟨D, i, none⟩ v') := (Below.refl D w2).setCell (Nat.le_refl _) _
  refine ⟨gr_bl g2 bs (by omega), hc, hR, hD, by simpa using Nat.lt_of_lt_of_le dl b.size, World.cell?_setCell_same _ _ _ ((b.cell (p := ⟨D, i, none⟩) lt).trans dv), ?_, ?_, (bs.cell (p := ⟨R, i, none⟩) hD).trans ((b.cell (p := ⟨R, i, none⟩) lr).trans rv), (bs.cell (p := ⟨R, j, none⟩) hD).trans ((b.cell (p := ⟨R, j, none⟩) lr).trans rn), (bs.frozen (p := ⟨R, i, none⟩) hD).trans ((b.frozen (p := ⟨R, i, none⟩) lr).trans rf), (bs.frozen (p := ⟨R, j, none⟩) hD).trans ((b.frozen (p := ⟨R, j, none⟩) lr).trans rg), ownsRow_setCell_below ow lt _⟩
  · exact (World.cell?_setCell_other _ _ _ _ (by intro e; have := congrArg Addr.off e; simp at this; omega)).trans ((b.cell (p := ⟨D, j, none⟩) lt).trans dn)
  · have := (b.frozen (p := ⟨D, i, none⟩) lt).trans df
    simpa [go_sem] using this
end
theorem Cur.drew {w0 w : World} {cb : Nat} {v : Value} {L : List Int} (h : Cur w0 w cb v L) : Cur w0 w.drew cb v L := h.blk (bl_drew (Below.refl _ _)) h.lt
end Go.Proofs.Ytoijjjaodfincaa
