/- A Cylinder in a block of the call's own, whose slice grows; no condition. -/
import Derived.Test.YthgllpocljeegaaGreatDoorAppPin
namespace Go.Proofs.YthgllpocljeegaaGreatDoor
open Go.RowKit

structure CylinderSt (w0 : World) (D : Nat) (wr : World) (n r : Int) (v : Value) (L : List (Int × Int)) : Prop where
  bel : Below D w0 wr
  dl : D < wr.heap.size
  d0 : wr.cell? ⟨D, 0, none⟩ = some (.int .i64 n)
  d1 : wr.cell? ⟨D, 1, none⟩ = some (.int .i64 r)
  dv : wr.cell? ⟨D, 2, none⟩ = some v
  fv : wr.frozen? ⟨D, 2, none⟩ = false
  ow : wr.ownsRow (D + 1) 44 2 v L.length (cP L)

section
variable {w0 wr w2 : World} {D : Nat} {n r : Int} {v v' : Value} {L : List (Int × Int)}
theorem CylinderSt.step (h : CylinderSt w0 D wr n r v L) (b : Below wr.heap.size wr w2) : CylinderSt w0 D w2 n r v L :=
  ⟨h.bel.trans (b.mono (Nat.le_of_lt h.dl)), Nat.lt_of_lt_of_le h.dl b.size, (b.cell (p := ⟨D, 0, none⟩) h.dl).trans h.d0, (b.cell (p := ⟨D, 1, none⟩) h.dl).trans h.d1, (b.cell (p := ⟨D, 2, none⟩) h.dl).trans h.dv, (b.frozen (p := ⟨D, 2, none⟩) h.dl).trans h.fv, own_bl h.ow b⟩
theorem CylinderSt.app (h : CylinderSt w0 D wr n r v L) (y : Int × Int) (b : Below (D + 1) wr w2) (ow : w2.ownsRow (D + 1) 44 2 v' (L ++ [y]).length (cP (L ++ [y]))) : CylinderSt w0 D (w2.setCell ⟨D, 2, none⟩ v') n r v' (L ++ [y]) := by
  have hlt : D < D + 1 := by omega
  have c := fun k => b.cell (p := ⟨D, k, none⟩) hlt
  refine ⟨(h.bel.trans (b.mono (by omega))).setCell (Nat.le_refl _) _, by simpa using Nat.lt_of_lt_of_le h.dl b.size, (World.cell?_setCell_other _ _ _ _ (by simp)).trans ((c 0).trans h.d0), (World.cell?_setCell_other _ _ _ _ (by simp)).trans ((c 1).trans h.d1), World.cell?_setCell_same _ _ _ ((c 2).trans h.dv), ?_, ownsRow_setCell_below ow hlt _⟩
  have := (b.frozen (p := ⟨D, 2, none⟩) hlt).trans h.fv
  simpa [go_sem] using this
theorem CylinderSt.mk0 {w1 : World} (hD : w1.heap.size = D) : CylinderSt (w1.alloc (.cells #[.int .i64 n, .int .i64 r, .slice none 0 0] 31)) D (w1.alloc (.cells #[.int .i64 n, .int .i64 r, .slice none 0 0] 31)) n r (.slice none 0 0) [] := by
  subst hD
  exact ⟨Below.refl _ _, by simp, by simp [go_sem], by simp [go_sem], by simp [go_sem], by simp [go_sem], World.ownsRow_nil _ _ _ _⟩
end
end Go.Proofs.YthgllpocljeegaaGreatDoor
