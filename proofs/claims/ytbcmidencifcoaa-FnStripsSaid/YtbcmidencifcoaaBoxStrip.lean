/- A Strip in a block of the call's own, whose slice grows; no condition. -/
import Derived.Test.YtbcmidencifcoaaAppNote
namespace Go.Proofs.Ytbcmidencifcoaa
open Go.RowKit

theorem own_setN {w : World} {lo : Nat} {e : TypeId} {s n : Nat} {v : Value} {xs : List Value} (h : w.ownsRow lo e s v n xs) {a : Addr} (hne : v.ownBlock ≠ some a.block) (u : Value) : (w.setCell a u).ownsRow lo e s v n xs :=
  h.kept (row := some a.block) ⟨rfl, rfl, rfl, by simp, fun k _ hk => Below.heap_setCell _ _ _ _ (fun e => hk (by rw [e]))⟩ (.inr hne)
structure StripBx (w0 : World) (B D : Nat) (wr : World) (n : Int) (v : Value) (L : List (Int × Int)) : Prop where
  bel : Below B w0 wr
  hB : B ≤ D
  dl : D < wr.heap.size
  d0 : wr.cell? ⟨D, 0, none⟩ = some (.int .i64 n)
  dv : wr.cell? ⟨D, 1, none⟩ = some v
  fv : wr.frozen? ⟨D, 1, none⟩ = false
  ow : wr.ownsRow B 62 2 v L.length (cN L)
  nD : v.ownBlock ≠ some D

section
variable {w0 wr w2 : World} {B D : Nat} {n : Int} {v v' : Value} {L : List (Int × Int)}
theorem StripBx.step (h : StripBx w0 B D wr n v L) (b : Below wr.heap.size wr w2) : StripBx w0 B D w2 n v L :=
  ⟨h.bel.trans (b.mono (Nat.le_trans h.hB (Nat.le_of_lt h.dl))), h.hB, Nat.lt_of_lt_of_le h.dl b.size, (b.cell (p := ⟨D, 0, none⟩) h.dl).trans h.d0, (b.cell (p := ⟨D, 1, none⟩) h.dl).trans h.dv, (b.frozen (p := ⟨D, 1, none⟩) h.dl).trans h.fv, own_bl h.ow b, h.nD⟩
/-- a row (not in D, not this one) has grown -/
theorem StripBx.keep (h : StripBx w0 B D wr n v L) {rr : Option Nat} (gr : wr.grownBy w2 rr) (hD : rr ≠ some D) (hv : v.ownBlock = none ∨ v.ownBlock ≠ rr) (hB : ∀ k, rr = some k → B ≤ k) : StripBx w0 B D w2 n v L := by
  have hk : ∀ k, rr = some k → D ≠ k := fun k e e2 => hD (by rw [e, e2])
  exact ⟨h.bel.grown gr (Nat.le_trans h.hB (Nat.le_of_lt h.dl)) hB, h.hB, Nat.lt_of_lt_of_le h.dl gr.size, (cell_grown gr h.dl hk 0).trans h.d0, (cell_grown gr h.dl hk 1).trans h.dv, (World.frozen?_of_block (a := ⟨D, 1, none⟩) (gr.block D h.dl (fun e => hD e.symm))).trans h.fv, h.ow.kept gr hv, h.nD⟩
/-- a cell of another block is stored to -/
theorem StripBx.set (h : StripBx w0 B D wr n v L) {D' j : Nat} {u : Value} (hD : D ≠ D') (hB : B ≤ D') (hv : v.ownBlock ≠ some D') : StripBx w0 B D (wr.setCell ⟨D', j, none⟩ u) n v L :=
  ⟨h.bel.setCell hB _, h.hB, by simpa using h.dl, (World.cell?_of_block (a := ⟨D, 0, none⟩) (Below.heap_setCell wr ⟨D', j, none⟩ u D hD)).trans h.d0, (World.cell?_of_block (a := ⟨D, 1, none⟩) (Below.heap_setCell wr ⟨D', j, none⟩ u D hD)).trans h.dv, (World.frozen?_of_block (a := ⟨D, 1, none⟩) (Below.heap_setCell wr ⟨D', j, none⟩ u D hD)).trans h.fv, own_setN h.ow (a := ⟨D', j, none⟩) hv _, h.nD⟩
/-- what the append left, stored into the struct -/
theorem StripBx.app (h : StripBx w0 B D wr n v L) (y : Int × Int) (gr : wr.grownBy w2 v.ownBlock) (ow : w2.ownsRow B 62 2 v' (L ++ [y]).length (cN (L ++ [y]))) (at2 : v'.ownBlock = v.ownBlock ∨ v'.ownBlock = some wr.heap.size) : StripBx w0 B D (w2.setCell ⟨D, 1, none⟩ v') n v' (L ++ [y]) := by
  have hk : ∀ k, v.ownBlock = some k → D ≠ k := fun k e e2 => h.nD (by rw [e, e2])
  have hn : v'.ownBlock ≠ some D := by
    intro e
    rcases at2 with a | a
    · exact h.nD (a ▸ e)
    · rw [a] at e
      have := h.dl
      cases e
      omega
  have c := fun k => cell_grown gr h.dl hk k
  refine ⟨(h.bel.grown gr (Nat.le_trans h.hB (Nat.le_of_lt h.dl)) (fun k e => (h.ow.lt k e).1)).setCell h.hB _, h.hB, by simpa using Nat.lt_of_lt_of_le h.dl gr.size, (World.cell?_setCell_other _ _ _ _ (by simp)).trans ((c 0).trans h.d0), World.cell?_setCell_same _ _ _ ((c 1).trans h.dv), ?_, own_setN ow (a := ⟨D, 1, none⟩) hn _, hn⟩
  have := (World.frozen?_of_block (a := ⟨D, 1, none⟩) (gr.block D h.dl (fun e => h.nD e.symm))).trans h.fv
  simpa [go_sem] using this
/-- the cell of the slice behind the append -/
theorem StripBx.cellAt (h : StripBx w0 B D wr n v L) (gr : wr.grownBy w2 v.ownBlock) : w2.cell? ⟨D, 1, none⟩ = some v ∧ w2.frozen? ⟨D, 1, none⟩ = false :=
  ⟨(cell_grown gr h.dl (fun k e e2 => h.nD (by rw [e, e2])) 1).trans h.dv, (World.frozen?_of_block (a := ⟨D, 1, none⟩) (gr.block D h.dl (fun e => h.nD e.symm))).trans h.fv⟩
theorem StripBx.mk0 {w1 : World} (hD : w1.heap.size = D) (hB : B ≤ D) : StripBx (w1.alloc (.cells #[.int .i64 n, .slice none 0 0] 34)) B D (w1.alloc (.cells #[.int .i64 n, .slice none 0 0] 34)) n (.slice none 0 0) [] := by
  subst hD
  exact ⟨Below.refl _ _, hB, by simp, by simp [go_sem], by simp [go_sem], by simp [go_sem], World.ownsRow_nil _ _ _ _, by simp [Value.ownBlock]⟩
/-- the struct laid behind the call that made its slice -/
theorem StripBx.new (b : Below B w0 wr) (hB : B ≤ wr.heap.size) {A : Option Addr} {c : Nat} (ow : wr.ownsRow B 62 2 (.slice A L.length c) L.length (cN L)) : StripBx w0 B wr.heap.size (wr.alloc (Obj.cells #[.int .i64 n, .slice A L.length c] 34)) n (.slice A L.length c) L :=
  ⟨b.alloc hB _, hB, by simp, by simp [go_sem], by simp [go_sem], by simp [go_sem], ow.alloc _, fun e => by have := (ow.lt _ e).2; omega⟩
/-- the struct laid ahead of it -/
theorem StripBx.old (b : Below B w0 wr) (hB : B ≤ D) (hd : D < wr.heap.size) {A : Option Addr} {c : Nat} (ow : wr.ownsRow B 62 2 (.slice A L.length c) L.length (cN L)) (hn : (Value.slice A L.length c).ownBlock ≠ some D) (c0 : wr.cell? ⟨D, 0, none⟩ = some (.int .i64 0)) (cn : wr.cell? ⟨D, 1, none⟩ = some (.slice none 0 0)) (fn : wr.frozen? ⟨D, 1, none⟩ = false) : StripBx w0 B D ((wr.setCell ⟨D, 0, none⟩ (.int .i64 n)).setCell ⟨D, 1, none⟩ (.slice A L.length c)) n (.slice A L.length c) L := by
  refine ⟨((b.setCell hB _).setCell hB _), hB, by simpa using hd, (World.cell?_setCell_other _ _ _ _ (by simp)).trans (World.cell?_setCell_same _ _ _ (c0)), World.cell?_setCell_same _ _ _ ((World.cell?_setCell_other _ _ _ _ (by simp)).trans (cn)), by simpa [go_sem] using fn, own_setN (own_setN (ow) (a := ⟨D, 0, none⟩) hn _) (a := ⟨D, 1, none⟩) hn _, hn⟩
/-- a made struct in slot s, a bool in slot q -/
def StripMade (W : World) (n : Int) (L : List (Int × Int)) (Q : Bool) (s q : Value) (wx : World) : Prop :=
  ∃ D A c, s = .pointer (some ⟨D, 0, none⟩) ∧ q = .bool Q ∧ StripBx W W.heap.size D wx n (.slice A L.length c) L
end
end Go.Proofs.Ytbcmidencifcoaa
