/- What StripOf and GlueStrips lean on: a made strip and a bool; cells behind a store. -/
import Derived.Test.YtbcmidencifcoaaStrip
import Derived.Test.YtbcmidencifcoaaBoxStrip
import Derived.Deep.DeepCutAuto
import Derived.Deep.RegionHeld3
namespace Go.Proofs.Ytbcmidencifcoaa
open Go.RowKit

theorem cell_one {w : World} {g j b o : Nat} {u v : Value} (h : w.cell? ⟨b, o, none⟩ = some v) (hne : b ≠ g) : (w.setCell ⟨g, j, none⟩ u).cell? ⟨b, o, none⟩ = some v :=
  (World.cell?_of_block (Below.heap_setCell w ⟨g, j, none⟩ u b hne)).trans h
theorem cell_two {w : World} {g j k b o : Nat} {u u' v : Value} (h : w.cell? ⟨b, o, none⟩ = some v) (hne : b ≠ g) : ((w.setCell ⟨g, j, none⟩ u).setCell ⟨g, k, none⟩ u').cell? ⟨b, o, none⟩ = some v :=
  (World.cell?_of_block (Below.heap_setCell (w.setCell ⟨g, j, none⟩ u) ⟨g, k, none⟩ u' b hne)).trans ((World.cell?_of_block (Below.heap_setCell w ⟨g, j, none⟩ u b hne)).trans h)
def NewStripB (n : Int) (l : List (Int × Int)) (b : Bool) (w : World) (en : Ending) (w' : World) : Prop :=
  ∃ A c, en = .returned (.tuple #[.agg #[.int .i64 n, .slice A l.length c], .bool b]) ∧ w'.ownsRow w.heap.size 62 2 (.slice A l.length c) l.length (cN l) ∧ Below w.heap.size w w'
def GMade (w2 : World) (n : Int) (l : List (Int × Int)) (s : Value) (wx : World) : Prop :=
  ∃ D v, s = .pointer (some ⟨D, 0, none⟩) ∧ StripBx w2 w2.heap.size D wx n v l
theorem bl_undrew {B : Nat} {w w' : World} (b : Below B w.drew w') : Below B w w' := ⟨b.os, b.tape, b.output, b.size, b.block⟩
theorem own_form3 {w : World} {lo : Nat} {e : TypeId} {s n : Nat} {v : Value} {xs : List Value} (h : w.ownsRow lo e s v n xs) : ∃ A m c, v = .slice A m c := by
  obtain ⟨A, c, h⟩ := own_form h
  exact ⟨A, n, c, h⟩
theorem own_formL {w : World} {lo : Nat} {e : TypeId} {s n : Nat} {v : Value} {xs : List Value} (h : w.ownsRow lo e s v n xs) : ∃ A m c, v = .slice A m c ∧ m = n := by
  obtain ⟨A, c, h⟩ := own_form h
  exact ⟨A, n, c, h, rfl⟩
theorem gmade_a {w2 w3 : World} {n : Int} {l : List (Int × Int)} {A : Option Addr} {c : Nat} (ow3 : w3.ownsRow w2.heap.size 62 2 (.slice A l.length c) l.length (cN l)) (b3 : Below w2.heap.size w2 w3) :
    GMade w2 n l (.pointer (some ⟨w3.heap.size, 0, none⟩)) (w3.alloc (Obj.cells #[.int .i64 n, .slice A l.length c] 34)) :=
  ⟨w3.heap.size, .slice A l.length c, rfl, ⟨bl_alloc b3 _, b3.size, by simp, by simp [go_sem], by simp [go_sem], by simp [go_sem], ow3.alloc _, fun e => by have := (ow3.lt _ e).2; omega⟩⟩
theorem gmade_b {w2 w3 : World} {n : Int} {l : List (Int × Int)} {A : Option Addr} {c : Nat} (ow3 : w3.ownsRow (w2.alloc (Obj.cells #[.int .i64 0, .slice none 0 0] 34)).heap.size 62 2 (.slice A l.length c) l.length (cN l)) (b3 : Below (w2.alloc (Obj.cells #[.int .i64 0, .slice none 0 0] 34)).heap.size (w2.alloc (Obj.cells #[.int .i64 0, .slice none 0 0] 34)) w3) :
    GMade w2 n l (.pointer (some ⟨w2.heap.size, 0, none⟩)) ((w3.setCell ⟨w2.heap.size, 0, none⟩ (.int .i64 n)).setCell ⟨w2.heap.size, 1, none⟩ (.slice A l.length c)) := by
  have c0 := (b3.cell (p := ⟨w2.heap.size, 0, none⟩) (by simp)).trans (show _ = some (.int .i64 0) by simp [go_sem])
  have c1 := (b3.cell (p := ⟨w2.heap.size, 1, none⟩) (by simp)).trans (show _ = some (.slice none 0 0) by simp [go_sem])
  have f1 := (b3.frozen (p := ⟨w2.heap.size, 1, none⟩) (by simp)).trans (show _ = false by simp [go_sem])
  have hsz := b3.size
  simp only [World.size_alloc] at hsz
  have hn : (Value.slice A l.length c).ownBlock ≠ some w2.heap.size := fun e => by have := (ow3.lt _ e).1; simp at this; omega
  refine ⟨w2.heap.size, .slice A l.length c, rfl, ⟨bl_set (bl_set (Below.trans ((Below.refl _ _).alloc (Nat.le_refl _) _) (b3.mono (by simp))) (Nat.le_refl _) _) (Nat.le_refl _) _, Nat.le_refl _, by simp; omega, ?_, ?_, ?_, ?_, hn⟩⟩
  · exact (World.cell?_setCell_other _ _ _ _ (by simp)).trans (World.cell?_setCell_same _ _ _ c0)
  · exact World.cell?_setCell_same _ _ _ ((World.cell?_setCell_other _ _ _ _ (by simp)).trans c1)
  · simpa [go_sem] using f1
  · exact own_setN (own_setN (own_lo ow3 (by simp)) (a := ⟨w2.heap.size, 0, none⟩) hn _) (a := ⟨w2.heap.size, 1, none⟩) hn _
theorem gluL_len {n1 n2 : Int} {l1 l2 : List (Int × Int)} : (gluL n1 l1 n2 l2).length ≤ 80 := by
  unfold gluL
  split
  · rename_i h
    simp only [gluB, Bool.and_eq_true] at h
    have h1 := (tuneB_iff (stripB_iff h.1.1).2.1).1
    have h2 := (tuneB_iff (stripB_iff h.1.2).2.1).1
    rw [List.length_append, shN_len]
    omega
  · simp
end Go.Proofs.Ytbcmidencifcoaa
