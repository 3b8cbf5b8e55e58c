/- DrawCylinder: what it returns. -/
import Derived.Test.YthgllpocljeegaaGreatDoorDrawCyl
namespace Go.Proofs.YthgllpocljeegaaGreatDoor
open Go.RowKit Go.Sort

def DrawnCyl (w : World) (en : Ending) (w' : World) : Prop :=
  ∃ (n r : Int) (l : List (Int × Int)) (A : Option Addr) (c : Nat), en = .returned (.agg #[.int .i64 n, .int .i64 r, .slice A l.length c]) ∧ (4 ≤ n ∧ n ≤ 24) ∧ (1 ≤ r ∧ r ≤ 8) ∧ l.length ≤ 9 ∧ DrP n r l ∧ w'.ownsRow w.heap.size 44 2 (.slice A l.length c) l.length (cP l) ∧ Below w.heap.size w w'
set_option maxHeartbeats 3200000 in
set_option maxRecDepth 100000 in
theorem drawCyl_any (v : Value) (L : List Int) (w : World) (h0 : RdB w v L) (hl : L.length ≤ 1048576) : Calls Tryz.prog 8 #[v] w (DrawnCyl w) := by
  go_enter Tryz.func8, Tryz.ntmps8
  have h0a : RdB (w.alloc (.cells #[.int .i64 0, .int .i64 0, .slice none 0 0] 31)) v L := h0.bl (bl_alloc (Below.refl _ _) _)
  go_wp2_with fail
  refine (new_any _ _ _ h0a hl).mono ?_
  rintro e w1 ⟨rfl, hc1⟩
  simp only [World.size_alloc] at hc1
  go_wp2_with fail
  refine (l06Cylinder_any _ _ _ _ _ h0a hl hc1).mono ?_
  rintro e w3 ⟨n, r, l, A, c, rfl, hn, hr, hN, hd, ow, hc3, g3⟩
  have HN := Lib.hid hN
  clear hN
  have b3 := hc3.bel
  have q0 : w3.cell? ⟨w.heap.size, 0, none⟩ = some (.int .i64 0) := (b3.cell (p := ⟨w.heap.size, 0, none⟩) (by simp)).trans (by simp [go_sem])
  have q1 : w3.cell? ⟨w.heap.size, 1, none⟩ = some (.int .i64 0) := (b3.cell (p := ⟨w.heap.size, 1, none⟩) (by simp)).trans (by simp [go_sem])
  have q2 : w3.cell? ⟨w.heap.size, 2, none⟩ = some (.slice none 0 0) := (b3.cell (p := ⟨w.heap.size, 2, none⟩) (by simp)).trans (by simp [go_sem])
  have p0 : w3.frozen? ⟨w.heap.size, 0, none⟩ = false := (b3.frozen (p := ⟨w.heap.size, 0, none⟩) (by simp)).trans (by simp [go_sem])
  have p1 : w3.frozen? ⟨w.heap.size, 1, none⟩ = false := (b3.frozen (p := ⟨w.heap.size, 1, none⟩) (by simp)).trans (by simp [go_sem])
  have p2 : w3.frozen? ⟨w.heap.size, 2, none⟩ = false := (b3.frozen (p := ⟨w.heap.size, 2, none⟩) (by simp)).trans (by simp [go_sem])
  have sz := hc1.bel.size
  simp only [World.size_alloc] at sz
  go_wp2
  refine bodyPost_ret (v := .agg #[.int .i64 n, .int .i64 r, .slice A l.length c]) (by simp [results, Tryz.results8, go_sem, q0, q1, q2]) rfl ?_
  have bs : Below w.heap.size w3 (((w3.setCell ⟨w.heap.size, 0, none⟩ (.int .i64 n)).setCell ⟨w.heap.size, 1, none⟩ (.int .i64 r)).setCell ⟨w.heap.size, 2, none⟩ (.slice A l.length c)) := (((Below.refl w.heap.size _).setCell (p := ⟨w.heap.size, 0, none⟩) (Nat.le_refl _) _).setCell (p := ⟨w.heap.size, 1, none⟩) (Nat.le_refl _) _).setCell (p := ⟨w.heap.size, 2, none⟩) (Nat.le_refl _) _
  have os := ownsRow_setCell_below (ownsRow_setCell_below (ownsRow_setCell_below ow (a := ⟨w.heap.size, 0, none⟩) (by simp; omega) (.int .i64 n)) (a := ⟨w.heap.size, 1, none⟩) (by simp; omega) (.int .i64 r)) (a := ⟨w.heap.size, 2, none⟩) (by simp; omega) (.slice A l.length c)
  exact ⟨n, r, l, A, c, rfl, hn, hr, HN.out, hd, own_lo os (by omega), ((bl_alloc (Below.refl _ _) _).trans (b3.mono (by simp))).trans bs⟩
end Go.Proofs.YthgllpocljeegaaGreatDoor
