/- The drawn strips; lengths up to 2^20. -/
import Derived.Test.YtbcmidencifcoaaDrawTune
import Derived.Test.YtbcmidencifcoaaStrips0
namespace Go.Proofs.Ytbcmidencifcoaa
open Go.RowKit

def DrawnStrip (w : World) (en : Ending) (w' : World) : Prop :=
  ∃ (n : Int) (l : List (Int × Int)) (A : Option Addr) (c : Nat), en = .returned (.agg #[.int .i64 n, .slice A l.length c]) ∧ drS n l ∧ w'.ownsRow w.heap.size 62 2 (.slice A l.length c) l.length (cN l) ∧ Below w.heap.size w w'
def DrawnStripC (w0 : World) (cb : Nat) (v : Value) (L : List Int) (w : World) (en : Ending) (w' : World) : Prop :=
  ∃ (n : Int) (l : List (Int × Int)) (A : Option Addr) (c : Nat), en = .returned (.agg #[.int .i64 n, .slice A l.length c]) ∧ drS n l ∧ w'.ownsRow w.heap.size 62 2 (.slice A l.length c) l.length (cN l) ∧ Cur w0 w' cb v L ∧ w.grownBy w' (some cb)
set_option maxHeartbeats 3200000 in
set_option maxRecDepth 100000 in
theorem l27Strip_any (w0 : World) (cb : Nat) (v : Value) (L : List Int) (w : World) (h0 : RdB w0 v L) (hl : L.length ≤ 1048576) (hc : Cur w0 w cb v L) :
    Calls Try.prog 69 #[.pointer (some ⟨cb, 0, none⟩)] w (DrawnStripC w0 cb v L w) := by
  have hcl := hc.lt
  have hc1 : Cur w0 (w.alloc (.cells #[.int .i64 0, .slice none 0 0] 34)) cb v L := hc.blk (bl_alloc (Below.refl _ _) _) hcl
  have ga : w.grownBy (w.alloc (.cells #[.int .i64 0, .slice none 0 0] 34)) (some cb) := gr_bl (World.grownBy.refl _ _) (bl_alloc (Below.refl _ _) _) (Nat.le_refl _)
  go_enter Try.func69, Try.ntmps69
  go_wp2_with fail
  refine (l02Tune_any _ _ _ _ _ h0 hl hc1).mono ?_
  rintro e w1 ⟨l, A, c, rfl, l11, ho, hd, ow1, hc2, g1⟩
  go_wp2_with fail
  refine (below_any _ _ _ _ _ _ h0 hl hc2).mono ?_
  rintro e w2 ⟨x, ⟨x0, x1⟩, rfl, hc3, g2⟩
  have x1 := x1 (by omega)
  have s1 := g1.size
  simp only [World.size_alloc] at s1
  have ow2 := own_draw ow1 g2 (by simp; omega)
  have g12 := gr_tr g1 g2
  obtain ⟨k1, f1, z1⟩ := gr_keeps g12
  have q0 : w2.cell? ⟨w.heap.size, 0, none⟩ = some (.int .i64 0) := (k1 _ _ (by simp) (by omega)).trans (by simp [go_sem])
  have q1 : w2.cell? ⟨w.heap.size, 1, none⟩ = some (.slice none 0 0) := (k1 _ _ (by simp) (by omega)).trans (by simp [go_sem])
  have p0 : w2.frozen? ⟨w.heap.size, 0, none⟩ = false := (f1 _ _ (by simp) (by omega)).trans (by simp [go_sem])
  have p1 : w2.frozen? ⟨w.heap.size, 1, none⟩ = false := (f1 _ _ (by simp) (by omega)).trans (by simp [go_sem])
  have gg := gr_tr ga g12
  clear k1 f1 z1 g1 g2 g12 ga hc hc1 hc2 ow1
  go_wp2
  refine bodyPost_ret (v := .agg #[.int .i64 (16 + x), .slice A l.length c]) (by simp [results, Try.results69, go_sem, q0, q1]) rfl ?_
  have bs : Below w.heap.size w2 ((w2.setCell ⟨w.heap.size, 0, none⟩ (.int .i64 (16 + x))).setCell ⟨w.heap.size, 1, none⟩ (.slice A l.length c)) := ((Below.refl w.heap.size _).setCell (p := ⟨w.heap.size, 0, none⟩) (Nat.le_refl _) _).setCell (p := ⟨w.heap.size, 1, none⟩) (Nat.le_refl _) _
  have os := ownsRow_setCell_below (ownsRow_setCell_below ow2 (a := ⟨w.heap.size, 0, none⟩) (by simp) (.int .i64 (16 + x))) (a := ⟨w.heap.size, 1, none⟩) (by simp) (.slice A l.length c)
  exact ⟨16 + x, l, A, c, rfl, ⟨by omega, l11, ho, fun y hy => hd y hy⟩, own_lo os (by simp), hc3.blk bs hcl, gr_bl gg bs (Nat.le_refl _)⟩
set_option maxHeartbeats 3200000 in
set_option maxRecDepth 100000 in
theorem drawStrip_any (v : Value) (L : List Int) (w : World) (h0 : RdB w v L) (hl : L.length ≤ 1048576) : Calls Try.prog 49 #[v] w (DrawnStrip w) := by
  go_enter Try.func49, Try.ntmps49
  have h0a : RdB (w.alloc (.cells #[.int .i64 0, .slice none 0 0] 34)) v L := h0.bl (bl_alloc (Below.refl _ _) _)
  go_wp2_with fail
  refine (new_any _ _ _ h0a hl).mono ?_
  rintro e w1 ⟨rfl, hc1⟩
  simp only [World.size_alloc] at hc1
  go_wp2_with fail
  refine (l27Strip_any _ _ _ _ _ h0a hl hc1).mono ?_
  rintro e w3 ⟨n, l, A, c, rfl, hd, ow, hc3, g3⟩
  have b3 := hc3.bel
  have q0 : w3.cell? ⟨w.heap.size, 0, none⟩ = some (.int .i64 0) := (b3.cell (p := ⟨w.heap.size, 0, none⟩) (by simp)).trans (by simp [go_sem])
  have q1 : w3.cell? ⟨w.heap.size, 1, none⟩ = some (.slice none 0 0) := (b3.cell (p := ⟨w.heap.size, 1, none⟩) (by simp)).trans (by simp [go_sem])
  have p0 : w3.frozen? ⟨w.heap.size, 0, none⟩ = false := (b3.frozen (p := ⟨w.heap.size, 0, none⟩) (by simp)).trans (by simp [go_sem])
  have p1 : w3.frozen? ⟨w.heap.size, 1, none⟩ = false := (b3.frozen (p := ⟨w.heap.size, 1, none⟩) (by simp)).trans (by simp [go_sem])
  have sz := hc1.bel.size
  simp only [World.size_alloc] at sz
  have HD := Lib.hid hd
  clear hd
  go_wp2
  refine bodyPost_ret (v := .agg #[.int .i64 n, .slice A l.length c]) (by simp [results, Try.results49, go_sem, q0, q1]) rfl ?_
  have bs : Below w.heap.size w3 ((w3.setCell ⟨w.heap.size, 0, none⟩ (.int .i64 n)).setCell ⟨w.heap.size, 1, none⟩ (.slice A l.length c)) := ((Below.refl w.heap.size _).setCell (p := ⟨w.heap.size, 0, none⟩) (Nat.le_refl _) _).setCell (p := ⟨w.heap.size, 1, none⟩) (Nat.le_refl _) _
  have os := ownsRow_setCell_below (ownsRow_setCell_below ow (a := ⟨w.heap.size, 0, none⟩) (by simp; omega) (.int .i64 n)) (a := ⟨w.heap.size, 1, none⟩) (by simp; omega) (.slice A l.length c)
  exact ⟨n, l, A, c, rfl, HD.out, own_lo os (by omega), ((bl_alloc (Below.refl _ _) _).trans (b3.mono (by simp))).trans bs⟩
end Go.Proofs.Ytbcmidencifcoaa
