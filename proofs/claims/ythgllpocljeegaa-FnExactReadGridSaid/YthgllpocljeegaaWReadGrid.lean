/- FnExactReadGrid: the law returns true at every input; no condition. -/
import Derived.Test.YthgllpocljeegaaReadGridS
import Derived.Test.YthgllpocljeegaaStMCylinder
namespace Go.Proofs.Ythgllpocljeegaa
open Go.RowKit

theorem markStr1_any (lo : Nat) (v : Value) (l : List ByteArray) (w : World) (h1 : w.ownsRow lo 9 1 v l.length (cS l)) (hl : l.length ≤ 1048577) :
    Calls Try.prog 12 #[v, .int .i64 1] w fun e w' => e = .returned (.int .i64 ((1 + l.length : Nat) : Int)) ∧ w'.ownsRow lo 9 1 v l.length (cS (upS 1 l.length)) ∧ w.grownBy w' v.ownBlock :=
  (markStr_any lo v l 1 w h1 hl (by omega) (by omega)).mono (fun _ _ h => h)
theorem heldStr1_any (v : Value) (n : Nat) (w : World) (h1 : Rd w 1 v n (cS (upS 1 n))) (hl : n ≤ 1048577) :
    Calls Try.prog 13 #[v, .int .i64 1] w fun e w' => e = .returned (.int .i64 ((1 + n : Nat) : Int)) ∧ Below w.heap.size w w' :=
  (heldStr_any v n 1 w h1 hl (by omega) (by omega)).mono (fun _ _ h => h)
set_option maxHeartbeats 6400000 in
set_option maxRecDepth 100000 in
theorem readGrid_law (v : Value) (l : List ByteArray) (w : World) (hr : RdS w v l) (hs : ∀ j, j < l.length → (gS l j).size ≤ maxLen) : Calls Try.prog 4 #[v] w fun e w' => e = .returned (.bool true) ∧ Below w.heap.size w w' := by
  by_cases hz : l.length + szS l ≤ 1048576
  · have hl : l.length ≤ 1048576 := by omega
    have hlR := rgL_len l
    have hgi := fun v w h => rgI_any v l w h hl
    have hgs := fun v w h => rgS_any v l w h hl
    generalize rgB l = bq at *
    generalize rgS l = nq at *
    generalize rgT l = rq at *
    generalize rgL l = lq at *
    have hbb : (bq != bq) = false := by simp
    have GI := Lib.hid hgi
    have GS := Lib.hid hgs
    clear hgi hgs
    go_enter Try.func4, Try.ntmps4
    go_wp2_with fail
    refine (szStr_any v l _ _ hr hs (by omega) (by omega)).mono ?_
    rintro e wq ⟨rfl, rfl⟩
    rw [if_neg (by omega)]
    go_wp2_with fail
    refine (toStr_any v l _ (hr.bl (by (repeat' (first | (with_reducible exact Below.refl _ _) | (with_reducible refine bl_alloc ?_ _) | (with_reducible refine bl_drewN ?_ _) | (with_reducible refine bl_drew ?_) | (with_reducible assumption) | (with_reducible refine bl_to ?_ (by assumption)) | (with_reducible refine Below.trans ?_ (by assumption)) | (with_reducible refine Below.trans ?_ (Below.mono (by assumption) ?_)) | (with_reducible refine bl_set ?_ ?_ _) | (simp; done) | (simp; omega) | omega)))) hl).mono ?_
    rintro e w1 ⟨A_t, c_t, rfl, on_t, bb⟩
    obtain ⟨kk, ff, zz⟩ := bcell bb
    have sz1 : w.heap.size ≤ w1.heap.size := bb.size
    have bel : Below w.heap.size w w1 := bl_to (by (repeat' (first | (with_reducible exact Below.refl _ _) | (with_reducible refine bl_alloc ?_ _) | (with_reducible refine bl_drewN ?_ _) | (with_reducible refine bl_drew ?_) | (with_reducible assumption) | (with_reducible refine bl_to ?_ (by assumption)) | (with_reducible refine Below.trans ?_ (by assumption)) | (with_reducible refine Below.trans ?_ (Below.mono (by assumption) ?_)) | (with_reducible refine bl_set ?_ ?_ _) | (simp; done) | (simp; omega) | omega))) bb
    clear kk ff zz bb
    have ow_t := own_lo (lo' := w.heap.size) on_t (by (first | omega | (simp; done) | (simp; omega)))
    have in_t := Lib.hid ow_t.lt
    clear on_t
    go_wp2_with fail
    refine (GS.out _ _ (Rd.of_own ow_t)).mono ?_
    rintro e w2 ⟨A_s, c_s, rfl, on_s, bb⟩
    obtain ⟨kk, ff, zz⟩ := bcell bb
    replace ow_t := own_bl ow_t bb
    have sz2 : w1.heap.size ≤ w2.heap.size := bb.size
    replace bel : Below w.heap.size w w2 := bl_to (by (repeat' (first | (with_reducible exact Below.refl _ _) | (with_reducible refine bl_alloc ?_ _) | (with_reducible refine bl_drewN ?_ _) | (with_reducible refine bl_drew ?_) | (with_reducible assumption) | (with_reducible refine bl_to ?_ (by assumption)) | (with_reducible refine Below.trans ?_ (by assumption)) | (with_reducible refine Below.trans ?_ (Below.mono (by assumption) ?_)) | (with_reducible refine bl_set ?_ ?_ _) | (simp; done) | (simp; omega) | omega))) bb
    clear kk ff zz bb
    have ow_s := own_lo (lo' := w1.heap.size) on_s (by (first | omega | (simp; done) | (simp; omega)))
    have in_s := Lib.hid ow_s.lt
    clear on_s
    go_wp2_with fail
    refine (toStr_any v l _ (hr.bl (by (repeat' (first | (with_reducible exact Below.refl _ _) | (with_reducible refine bl_alloc ?_ _) | (with_reducible refine bl_drewN ?_ _) | (with_reducible refine bl_drew ?_) | (with_reducible assumption) | (with_reducible refine bl_to ?_ (by assumption)) | (with_reducible refine Below.trans ?_ (by assumption)) | (with_reducible refine Below.trans ?_ (Below.mono (by assumption) ?_)) | (with_reducible refine bl_set ?_ ?_ _) | (simp; done) | (simp; omega) | omega)))) hl).mono ?_
    rintro e w3 ⟨A_x, c_x, rfl, on_x, bb⟩
    obtain ⟨kk, ff, zz⟩ := bcell bb
    have bx_s_0 : w3.cell? ⟨w2.heap.size, 0, none⟩ = some (.int .i64 nq) := (kk _ _ (by (first | omega | (simp; done) | (simp; omega)))).trans (by simp [go_sem])
    have bx_s_1 : w3.cell? ⟨w2.heap.size, 1, none⟩ = some (.int .i64 rq) := (kk _ _ (by (first | omega | (simp; done) | (simp; omega)))).trans (by simp [go_sem])
    have bx_s_2 : w3.cell? ⟨w2.heap.size, 2, none⟩ = some ((.slice A_s (lq.length) c_s)) := (kk _ _ (by (first | omega | (simp; done) | (simp; omega)))).trans (by simp [go_sem])
    have yb_s : w2.heap.size < w3.heap.size := zz _ (by (first | omega | (simp; done) | (simp; omega)))
    replace ow_t := own_bl (ow_t.alloc _) bb
    replace ow_s := own_bl (ow_s.alloc _) bb
    have sz3 : w2.heap.size + 1 ≤ w3.heap.size := by have := bb.size; simp only [World.size_alloc] at this; omega
    replace bel : Below w.heap.size w w3 := bl_to (by (repeat' (first | (with_reducible exact Below.refl _ _) | (with_reducible refine bl_alloc ?_ _) | (with_reducible refine bl_drewN ?_ _) | (with_reducible refine bl_drew ?_) | (with_reducible assumption) | (with_reducible refine bl_to ?_ (by assumption)) | (with_reducible refine Below.trans ?_ (by assumption)) | (with_reducible refine Below.trans ?_ (Below.mono (by assumption) ?_)) | (with_reducible refine bl_set ?_ ?_ _) | (simp; done) | (simp; omega) | omega))) bb
    clear kk ff zz bb
    have ow_x := own_lo (lo' := w2.heap.size + 1) on_x (by (first | omega | (simp; done) | (simp; omega)))
    have in_x := Lib.hid ow_x.lt
    clear on_x
    go_wp2_with fail
    refine (GI.out _ _ (Rd.of_own ow_x)).mono ?_
    rintro e w4 ⟨A_g, c_g, rfl, on_g, bb⟩
    obtain ⟨kk, ff, zz⟩ := bcell bb
    replace bx_s_0 := (kk _ 0 yb_s).trans bx_s_0
    replace bx_s_1 := (kk _ 1 yb_s).trans bx_s_1
    replace bx_s_2 := (kk _ 2 yb_s).trans bx_s_2
    replace yb_s : w2.heap.size < w4.heap.size := zz _ (by (first | omega | (simp; done) | (simp; omega)))
    replace ow_t := own_bl ow_t bb
    replace ow_s := own_bl ow_s bb
    replace ow_x := own_bl ow_x bb
    have sz4 : w3.heap.size ≤ w4.heap.size := bb.size
    replace bel : Below w.heap.size w w4 := bl_to (by (repeat' (first | (with_reducible exact Below.refl _ _) | (with_reducible refine bl_alloc ?_ _) | (with_reducible refine bl_drewN ?_ _) | (with_reducible refine bl_drew ?_) | (with_reducible assumption) | (with_reducible refine bl_to ?_ (by assumption)) | (with_reducible refine Below.trans ?_ (by assumption)) | (with_reducible refine Below.trans ?_ (Below.mono (by assumption) ?_)) | (with_reducible refine bl_set ?_ ?_ _) | (simp; done) | (simp; omega) | omega))) bb
    clear kk ff zz bb
    have ow_g := own_lo (lo' := w3.heap.size) on_g (by (first | omega | (simp; done) | (simp; omega)))
    have in_g := Lib.hid ow_g.lt
    clear on_g
    go_wp2_with fail
    refine (eqCylinder_any nq rq _ _ lq _ (Rd.of_own (ow_g.alloc _)) (Rd.of_own (ow_s.alloc _)) hlR).mono ?_
    rintro e w5 ⟨rfl, bb⟩
    obtain ⟨kk, ff, zz⟩ := bcell bb
    replace bx_s_0 : w5.cell? ⟨w2.heap.size, 0, none⟩ = some (.int .i64 nq) := (kk _ _ (by (first | omega | (simp; done) | (simp; omega)))).trans (((bl_alloc (Below.refl _ _) _).cell (p := ⟨w2.heap.size, 0, none⟩) yb_s).trans bx_s_0)
    replace bx_s_1 : w5.cell? ⟨w2.heap.size, 1, none⟩ = some (.int .i64 rq) := (kk _ _ (by (first | omega | (simp; done) | (simp; omega)))).trans (((bl_alloc (Below.refl _ _) _).cell (p := ⟨w2.heap.size, 1, none⟩) yb_s).trans bx_s_1)
    replace bx_s_2 : w5.cell? ⟨w2.heap.size, 2, none⟩ = some ((.slice A_s (lq.length) c_s)) := (kk _ _ (by (first | omega | (simp; done) | (simp; omega)))).trans (((bl_alloc (Below.refl _ _) _).cell (p := ⟨w2.heap.size, 2, none⟩) yb_s).trans bx_s_2)
    have bx_g_0 : w5.cell? ⟨w4.heap.size, 0, none⟩ = some (.int .i64 nq) := (kk _ _ (by (first | omega | (simp; done) | (simp; omega)))).trans (by simp [go_sem])
    have bx_g_1 : w5.cell? ⟨w4.heap.size, 1, none⟩ = some (.int .i64 rq) := (kk _ _ (by (first | omega | (simp; done) | (simp; omega)))).trans (by simp [go_sem])
    have bx_g_2 : w5.cell? ⟨w4.heap.size, 2, none⟩ = some ((.slice A_g (lq.length) c_g)) := (kk _ _ (by (first | omega | (simp; done) | (simp; omega)))).trans (by simp [go_sem])
    replace yb_s : w2.heap.size < w5.heap.size := zz _ (by (first | omega | (simp; done) | (simp; omega)))
    have yb_g : w4.heap.size < w5.heap.size := zz _ (by (first | omega | (simp; done) | (simp; omega)))
    replace ow_t := own_bl (ow_t.alloc _) bb
    replace ow_s := own_bl (ow_s.alloc _) bb
    replace ow_x := own_bl (ow_x.alloc _) bb
    replace ow_g := own_bl (ow_g.alloc _) bb
    have sz5 : w4.heap.size + 1 ≤ w5.heap.size := by have := bb.size; simp only [World.size_alloc] at this; omega
    replace bel : Below w.heap.size w w5 := bl_to (by (repeat' (first | (with_reducible exact Below.refl _ _) | (with_reducible refine bl_alloc ?_ _) | (with_reducible refine bl_drewN ?_ _) | (with_reducible refine bl_drew ?_) | (with_reducible assumption) | (with_reducible refine bl_to ?_ (by assumption)) | (with_reducible refine Below.trans ?_ (by assumption)) | (with_reducible refine Below.trans ?_ (Below.mono (by assumption) ?_)) | (with_reducible refine bl_set ?_ ?_ _) | (simp; done) | (simp; omega) | omega))) bb
    clear kk ff zz bb
    go_wp2_with fail
    refine (toStr_any v l _ (hr.bl (by (repeat' (first | (with_reducible exact Below.refl _ _) | (with_reducible refine bl_alloc ?_ _) | (with_reducible refine bl_drewN ?_ _) | (with_reducible refine bl_drew ?_) | (with_reducible assumption) | (with_reducible refine bl_to ?_ (by assumption)) | (with_reducible refine Below.trans ?_ (by assumption)) | (with_reducible refine Below.trans ?_ (Below.mono (by assumption) ?_)) | (with_reducible refine bl_set ?_ ?_ _) | (simp; done) | (simp; omega) | omega)))) hl).mono ?_
    rintro e w6 ⟨A_y, c_y, rfl, on_y, bb⟩
    obtain ⟨kk, ff, zz⟩ := bcell bb
    replace bx_s_0 := (kk _ 0 yb_s).trans bx_s_0
    replace bx_s_1 := (kk _ 1 yb_s).trans bx_s_1
    replace bx_s_2 := (kk _ 2 yb_s).trans bx_s_2
    replace bx_g_0 := (kk _ 0 yb_g).trans bx_g_0
    replace bx_g_1 := (kk _ 1 yb_g).trans bx_g_1
    replace bx_g_2 := (kk _ 2 yb_g).trans bx_g_2
    replace yb_s : w2.heap.size < w6.heap.size := zz _ (by (first | omega | (simp; done) | (simp; omega)))
    replace yb_g : w4.heap.size < w6.heap.size := zz _ (by (first | omega | (simp; done) | (simp; omega)))
    replace ow_t := own_bl ow_t bb
    replace ow_s := own_bl ow_s bb
    replace ow_x := own_bl ow_x bb
    replace ow_g := own_bl ow_g bb
    have sz6 : w5.heap.size ≤ w6.heap.size := bb.size
    replace bel : Below w.heap.size w w6 := bl_to (by (repeat' (first | (with_reducible exact Below.refl _ _) | (with_reducible refine bl_alloc ?_ _) | (with_reducible refine bl_drewN ?_ _) | (with_reducible refine bl_drew ?_) | (with_reducible assumption) | (with_reducible refine bl_to ?_ (by assumption)) | (with_reducible refine Below.trans ?_ (by assumption)) | (with_reducible refine Below.trans ?_ (Below.mono (by assumption) ?_)) | (with_reducible refine bl_set ?_ ?_ _) | (simp; done) | (simp; omega) | omega))) bb
    clear kk ff zz bb
    have ow_y := own_lo (lo' := w5.heap.size) on_y (by (first | omega | (simp; done) | (simp; omega)))
    have in_y := Lib.hid ow_y.lt
    clear on_y
    go_wp2_with fail
    refine (eqStr_any _ _ l _ (Rd.of_own ow_x) (Rd.of_own ow_y) (by omega)).mono ?_
    rintro e w7 ⟨rfl, bb⟩
    obtain ⟨kk, ff, zz⟩ := bcell bb
    replace bx_s_0 := (kk _ 0 yb_s).trans bx_s_0
    replace bx_s_1 := (kk _ 1 yb_s).trans bx_s_1
    replace bx_s_2 := (kk _ 2 yb_s).trans bx_s_2
    replace bx_g_0 := (kk _ 0 yb_g).trans bx_g_0
    replace bx_g_1 := (kk _ 1 yb_g).trans bx_g_1
    replace bx_g_2 := (kk _ 2 yb_g).trans bx_g_2
    replace yb_s : w2.heap.size < w7.heap.size := zz _ (by (first | omega | (simp; done) | (simp; omega)))
    replace yb_g : w4.heap.size < w7.heap.size := zz _ (by (first | omega | (simp; done) | (simp; omega)))
    replace ow_t := own_bl ow_t bb
    replace ow_s := own_bl ow_s bb
    replace ow_x := own_bl ow_x bb
    replace ow_g := own_bl ow_g bb
    replace ow_y := own_bl ow_y bb
    have sz7 : w6.heap.size ≤ w7.heap.size := bb.size
    replace bel : Below w.heap.size w w7 := bl_to (by (repeat' (first | (with_reducible exact Below.refl _ _) | (with_reducible refine bl_alloc ?_ _) | (with_reducible refine bl_drewN ?_ _) | (with_reducible refine bl_drew ?_) | (with_reducible assumption) | (with_reducible refine bl_to ?_ (by assumption)) | (with_reducible refine Below.trans ?_ (by assumption)) | (with_reducible refine Below.trans ?_ (Below.mono (by assumption) ?_)) | (with_reducible refine bl_set ?_ ?_ _) | (simp; done) | (simp; omega) | omega))) bb
    clear kk ff zz bb
    go_wp2_with fail
    refine (markStr1_any _ _ l _ ow_x (by omega)).mono ?_
    rintro e w8 ⟨rfl, om, gg⟩
    replace bx_s_0 := (cell_grown gg yb_s (fun k hk => by have := in_x.out k hk; omega) 0).trans bx_s_0
    replace bx_s_1 := (cell_grown gg yb_s (fun k hk => by have := in_x.out k hk; omega) 1).trans bx_s_1
    replace bx_s_2 := (cell_grown gg yb_s (fun k hk => by have := in_x.out k hk; omega) 2).trans bx_s_2
    replace yb_s := Nat.lt_of_lt_of_le yb_s gg.size
    replace bx_g_0 := (cell_grown gg yb_g (fun k hk => by have := in_x.out k hk; omega) 0).trans bx_g_0
    replace bx_g_1 := (cell_grown gg yb_g (fun k hk => by have := in_x.out k hk; omega) 1).trans bx_g_1
    replace bx_g_2 := (cell_grown gg yb_g (fun k hk => by have := in_x.out k hk; omega) 2).trans bx_g_2
    replace yb_g := Nat.lt_of_lt_of_le yb_g gg.size
    replace ow_t := ow_t.kept gg (own_apart in_t.out in_x.out (by omega))
    replace ow_s := ow_s.kept gg (own_apart in_s.out in_x.out (by omega))
    replace ow_g := ow_g.kept gg (own_apart in_g.out in_x.out (by omega))
    replace ow_y := ow_y.kept gg (own_apart in_y.out in_x.out (by omega))
    replace ow_x := om
    have sz8 : w7.heap.size ≤ w8.heap.size := gg.size
    replace bel : Below w.heap.size w w8 := bl_grown bel gg (fun k hk => by have := in_x.out k hk; omega)
    clear gg om
    go_wp2_with fail
    refine (eqCylinder_any nq rq _ _ lq _ (Rd.of_own ow_g) (Rd.of_own ow_s) hlR).mono ?_
    rintro e w9 ⟨rfl, bb⟩
    obtain ⟨kk, ff, zz⟩ := bcell bb
    replace bx_s_0 := (kk _ 0 yb_s).trans bx_s_0
    replace bx_s_1 := (kk _ 1 yb_s).trans bx_s_1
    replace bx_s_2 := (kk _ 2 yb_s).trans bx_s_2
    replace bx_g_0 := (kk _ 0 yb_g).trans bx_g_0
    replace bx_g_1 := (kk _ 1 yb_g).trans bx_g_1
    replace bx_g_2 := (kk _ 2 yb_g).trans bx_g_2
    replace yb_s : w2.heap.size < w9.heap.size := zz _ (by (first | omega | (simp; done) | (simp; omega)))
    replace yb_g : w4.heap.size < w9.heap.size := zz _ (by (first | omega | (simp; done) | (simp; omega)))
    replace ow_t := own_bl ow_t bb
    replace ow_s := own_bl ow_s bb
    replace ow_x := own_bl ow_x bb
    replace ow_g := own_bl ow_g bb
    replace ow_y := own_bl ow_y bb
    have sz9 : w8.heap.size ≤ w9.heap.size := bb.size
    replace bel : Below w.heap.size w w9 := bl_to (by (repeat' (first | (with_reducible exact Below.refl _ _) | (with_reducible refine bl_alloc ?_ _) | (with_reducible refine bl_drewN ?_ _) | (with_reducible refine bl_drew ?_) | (with_reducible assumption) | (with_reducible refine bl_to ?_ (by assumption)) | (with_reducible refine Below.trans ?_ (by assumption)) | (with_reducible refine Below.trans ?_ (Below.mono (by assumption) ?_)) | (with_reducible refine bl_set ?_ ?_ _) | (simp; done) | (simp; omega) | omega))) bb
    clear kk ff zz bb
    go_wp2_with fail
    refine (markCylinder_any _ nq rq _ lq 1 _ ow_g hlR (by omega) (by omega)).mono ?_
    rintro e w10 ⟨rfl, om, gg⟩
    replace bx_s_0 := (cell_grown gg yb_s (fun k hk => by have := in_g.out k hk; omega) 0).trans bx_s_0
    replace bx_s_1 := (cell_grown gg yb_s (fun k hk => by have := in_g.out k hk; omega) 1).trans bx_s_1
    replace bx_s_2 := (cell_grown gg yb_s (fun k hk => by have := in_g.out k hk; omega) 2).trans bx_s_2
    replace yb_s := Nat.lt_of_lt_of_le yb_s gg.size
    replace bx_g_0 := (cell_grown gg yb_g (fun k hk => by have := in_g.out k hk; omega) 0).trans bx_g_0
    replace bx_g_1 := (cell_grown gg yb_g (fun k hk => by have := in_g.out k hk; omega) 1).trans bx_g_1
    replace bx_g_2 := (cell_grown gg yb_g (fun k hk => by have := in_g.out k hk; omega) 2).trans bx_g_2
    replace yb_g := Nat.lt_of_lt_of_le yb_g gg.size
    replace ow_t := ow_t.kept gg (own_apart in_t.out in_g.out (by omega))
    replace ow_s := ow_s.kept gg (own_apart in_s.out in_g.out (by omega))
    replace ow_x := ow_x.kept gg (own_apart in_x.out in_g.out (by omega))
    replace ow_y := ow_y.kept gg (own_apart in_y.out in_g.out (by omega))
    replace ow_g := om
    have sz10 : w9.heap.size ≤ w10.heap.size := gg.size
    replace bel : Below w.heap.size w w10 := bl_grown bel gg (fun k hk => by have := in_g.out k hk; omega)
    clear gg om
    go_wp2_with fail
    refine (heldCylinder_any nq rq _ lq.length 1 _ (Rd.of_own ow_g) hlR (by omega) (by omega)).mono ?_
    rintro e w11 ⟨rfl, bb⟩
    obtain ⟨kk, ff, zz⟩ := bcell bb
    replace bx_s_0 := (kk _ 0 yb_s).trans bx_s_0
    replace bx_s_1 := (kk _ 1 yb_s).trans bx_s_1
    replace bx_s_2 := (kk _ 2 yb_s).trans bx_s_2
    replace bx_g_0 := (kk _ 0 yb_g).trans bx_g_0
    replace bx_g_1 := (kk _ 1 yb_g).trans bx_g_1
    replace bx_g_2 := (kk _ 2 yb_g).trans bx_g_2
    replace yb_s : w2.heap.size < w11.heap.size := zz _ (by (first | omega | (simp; done) | (simp; omega)))
    replace yb_g : w4.heap.size < w11.heap.size := zz _ (by (first | omega | (simp; done) | (simp; omega)))
    replace ow_t := own_bl ow_t bb
    replace ow_s := own_bl ow_s bb
    replace ow_x := own_bl ow_x bb
    replace ow_g := own_bl ow_g bb
    replace ow_y := own_bl ow_y bb
    have sz11 : w10.heap.size ≤ w11.heap.size := bb.size
    replace bel : Below w.heap.size w w11 := bl_to (by (repeat' (first | (with_reducible exact Below.refl _ _) | (with_reducible refine bl_alloc ?_ _) | (with_reducible refine bl_drewN ?_ _) | (with_reducible refine bl_drew ?_) | (with_reducible assumption) | (with_reducible refine bl_to ?_ (by assumption)) | (with_reducible refine Below.trans ?_ (by assumption)) | (with_reducible refine Below.trans ?_ (Below.mono (by assumption) ?_)) | (with_reducible refine bl_set ?_ ?_ _) | (simp; done) | (simp; omega) | omega))) bb
    clear kk ff zz bb
    go_wp2_with fail
    refine (toStr_any v l _ (hr.bl (by (repeat' (first | (with_reducible exact Below.refl _ _) | (with_reducible refine bl_alloc ?_ _) | (with_reducible refine bl_drewN ?_ _) | (with_reducible refine bl_drew ?_) | (with_reducible assumption) | (with_reducible refine bl_to ?_ (by assumption)) | (with_reducible refine Below.trans ?_ (by assumption)) | (with_reducible refine Below.trans ?_ (Below.mono (by assumption) ?_)) | (with_reducible refine bl_set ?_ ?_ _) | (simp; done) | (simp; omega) | omega)))) hl).mono ?_
    rintro e w12 ⟨A_z, c_z, rfl, on_z, bb⟩
    obtain ⟨kk, ff, zz⟩ := bcell bb
    replace bx_s_0 := (kk _ 0 yb_s).trans bx_s_0
    replace bx_s_1 := (kk _ 1 yb_s).trans bx_s_1
    replace bx_s_2 := (kk _ 2 yb_s).trans bx_s_2
    replace bx_g_0 := (kk _ 0 yb_g).trans bx_g_0
    replace bx_g_1 := (kk _ 1 yb_g).trans bx_g_1
    replace bx_g_2 := (kk _ 2 yb_g).trans bx_g_2
    replace yb_s : w2.heap.size < w12.heap.size := zz _ (by (first | omega | (simp; done) | (simp; omega)))
    replace yb_g : w4.heap.size < w12.heap.size := zz _ (by (first | omega | (simp; done) | (simp; omega)))
    replace ow_t := own_bl ow_t bb
    replace ow_s := own_bl ow_s bb
    replace ow_x := own_bl ow_x bb
    replace ow_g := own_bl ow_g bb
    replace ow_y := own_bl ow_y bb
    have sz12 : w11.heap.size ≤ w12.heap.size := bb.size
    replace bel : Below w.heap.size w w12 := bl_to (by (repeat' (first | (with_reducible exact Below.refl _ _) | (with_reducible refine bl_alloc ?_ _) | (with_reducible refine bl_drewN ?_ _) | (with_reducible refine bl_drew ?_) | (with_reducible assumption) | (with_reducible refine bl_to ?_ (by assumption)) | (with_reducible refine Below.trans ?_ (by assumption)) | (with_reducible refine Below.trans ?_ (Below.mono (by assumption) ?_)) | (with_reducible refine bl_set ?_ ?_ _) | (simp; done) | (simp; omega) | omega))) bb
    clear kk ff zz bb
    have ow_z := own_lo (lo' := w11.heap.size) on_z (by (first | omega | (simp; done) | (simp; omega)))
    have in_z := Lib.hid ow_z.lt
    clear on_z
    go_wp2_with fail
    refine (GI.out _ _ (Rd.of_own ow_z)).mono ?_
    rintro e w13 ⟨A_h, c_h, rfl, on_h, bb⟩
    obtain ⟨kk, ff, zz⟩ := bcell bb
    replace bx_s_0 := (kk _ 0 yb_s).trans bx_s_0
    replace bx_s_1 := (kk _ 1 yb_s).trans bx_s_1
    replace bx_s_2 := (kk _ 2 yb_s).trans bx_s_2
    replace bx_g_0 := (kk _ 0 yb_g).trans bx_g_0
    replace bx_g_1 := (kk _ 1 yb_g).trans bx_g_1
    replace bx_g_2 := (kk _ 2 yb_g).trans bx_g_2
    replace yb_s : w2.heap.size < w13.heap.size := zz _ (by (first | omega | (simp; done) | (simp; omega)))
    replace yb_g : w4.heap.size < w13.heap.size := zz _ (by (first | omega | (simp; done) | (simp; omega)))
    replace ow_t := own_bl ow_t bb
    replace ow_s := own_bl ow_s bb
    replace ow_x := own_bl ow_x bb
    replace ow_g := own_bl ow_g bb
    replace ow_y := own_bl ow_y bb
    replace ow_z := own_bl ow_z bb
    have sz13 : w12.heap.size ≤ w13.heap.size := bb.size
    replace bel : Below w.heap.size w w13 := bl_to (by (repeat' (first | (with_reducible exact Below.refl _ _) | (with_reducible refine bl_alloc ?_ _) | (with_reducible refine bl_drewN ?_ _) | (with_reducible refine bl_drew ?_) | (with_reducible assumption) | (with_reducible refine bl_to ?_ (by assumption)) | (with_reducible refine Below.trans ?_ (by assumption)) | (with_reducible refine Below.trans ?_ (Below.mono (by assumption) ?_)) | (with_reducible refine bl_set ?_ ?_ _) | (simp; done) | (simp; omega) | omega))) bb
    clear kk ff zz bb
    have ow_h := own_lo (lo' := w12.heap.size) on_h (by (first | omega | (simp; done) | (simp; omega)))
    have in_h := Lib.hid ow_h.lt
    clear on_h
    go_wp2_with fail
    refine (eqCylinder_any nq rq _ _ lq _ (Rd.of_own (ow_h.alloc _)) (Rd.of_own (ow_s.alloc _)) hlR).mono ?_
    rintro e w14 ⟨rfl, bb⟩
    obtain ⟨kk, ff, zz⟩ := bcell bb
    replace bx_s_0 : w14.cell? ⟨w2.heap.size, 0, none⟩ = some (.int .i64 nq) := (kk _ _ (by (first | omega | (simp; done) | (simp; omega)))).trans (((bl_alloc (Below.refl _ _) _).cell (p := ⟨w2.heap.size, 0, none⟩) yb_s).trans bx_s_0)
    replace bx_s_1 : w14.cell? ⟨w2.heap.size, 1, none⟩ = some (.int .i64 rq) := (kk _ _ (by (first | omega | (simp; done) | (simp; omega)))).trans (((bl_alloc (Below.refl _ _) _).cell (p := ⟨w2.heap.size, 1, none⟩) yb_s).trans bx_s_1)
    replace bx_s_2 : w14.cell? ⟨w2.heap.size, 2, none⟩ = some ((.slice A_s (lq.length) c_s)) := (kk _ _ (by (first | omega | (simp; done) | (simp; omega)))).trans (((bl_alloc (Below.refl _ _) _).cell (p := ⟨w2.heap.size, 2, none⟩) yb_s).trans bx_s_2)
    replace bx_g_0 : w14.cell? ⟨w4.heap.size, 0, none⟩ = some (.int .i64 nq) := (kk _ _ (by (first | omega | (simp; done) | (simp; omega)))).trans (((bl_alloc (Below.refl _ _) _).cell (p := ⟨w4.heap.size, 0, none⟩) yb_g).trans bx_g_0)
    replace bx_g_1 : w14.cell? ⟨w4.heap.size, 1, none⟩ = some (.int .i64 rq) := (kk _ _ (by (first | omega | (simp; done) | (simp; omega)))).trans (((bl_alloc (Below.refl _ _) _).cell (p := ⟨w4.heap.size, 1, none⟩) yb_g).trans bx_g_1)
    replace bx_g_2 : w14.cell? ⟨w4.heap.size, 2, none⟩ = some ((.slice A_g (lq.length) c_g)) := (kk _ _ (by (first | omega | (simp; done) | (simp; omega)))).trans (((bl_alloc (Below.refl _ _) _).cell (p := ⟨w4.heap.size, 2, none⟩) yb_g).trans bx_g_2)
    have bx_h_0 : w14.cell? ⟨w13.heap.size, 0, none⟩ = some (.int .i64 nq) := (kk _ _ (by (first | omega | (simp; done) | (simp; omega)))).trans (by simp [go_sem])
    have bx_h_1 : w14.cell? ⟨w13.heap.size, 1, none⟩ = some (.int .i64 rq) := (kk _ _ (by (first | omega | (simp; done) | (simp; omega)))).trans (by simp [go_sem])
    have bx_h_2 : w14.cell? ⟨w13.heap.size, 2, none⟩ = some ((.slice A_h (lq.length) c_h)) := (kk _ _ (by (first | omega | (simp; done) | (simp; omega)))).trans (by simp [go_sem])
    replace yb_s : w2.heap.size < w14.heap.size := zz _ (by (first | omega | (simp; done) | (simp; omega)))
    replace yb_g : w4.heap.size < w14.heap.size := zz _ (by (first | omega | (simp; done) | (simp; omega)))
    have yb_h : w13.heap.size < w14.heap.size := zz _ (by (first | omega | (simp; done) | (simp; omega)))
    replace ow_t := own_bl (ow_t.alloc _) bb
    replace ow_s := own_bl (ow_s.alloc _) bb
    replace ow_x := own_bl (ow_x.alloc _) bb
    replace ow_g := own_bl (ow_g.alloc _) bb
    replace ow_y := own_bl (ow_y.alloc _) bb
    replace ow_z := own_bl (ow_z.alloc _) bb
    replace ow_h := own_bl (ow_h.alloc _) bb
    have sz14 : w13.heap.size + 1 ≤ w14.heap.size := by have := bb.size; simp only [World.size_alloc] at this; omega
    replace bel : Below w.heap.size w w14 := bl_to (by (repeat' (first | (with_reducible exact Below.refl _ _) | (with_reducible refine bl_alloc ?_ _) | (with_reducible refine bl_drewN ?_ _) | (with_reducible refine bl_drew ?_) | (with_reducible assumption) | (with_reducible refine bl_to ?_ (by assumption)) | (with_reducible refine Below.trans ?_ (by assumption)) | (with_reducible refine Below.trans ?_ (Below.mono (by assumption) ?_)) | (with_reducible refine bl_set ?_ ?_ _) | (simp; done) | (simp; omega) | omega))) bb
    clear kk ff zz bb
    go_wp2_with fail
    refine (heldCylinder_any nq rq _ lq.length 1 _ (Rd.of_own ow_g) hlR (by omega) (by omega)).mono ?_
    rintro e w15 ⟨rfl, bb⟩
    obtain ⟨kk, ff, zz⟩ := bcell bb
    replace bx_s_0 := (kk _ 0 yb_s).trans bx_s_0
    replace bx_s_1 := (kk _ 1 yb_s).trans bx_s_1
    replace bx_s_2 := (kk _ 2 yb_s).trans bx_s_2
    replace bx_g_0 := (kk _ 0 yb_g).trans bx_g_0
    replace bx_g_1 := (kk _ 1 yb_g).trans bx_g_1
    replace bx_g_2 := (kk _ 2 yb_g).trans bx_g_2
    replace bx_h_0 := (kk _ 0 yb_h).trans bx_h_0
    replace bx_h_1 := (kk _ 1 yb_h).trans bx_h_1
    replace bx_h_2 := (kk _ 2 yb_h).trans bx_h_2
    replace yb_s : w2.heap.size < w15.heap.size := zz _ (by (first | omega | (simp; done) | (simp; omega)))
    replace yb_g : w4.heap.size < w15.heap.size := zz _ (by (first | omega | (simp; done) | (simp; omega)))
    replace yb_h : w13.heap.size < w15.heap.size := zz _ (by (first | omega | (simp; done) | (simp; omega)))
    replace ow_t := own_bl ow_t bb
    replace ow_s := own_bl ow_s bb
    replace ow_x := own_bl ow_x bb
    replace ow_g := own_bl ow_g bb
    replace ow_y := own_bl ow_y bb
    replace ow_z := own_bl ow_z bb
    replace ow_h := own_bl ow_h bb
    have sz15 : w14.heap.size ≤ w15.heap.size := bb.size
    replace bel : Below w.heap.size w w15 := bl_to (by (repeat' (first | (with_reducible exact Below.refl _ _) | (with_reducible refine bl_alloc ?_ _) | (with_reducible refine bl_drewN ?_ _) | (with_reducible refine bl_drew ?_) | (with_reducible assumption) | (with_reducible refine bl_to ?_ (by assumption)) | (with_reducible refine Below.trans ?_ (by assumption)) | (with_reducible refine Below.trans ?_ (Below.mono (by assumption) ?_)) | (with_reducible refine bl_set ?_ ?_ _) | (simp; done) | (simp; omega) | omega))) bb
    clear kk ff zz bb
    go_wp2
    go_ret
    exact ⟨rfl, by (repeat' (first | (with_reducible exact Below.refl _ _) | (with_reducible refine bl_alloc ?_ _) | (with_reducible refine bl_drewN ?_ _) | (with_reducible refine bl_drew ?_) | (with_reducible assumption) | (with_reducible refine bl_to ?_ (by assumption)) | (with_reducible refine Below.trans ?_ (by assumption)) | (with_reducible refine Below.trans ?_ (Below.mono (by assumption) ?_)) | (with_reducible refine bl_set ?_ ?_ _) | (simp; done) | (simp; omega) | omega))⟩
  · go_enter Try.func4, Try.ntmps4
    go_wp2_with fail
    refine (szStr_any v l _ _ hr hs (by omega) (by omega)).mono ?_
    rintro e w1 ⟨rfl, rfl⟩
    rw [if_pos (by omega)]
    go_wp2
    go_ret
    exact ⟨rfl, by (repeat' (first | (with_reducible exact Below.refl _ _) | (with_reducible refine bl_alloc ?_ _) | (with_reducible refine bl_drewN ?_ _) | (with_reducible refine bl_drew ?_) | (with_reducible assumption) | (with_reducible refine bl_to ?_ (by assumption)) | (with_reducible refine Below.trans ?_ (by assumption)) | (with_reducible refine Below.trans ?_ (Below.mono (by assumption) ?_)) | (with_reducible refine bl_set ?_ ?_ _) | (simp; done) | (simp; omega) | omega))⟩
end Go.Proofs.Ythgllpocljeegaa
