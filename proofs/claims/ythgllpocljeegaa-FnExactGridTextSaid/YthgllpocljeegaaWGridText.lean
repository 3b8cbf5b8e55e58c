/- FnExactGridText: the law returns true at every input; no condition. -/
import Derived.Test.YthgllpocljeegaaGridS
import Derived.Test.YthgllpocljeegaaStMCylinder
import Derived.Deep.DeepCutAuto
import Derived.Deep.RegionHeld3
namespace Go.Proofs.Ythgllpocljeegaa
open Go.RowKit

theorem markStr1_any (lo : Nat) (v : Value) (l : List ByteArray) (w : World) (h1 : w.ownsRow lo 9 1 v l.length (cS l)) (hl : l.length ≤ 1048577) :
    Calls Try.prog 12 #[v, .int .i64 1] w fun e w' => e = .returned (.int .i64 ((1 + l.length : Nat) : Int)) ∧ w'.ownsRow lo 9 1 v l.length (cS (upS 1 l.length)) ∧ w.grownBy w' v.ownBlock :=
  (markStr_any lo v l 1 w h1 hl (by omega) (by omega)).mono (fun _ _ h => h)
theorem heldStr1_any (v : Value) (n : Nat) (w : World) (h1 : Rd w 1 v n (cS (upS 1 n))) (hl : n ≤ 1048577) :
    Calls Try.prog 13 #[v, .int .i64 1] w fun e w' => e = .returned (.int .i64 ((1 + n : Nat) : Int)) ∧ Below w.heap.size w w' :=
  (heldStr_any v n 1 w h1 hl (by omega) (by omega)).mono (fun _ _ h => h)
set_option maxHeartbeats 6400000 in
set_option maxRecDepth 100000 in
theorem gridText_law (st tr : Int) (v : Value) (l : List (Int × Int)) (w : World) (hr : RdP w v l) : Calls Try.prog 3 #[.agg #[.int .i64 st, .int .i64 tr, v]] w fun e w' => e = .returned (.bool true) ∧ Below w.heap.size w w' := by
  by_cases hl : l.length ≤ 1048576
  · have hlF := gridF_len st tr l
    obtain ⟨F, hF⟩ : ∃ F, gridF st tr l = F := ⟨_, rfl⟩
    have hgi : ∀ (v : Value) (w : World), RdP w v l → Calls Try.prog 8 #[.agg #[.int .i64 st, .int .i64 tr, v]] w (NewRow 9 1 F.length (cS F) w) := fun v w h => by rw [← hF]; exact gridI_any st tr v l w h hl
    have hgs : ∀ (v : Value) (w : World), RdP w v l → Calls Try.prog 6 #[.agg #[.int .i64 st, .int .i64 tr, v]] w (NewRow 9 1 F.length (cS F) w) := fun v w h => by rw [← hF]; exact gridS_any st tr v l w h hl
    rw [hF] at hlF
    have GI := Lib.hid hgi
    have GS := Lib.hid hgs
    clear hF hgi hgs
    go_enter Try.func3, Try.ntmps3
    go_wp2_with fail
    refine (szCylinder_any st tr v l _ _ (hr.bl (by (repeat' (first | (with_reducible exact Below.refl _ _) | (with_reducible refine bl_alloc ?_ _) | (with_reducible refine bl_drewN ?_ _) | (with_reducible refine bl_drew ?_) | (with_reducible assumption) | (with_reducible refine bl_to ?_ (by assumption)) | (with_reducible refine Below.trans ?_ (by assumption)) | (with_reducible refine Below.trans ?_ (Below.mono (by assumption) ?_)) | (with_reducible refine bl_set ?_ ?_ _) | (simp; done) | (simp; omega) | omega)))) (by omega) (by omega)).mono ?_
    rintro e w1 ⟨rfl, bb⟩
    rw [if_neg (by omega)]
    obtain ⟨kk, ff, zz⟩ := bcell bb
    have bx_d_0 : w1.cell? ⟨w.heap.size, 0, none⟩ = some (.int .i64 st) := (kk _ _ (by (first | omega | (simp; done) | (simp; omega)))).trans (by simp [go_sem])
    have bx_d_1 : w1.cell? ⟨w.heap.size, 1, none⟩ = some (.int .i64 tr) := (kk _ _ (by (first | omega | (simp; done) | (simp; omega)))).trans (by simp [go_sem])
    have bx_d_2 : w1.cell? ⟨w.heap.size, 2, none⟩ = some (v) := (kk _ _ (by (first | omega | (simp; done) | (simp; omega)))).trans (by simp [go_sem])
    have yb_d : w.heap.size < w1.heap.size := zz _ (by (first | omega | (simp; done) | (simp; omega)))
    have sz1 : w.heap.size + 1 ≤ w1.heap.size := by have := bb.size; simp only [World.size_alloc] at this; omega
    have bel : Below w.heap.size w w1 := bl_to (by (repeat' (first | (with_reducible exact Below.refl _ _) | (with_reducible refine bl_alloc ?_ _) | (with_reducible refine bl_drewN ?_ _) | (with_reducible refine bl_drew ?_) | (with_reducible assumption) | (with_reducible refine bl_to ?_ (by assumption)) | (with_reducible refine Below.trans ?_ (by assumption)) | (with_reducible refine Below.trans ?_ (Below.mono (by assumption) ?_)) | (with_reducible refine bl_set ?_ ?_ _) | (simp; done) | (simp; omega) | omega))) bb
    clear kk ff zz bb
    go_wp2_with fail
    refine (toCylinder_any st tr v l _ (hr.bl (by (repeat' (first | (with_reducible exact Below.refl _ _) | (with_reducible refine bl_alloc ?_ _) | (with_reducible refine bl_drewN ?_ _) | (with_reducible refine bl_drew ?_) | (with_reducible assumption) | (with_reducible refine bl_to ?_ (by assumption)) | (with_reducible refine Below.trans ?_ (by assumption)) | (with_reducible refine Below.trans ?_ (Below.mono (by assumption) ?_)) | (with_reducible refine bl_set ?_ ?_ _) | (simp; done) | (simp; omega) | omega)))) hl).mono ?_
    rintro e w2 ⟨A_t, c_t, rfl, on_t, bb⟩
    obtain ⟨kk, ff, zz⟩ := bcell bb
    replace bx_d_0 := (kk _ 0 yb_d).trans bx_d_0
    replace bx_d_1 := (kk _ 1 yb_d).trans bx_d_1
    replace bx_d_2 := (kk _ 2 yb_d).trans bx_d_2
    replace yb_d : w.heap.size < w2.heap.size := zz _ (by (first | omega | (simp; done) | (simp; omega)))
    have sz2 : w1.heap.size ≤ w2.heap.size := bb.size
    replace bel : Below w.heap.size w w2 := bl_to (by (repeat' (first | (with_reducible exact Below.refl _ _) | (with_reducible refine bl_alloc ?_ _) | (with_reducible refine bl_drewN ?_ _) | (with_reducible refine bl_drew ?_) | (with_reducible assumption) | (with_reducible refine bl_to ?_ (by assumption)) | (with_reducible refine Below.trans ?_ (by assumption)) | (with_reducible refine Below.trans ?_ (Below.mono (by assumption) ?_)) | (with_reducible refine bl_set ?_ ?_ _) | (simp; done) | (simp; omega) | omega))) bb
    clear kk ff zz bb
    have ow_t := own_lo (lo' := w1.heap.size) on_t (by (first | omega | (simp; done) | (simp; omega)))
    have in_t := Lib.hid ow_t.lt
    clear on_t
    go_wp2_with fail
    refine (GS.out _ _ (Rd.of_own ow_t)).mono ?_
    rintro e w3 ⟨A_s, c_s, rfl, on_s, bb⟩
    obtain ⟨kk, ff, zz⟩ := bcell bb
    replace bx_d_0 := (kk _ 0 yb_d).trans bx_d_0
    replace bx_d_1 := (kk _ 1 yb_d).trans bx_d_1
    replace bx_d_2 := (kk _ 2 yb_d).trans bx_d_2
    replace yb_d : w.heap.size < w3.heap.size := zz _ (by (first | omega | (simp; done) | (simp; omega)))
    replace ow_t := own_bl ow_t bb
    have sz3 : w2.heap.size ≤ w3.heap.size := bb.size
    replace bel : Below w.heap.size w w3 := bl_to (by (repeat' (first | (with_reducible exact Below.refl _ _) | (with_reducible refine bl_alloc ?_ _) | (with_reducible refine bl_drewN ?_ _) | (with_reducible refine bl_drew ?_) | (with_reducible assumption) | (with_reducible refine bl_to ?_ (by assumption)) | (with_reducible refine Below.trans ?_ (by assumption)) | (with_reducible refine Below.trans ?_ (Below.mono (by assumption) ?_)) | (with_reducible refine bl_set ?_ ?_ _) | (simp; done) | (simp; omega) | omega))) bb
    clear kk ff zz bb
    have ow_s := own_lo (lo' := w2.heap.size) on_s (by (first | omega | (simp; done) | (simp; omega)))
    have in_s := Lib.hid ow_s.lt
    clear on_s
    go_wp2_with fail
    refine (toCylinder_any st tr v l _ (hr.bl (by (repeat' (first | (with_reducible exact Below.refl _ _) | (with_reducible refine bl_alloc ?_ _) | (with_reducible refine bl_drewN ?_ _) | (with_reducible refine bl_drew ?_) | (with_reducible assumption) | (with_reducible refine bl_to ?_ (by assumption)) | (with_reducible refine Below.trans ?_ (by assumption)) | (with_reducible refine Below.trans ?_ (Below.mono (by assumption) ?_)) | (with_reducible refine bl_set ?_ ?_ _) | (simp; done) | (simp; omega) | omega)))) hl).mono ?_
    rintro e w4 ⟨A_x, c_x, rfl, on_x, bb⟩
    obtain ⟨kk, ff, zz⟩ := bcell bb
    replace bx_d_0 := (kk _ 0 yb_d).trans bx_d_0
    replace bx_d_1 := (kk _ 1 yb_d).trans bx_d_1
    replace bx_d_2 := (kk _ 2 yb_d).trans bx_d_2
    replace yb_d : w.heap.size < w4.heap.size := zz _ (by (first | omega | (simp; done) | (simp; omega)))
    replace ow_t := own_bl ow_t bb
    replace ow_s := own_bl ow_s bb
    have sz4 : w3.heap.size ≤ w4.heap.size := bb.size
    replace bel : Below w.heap.size w w4 := bl_to (by (repeat' (first | (with_reducible exact Below.refl _ _) | (with_reducible refine bl_alloc ?_ _) | (with_reducible refine bl_drewN ?_ _) | (with_reducible refine bl_drew ?_) | (with_reducible assumption) | (with_reducible refine bl_to ?_ (by assumption)) | (with_reducible refine Below.trans ?_ (by assumption)) | (with_reducible refine Below.trans ?_ (Below.mono (by assumption) ?_)) | (with_reducible refine bl_set ?_ ?_ _) | (simp; done) | (simp; omega) | omega))) bb
    clear kk ff zz bb
    have ow_x := own_lo (lo' := w3.heap.size) on_x (by (first | omega | (simp; done) | (simp; omega)))
    have in_x := Lib.hid ow_x.lt
    clear on_x
    go_wp2_with fail
    refine (GI.out _ _ (Rd.of_own (ow_x.alloc _))).mono ?_
    rintro e w5 ⟨A_g, c_g, rfl, on_g, bb⟩
    obtain ⟨kk, ff, zz⟩ := bcell bb
    replace bx_d_0 : w5.cell? ⟨w.heap.size, 0, none⟩ = some (.int .i64 st) := (kk _ _ (by (first | omega | (simp; done) | (simp; omega)))).trans (((bl_alloc (Below.refl _ _) _).cell (p := ⟨w.heap.size, 0, none⟩) yb_d).trans bx_d_0)
    replace bx_d_1 : w5.cell? ⟨w.heap.size, 1, none⟩ = some (.int .i64 tr) := (kk _ _ (by (first | omega | (simp; done) | (simp; omega)))).trans (((bl_alloc (Below.refl _ _) _).cell (p := ⟨w.heap.size, 1, none⟩) yb_d).trans bx_d_1)
    replace bx_d_2 : w5.cell? ⟨w.heap.size, 2, none⟩ = some (v) := (kk _ _ (by (first | omega | (simp; done) | (simp; omega)))).trans (((bl_alloc (Below.refl _ _) _).cell (p := ⟨w.heap.size, 2, none⟩) yb_d).trans bx_d_2)
    have bx_x_0 : w5.cell? ⟨w4.heap.size, 0, none⟩ = some (.int .i64 st) := (kk _ _ (by (first | omega | (simp; done) | (simp; omega)))).trans (by simp [go_sem])
    have bx_x_1 : w5.cell? ⟨w4.heap.size, 1, none⟩ = some (.int .i64 tr) := (kk _ _ (by (first | omega | (simp; done) | (simp; omega)))).trans (by simp [go_sem])
    have bx_x_2 : w5.cell? ⟨w4.heap.size, 2, none⟩ = some ((.slice A_x (l.length) c_x)) := (kk _ _ (by (first | omega | (simp; done) | (simp; omega)))).trans (by simp [go_sem])
    replace yb_d : w.heap.size < w5.heap.size := zz _ (by (first | omega | (simp; done) | (simp; omega)))
    have yb_x : w4.heap.size < w5.heap.size := zz _ (by (first | omega | (simp; done) | (simp; omega)))
    replace ow_t := own_bl (ow_t.alloc _) bb
    replace ow_s := own_bl (ow_s.alloc _) bb
    replace ow_x := own_bl (ow_x.alloc _) bb
    have sz5 : w4.heap.size + 1 ≤ w5.heap.size := by have := bb.size; simp only [World.size_alloc] at this; omega
    replace bel : Below w.heap.size w w5 := bl_to (by (repeat' (first | (with_reducible exact Below.refl _ _) | (with_reducible refine bl_alloc ?_ _) | (with_reducible refine bl_drewN ?_ _) | (with_reducible refine bl_drew ?_) | (with_reducible assumption) | (with_reducible refine bl_to ?_ (by assumption)) | (with_reducible refine Below.trans ?_ (by assumption)) | (with_reducible refine Below.trans ?_ (Below.mono (by assumption) ?_)) | (with_reducible refine bl_set ?_ ?_ _) | (simp; done) | (simp; omega) | omega))) bb
    clear kk ff zz bb
    have ow_g := own_lo (lo' := w4.heap.size + 1) on_g (by (first | omega | (simp; done) | (simp; omega)))
    have in_g := Lib.hid ow_g.lt
    clear on_g
    go_wp2_with fail
    refine (eqStr_any _ _ F _ (Rd.of_own ow_g) (Rd.of_own ow_s) (by omega)).mono ?_
    rintro e w6 ⟨rfl, bb⟩
    obtain ⟨kk, ff, zz⟩ := bcell bb
    replace bx_d_0 := (kk _ 0 yb_d).trans bx_d_0
    replace bx_d_1 := (kk _ 1 yb_d).trans bx_d_1
    replace bx_d_2 := (kk _ 2 yb_d).trans bx_d_2
    replace bx_x_0 := (kk _ 0 yb_x).trans bx_x_0
    replace bx_x_1 := (kk _ 1 yb_x).trans bx_x_1
    replace bx_x_2 := (kk _ 2 yb_x).trans bx_x_2
    replace yb_d : w.heap.size < w6.heap.size := zz _ (by (first | omega | (simp; done) | (simp; omega)))
    replace yb_x : w4.heap.size < w6.heap.size := zz _ (by (first | omega | (simp; done) | (simp; omega)))
    replace ow_t := own_bl ow_t bb
    replace ow_s := own_bl ow_s bb
    replace ow_x := own_bl ow_x bb
    replace ow_g := own_bl ow_g bb
    have sz6 : w5.heap.size ≤ w6.heap.size := bb.size
    replace bel : Below w.heap.size w w6 := bl_to (by (repeat' (first | (with_reducible exact Below.refl _ _) | (with_reducible refine bl_alloc ?_ _) | (with_reducible refine bl_drewN ?_ _) | (with_reducible refine bl_drew ?_) | (with_reducible assumption) | (with_reducible refine bl_to ?_ (by assumption)) | (with_reducible refine Below.trans ?_ (by assumption)) | (with_reducible refine Below.trans ?_ (Below.mono (by assumption) ?_)) | (with_reducible refine bl_set ?_ ?_ _) | (simp; done) | (simp; omega) | omega))) bb
    clear kk ff zz bb
    go_upto_region 10 with (fail)
    go_cut [31] (fun s wx => s = .bool false ∧ Below w6.heap.size w6 wx)
    case first =>
      go_region_with (first | (go_at_call 7; refine (toCylinder_any st tr v l _ (hr.bl (by (repeat' (first | (with_reducible exact Below.refl _ _) | (with_reducible refine bl_alloc ?_ _) | (with_reducible refine bl_drewN ?_ _) | (with_reducible refine bl_drew ?_) | (with_reducible assumption) | (with_reducible refine bl_to ?_ (by assumption)) | (with_reducible refine Below.trans ?_ (by assumption)) | (with_reducible refine Below.trans ?_ (Below.mono (by assumption) ?_)) | (with_reducible refine bl_set ?_ ?_ _) | (simp; done) | (simp; omega) | omega)))) hl).mono ?_; rintro e wt ⟨At, ct, rfl, owt, bt⟩; obtain ⟨kt, ft, zt⟩ := bcell bt; have xt0 := (kt _ 0 yb_x).trans bx_x_0; have xt1 := (kt _ 1 yb_x).trans bx_x_1; have xt2 := (kt _ 2 yb_x).trans bx_x_2) | (go_at_call 10; refine (eqCylinder_any st tr _ _ l _ (Rd.of_own (own_bl (by first | exact ow_x | exact World.ownsRow.drew ow_x) bt)) (Rd.of_own owt) hl).mono ?_; rintro e wu ⟨rfl, bu⟩))
      all_goals (go_wp2_with fail; go_meet; exact ⟨rfl, by (repeat' (first | (with_reducible exact Below.refl _ _) | (with_reducible refine bl_alloc ?_ _) | (with_reducible refine bl_drewN ?_ _) | (with_reducible refine bl_drew ?_) | (with_reducible assumption) | (with_reducible refine bl_to ?_ (by assumption)) | (with_reducible refine Below.trans ?_ (by assumption)) | (with_reducible refine Below.trans ?_ (Below.mono (by assumption) ?_)) | (with_reducible refine bl_set ?_ ?_ _) | (simp; done) | (simp; omega) | omega))⟩)
    case rest =>
      obtain ⟨rfl, bb⟩ := hcut
      obtain ⟨w7, rfl⟩ : ∃ x : World, x = wc := ⟨_, rfl⟩
      obtain ⟨kk, ff, zz⟩ := bcell bb
      replace bx_d_0 := (kk _ 0 yb_d).trans bx_d_0
      replace bx_d_1 := (kk _ 1 yb_d).trans bx_d_1
      replace bx_d_2 := (kk _ 2 yb_d).trans bx_d_2
      replace bx_x_0 := (kk _ 0 yb_x).trans bx_x_0
      replace bx_x_1 := (kk _ 1 yb_x).trans bx_x_1
      replace bx_x_2 := (kk _ 2 yb_x).trans bx_x_2
      replace yb_d : w.heap.size < w7.heap.size := zz _ (by (first | omega | (simp; done) | (simp; omega)))
      replace yb_x : w4.heap.size < w7.heap.size := zz _ (by (first | omega | (simp; done) | (simp; omega)))
      replace ow_t := own_bl ow_t bb
      replace ow_s := own_bl ow_s bb
      replace ow_x := own_bl ow_x bb
      replace ow_g := own_bl ow_g bb
      have sz7 : w6.heap.size ≤ w7.heap.size := bb.size
      replace bel : Below w.heap.size w w7 := bl_to (by (repeat' (first | (with_reducible exact Below.refl _ _) | (with_reducible refine bl_alloc ?_ _) | (with_reducible refine bl_drewN ?_ _) | (with_reducible refine bl_drew ?_) | (with_reducible assumption) | (with_reducible refine bl_to ?_ (by assumption)) | (with_reducible refine Below.trans ?_ (by assumption)) | (with_reducible refine Below.trans ?_ (Below.mono (by assumption) ?_)) | (with_reducible refine bl_set ?_ ?_ _) | (simp; done) | (simp; omega) | omega))) bb
      clear kk ff zz bb
      go_wp2_with fail
      refine (markCylinder_any _ st tr _ l 1 _ ow_x hl (by omega) (by omega)).mono ?_
      rintro e w8 ⟨rfl, om, gg⟩
      replace bx_d_0 := (cell_grown gg yb_d (fun k hk => by have := in_x.out k hk; omega) 0).trans bx_d_0
      replace bx_d_1 := (cell_grown gg yb_d (fun k hk => by have := in_x.out k hk; omega) 1).trans bx_d_1
      replace bx_d_2 := (cell_grown gg yb_d (fun k hk => by have := in_x.out k hk; omega) 2).trans bx_d_2
      replace yb_d := Nat.lt_of_lt_of_le yb_d gg.size
      replace bx_x_0 := (cell_grown gg yb_x (fun k hk => by have := in_x.out k hk; omega) 0).trans bx_x_0
      replace bx_x_1 := (cell_grown gg yb_x (fun k hk => by have := in_x.out k hk; omega) 1).trans bx_x_1
      replace bx_x_2 := (cell_grown gg yb_x (fun k hk => by have := in_x.out k hk; omega) 2).trans bx_x_2
      replace yb_x := Nat.lt_of_lt_of_le yb_x gg.size
      replace ow_t := ow_t.kept gg (own_apart in_t.out in_x.out (by omega))
      replace ow_s := ow_s.kept gg (own_apart in_s.out in_x.out (by omega))
      replace ow_g := ow_g.kept gg (own_apart in_g.out in_x.out (by omega))
      replace ow_x := om
      have sz8 : w7.heap.size ≤ w8.heap.size := gg.size
      replace bel : Below w.heap.size w w8 := bl_grown bel gg (fun k hk => by have := in_x.out k hk; omega)
      clear gg om
      go_wp2_with fail
      refine (eqStr_any _ _ F _ (Rd.of_own ow_g) (Rd.of_own ow_s) (by omega)).mono ?_
      rintro e w9 ⟨rfl, bb⟩
      obtain ⟨kk, ff, zz⟩ := bcell bb
      replace bx_d_0 := (kk _ 0 yb_d).trans bx_d_0
      replace bx_d_1 := (kk _ 1 yb_d).trans bx_d_1
      replace bx_d_2 := (kk _ 2 yb_d).trans bx_d_2
      replace bx_x_0 := (kk _ 0 yb_x).trans bx_x_0
      replace bx_x_1 := (kk _ 1 yb_x).trans bx_x_1
      replace bx_x_2 := (kk _ 2 yb_x).trans bx_x_2
      replace yb_d : w.heap.size < w9.heap.size := zz _ (by (first | omega | (simp; done) | (simp; omega)))
      replace yb_x : w4.heap.size < w9.heap.size := zz _ (by (first | omega | (simp; done) | (simp; omega)))
      replace ow_t := own_bl ow_t bb
      replace ow_s := own_bl ow_s bb
      replace ow_x := own_bl ow_x bb
      replace ow_g := own_bl ow_g bb
      have sz9 : w8.heap.size ≤ w9.heap.size := bb.size
      replace bel : Below w.heap.size w w9 := bl_to (by (repeat' (first | (with_reducible exact Below.refl _ _) | (with_reducible refine bl_alloc ?_ _) | (with_reducible refine bl_drewN ?_ _) | (with_reducible refine bl_drew ?_) | (with_reducible assumption) | (with_reducible refine bl_to ?_ (by assumption)) | (with_reducible refine Below.trans ?_ (by assumption)) | (with_reducible refine Below.trans ?_ (Below.mono (by assumption) ?_)) | (with_reducible refine bl_set ?_ ?_ _) | (simp; done) | (simp; omega) | omega))) bb
      clear kk ff zz bb
      go_wp2_with fail
      refine (markStr1_any _ _ F _ ow_g (by omega)).mono ?_
      rintro e w10 ⟨rfl, om, gg⟩
      replace bx_d_0 := (cell_grown gg yb_d (fun k hk => by have := in_g.out k hk; omega) 0).trans bx_d_0
      replace bx_d_1 := (cell_grown gg yb_d (fun k hk => by have := in_g.out k hk; omega) 1).trans bx_d_1
      replace bx_d_2 := (cell_grown gg yb_d (fun k hk => by have := in_g.out k hk; omega) 2).trans bx_d_2
      replace yb_d := Nat.lt_of_lt_of_le yb_d gg.size
      replace bx_x_0 := (cell_grown gg yb_x (fun k hk => by have := in_g.out k hk; omega) 0).trans bx_x_0
      replace bx_x_1 := (cell_grown gg yb_x (fun k hk => by have := in_g.out k hk; omega) 1).trans bx_x_1
      replace bx_x_2 := (cell_grown gg yb_x (fun k hk => by have := in_g.out k hk; omega) 2).trans bx_x_2
      replace yb_x := Nat.lt_of_lt_of_le yb_x gg.size
      replace ow_t := ow_t.kept gg (own_apart in_t.out in_g.out (by omega))
      replace ow_s := ow_s.kept gg (own_apart in_s.out in_g.out (by omega))
      replace ow_x := ow_x.kept gg (own_apart in_x.out in_g.out (by omega))
      replace ow_g := om
      have sz10 : w9.heap.size ≤ w10.heap.size := gg.size
      replace bel : Below w.heap.size w w10 := bl_grown bel gg (fun k hk => by have := in_g.out k hk; omega)
      clear gg om
      go_wp2_with fail
      refine (heldStr1_any _ F.length _ (Rd.of_own ow_g) (by omega)).mono ?_
      rintro e w11 ⟨rfl, bb⟩
      obtain ⟨kk, ff, zz⟩ := bcell bb
      replace bx_d_0 := (kk _ 0 yb_d).trans bx_d_0
      replace bx_d_1 := (kk _ 1 yb_d).trans bx_d_1
      replace bx_d_2 := (kk _ 2 yb_d).trans bx_d_2
      replace bx_x_0 := (kk _ 0 yb_x).trans bx_x_0
      replace bx_x_1 := (kk _ 1 yb_x).trans bx_x_1
      replace bx_x_2 := (kk _ 2 yb_x).trans bx_x_2
      replace yb_d : w.heap.size < w11.heap.size := zz _ (by (first | omega | (simp; done) | (simp; omega)))
      replace yb_x : w4.heap.size < w11.heap.size := zz _ (by (first | omega | (simp; done) | (simp; omega)))
      replace ow_t := own_bl ow_t bb
      replace ow_s := own_bl ow_s bb
      replace ow_x := own_bl ow_x bb
      replace ow_g := own_bl ow_g bb
      have sz11 : w10.heap.size ≤ w11.heap.size := bb.size
      replace bel : Below w.heap.size w w11 := bl_to (by (repeat' (first | (with_reducible exact Below.refl _ _) | (with_reducible refine bl_alloc ?_ _) | (with_reducible refine bl_drewN ?_ _) | (with_reducible refine bl_drew ?_) | (with_reducible assumption) | (with_reducible refine bl_to ?_ (by assumption)) | (with_reducible refine Below.trans ?_ (by assumption)) | (with_reducible refine Below.trans ?_ (Below.mono (by assumption) ?_)) | (with_reducible refine bl_set ?_ ?_ _) | (simp; done) | (simp; omega) | omega))) bb
      clear kk ff zz bb
      go_wp2_with fail
      refine (toCylinder_any st tr v l _ (hr.bl (by (repeat' (first | (with_reducible exact Below.refl _ _) | (with_reducible refine bl_alloc ?_ _) | (with_reducible refine bl_drewN ?_ _) | (with_reducible refine bl_drew ?_) | (with_reducible assumption) | (with_reducible refine bl_to ?_ (by assumption)) | (with_reducible refine Below.trans ?_ (by assumption)) | (with_reducible refine Below.trans ?_ (Below.mono (by assumption) ?_)) | (with_reducible refine bl_set ?_ ?_ _) | (simp; done) | (simp; omega) | omega)))) hl).mono ?_
      rintro e w12 ⟨A_y, c_y, rfl, on_y, bb⟩
      obtain ⟨kk, ff, zz⟩ := bcell bb
      replace bx_d_0 := (kk _ 0 yb_d).trans bx_d_0
      replace bx_d_1 := (kk _ 1 yb_d).trans bx_d_1
      replace bx_d_2 := (kk _ 2 yb_d).trans bx_d_2
      replace bx_x_0 := (kk _ 0 yb_x).trans bx_x_0
      replace bx_x_1 := (kk _ 1 yb_x).trans bx_x_1
      replace bx_x_2 := (kk _ 2 yb_x).trans bx_x_2
      replace yb_d : w.heap.size < w12.heap.size := zz _ (by (first | omega | (simp; done) | (simp; omega)))
      replace yb_x : w4.heap.size < w12.heap.size := zz _ (by (first | omega | (simp; done) | (simp; omega)))
      replace ow_t := own_bl ow_t bb
      replace ow_s := own_bl ow_s bb
      replace ow_x := own_bl ow_x bb
      replace ow_g := own_bl ow_g bb
      have sz12 : w11.heap.size ≤ w12.heap.size := bb.size
      replace bel : Below w.heap.size w w12 := bl_to (by (repeat' (first | (with_reducible exact Below.refl _ _) | (with_reducible refine bl_alloc ?_ _) | (with_reducible refine bl_drewN ?_ _) | (with_reducible refine bl_drew ?_) | (with_reducible assumption) | (with_reducible refine bl_to ?_ (by assumption)) | (with_reducible refine Below.trans ?_ (by assumption)) | (with_reducible refine Below.trans ?_ (Below.mono (by assumption) ?_)) | (with_reducible refine bl_set ?_ ?_ _) | (simp; done) | (simp; omega) | omega))) bb
      clear kk ff zz bb
      have ow_y := own_lo (lo' := w11.heap.size) on_y (by (first | omega | (simp; done) | (simp; omega)))
      have in_y := Lib.hid ow_y.lt
      clear on_y
      go_wp2_with fail
      refine (GI.out _ _ (Rd.of_own ow_y)).mono ?_
      rintro e w13 ⟨A_h, c_h, rfl, on_h, bb⟩
      obtain ⟨kk, ff, zz⟩ := bcell bb
      replace bx_d_0 := (kk _ 0 yb_d).trans bx_d_0
      replace bx_d_1 := (kk _ 1 yb_d).trans bx_d_1
      replace bx_d_2 := (kk _ 2 yb_d).trans bx_d_2
      replace bx_x_0 := (kk _ 0 yb_x).trans bx_x_0
      replace bx_x_1 := (kk _ 1 yb_x).trans bx_x_1
      replace bx_x_2 := (kk _ 2 yb_x).trans bx_x_2
      replace yb_d : w.heap.size < w13.heap.size := zz _ (by (first | omega | (simp; done) | (simp; omega)))
      replace yb_x : w4.heap.size < w13.heap.size := zz _ (by (first | omega | (simp; done) | (simp; omega)))
      replace ow_t := own_bl ow_t bb
      replace ow_s := own_bl ow_s bb
      replace ow_x := own_bl ow_x bb
      replace ow_g := own_bl ow_g bb
      replace ow_y := own_bl ow_y bb
      have sz13 : w12.heap.size ≤ w13.heap.size := bb.size
      replace bel : Below w.heap.size w w13 := bl_to (by (repeat' (first | (with_reducible exact Below.refl _ _) | (with_reducible refine bl_alloc ?_ _) | (with_reducible refine bl_drewN ?_ _) | (with_reducible refine bl_drew ?_) | (with_reducible assumption) | (with_reducible refine bl_to ?_ (by assumption)) | (with_reducible refine Below.trans ?_ (by assumption)) | (with_reducible refine Below.trans ?_ (Below.mono (by assumption) ?_)) | (with_reducible refine bl_set ?_ ?_ _) | (simp; done) | (simp; omega) | omega))) bb
      clear kk ff zz bb
      have ow_h := own_lo (lo' := w12.heap.size) on_h (by (first | omega | (simp; done) | (simp; omega)))
      have in_h := Lib.hid ow_h.lt
      clear on_h
      go_wp2_with fail
      refine (eqStr_any _ _ F _ (Rd.of_own ow_h) (Rd.of_own ow_s) (by omega)).mono ?_
      rintro e w14 ⟨rfl, bb⟩
      obtain ⟨kk, ff, zz⟩ := bcell bb
      replace bx_d_0 := (kk _ 0 yb_d).trans bx_d_0
      replace bx_d_1 := (kk _ 1 yb_d).trans bx_d_1
      replace bx_d_2 := (kk _ 2 yb_d).trans bx_d_2
      replace bx_x_0 := (kk _ 0 yb_x).trans bx_x_0
      replace bx_x_1 := (kk _ 1 yb_x).trans bx_x_1
      replace bx_x_2 := (kk _ 2 yb_x).trans bx_x_2
      replace yb_d : w.heap.size < w14.heap.size := zz _ (by (first | omega | (simp; done) | (simp; omega)))
      replace yb_x : w4.heap.size < w14.heap.size := zz _ (by (first | omega | (simp; done) | (simp; omega)))
      replace ow_t := own_bl ow_t bb
      replace ow_s := own_bl ow_s bb
      replace ow_x := own_bl ow_x bb
      replace ow_g := own_bl ow_g bb
      replace ow_y := own_bl ow_y bb
      replace ow_h := own_bl ow_h bb
      have sz14 : w13.heap.size ≤ w14.heap.size := bb.size
      replace bel : Below w.heap.size w w14 := bl_to (by (repeat' (first | (with_reducible exact Below.refl _ _) | (with_reducible refine bl_alloc ?_ _) | (with_reducible refine bl_drewN ?_ _) | (with_reducible refine bl_drew ?_) | (with_reducible assumption) | (with_reducible refine bl_to ?_ (by assumption)) | (with_reducible refine Below.trans ?_ (by assumption)) | (with_reducible refine Below.trans ?_ (Below.mono (by assumption) ?_)) | (with_reducible refine bl_set ?_ ?_ _) | (simp; done) | (simp; omega) | omega))) bb
      clear kk ff zz bb
      go_wp2_with fail
      refine (heldStr1_any _ F.length _ (Rd.of_own ow_g) (by omega)).mono ?_
      rintro e w15 ⟨rfl, bb⟩
      obtain ⟨kk, ff, zz⟩ := bcell bb
      replace bx_d_0 := (kk _ 0 yb_d).trans bx_d_0
      replace bx_d_1 := (kk _ 1 yb_d).trans bx_d_1
      replace bx_d_2 := (kk _ 2 yb_d).trans bx_d_2
      replace bx_x_0 := (kk _ 0 yb_x).trans bx_x_0
      replace bx_x_1 := (kk _ 1 yb_x).trans bx_x_1
      replace bx_x_2 := (kk _ 2 yb_x).trans bx_x_2
      replace yb_d : w.heap.size < w15.heap.size := zz _ (by (first | omega | (simp; done) | (simp; omega)))
      replace yb_x : w4.heap.size < w15.heap.size := zz _ (by (first | omega | (simp; done) | (simp; omega)))
      replace ow_t := own_bl ow_t bb
      replace ow_s := own_bl ow_s bb
      replace ow_x := own_bl ow_x bb
      replace ow_g := own_bl ow_g bb
      replace ow_y := own_bl ow_y bb
      replace ow_h := own_bl ow_h bb
      have sz15 : w14.heap.size ≤ w15.heap.size := bb.size
      replace bel : Below w.heap.size w w15 := bl_to (by (repeat' (first | (with_reducible exact Below.refl _ _) | (with_reducible refine bl_alloc ?_ _) | (with_reducible refine bl_drewN ?_ _) | (with_reducible refine bl_drew ?_) | (with_reducible assumption) | (with_reducible refine bl_to ?_ (by assumption)) | (with_reducible refine Below.trans ?_ (by assumption)) | (with_reducible refine Below.trans ?_ (Below.mono (by assumption) ?_)) | (with_reducible refine bl_set ?_ ?_ _) | (simp; done) | (simp; omega) | omega))) bb
      clear kk ff zz bb
      go_wp2
      go_ret
      exact ⟨rfl, by (repeat' (first | (with_reducible exact Below.refl _ _) | (with_reducible refine bl_alloc ?_ _) | (with_reducible refine bl_drewN ?_ _) | (with_reducible refine bl_drew ?_) | (with_reducible assumption) | (with_reducible refine bl_to ?_ (by assumption)) | (with_reducible refine Below.trans ?_ (by assumption)) | (with_reducible refine Below.trans ?_ (Below.mono (by assumption) ?_)) | (with_reducible refine bl_set ?_ ?_ _) | (simp; done) | (simp; omega) | omega))⟩
  · go_enter Try.func3, Try.ntmps3
    go_wp2_with fail
    refine (szCylinder_any st tr v l _ _ (hr.bl (by (repeat' (first | (with_reducible exact Below.refl _ _) | (with_reducible refine bl_alloc ?_ _) | (with_reducible refine bl_drewN ?_ _) | (with_reducible refine bl_drew ?_) | (with_reducible assumption) | (with_reducible refine bl_to ?_ (by assumption)) | (with_reducible refine Below.trans ?_ (by assumption)) | (with_reducible refine Below.trans ?_ (Below.mono (by assumption) ?_)) | (with_reducible refine bl_set ?_ ?_ _) | (simp; done) | (simp; omega) | omega)))) (by omega) (by omega)).mono ?_
    rintro e w1 ⟨rfl, b1⟩
    rw [if_pos (by omega)]
    go_wp2
    go_ret
    exact ⟨rfl, by (repeat' (first | (with_reducible exact Below.refl _ _) | (with_reducible refine bl_alloc ?_ _) | (with_reducible refine bl_drewN ?_ _) | (with_reducible refine bl_drew ?_) | (with_reducible assumption) | (with_reducible refine bl_to ?_ (by assumption)) | (with_reducible refine Below.trans ?_ (by assumption)) | (with_reducible refine Below.trans ?_ (Below.mono (by assumption) ?_)) | (with_reducible refine bl_set ?_ ?_ _) | (simp; done) | (simp; omega) | omega))⟩
end Go.Proofs.Ythgllpocljeegaa
