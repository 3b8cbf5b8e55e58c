/- FnExactTurnStrip: the law returns true at every input; no condition. -/
import Derived.Test.YtbcmidencifcoaaTurnS
import Derived.Test.YtbcmidencifcoaaTurnI
import Derived.Test.YtbcmidencifcoaaStMStrip
import Derived.Deep.DeepCutAuto
import Derived.Deep.RegionHeld3
namespace Go.Proofs.Ytbcmidencifcoaa
open Go.RowKit

set_option maxHeartbeats 3200000 in
theorem turnStrip_law (r : Int) (v : Value) (l : List (Int × Int)) (w : World) (hr : RdN w v l) (hlF : l.length ≤ 1048576 → (turL r l).length ≤ 1048576) : Calls Try.prog 13 #[.agg #[.int .i64 r, v]] w fun e w' => e = .returned (.bool true) ∧ Below w.heap.size w w' := by
  by_cases hl : l.length ≤ 1048576
  · have hlR := hlF hl
    clear hlF
    go_enter Try.func13, Try.ntmps13
    go_wp2_with fail
    refine (szStrip_any r v l _ _ (hr.bl (by (repeat' (first | (with_reducible exact Below.refl _ _) | (with_reducible refine bl_alloc ?_ _) | (with_reducible refine bl_drewN ?_ _) | (with_reducible refine bl_drew ?_) | (with_reducible assumption) | (with_reducible refine bl_to ?_ (by assumption)) | (with_reducible refine Below.trans ?_ (by assumption)) | (with_reducible refine Below.trans ?_ (Below.mono (by assumption) ?_)) | (with_reducible refine bl_set ?_ ?_ _) | (simp; done) | (simp; omega) | omega)))) (by omega) (by omega)).mono ?_
    rintro e w1 ⟨rfl, bb⟩
    rw [if_neg (by omega)]
    obtain ⟨kk, ff, zz⟩ := bcell bb
    have bx_d_0 : w1.cell? ⟨w.heap.size, 0, none⟩ = some (.int .i64 r) := (kk _ _ (by (first | omega | (simp; done) | (simp; omega)))).trans (by simp [go_sem])
    have bx_d_1 : w1.cell? ⟨w.heap.size, 1, none⟩ = some (v) := (kk _ _ (by (first | omega | (simp; done) | (simp; omega)))).trans (by simp [go_sem])
    have yb_d : w.heap.size < w1.heap.size := zz _ (by (first | omega | (simp; done) | (simp; omega)))
    have sz1 : w.heap.size + 1 ≤ w1.heap.size := by have := bb.size; simp only [World.size_alloc] at this; omega
    have bel : Below w.heap.size w w1 := bl_to (by (repeat' (first | (with_reducible exact Below.refl _ _) | (with_reducible refine bl_alloc ?_ _) | (with_reducible refine bl_drewN ?_ _) | (with_reducible refine bl_drew ?_) | (with_reducible assumption) | (with_reducible refine bl_to ?_ (by assumption)) | (with_reducible refine Below.trans ?_ (by assumption)) | (with_reducible refine Below.trans ?_ (Below.mono (by assumption) ?_)) | (with_reducible refine bl_set ?_ ?_ _) | (simp; done) | (simp; omega) | omega))) bb
    clear kk ff zz bb
    go_wp2_with fail
    refine (toStrip_any r v l _ (hr.bl (by (repeat' (first | (with_reducible exact Below.refl _ _) | (with_reducible refine bl_alloc ?_ _) | (with_reducible refine bl_drewN ?_ _) | (with_reducible refine bl_drew ?_) | (with_reducible assumption) | (with_reducible refine bl_to ?_ (by assumption)) | (with_reducible refine Below.trans ?_ (by assumption)) | (with_reducible refine Below.trans ?_ (Below.mono (by assumption) ?_)) | (with_reducible refine bl_set ?_ ?_ _) | (simp; done) | (simp; omega) | omega)))) hl).mono ?_
    rintro e w2 ⟨A_t, c_t, rfl, on_t, bb⟩
    obtain ⟨kk, ff, zz⟩ := bcell bb
    replace bx_d_0 := (kk _ 0 yb_d).trans bx_d_0
    replace bx_d_1 := (kk _ 1 yb_d).trans bx_d_1
    replace yb_d : w.heap.size < w2.heap.size := zz _ (by (first | omega | (simp; done) | (simp; omega)))
    have sz2 : w1.heap.size ≤ w2.heap.size := bb.size
    replace bel : Below w.heap.size w w2 := bl_to (by (repeat' (first | (with_reducible exact Below.refl _ _) | (with_reducible refine bl_alloc ?_ _) | (with_reducible refine bl_drewN ?_ _) | (with_reducible refine bl_drew ?_) | (with_reducible assumption) | (with_reducible refine bl_to ?_ (by assumption)) | (with_reducible refine Below.trans ?_ (by assumption)) | (with_reducible refine Below.trans ?_ (Below.mono (by assumption) ?_)) | (with_reducible refine bl_set ?_ ?_ _) | (simp; done) | (simp; omega) | omega))) bb
    clear kk ff zz bb
    have ow_t := own_lo (lo' := w1.heap.size) on_t (by (first | omega | (simp; done) | (simp; omega)))
    have in_t := Lib.hid ow_t.lt
    clear on_t
    go_wp2_with fail
    refine (turnStripS_any r _ l _ (Rd.of_own ow_t) hl).mono ?_
    rintro e w3 ⟨A_s, c_s, rfl, on_s, bb⟩
    obtain ⟨kk, ff, zz⟩ := bcell bb
    replace bx_d_0 := (kk _ 0 yb_d).trans bx_d_0
    replace bx_d_1 := (kk _ 1 yb_d).trans bx_d_1
    replace yb_d : w.heap.size < w3.heap.size := zz _ (by (first | omega | (simp; done) | (simp; omega)))
    replace ow_t := own_bl ow_t bb
    have sz3 : w2.heap.size ≤ w3.heap.size := bb.size
    replace bel : Below w.heap.size w w3 := bl_to (by (repeat' (first | (with_reducible exact Below.refl _ _) | (with_reducible refine bl_alloc ?_ _) | (with_reducible refine bl_drewN ?_ _) | (with_reducible refine bl_drew ?_) | (with_reducible assumption) | (with_reducible refine bl_to ?_ (by assumption)) | (with_reducible refine Below.trans ?_ (by assumption)) | (with_reducible refine Below.trans ?_ (Below.mono (by assumption) ?_)) | (with_reducible refine bl_set ?_ ?_ _) | (simp; done) | (simp; omega) | omega))) bb
    clear kk ff zz bb
    have ow_s := own_lo (lo' := w2.heap.size) on_s (by (first | omega | (simp; done) | (simp; omega)))
    have in_s := Lib.hid ow_s.lt
    clear on_s
    go_wp2_with fail
    refine (toStrip_any r v l _ (hr.bl (by (repeat' (first | (with_reducible exact Below.refl _ _) | (with_reducible refine bl_alloc ?_ _) | (with_reducible refine bl_drewN ?_ _) | (with_reducible refine bl_drew ?_) | (with_reducible assumption) | (with_reducible refine bl_to ?_ (by assumption)) | (with_reducible refine Below.trans ?_ (by assumption)) | (with_reducible refine Below.trans ?_ (Below.mono (by assumption) ?_)) | (with_reducible refine bl_set ?_ ?_ _) | (simp; done) | (simp; omega) | omega)))) hl).mono ?_
    rintro e w4 ⟨A_x, c_x, rfl, on_x, bb⟩
    obtain ⟨kk, ff, zz⟩ := bcell bb
    replace bx_d_0 : w4.cell? ⟨w.heap.size, 0, none⟩ = some (.int .i64 r) := (kk _ _ (by (first | omega | (simp; done) | (simp; omega)))).trans (by simp [go_sem, bx_d_0, yb_d])
    replace bx_d_1 : w4.cell? ⟨w.heap.size, 1, none⟩ = some (v) := (kk _ _ (by (first | omega | (simp; done) | (simp; omega)))).trans (by simp [go_sem, bx_d_1, yb_d])
    have bx_s_0 : w4.cell? ⟨w3.heap.size, 0, none⟩ = some (.int .i64 r) := (kk _ _ (by (first | omega | (simp; done) | (simp; omega)))).trans (by simp [go_sem])
    have bx_s_1 : w4.cell? ⟨w3.heap.size, 1, none⟩ = some ((.slice A_s ((turL r l).length) c_s)) := (kk _ _ (by (first | omega | (simp; done) | (simp; omega)))).trans (by simp [go_sem])
    replace yb_d : w.heap.size < w4.heap.size := zz _ (by (first | omega | (simp; done) | (simp; omega)))
    have yb_s : w3.heap.size < w4.heap.size := zz _ (by (first | omega | (simp; done) | (simp; omega)))
    replace ow_t := own_bl (ow_t.alloc _) bb
    replace ow_s := own_bl (ow_s.alloc _) bb
    have sz4 : w3.heap.size + 1 ≤ w4.heap.size := by have := bb.size; simp only [World.size_alloc] at this; omega
    replace bel : Below w.heap.size w w4 := bl_to (by (repeat' (first | (with_reducible exact Below.refl _ _) | (with_reducible refine bl_alloc ?_ _) | (with_reducible refine bl_drewN ?_ _) | (with_reducible refine bl_drew ?_) | (with_reducible assumption) | (with_reducible refine bl_to ?_ (by assumption)) | (with_reducible refine Below.trans ?_ (by assumption)) | (with_reducible refine Below.trans ?_ (Below.mono (by assumption) ?_)) | (with_reducible refine bl_set ?_ ?_ _) | (simp; done) | (simp; omega) | omega))) bb
    clear kk ff zz bb
    have ow_x := own_lo (lo' := w3.heap.size + 1) on_x (by (first | omega | (simp; done) | (simp; omega)))
    have in_x := Lib.hid ow_x.lt
    clear on_x
    go_wp2_with fail
    refine (turnStripI_any r _ l _ (Rd.of_own (ow_x.alloc _)) hl).mono ?_
    rintro e w5 ⟨A_g, c_g, rfl, on_g, bb⟩
    obtain ⟨kk, ff, zz⟩ := bcell bb
    replace bx_d_0 : w5.cell? ⟨w.heap.size, 0, none⟩ = some (.int .i64 r) := (kk _ _ (by (first | omega | (simp; done) | (simp; omega)))).trans (by simp [go_sem, bx_d_0, yb_d])
    replace bx_d_1 : w5.cell? ⟨w.heap.size, 1, none⟩ = some (v) := (kk _ _ (by (first | omega | (simp; done) | (simp; omega)))).trans (by simp [go_sem, bx_d_1, yb_d])
    replace bx_s_0 : w5.cell? ⟨w3.heap.size, 0, none⟩ = some (.int .i64 r) := (kk _ _ (by (first | omega | (simp; done) | (simp; omega)))).trans (by simp [go_sem, bx_s_0, yb_s])
    replace bx_s_1 : w5.cell? ⟨w3.heap.size, 1, none⟩ = some ((.slice A_s ((turL r l).length) c_s)) := (kk _ _ (by (first | omega | (simp; done) | (simp; omega)))).trans (by simp [go_sem, bx_s_1, yb_s])
    have bx_x_0 : w5.cell? ⟨w4.heap.size, 0, none⟩ = some (.int .i64 r) := (kk _ _ (by (first | omega | (simp; done) | (simp; omega)))).trans (by simp [go_sem])
    have bx_x_1 : w5.cell? ⟨w4.heap.size, 1, none⟩ = some ((.slice A_x (l.length) c_x)) := (kk _ _ (by (first | omega | (simp; done) | (simp; omega)))).trans (by simp [go_sem])
    replace yb_d : w.heap.size < w5.heap.size := zz _ (by (first | omega | (simp; done) | (simp; omega)))
    replace yb_s : w3.heap.size < w5.heap.size := zz _ (by (first | omega | (simp; done) | (simp; omega)))
    have yb_x : w4.heap.size < w5.heap.size := zz _ (by (first | omega | (simp; done) | (simp; omega)))
    replace ow_t := own_bl (ow_t.alloc _) bb
    replace ow_s := own_bl (ow_s.alloc _) bb
    replace ow_x := own_bl (ow_x.alloc _) bb
    have sz5 : w4.heap.size + 1 ≤ w5.heap.size := by have := bb.size; simp only [World.size_alloc] at this; omega
    replace bel : Below w.heap.size w w5 := bl_to (by (repeat' (first | (with_reducible exact Below.refl _ _) | (with_reducible refine bl_alloc ?_ _) | (with_reducible refine bl_drewN ?_ _) | (with_reducible refine bl_drew ?_) | (with_reducible assumption) | (with_reducible refine bl_to ?_ (by assumption)) | (with_reducible refine Below.trans ?_ (by assumption)) | (with_reducible refine Below.trans ?_ (Below.mono (by assumption) ?_)) | (with_reducible refine bl_set ?_ ?_ _) | (simp; done) | (simp; omega) | omega))) bb
    clear kk ff zz bb
    have ow_g := own_lo (lo' := w4.heap.size + 1) on_g (by (first | omega | (simp; done) | (simp; omega)))
    have in_g := Lib.hid ow_g.lt
    clear on_g
    go_wp2_with fail
    refine (eqStrip_any r _ _ (turL r l) _ (Rd.of_own (ow_g.alloc _)) (Rd.of_own (ow_s.alloc _)) hlR).mono ?_
    rintro e w6 ⟨rfl, bb⟩
    obtain ⟨kk, ff, zz⟩ := bcell bb
    replace bx_d_0 : w6.cell? ⟨w.heap.size, 0, none⟩ = some (.int .i64 r) := (kk _ _ (by (first | omega | (simp; done) | (simp; omega)))).trans (by simp [go_sem, bx_d_0, yb_d])
    replace bx_d_1 : w6.cell? ⟨w.heap.size, 1, none⟩ = some (v) := (kk _ _ (by (first | omega | (simp; done) | (simp; omega)))).trans (by simp [go_sem, bx_d_1, yb_d])
    replace bx_s_0 : w6.cell? ⟨w3.heap.size, 0, none⟩ = some (.int .i64 r) := (kk _ _ (by (first | omega | (simp; done) | (simp; omega)))).trans (by simp [go_sem, bx_s_0, yb_s])
    replace bx_s_1 : w6.cell? ⟨w3.heap.size, 1, none⟩ = some ((.slice A_s ((turL r l).length) c_s)) := (kk _ _ (by (first | omega | (simp; done) | (simp; omega)))).trans (by simp [go_sem, bx_s_1, yb_s])
    replace bx_x_0 : w6.cell? ⟨w4.heap.size, 0, none⟩ = some (.int .i64 r) := (kk _ _ (by (first | omega | (simp; done) | (simp; omega)))).trans (by simp [go_sem, bx_x_0, yb_x])
    replace bx_x_1 : w6.cell? ⟨w4.heap.size, 1, none⟩ = some ((.slice A_x (l.length) c_x)) := (kk _ _ (by (first | omega | (simp; done) | (simp; omega)))).trans (by simp [go_sem, bx_x_1, yb_x])
    have bx_g_0 : w6.cell? ⟨w5.heap.size, 0, none⟩ = some (.int .i64 r) := (kk _ _ (by (first | omega | (simp; done) | (simp; omega)))).trans (by simp [go_sem])
    have bx_g_1 : w6.cell? ⟨w5.heap.size, 1, none⟩ = some ((.slice A_g ((turL r l).length) c_g)) := (kk _ _ (by (first | omega | (simp; done) | (simp; omega)))).trans (by simp [go_sem])
    replace yb_d : w.heap.size < w6.heap.size := zz _ (by (first | omega | (simp; done) | (simp; omega)))
    replace yb_s : w3.heap.size < w6.heap.size := zz _ (by (first | omega | (simp; done) | (simp; omega)))
    replace yb_x : w4.heap.size < w6.heap.size := zz _ (by (first | omega | (simp; done) | (simp; omega)))
    have yb_g : w5.heap.size < w6.heap.size := zz _ (by (first | omega | (simp; done) | (simp; omega)))
    replace ow_t := own_bl (ow_t.alloc _) bb
    replace ow_s := own_bl (ow_s.alloc _) bb
    replace ow_x := own_bl (ow_x.alloc _) bb
    replace ow_g := own_bl (ow_g.alloc _) bb
    have sz6 : w5.heap.size + 1 ≤ w6.heap.size := by have := bb.size; simp only [World.size_alloc] at this; omega
    replace bel : Below w.heap.size w w6 := bl_to (by (repeat' (first | (with_reducible exact Below.refl _ _) | (with_reducible refine bl_alloc ?_ _) | (with_reducible refine bl_drewN ?_ _) | (with_reducible refine bl_drew ?_) | (with_reducible assumption) | (with_reducible refine bl_to ?_ (by assumption)) | (with_reducible refine Below.trans ?_ (by assumption)) | (with_reducible refine Below.trans ?_ (Below.mono (by assumption) ?_)) | (with_reducible refine bl_set ?_ ?_ _) | (simp; done) | (simp; omega) | omega))) bb
    clear kk ff zz bb
    go_upto_region 10 with (fail)
    go_cut [31] (fun s wx => s = .bool false ∧ Below w6.heap.size w6 wx)
    case first =>
      go_region_with (first | (go_at_call 22; refine (toStrip_any r v l _ (hr.bl (by (repeat' (first | (with_reducible exact Below.refl _ _) | (with_reducible refine bl_alloc ?_ _) | (with_reducible refine bl_drewN ?_ _) | (with_reducible refine bl_drew ?_) | (with_reducible assumption) | (with_reducible refine bl_to ?_ (by assumption)) | (with_reducible refine Below.trans ?_ (by assumption)) | (with_reducible refine Below.trans ?_ (Below.mono (by assumption) ?_)) | (with_reducible refine bl_set ?_ ?_ _) | (simp; done) | (simp; omega) | omega)))) hl).mono ?_; rintro e wt ⟨At, ct, rfl, owt, bt⟩; obtain ⟨kt, ft, zt⟩ := bcell bt; have xt0 := (kt _ 0 yb_x).trans bx_x_0; have xt1 := (kt _ 1 yb_x).trans bx_x_1) | (go_at_call 24; refine (eqStrip_any r _ _ l _ (Rd.of_own (own_bl (by first | exact ow_x | exact World.ownsRow.drew ow_x) bt)) (Rd.of_own owt) hl).mono ?_; rintro e wu ⟨rfl, bu⟩))
      all_goals (go_wp2_with fail; go_meet; exact ⟨rfl, by (repeat' (first | (with_reducible exact Below.refl _ _) | (with_reducible refine bl_alloc ?_ _) | (with_reducible refine bl_drewN ?_ _) | (with_reducible refine bl_drew ?_) | (with_reducible assumption) | (with_reducible refine bl_to ?_ (by assumption)) | (with_reducible refine Below.trans ?_ (by assumption)) | (with_reducible refine Below.trans ?_ (Below.mono (by assumption) ?_)) | (with_reducible refine bl_set ?_ ?_ _) | (simp; done) | (simp; omega) | omega))⟩)
    case rest =>
      obtain ⟨rfl, bb⟩ := hcut
      obtain ⟨w7, rfl⟩ : ∃ x : World, x = wc := ⟨_, rfl⟩
      obtain ⟨kk, ff, zz⟩ := bcell bb
      replace bx_d_0 := (kk _ 0 yb_d).trans bx_d_0
      replace bx_d_1 := (kk _ 1 yb_d).trans bx_d_1
      replace bx_s_0 := (kk _ 0 yb_s).trans bx_s_0
      replace bx_s_1 := (kk _ 1 yb_s).trans bx_s_1
      replace bx_x_0 := (kk _ 0 yb_x).trans bx_x_0
      replace bx_x_1 := (kk _ 1 yb_x).trans bx_x_1
      replace bx_g_0 := (kk _ 0 yb_g).trans bx_g_0
      replace bx_g_1 := (kk _ 1 yb_g).trans bx_g_1
      replace yb_d : w.heap.size < w7.heap.size := zz _ (by (first | omega | (simp; done) | (simp; omega)))
      replace yb_s : w3.heap.size < w7.heap.size := zz _ (by (first | omega | (simp; done) | (simp; omega)))
      replace yb_x : w4.heap.size < w7.heap.size := zz _ (by (first | omega | (simp; done) | (simp; omega)))
      replace yb_g : w5.heap.size < w7.heap.size := zz _ (by (first | omega | (simp; done) | (simp; omega)))
      replace ow_t := own_bl ow_t bb
      replace ow_s := own_bl ow_s bb
      replace ow_x := own_bl ow_x bb
      replace ow_g := own_bl ow_g bb
      have sz7 : w6.heap.size ≤ w7.heap.size := bb.size
      replace bel : Below w.heap.size w w7 := bl_to (by (repeat' (first | (with_reducible exact Below.refl _ _) | (with_reducible refine bl_alloc ?_ _) | (with_reducible refine bl_drewN ?_ _) | (with_reducible refine bl_drew ?_) | (with_reducible assumption) | (with_reducible refine bl_to ?_ (by assumption)) | (with_reducible refine Below.trans ?_ (by assumption)) | (with_reducible refine Below.trans ?_ (Below.mono (by assumption) ?_)) | (with_reducible refine bl_set ?_ ?_ _) | (simp; done) | (simp; omega) | omega))) bb
      clear kk ff zz bb
      go_wp2_with fail
      refine (markStrip_any _ r _ l 1 _ ow_x hl (by omega) (by omega)).mono ?_
      rintro e w8 ⟨rfl, om, gg⟩
      replace bx_d_0 := (cell_grown gg yb_d (fun k hk => by have := in_x.out k hk; omega) 0).trans bx_d_0
      replace bx_d_1 := (cell_grown gg yb_d (fun k hk => by have := in_x.out k hk; omega) 1).trans bx_d_1
      replace yb_d := Nat.lt_of_lt_of_le yb_d gg.size
      replace bx_s_0 := (cell_grown gg yb_s (fun k hk => by have := in_x.out k hk; omega) 0).trans bx_s_0
      replace bx_s_1 := (cell_grown gg yb_s (fun k hk => by have := in_x.out k hk; omega) 1).trans bx_s_1
      replace yb_s := Nat.lt_of_lt_of_le yb_s gg.size
      replace bx_x_0 := (cell_grown gg yb_x (fun k hk => by have := in_x.out k hk; omega) 0).trans bx_x_0
      replace bx_x_1 := (cell_grown gg yb_x (fun k hk => by have := in_x.out k hk; omega) 1).trans bx_x_1
      replace yb_x := Nat.lt_of_lt_of_le yb_x gg.size
      replace bx_g_0 := (cell_grown gg yb_g (fun k hk => by have := in_x.out k hk; omega) 0).trans bx_g_0
      replace bx_g_1 := (cell_grown gg yb_g (fun k hk => by have := in_x.out k hk; omega) 1).trans bx_g_1
      replace yb_g := Nat.lt_of_lt_of_le yb_g gg.size
      replace ow_t := ow_t.kept gg (own_apart in_t.out in_x.out (by omega))
      replace ow_s := ow_s.kept gg (own_apart in_s.out in_x.out (by omega))
      replace ow_g := ow_g.kept gg (own_apart in_g.out in_x.out (by omega))
      replace ow_x := om
      have sz8 : w7.heap.size ≤ w8.heap.size := gg.size
      replace bel : Below w.heap.size w w8 := bl_grown bel gg (fun k hk => by have := in_x.out k hk; omega)
      clear gg om
      go_wp2_with fail
      refine (eqStrip_any r _ _ (turL r l) _ (Rd.of_own ow_g) (Rd.of_own ow_s) hlR).mono ?_
      rintro e w9 ⟨rfl, bb⟩
      obtain ⟨kk, ff, zz⟩ := bcell bb
      replace bx_d_0 := (kk _ 0 yb_d).trans bx_d_0
      replace bx_d_1 := (kk _ 1 yb_d).trans bx_d_1
      replace bx_s_0 := (kk _ 0 yb_s).trans bx_s_0
      replace bx_s_1 := (kk _ 1 yb_s).trans bx_s_1
      replace bx_x_0 := (kk _ 0 yb_x).trans bx_x_0
      replace bx_x_1 := (kk _ 1 yb_x).trans bx_x_1
      replace bx_g_0 := (kk _ 0 yb_g).trans bx_g_0
      replace bx_g_1 := (kk _ 1 yb_g).trans bx_g_1
      replace yb_d : w.heap.size < w9.heap.size := zz _ (by (first | omega | (simp; done) | (simp; omega)))
      replace yb_s : w3.heap.size < w9.heap.size := zz _ (by (first | omega | (simp; done) | (simp; omega)))
      replace yb_x : w4.heap.size < w9.heap.size := zz _ (by (first | omega | (simp; done) | (simp; omega)))
      replace yb_g : w5.heap.size < w9.heap.size := zz _ (by (first | omega | (simp; done) | (simp; omega)))
      replace ow_t := own_bl ow_t bb
      replace ow_s := own_bl ow_s bb
      replace ow_x := own_bl ow_x bb
      replace ow_g := own_bl ow_g bb
      have sz9 : w8.heap.size ≤ w9.heap.size := bb.size
      replace bel : Below w.heap.size w w9 := bl_to (by (repeat' (first | (with_reducible exact Below.refl _ _) | (with_reducible refine bl_alloc ?_ _) | (with_reducible refine bl_drewN ?_ _) | (with_reducible refine bl_drew ?_) | (with_reducible assumption) | (with_reducible refine bl_to ?_ (by assumption)) | (with_reducible refine Below.trans ?_ (by assumption)) | (with_reducible refine Below.trans ?_ (Below.mono (by assumption) ?_)) | (with_reducible refine bl_set ?_ ?_ _) | (simp; done) | (simp; omega) | omega))) bb
      clear kk ff zz bb
      go_wp2_with fail
      refine (markStrip_any _ r _ (turL r l) 1 _ ow_g hlR (by omega) (by omega)).mono ?_
      rintro e w10 ⟨rfl, om, gg⟩
      replace bx_d_0 := (cell_grown gg yb_d (fun k hk => by have := in_g.out k hk; omega) 0).trans bx_d_0
      replace bx_d_1 := (cell_grown gg yb_d (fun k hk => by have := in_g.out k hk; omega) 1).trans bx_d_1
      replace yb_d := Nat.lt_of_lt_of_le yb_d gg.size
      replace bx_s_0 := (cell_grown gg yb_s (fun k hk => by have := in_g.out k hk; omega) 0).trans bx_s_0
      replace bx_s_1 := (cell_grown gg yb_s (fun k hk => by have := in_g.out k hk; omega) 1).trans bx_s_1
      replace yb_s := Nat.lt_of_lt_of_le yb_s gg.size
      replace bx_x_0 := (cell_grown gg yb_x (fun k hk => by have := in_g.out k hk; omega) 0).trans bx_x_0
      replace bx_x_1 := (cell_grown gg yb_x (fun k hk => by have := in_g.out k hk; omega) 1).trans bx_x_1
      replace yb_x := Nat.lt_of_lt_of_le yb_x gg.size
      replace bx_g_0 := (cell_grown gg yb_g (fun k hk => by have := in_g.out k hk; omega) 0).trans bx_g_0
      replace bx_g_1 := (cell_grown gg yb_g (fun k hk => by have := in_g.out k hk; omega) 1).trans bx_g_1
      replace yb_g := Nat.lt_of_lt_of_le yb_g gg.size
      replace ow_t := ow_t.kept gg (own_apart in_t.out in_g.out (by omega))
      replace ow_s := ow_s.kept gg (own_apart in_s.out in_g.out (by omega))
      replace ow_x := ow_x.kept gg (own_apart in_x.out in_g.out (by omega))
      replace ow_g := om
      have sz10 : w9.heap.size ≤ w10.heap.size := gg.size
      replace bel : Below w.heap.size w w10 := bl_grown bel gg (fun k hk => by have := in_g.out k hk; omega)
      clear gg om
      go_wp2_with fail
      refine (heldStrip_any r _ (turL r l).length 1 _ (Rd.of_own ow_g) hlR (by omega) (by omega)).mono ?_
      rintro e w11 ⟨rfl, bb⟩
      obtain ⟨kk, ff, zz⟩ := bcell bb
      replace bx_d_0 := (kk _ 0 yb_d).trans bx_d_0
      replace bx_d_1 := (kk _ 1 yb_d).trans bx_d_1
      replace bx_s_0 := (kk _ 0 yb_s).trans bx_s_0
      replace bx_s_1 := (kk _ 1 yb_s).trans bx_s_1
      replace bx_x_0 := (kk _ 0 yb_x).trans bx_x_0
      replace bx_x_1 := (kk _ 1 yb_x).trans bx_x_1
      replace bx_g_0 := (kk _ 0 yb_g).trans bx_g_0
      replace bx_g_1 := (kk _ 1 yb_g).trans bx_g_1
      replace yb_d : w.heap.size < w11.heap.size := zz _ (by (first | omega | (simp; done) | (simp; omega)))
      replace yb_s : w3.heap.size < w11.heap.size := zz _ (by (first | omega | (simp; done) | (simp; omega)))
      replace yb_x : w4.heap.size < w11.heap.size := zz _ (by (first | omega | (simp; done) | (simp; omega)))
      replace yb_g : w5.heap.size < w11.heap.size := zz _ (by (first | omega | (simp; done) | (simp; omega)))
      replace ow_t := own_bl ow_t bb
      replace ow_s := own_bl ow_s bb
      replace ow_x := own_bl ow_x bb
      replace ow_g := own_bl ow_g bb
      have sz11 : w10.heap.size ≤ w11.heap.size := bb.size
      replace bel : Below w.heap.size w w11 := bl_to (by (repeat' (first | (with_reducible exact Below.refl _ _) | (with_reducible refine bl_alloc ?_ _) | (with_reducible refine bl_drewN ?_ _) | (with_reducible refine bl_drew ?_) | (with_reducible assumption) | (with_reducible refine bl_to ?_ (by assumption)) | (with_reducible refine Below.trans ?_ (by assumption)) | (with_reducible refine Below.trans ?_ (Below.mono (by assumption) ?_)) | (with_reducible refine bl_set ?_ ?_ _) | (simp; done) | (simp; omega) | omega))) bb
      clear kk ff zz bb
      go_wp2_with fail
      refine (toStrip_any r v l _ (hr.bl (by (repeat' (first | (with_reducible exact Below.refl _ _) | (with_reducible refine bl_alloc ?_ _) | (with_reducible refine bl_drewN ?_ _) | (with_reducible refine bl_drew ?_) | (with_reducible assumption) | (with_reducible refine bl_to ?_ (by assumption)) | (with_reducible refine Below.trans ?_ (by assumption)) | (with_reducible refine Below.trans ?_ (Below.mono (by assumption) ?_)) | (with_reducible refine bl_set ?_ ?_ _) | (simp; done) | (simp; omega) | omega)))) hl).mono ?_
      rintro e w12 ⟨A_y, c_y, rfl, on_y, bb⟩
      obtain ⟨kk, ff, zz⟩ := bcell bb
      replace bx_d_0 := (kk _ 0 yb_d).trans bx_d_0
      replace bx_d_1 := (kk _ 1 yb_d).trans bx_d_1
      replace bx_s_0 := (kk _ 0 yb_s).trans bx_s_0
      replace bx_s_1 := (kk _ 1 yb_s).trans bx_s_1
      replace bx_x_0 := (kk _ 0 yb_x).trans bx_x_0
      replace bx_x_1 := (kk _ 1 yb_x).trans bx_x_1
      replace bx_g_0 := (kk _ 0 yb_g).trans bx_g_0
      replace bx_g_1 := (kk _ 1 yb_g).trans bx_g_1
      replace yb_d : w.heap.size < w12.heap.size := zz _ (by (first | omega | (simp; done) | (simp; omega)))
      replace yb_s : w3.heap.size < w12.heap.size := zz _ (by (first | omega | (simp; done) | (simp; omega)))
      replace yb_x : w4.heap.size < w12.heap.size := zz _ (by (first | omega | (simp; done) | (simp; omega)))
      replace yb_g : w5.heap.size < w12.heap.size := zz _ (by (first | omega | (simp; done) | (simp; omega)))
      replace ow_t := own_bl ow_t bb
      replace ow_s := own_bl ow_s bb
      replace ow_x := own_bl ow_x bb
      replace ow_g := own_bl ow_g bb
      have sz12 : w11.heap.size ≤ w12.heap.size := bb.size
      replace bel : Below w.heap.size w w12 := bl_to (by (repeat' (first | (with_reducible exact Below.refl _ _) | (with_reducible refine bl_alloc ?_ _) | (with_reducible refine bl_drewN ?_ _) | (with_reducible refine bl_drew ?_) | (with_reducible assumption) | (with_reducible refine bl_to ?_ (by assumption)) | (with_reducible refine Below.trans ?_ (by assumption)) | (with_reducible refine Below.trans ?_ (Below.mono (by assumption) ?_)) | (with_reducible refine bl_set ?_ ?_ _) | (simp; done) | (simp; omega) | omega))) bb
      clear kk ff zz bb
      have ow_y := own_lo (lo' := w11.heap.size) on_y (by (first | omega | (simp; done) | (simp; omega)))
      have in_y := Lib.hid ow_y.lt
      clear on_y
      go_wp2_with fail
      refine (turnStripI_any r _ l _ (Rd.of_own ow_y) hl).mono ?_
      rintro e w13 ⟨A_h, c_h, rfl, on_h, bb⟩
      obtain ⟨kk, ff, zz⟩ := bcell bb
      replace bx_d_0 := (kk _ 0 yb_d).trans bx_d_0
      replace bx_d_1 := (kk _ 1 yb_d).trans bx_d_1
      replace bx_s_0 := (kk _ 0 yb_s).trans bx_s_0
      replace bx_s_1 := (kk _ 1 yb_s).trans bx_s_1
      replace bx_x_0 := (kk _ 0 yb_x).trans bx_x_0
      replace bx_x_1 := (kk _ 1 yb_x).trans bx_x_1
      replace bx_g_0 := (kk _ 0 yb_g).trans bx_g_0
      replace bx_g_1 := (kk _ 1 yb_g).trans bx_g_1
      replace yb_d : w.heap.size < w13.heap.size := zz _ (by (first | omega | (simp; done) | (simp; omega)))
      replace yb_s : w3.heap.size < w13.heap.size := zz _ (by (first | omega | (simp; done) | (simp; omega)))
      replace yb_x : w4.heap.size < w13.heap.size := zz _ (by (first | omega | (simp; done) | (simp; omega)))
      replace yb_g : w5.heap.size < w13.heap.size := zz _ (by (first | omega | (simp; done) | (simp; omega)))
      replace ow_t := own_bl ow_t bb
      replace ow_s := own_bl ow_s bb
      replace ow_x := own_bl ow_x bb
      replace ow_g := own_bl ow_g bb
      replace ow_y := own_bl ow_y bb
      have sz13 : w12.heap.size ≤ w13.heap.size := bb.size
      replace bel : Below w.heap.size w w13 := bl_to (by (repeat' (first | (with_reducible exact Below.refl _ _) | (with_reducible refine bl_alloc ?_ _) | (with_reducible refine bl_drewN ?_ _) | (with_reducible refine bl_drew ?_) | (with_reducible assumption) | (with_reducible refine bl_to ?_ (by assumption)) | (with_reducible refine Below.trans ?_ (by assumption)) | (with_reducible refine Below.trans ?_ (Below.mono (by assumption) ?_)) | (with_reducible refine bl_set ?_ ?_ _) | (simp; done) | (simp; omega) | omega))) bb
      clear kk ff zz bb
      have ow_h := own_lo (lo' := w12.heap.size) on_h (by (first | omega | (simp; done) | (simp; omega)))
      have in_h := Lib.hid ow_h.lt
      clear on_h
      go_wp2_with fail
      refine (eqStrip_any r _ _ (turL r l) _ (Rd.of_own (ow_h.alloc _)) (Rd.of_own (ow_s.alloc _)) hlR).mono ?_
      rintro e w14 ⟨rfl, bb⟩
      obtain ⟨kk, ff, zz⟩ := bcell bb
      replace bx_d_0 : w14.cell? ⟨w.heap.size, 0, none⟩ = some (.int .i64 r) := (kk _ _ (by (first | omega | (simp; done) | (simp; omega)))).trans (by simp [go_sem, bx_d_0, yb_d])
      replace bx_d_1 : w14.cell? ⟨w.heap.size, 1, none⟩ = some (v) := (kk _ _ (by (first | omega | (simp; done) | (simp; omega)))).trans (by simp [go_sem, bx_d_1, yb_d])
      replace bx_s_0 : w14.cell? ⟨w3.heap.size, 0, none⟩ = some (.int .i64 r) := (kk _ _ (by (first | omega | (simp; done) | (simp; omega)))).trans (by simp [go_sem, bx_s_0, yb_s])
      replace bx_s_1 : w14.cell? ⟨w3.heap.size, 1, none⟩ = some ((.slice A_s ((turL r l).length) c_s)) := (kk _ _ (by (first | omega | (simp; done) | (simp; omega)))).trans (by simp [go_sem, bx_s_1, yb_s])
      replace bx_x_0 : w14.cell? ⟨w4.heap.size, 0, none⟩ = some (.int .i64 r) := (kk _ _ (by (first | omega | (simp; done) | (simp; omega)))).trans (by simp [go_sem, bx_x_0, yb_x])
      replace bx_x_1 : w14.cell? ⟨w4.heap.size, 1, none⟩ = some ((.slice A_x (l.length) c_x)) := (kk _ _ (by (first | omega | (simp; done) | (simp; omega)))).trans (by simp [go_sem, bx_x_1, yb_x])
      replace bx_g_0 : w14.cell? ⟨w5.heap.size, 0, none⟩ = some (.int .i64 r) := (kk _ _ (by (first | omega | (simp; done) | (simp; omega)))).trans (by simp [go_sem, bx_g_0, yb_g])
      replace bx_g_1 : w14.cell? ⟨w5.heap.size, 1, none⟩ = some ((.slice A_g ((turL r l).length) c_g)) := (kk _ _ (by (first | omega | (simp; done) | (simp; omega)))).trans (by simp [go_sem, bx_g_1, yb_g])
      have bx_h_0 : w14.cell? ⟨w13.heap.size, 0, none⟩ = some (.int .i64 r) := (kk _ _ (by (first | omega | (simp; done) | (simp; omega)))).trans (by simp [go_sem])
      have bx_h_1 : w14.cell? ⟨w13.heap.size, 1, none⟩ = some ((.slice A_h ((turL r l).length) c_h)) := (kk _ _ (by (first | omega | (simp; done) | (simp; omega)))).trans (by simp [go_sem])
      replace yb_d : w.heap.size < w14.heap.size := zz _ (by (first | omega | (simp; done) | (simp; omega)))
      replace yb_s : w3.heap.size < w14.heap.size := zz _ (by (first | omega | (simp; done) | (simp; omega)))
      replace yb_x : w4.heap.size < w14.heap.size := zz _ (by (first | omega | (simp; done) | (simp; omega)))
      replace yb_g : w5.heap.size < w14.heap.size := zz _ (by (first | omega | (simp; done) | (simp; omega)))
      have yb_h : w13.heap.size < w14.heap.size := zz _ (by (first | omega | (simp; done) | (simp; omega)))
      replace ow_t := own_bl (ow_t.alloc _) bb
      replace ow_s := own_bl (ow_s.alloc _) bb
      replace ow_x := own_bl (ow_x.alloc _) bb
      replace ow_g := own_bl (ow_g.alloc _) bb
      replace ow_y := own_bl (ow_y.alloc _) bb
      replace ow_h := own_bl (ow_h.alloc _) bb
      have sz14 : w13.heap.size + 1 ≤ w14.heap.size := by have := bb.size; simp only [World.size_alloc] at this; omega
      replace bel : Below w.heap.size w w14 := bl_to (by (repeat' (first | (with_reducible exact Below.refl _ _) | (with_reducible refine bl_alloc ?_ _) | (with_reducible refine bl_drewN ?_ _) | (with_reducible refine bl_drew ?_) | (with_reducible assumption) | (with_reducible refine bl_to ?_ (by assumption)) | (with_reducible refine Below.trans ?_ (by assumption)) | (with_reducible refine Below.trans ?_ (Below.mono (by assumption) ?_)) | (with_reducible refine bl_set ?_ ?_ _) | (simp; done) | (simp; omega) | omega))) bb
      clear kk ff zz bb
      go_wp2_with fail
      refine (heldStrip_any r _ (turL r l).length 1 _ (Rd.of_own ow_g) hlR (by omega) (by omega)).mono ?_
      rintro e w15 ⟨rfl, bb⟩
      obtain ⟨kk, ff, zz⟩ := bcell bb
      replace bx_d_0 := (kk _ 0 yb_d).trans bx_d_0
      replace bx_d_1 := (kk _ 1 yb_d).trans bx_d_1
      replace bx_s_0 := (kk _ 0 yb_s).trans bx_s_0
      replace bx_s_1 := (kk _ 1 yb_s).trans bx_s_1
      replace bx_x_0 := (kk _ 0 yb_x).trans bx_x_0
      replace bx_x_1 := (kk _ 1 yb_x).trans bx_x_1
      replace bx_g_0 := (kk _ 0 yb_g).trans bx_g_0
      replace bx_g_1 := (kk _ 1 yb_g).trans bx_g_1
      replace bx_h_0 := (kk _ 0 yb_h).trans bx_h_0
      replace bx_h_1 := (kk _ 1 yb_h).trans bx_h_1
      replace yb_d : w.heap.size < w15.heap.size := zz _ (by (first | omega | (simp; done) | (simp; omega)))
      replace yb_s : w3.heap.size < w15.heap.size := zz _ (by (first | omega | (simp; done) | (simp; omega)))
      replace yb_x : w4.heap.size < w15.heap.size := zz _ (by (first | omega | (simp; done) | (simp; omega)))
      replace yb_g : w5.heap.size < w15.heap.size := zz _ (by (first | omega | (simp; done) | (simp; omega)))
      replace yb_h : w13.heap.size < w15.heap.size := zz _ (by (first | omega | (simp; done) | (simp; omega)))
      replace ow_t := own_bl ow_t bb
      replace ow_s := own_bl ow_s bb
      replace ow_x := own_bl ow_x bb
      replace ow_g := own_bl ow_g bb
      replace ow_y := own_bl ow_y bb
      replace ow_h := own_bl ow_h bb
      have sz15 : w14.heap.size ≤ w15.heap.size := bb.size
      replace bel : Below w.heap.size w w15 := bl_to (by (repeat' (first | (with_reducible exact Below.refl _ _) | (with_reducible refine bl_alloc ?_ _) | (with_reducible refine bl_drewN ?_ _) | (with_reducible refine bl_drew ?_) | (with_reducible assumption) | (with_reducible refine bl_to ?_ (by assumption)) | (with_reducible refine Below.trans ?_ (by assumption)) | (with_reducible refine Below.trans ?_ (Below.mono (by assumption) ?_)) | (with_reducible refine bl_set ?_ ?_ _) | (simp; done) | (simp; omega) | omega))) bb
      clear kk ff zz bb
      go_wp2
      go_ret
      exact ⟨rfl, by (repeat' (first | (with_reducible exact Below.refl _ _) | (with_reducible refine bl_alloc ?_ _) | (with_reducible refine bl_drewN ?_ _) | (with_reducible refine bl_drew ?_) | (with_reducible assumption) | (with_reducible refine bl_to ?_ (by assumption)) | (with_reducible refine Below.trans ?_ (by assumption)) | (with_reducible refine Below.trans ?_ (Below.mono (by assumption) ?_)) | (with_reducible refine bl_set ?_ ?_ _) | (simp; done) | (simp; omega) | omega))⟩
  · go_enter Try.func13, Try.ntmps13
    go_wp2_with fail
    refine (szStrip_any r v l _ _ (hr.bl (by (repeat' (first | (with_reducible exact Below.refl _ _) | (with_reducible refine bl_alloc ?_ _) | (with_reducible refine bl_drewN ?_ _) | (with_reducible refine bl_drew ?_) | (with_reducible assumption) | (with_reducible refine bl_to ?_ (by assumption)) | (with_reducible refine Below.trans ?_ (by assumption)) | (with_reducible refine Below.trans ?_ (Below.mono (by assumption) ?_)) | (with_reducible refine bl_set ?_ ?_ _) | (simp; done) | (simp; omega) | omega)))) (by omega) (by omega)).mono ?_
    rintro e w1 ⟨rfl, b1⟩
    rw [if_pos (by omega)]
    go_wp2
    go_ret
    exact ⟨rfl, by (repeat' (first | (with_reducible exact Below.refl _ _) | (with_reducible refine bl_alloc ?_ _) | (with_reducible refine bl_drewN ?_ _) | (with_reducible refine bl_drew ?_) | (with_reducible assumption) | (with_reducible refine bl_to ?_ (by assumption)) | (with_reducible refine Below.trans ?_ (by assumption)) | (with_reducible refine Below.trans ?_ (Below.mono (by assumption) ?_)) | (with_reducible refine bl_set ?_ ?_ _) | (simp; done) | (simp; omega) | omega))⟩
end Go.Proofs.Ytbcmidencifcoaa
