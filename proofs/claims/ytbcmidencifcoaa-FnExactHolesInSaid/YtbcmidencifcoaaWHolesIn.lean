/- FnExactHolesIn: the law returns true at every input; no condition. -/
import Derived.Test.YtbcmidencifcoaaStrip
import Derived.Deep.DeepCutAuto
import Derived.Deep.RegionHeld3
namespace Go.Proofs.Ytbcmidencifcoaa
open Go.RowKit

set_option maxHeartbeats 3200000 in
set_option maxRecDepth 100000 in
theorem holesIn_law (n : Int) (v : Value) (l : List (Int × Int)) (a : Int) (b : Int) (w : World) (hr : RdN w v l) : Calls Try.prog 6 #[.agg #[.int .i64 n, v], .int .i64 a, .int .i64 b] w fun e w' => e = .returned (.bool true) ∧ Below w.heap.size w w' := by
  by_cases hl : l.length ≤ 1048576
  · go_enter Try.func6, Try.ntmps6
    go_wp2_with fail
    refine (szStrip_any n v l _ _ (hr.bl (by (repeat' (first | (with_reducible exact Below.refl _ _) | (with_reducible refine bl_alloc ?_ _) | (with_reducible refine bl_drewN ?_ _) | (with_reducible refine bl_drew ?_) | (with_reducible assumption) | (with_reducible refine bl_to ?_ (by assumption)) | (with_reducible refine Below.trans ?_ (by assumption)) | (with_reducible refine Below.trans ?_ (Below.mono (by assumption) ?_)) | (with_reducible refine bl_set ?_ ?_ _) | (simp; done) | (simp; omega) | omega)))) (by omega) (by omega)).mono ?_
    rintro e w1 ⟨rfl, bb⟩
    rw [if_neg (by omega)]
    obtain ⟨kk, ff, zz⟩ := bcell bb
    have bx_d_0 : w1.cell? ⟨w.heap.size, 0, none⟩ = some (.int .i64 n) := (kk _ _ (by (first | omega | (simp; done) | (simp; omega)))).trans (by simp [go_sem])
    have bx_d_1 : w1.cell? ⟨w.heap.size, 1, none⟩ = some (v) := (kk _ _ (by (first | omega | (simp; done) | (simp; omega)))).trans (by simp [go_sem])
    have yb_d : w.heap.size < w1.heap.size := zz _ (by (first | omega | (simp; done) | (simp; omega)))
    have sz1 : w.heap.size + 1 ≤ w1.heap.size := by have := bb.size; simp only [World.size_alloc] at this; omega
    have bel : Below w.heap.size w w1 := bl_to (by (repeat' (first | (with_reducible exact Below.refl _ _) | (with_reducible refine bl_alloc ?_ _) | (with_reducible refine bl_drewN ?_ _) | (with_reducible refine bl_drew ?_) | (with_reducible assumption) | (with_reducible refine bl_to ?_ (by assumption)) | (with_reducible refine Below.trans ?_ (by assumption)) | (with_reducible refine Below.trans ?_ (Below.mono (by assumption) ?_)) | (with_reducible refine bl_set ?_ ?_ _) | (simp; done) | (simp; omega) | omega))) bb
    clear kk ff zz bb
    go_wp2_with fail
    refine (toStrip_any n v l _ (hr.bl (by (repeat' (first | (with_reducible exact Below.refl _ _) | (with_reducible refine bl_alloc ?_ _) | (with_reducible refine bl_drewN ?_ _) | (with_reducible refine bl_drew ?_) | (with_reducible assumption) | (with_reducible refine bl_to ?_ (by assumption)) | (with_reducible refine Below.trans ?_ (by assumption)) | (with_reducible refine Below.trans ?_ (Below.mono (by assumption) ?_)) | (with_reducible refine bl_set ?_ ?_ _) | (simp; done) | (simp; omega) | omega)))) hl).mono ?_
    rintro e w2 ⟨A_t, c_t, rfl, on_t, bb⟩
    obtain ⟨kk, ff, zz⟩ := bcell bb
    replace bx_d_0 := (kk _ 0 yb_d).trans bx_d_0
    replace bx_d_1 := (kk _ 1 yb_d).trans bx_d_1
    replace yb_d : w.heap.size < w2.heap.size := zz _ (by (first | omega | (simp; done) | (simp; omega)))
    have sz2 : w1.heap.size ≤ w2.heap.size := bb.size
    replace bel : Below w.heap.size w w2 := bl_to (by (repeat' (first | (with_reducible exact Below.refl _ _) | (with_reducible refine bl_alloc ?_ _) | (with_reducible refine bl_drewN ?_ _) | (with_reducible refine bl_drew ?_) | (with_reducible assumption) | (with_reducible refine bl_to ?_ (by assumption)) | (with_reducible refine Below.trans ?_ (by assumption)) | (with_reducible refine Below.trans ?_ (Below.mono (by assumption) ?_)) | (with_reducible refine bl_set ?_ ?_ _) | (simp; done) | (simp; omega) | omega))) bb
    clear kk ff zz bb
    have ow_t := own_lo (lo' := w1.heap.size) on_t (by (first | omega | (simp; done) | (simp; omega)))
    have in_t := Lib.hid ow_t.lt
    clear on_t
    go_wp2_with fail
    refine (hinS_any n _ l a b _ (Rd.of_own ow_t) hl).mono ?_
    rintro e w3 ⟨rfl, bb⟩
    obtain ⟨kk, ff, zz⟩ := bcell bb
    replace bx_d_0 := (kk _ 0 yb_d).trans bx_d_0
    replace bx_d_1 := (kk _ 1 yb_d).trans bx_d_1
    replace yb_d : w.heap.size < w3.heap.size := zz _ (by (first | omega | (simp; done) | (simp; omega)))
    replace ow_t := own_bl ow_t bb
    have sz3 : w2.heap.size ≤ w3.heap.size := bb.size
    replace bel : Below w.heap.size w w3 := bl_to (by (repeat' (first | (with_reducible exact Below.refl _ _) | (with_reducible refine bl_alloc ?_ _) | (with_reducible refine bl_drewN ?_ _) | (with_reducible refine bl_drew ?_) | (with_reducible assumption) | (with_reducible refine bl_to ?_ (by assumption)) | (with_reducible refine Below.trans ?_ (by assumption)) | (with_reducible refine Below.trans ?_ (Below.mono (by assumption) ?_)) | (with_reducible refine bl_set ?_ ?_ _) | (simp; done) | (simp; omega) | omega))) bb
    clear kk ff zz bb
    go_wp2_with fail
    refine (toStrip_any n v l _ (hr.bl (by (repeat' (first | (with_reducible exact Below.refl _ _) | (with_reducible refine bl_alloc ?_ _) | (with_reducible refine bl_drewN ?_ _) | (with_reducible refine bl_drew ?_) | (with_reducible assumption) | (with_reducible refine bl_to ?_ (by assumption)) | (with_reducible refine Below.trans ?_ (by assumption)) | (with_reducible refine Below.trans ?_ (Below.mono (by assumption) ?_)) | (with_reducible refine bl_set ?_ ?_ _) | (simp; done) | (simp; omega) | omega)))) hl).mono ?_
    rintro e w4 ⟨A_x, c_x, rfl, on_x, bb⟩
    obtain ⟨kk, ff, zz⟩ := bcell bb
    replace bx_d_0 := (kk _ 0 yb_d).trans bx_d_0
    replace bx_d_1 := (kk _ 1 yb_d).trans bx_d_1
    replace yb_d : w.heap.size < w4.heap.size := zz _ (by (first | omega | (simp; done) | (simp; omega)))
    replace ow_t := own_bl ow_t bb
    have sz4 : w3.heap.size ≤ w4.heap.size := bb.size
    replace bel : Below w.heap.size w w4 := bl_to (by (repeat' (first | (with_reducible exact Below.refl _ _) | (with_reducible refine bl_alloc ?_ _) | (with_reducible refine bl_drewN ?_ _) | (with_reducible refine bl_drew ?_) | (with_reducible assumption) | (with_reducible refine bl_to ?_ (by assumption)) | (with_reducible refine Below.trans ?_ (by assumption)) | (with_reducible refine Below.trans ?_ (Below.mono (by assumption) ?_)) | (with_reducible refine bl_set ?_ ?_ _) | (simp; done) | (simp; omega) | omega))) bb
    clear kk ff zz bb
    have ow_x := own_lo (lo' := w3.heap.size) on_x (by (first | omega | (simp; done) | (simp; omega)))
    have in_x := Lib.hid ow_x.lt
    clear on_x
    go_wp2_with fail
    refine (hinI_any n _ l a b _ (Rd.of_own (ow_x.alloc _)) hl).mono ?_
    rintro e w5 ⟨rfl, bb⟩
    obtain ⟨kk, ff, zz⟩ := bcell bb
    replace bx_d_0 : w5.cell? ⟨w.heap.size, 0, none⟩ = some (.int .i64 n) := (kk _ _ (by (first | omega | (simp; done) | (simp; omega)))).trans (by simp [go_sem, bx_d_0, yb_d])
    replace bx_d_1 : w5.cell? ⟨w.heap.size, 1, none⟩ = some (v) := (kk _ _ (by (first | omega | (simp; done) | (simp; omega)))).trans (by simp [go_sem, bx_d_1, yb_d])
    have bx_x_0 : w5.cell? ⟨w4.heap.size, 0, none⟩ = some (.int .i64 n) := (kk _ _ (by (first | omega | (simp; done) | (simp; omega)))).trans (by simp [go_sem])
    have bx_x_1 : w5.cell? ⟨w4.heap.size, 1, none⟩ = some ((.slice A_x (l.length) c_x)) := (kk _ _ (by (first | omega | (simp; done) | (simp; omega)))).trans (by simp [go_sem])
    replace yb_d : w.heap.size < w5.heap.size := zz _ (by (first | omega | (simp; done) | (simp; omega)))
    have yb_x : w4.heap.size < w5.heap.size := zz _ (by (first | omega | (simp; done) | (simp; omega)))
    replace ow_t := own_bl (ow_t.alloc _) bb
    replace ow_x := own_bl (ow_x.alloc _) bb
    have sz5 : w4.heap.size + 1 ≤ w5.heap.size := by have := bb.size; simp only [World.size_alloc] at this; omega
    replace bel : Below w.heap.size w w5 := bl_to (by (repeat' (first | (with_reducible exact Below.refl _ _) | (with_reducible refine bl_alloc ?_ _) | (with_reducible refine bl_drewN ?_ _) | (with_reducible refine bl_drew ?_) | (with_reducible assumption) | (with_reducible refine bl_to ?_ (by assumption)) | (with_reducible refine Below.trans ?_ (by assumption)) | (with_reducible refine Below.trans ?_ (Below.mono (by assumption) ?_)) | (with_reducible refine bl_set ?_ ?_ _) | (simp; done) | (simp; omega) | omega))) bb
    clear kk ff zz bb
    go_upto_region 10 with (fail)
    go_cut [34] (fun s wx => s = .bool false ∧ Below w5.heap.size w5 wx)
    case first =>
      go_region_with (first | (go_at_call 22; refine (toStrip_any n v l _ (hr.bl (by (repeat' (first | (with_reducible exact Below.refl _ _) | (with_reducible refine bl_alloc ?_ _) | (with_reducible refine bl_drewN ?_ _) | (with_reducible refine bl_drew ?_) | (with_reducible assumption) | (with_reducible refine bl_to ?_ (by assumption)) | (with_reducible refine Below.trans ?_ (by assumption)) | (with_reducible refine Below.trans ?_ (Below.mono (by assumption) ?_)) | (with_reducible refine bl_set ?_ ?_ _) | (simp; done) | (simp; omega) | omega)))) hl).mono ?_; rintro e wt ⟨At, ct, rfl, owt, bt⟩; obtain ⟨kt, ft, zt⟩ := bcell bt; have xt0 := (kt _ 0 yb_x).trans bx_x_0; have xt1 := (kt _ 1 yb_x).trans bx_x_1) | (go_at_call 24; refine (eqStrip_any n _ _ l _ (Rd.of_own (own_bl (by first | exact ow_x | exact World.ownsRow.drew ow_x) bt)) (Rd.of_own owt) hl).mono ?_; rintro e wu ⟨rfl, bu⟩))
      all_goals (go_wp2_with fail; go_meet; exact ⟨rfl, by (repeat' (first | (with_reducible exact Below.refl _ _) | (with_reducible refine bl_alloc ?_ _) | (with_reducible refine bl_drewN ?_ _) | (with_reducible refine bl_drew ?_) | (with_reducible assumption) | (with_reducible refine bl_to ?_ (by assumption)) | (with_reducible refine Below.trans ?_ (by assumption)) | (with_reducible refine Below.trans ?_ (Below.mono (by assumption) ?_)) | (with_reducible refine bl_set ?_ ?_ _) | (simp; done) | (simp; omega) | omega))⟩)
    case rest =>
      obtain ⟨rfl, bb⟩ := hcut
      obtain ⟨w6, rfl⟩ : ∃ x : World, x = wc := ⟨_, rfl⟩
      obtain ⟨kk, ff, zz⟩ := bcell bb
      replace bx_d_0 := (kk _ 0 yb_d).trans bx_d_0
      replace bx_d_1 := (kk _ 1 yb_d).trans bx_d_1
      replace bx_x_0 := (kk _ 0 yb_x).trans bx_x_0
      replace bx_x_1 := (kk _ 1 yb_x).trans bx_x_1
      replace yb_d : w.heap.size < w6.heap.size := zz _ (by (first | omega | (simp; done) | (simp; omega)))
      replace yb_x : w4.heap.size < w6.heap.size := zz _ (by (first | omega | (simp; done) | (simp; omega)))
      replace ow_t := own_bl ow_t bb
      replace ow_x := own_bl ow_x bb
      have sz6 : w5.heap.size ≤ w6.heap.size := bb.size
      replace bel : Below w.heap.size w w6 := bl_to (by (repeat' (first | (with_reducible exact Below.refl _ _) | (with_reducible refine bl_alloc ?_ _) | (with_reducible refine bl_drewN ?_ _) | (with_reducible refine bl_drew ?_) | (with_reducible assumption) | (with_reducible refine bl_to ?_ (by assumption)) | (with_reducible refine Below.trans ?_ (by assumption)) | (with_reducible refine Below.trans ?_ (Below.mono (by assumption) ?_)) | (with_reducible refine bl_set ?_ ?_ _) | (simp; done) | (simp; omega) | omega))) bb
      clear kk ff zz bb
      go_wp2
      go_ret
      exact ⟨rfl, by (repeat' (first | (with_reducible exact Below.refl _ _) | (with_reducible refine bl_alloc ?_ _) | (with_reducible refine bl_drewN ?_ _) | (with_reducible refine bl_drew ?_) | (with_reducible assumption) | (with_reducible refine bl_to ?_ (by assumption)) | (with_reducible refine Below.trans ?_ (by assumption)) | (with_reducible refine Below.trans ?_ (Below.mono (by assumption) ?_)) | (with_reducible refine bl_set ?_ ?_ _) | (simp; done) | (simp; omega) | omega))⟩
  · go_enter Try.func6, Try.ntmps6
    go_wp2_with fail
    refine (szStrip_any n v l _ _ (hr.bl (by (repeat' (first | (with_reducible exact Below.refl _ _) | (with_reducible refine bl_alloc ?_ _) | (with_reducible refine bl_drewN ?_ _) | (with_reducible refine bl_drew ?_) | (with_reducible assumption) | (with_reducible refine bl_to ?_ (by assumption)) | (with_reducible refine Below.trans ?_ (by assumption)) | (with_reducible refine Below.trans ?_ (Below.mono (by assumption) ?_)) | (with_reducible refine bl_set ?_ ?_ _) | (simp; done) | (simp; omega) | omega)))) (by omega) (by omega)).mono ?_
    rintro e w1 ⟨rfl, b1⟩
    rw [if_pos (by omega)]
    go_wp2
    go_ret
    exact ⟨rfl, by (repeat' (first | (with_reducible exact Below.refl _ _) | (with_reducible refine bl_alloc ?_ _) | (with_reducible refine bl_drewN ?_ _) | (with_reducible refine bl_drew ?_) | (with_reducible assumption) | (with_reducible refine bl_to ?_ (by assumption)) | (with_reducible refine Below.trans ?_ (by assumption)) | (with_reducible refine Below.trans ?_ (Below.mono (by assumption) ?_)) | (with_reducible refine bl_set ?_ ?_ _) | (simp; done) | (simp; omega) | omega))⟩
end Go.Proofs.Ytbcmidencifcoaa
