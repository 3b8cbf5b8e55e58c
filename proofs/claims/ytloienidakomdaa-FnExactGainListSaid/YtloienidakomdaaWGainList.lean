/- FnExactGainList: the law returns true at every input; no condition. -/
import Derived.Test.YtloienidakomdaaGain3
import Derived.Test.YtloienidakomdaaMarkJob
import Derived.Deep.DeepCutAuto
import Derived.Deep.RegionHeld3
namespace Go.Proofs.Ytloienidakomdaa
open Go.RowKit

set_option maxHeartbeats 12800000 in
set_option maxRecDepth 100000 in
theorem gainList_law (v : Value) (l : List (Int × Int × Int)) (w : World) (hr : RdJ w v l) : Calls Try.prog 7 #[v] w fun e w' => e = .returned (.bool true) ∧ Below w.heap.size w w' := by
  by_cases hl : l.length ≤ 1048576
  · have hlR : (galF l).length ≤ 1048576 := Nat.le_trans (galF_len l) hl
    have bel : Below w.heap.size w w := Below.refl _ _
    go_enter Try.func7, Try.ntmps7
    go_wp2_with fail
    refine (szJobS_any v l _ _ hr (by omega) (by omega)).mono ?_
    rintro e wq ⟨rfl, rfl⟩
    rw [if_neg (by omega)]
    go_wp2_with fail
    refine (toJobS_any v l _ (hr.bl (by (repeat' (first | (with_reducible exact Below.refl _ _) | (with_reducible refine bl_alloc ?_ _) | (with_reducible refine bl_drewN ?_ _) | (with_reducible refine bl_drew ?_) | (with_reducible assumption) | (with_reducible refine bl_to ?_ (by assumption)) | (with_reducible refine Below.trans ?_ (by assumption)) | (with_reducible refine Below.trans ?_ (Below.mono (by assumption) ?_)) | (with_reducible refine bl_set ?_ ?_ _) | (simp; done) | (simp; omega) | omega)))) hl).mono ?_
    rintro e w1 ⟨A_t, c_t, rfl, on_t, bb⟩
    obtain ⟨kk, ff, zz⟩ := bcell bb
    have sz1 : w.heap.size ≤ w1.heap.size := bb.size
    replace bel : Below w.heap.size w w1 := bl_to (by (repeat' (first | (with_reducible exact Below.refl _ _) | (with_reducible refine bl_alloc ?_ _) | (with_reducible refine bl_drewN ?_ _) | (with_reducible refine bl_drew ?_) | (with_reducible assumption) | (with_reducible refine bl_to ?_ (by assumption)) | (with_reducible refine Below.trans ?_ (by assumption)) | (with_reducible refine Below.trans ?_ (Below.mono (by assumption) ?_)) | (with_reducible refine bl_set ?_ ?_ _) | (simp; done) | (simp; omega) | omega))) bb
    clear kk ff zz bb
    have ow_t := own_lo (lo' := w.heap.size) on_t (by (first | omega | (simp; done) | (simp; omega)))
    have in_t := Lib.hid ow_t.lt
    clear on_t
    go_wp2_with fail
    refine (galS_any _ l _ (Rd.of_own ow_t) hl).mono ?_
    rintro e w2 ⟨A_s, c_s, rfl, on_s, bb⟩
    obtain ⟨kk, ff, zz⟩ := bcell bb
    replace ow_t := own_bl ow_t bb
    have sz2 : w1.heap.size ≤ w2.heap.size := bb.size
    replace bel : Below w.heap.size w w2 := bl_to (by (repeat' (first | (with_reducible exact Below.refl _ _) | (with_reducible refine bl_alloc ?_ _) | (with_reducible refine bl_drewN ?_ _) | (with_reducible refine bl_drew ?_) | (with_reducible assumption) | (with_reducible refine bl_to ?_ (by assumption)) | (with_reducible refine Below.trans ?_ (by assumption)) | (with_reducible refine Below.trans ?_ (Below.mono (by assumption) ?_)) | (with_reducible refine bl_set ?_ ?_ _) | (simp; done) | (simp; omega) | omega))) bb
    clear kk ff zz bb
    have ow_s := own_lo (lo' := w1.heap.size) on_s (by (first | omega | (simp; done) | (simp; omega)))
    have in_s := Lib.hid ow_s.lt
    clear on_s
    go_wp2_with fail
    refine (toJobS_any v l _ (hr.bl (by (repeat' (first | (with_reducible exact Below.refl _ _) | (with_reducible refine bl_alloc ?_ _) | (with_reducible refine bl_drewN ?_ _) | (with_reducible refine bl_drew ?_) | (with_reducible assumption) | (with_reducible refine bl_to ?_ (by assumption)) | (with_reducible refine Below.trans ?_ (by assumption)) | (with_reducible refine Below.trans ?_ (Below.mono (by assumption) ?_)) | (with_reducible refine bl_set ?_ ?_ _) | (simp; done) | (simp; omega) | omega)))) hl).mono ?_
    rintro e w3 ⟨A_x, c_x, rfl, on_x, bb⟩
    obtain ⟨kk, ff, zz⟩ := bcell bb
    replace ow_t := own_bl ow_t bb
    replace ow_s := own_bl ow_s bb
    have sz3 : w2.heap.size ≤ w3.heap.size := bb.size
    replace bel : Below w.heap.size w w3 := bl_to (by (repeat' (first | (with_reducible exact Below.refl _ _) | (with_reducible refine bl_alloc ?_ _) | (with_reducible refine bl_drewN ?_ _) | (with_reducible refine bl_drew ?_) | (with_reducible assumption) | (with_reducible refine bl_to ?_ (by assumption)) | (with_reducible refine Below.trans ?_ (by assumption)) | (with_reducible refine Below.trans ?_ (Below.mono (by assumption) ?_)) | (with_reducible refine bl_set ?_ ?_ _) | (simp; done) | (simp; omega) | omega))) bb
    clear kk ff zz bb
    have ow_x := own_lo (lo' := w2.heap.size) on_x (by (first | omega | (simp; done) | (simp; omega)))
    have in_x := Lib.hid ow_x.lt
    clear on_x
    go_wp2_with fail
    refine (galI_any _ l _ (Rd.of_own ow_x) hl).mono ?_
    rintro e w4 ⟨A_g, c_g, rfl, on_g, bb⟩
    obtain ⟨kk, ff, zz⟩ := bcell bb
    replace ow_t := own_bl ow_t bb
    replace ow_s := own_bl ow_s bb
    replace ow_x := own_bl ow_x bb
    have sz4 : w3.heap.size ≤ w4.heap.size := bb.size
    replace bel : Below w.heap.size w w4 := bl_to (by (repeat' (first | (with_reducible exact Below.refl _ _) | (with_reducible refine bl_alloc ?_ _) | (with_reducible refine bl_drewN ?_ _) | (with_reducible refine bl_drew ?_) | (with_reducible assumption) | (with_reducible refine bl_to ?_ (by assumption)) | (with_reducible refine Below.trans ?_ (by assumption)) | (with_reducible refine Below.trans ?_ (Below.mono (by assumption) ?_)) | (with_reducible refine bl_set ?_ ?_ _) | (simp; done) | (simp; omega) | omega))) bb
    clear kk ff zz bb
    have ow_g := own_lo (lo' := w3.heap.size) on_g (by (first | omega | (simp; done) | (simp; omega)))
    have in_g := Lib.hid ow_g.lt
    clear on_g
    go_wp2_with fail
    refine (eqI_any _ _ (galF l) _ (Rd.of_own ow_g) (Rd.of_own ow_s) hlR).mono ?_
    rintro e w5 ⟨rfl, bb⟩
    obtain ⟨kk, ff, zz⟩ := bcell bb
    replace ow_t := own_bl ow_t bb
    replace ow_s := own_bl ow_s bb
    replace ow_x := own_bl ow_x bb
    replace ow_g := own_bl ow_g bb
    have sz5 : w4.heap.size ≤ w5.heap.size := bb.size
    replace bel : Below w.heap.size w w5 := bl_to (by (repeat' (first | (with_reducible exact Below.refl _ _) | (with_reducible refine bl_alloc ?_ _) | (with_reducible refine bl_drewN ?_ _) | (with_reducible refine bl_drew ?_) | (with_reducible assumption) | (with_reducible refine bl_to ?_ (by assumption)) | (with_reducible refine Below.trans ?_ (by assumption)) | (with_reducible refine Below.trans ?_ (Below.mono (by assumption) ?_)) | (with_reducible refine bl_set ?_ ?_ _) | (simp; done) | (simp; omega) | omega))) bb
    clear kk ff zz bb
    go_wp2_with fail
    refine (toJobS_any v l _ (hr.bl (by (repeat' (first | (with_reducible exact Below.refl _ _) | (with_reducible refine bl_alloc ?_ _) | (with_reducible refine bl_drewN ?_ _) | (with_reducible refine bl_drew ?_) | (with_reducible assumption) | (with_reducible refine bl_to ?_ (by assumption)) | (with_reducible refine Below.trans ?_ (by assumption)) | (with_reducible refine Below.trans ?_ (Below.mono (by assumption) ?_)) | (with_reducible refine bl_set ?_ ?_ _) | (simp; done) | (simp; omega) | omega)))) hl).mono ?_
    rintro e w6 ⟨A_z, c_z, rfl, on_z, bb⟩
    obtain ⟨kk, ff, zz⟩ := bcell bb
    replace ow_t := own_bl ow_t bb
    replace ow_s := own_bl ow_s bb
    replace ow_x := own_bl ow_x bb
    replace ow_g := own_bl ow_g bb
    have sz6 : w5.heap.size ≤ w6.heap.size := bb.size
    replace bel : Below w.heap.size w w6 := bl_to (by (repeat' (first | (with_reducible exact Below.refl _ _) | (with_reducible refine bl_alloc ?_ _) | (with_reducible refine bl_drewN ?_ _) | (with_reducible refine bl_drew ?_) | (with_reducible assumption) | (with_reducible refine bl_to ?_ (by assumption)) | (with_reducible refine Below.trans ?_ (by assumption)) | (with_reducible refine Below.trans ?_ (Below.mono (by assumption) ?_)) | (with_reducible refine bl_set ?_ ?_ _) | (simp; done) | (simp; omega) | omega))) bb
    clear kk ff zz bb
    have ow_z := own_lo (lo' := w5.heap.size) on_z (by (first | omega | (simp; done) | (simp; omega)))
    have in_z := Lib.hid ow_z.lt
    clear on_z
    go_wp2_with fail
    refine (eqJobS_any _ _ l _ (Rd.of_own ow_x) (Rd.of_own ow_z) hl).mono ?_
    rintro e w7 ⟨rfl, bb⟩
    obtain ⟨kk, ff, zz⟩ := bcell bb
    replace ow_t := own_bl ow_t bb
    replace ow_s := own_bl ow_s bb
    replace ow_x := own_bl ow_x bb
    replace ow_g := own_bl ow_g bb
    replace ow_z := own_bl ow_z bb
    have sz7 : w6.heap.size ≤ w7.heap.size := bb.size
    replace bel : Below w.heap.size w w7 := bl_to (by (repeat' (first | (with_reducible exact Below.refl _ _) | (with_reducible refine bl_alloc ?_ _) | (with_reducible refine bl_drewN ?_ _) | (with_reducible refine bl_drew ?_) | (with_reducible assumption) | (with_reducible refine bl_to ?_ (by assumption)) | (with_reducible refine Below.trans ?_ (by assumption)) | (with_reducible refine Below.trans ?_ (Below.mono (by assumption) ?_)) | (with_reducible refine bl_set ?_ ?_ _) | (simp; done) | (simp; omega) | omega))) bb
    clear kk ff zz bb
    go_wp2_with fail
    refine (markJobS_any _ _ l 1 _ ow_x hl (by omega) (by omega)).mono ?_
    rintro e w8 ⟨M_x, HM_x, rfl, om, gg⟩
    replace ow_t := ow_t.kept gg (own_apart in_t.out in_x.out (by omega))
    replace ow_s := ow_s.kept gg (own_apart in_s.out in_x.out (by omega))
    replace ow_g := ow_g.kept gg (own_apart in_g.out in_x.out (by omega))
    replace ow_z := ow_z.kept gg (own_apart in_z.out in_x.out (by omega))
    replace ow_x := om
    have sz8 : w7.heap.size ≤ w8.heap.size := gg.size
    replace bel : Below w.heap.size w w8 := bl_grown bel gg (fun k hk => by have := in_x.out k hk; omega)
    clear gg om
    go_wp2_with fail
    refine (eqI_any _ _ (galF l) _ (Rd.of_own ow_g) (Rd.of_own ow_s) hlR).mono ?_
    rintro e w9 ⟨rfl, bb⟩
    obtain ⟨kk, ff, zz⟩ := bcell bb
    replace ow_t := own_bl ow_t bb
    replace ow_s := own_bl ow_s bb
    replace ow_x := own_bl ow_x bb
    replace ow_g := own_bl ow_g bb
    replace ow_z := own_bl ow_z bb
    have sz9 : w8.heap.size ≤ w9.heap.size := bb.size
    replace bel : Below w.heap.size w w9 := bl_to (by (repeat' (first | (with_reducible exact Below.refl _ _) | (with_reducible refine bl_alloc ?_ _) | (with_reducible refine bl_drewN ?_ _) | (with_reducible refine bl_drew ?_) | (with_reducible assumption) | (with_reducible refine bl_to ?_ (by assumption)) | (with_reducible refine Below.trans ?_ (by assumption)) | (with_reducible refine Below.trans ?_ (Below.mono (by assumption) ?_)) | (with_reducible refine bl_set ?_ ?_ _) | (simp; done) | (simp; omega) | omega))) bb
    clear kk ff zz bb
    go_wp2_with fail
    refine (markI_any _ _ (galF l) 1 _ ow_g hlR (by omega) (by omega)).mono ?_
    rintro e w10 ⟨rfl, om, gg⟩
    replace ow_t := ow_t.kept gg (own_apart in_t.out in_g.out (by omega))
    replace ow_s := ow_s.kept gg (own_apart in_s.out in_g.out (by omega))
    replace ow_x := ow_x.kept gg (own_apart in_x.out in_g.out (by omega))
    replace ow_z := ow_z.kept gg (own_apart in_z.out in_g.out (by omega))
    replace ow_g := om
    have sz10 : w9.heap.size ≤ w10.heap.size := gg.size
    replace bel : Below w.heap.size w w10 := bl_grown bel gg (fun k hk => by have := in_g.out k hk; omega)
    clear gg om
    go_wp2_with fail
    refine (heldI_any _ (galF l).length 1 _ (Rd.of_own ow_g) hlR (by omega) (by omega)).mono ?_
    rintro e wq ⟨rfl, rfl⟩
    go_wp2_with fail
    refine (toJobS_any v l _ (hr.bl (by (repeat' (first | (with_reducible exact Below.refl _ _) | (with_reducible refine bl_alloc ?_ _) | (with_reducible refine bl_drewN ?_ _) | (with_reducible refine bl_drew ?_) | (with_reducible assumption) | (with_reducible refine bl_to ?_ (by assumption)) | (with_reducible refine Below.trans ?_ (by assumption)) | (with_reducible refine Below.trans ?_ (Below.mono (by assumption) ?_)) | (with_reducible refine bl_set ?_ ?_ _) | (simp; done) | (simp; omega) | omega)))) hl).mono ?_
    rintro e w11 ⟨A_y, c_y, rfl, on_y, bb⟩
    obtain ⟨kk, ff, zz⟩ := bcell bb
    replace ow_t := own_bl ow_t bb
    replace ow_s := own_bl ow_s bb
    replace ow_x := own_bl ow_x bb
    replace ow_g := own_bl ow_g bb
    replace ow_z := own_bl ow_z bb
    have sz11 : w10.heap.size ≤ w11.heap.size := bb.size
    replace bel : Below w.heap.size w w11 := bl_to (by (repeat' (first | (with_reducible exact Below.refl _ _) | (with_reducible refine bl_alloc ?_ _) | (with_reducible refine bl_drewN ?_ _) | (with_reducible refine bl_drew ?_) | (with_reducible assumption) | (with_reducible refine bl_to ?_ (by assumption)) | (with_reducible refine Below.trans ?_ (by assumption)) | (with_reducible refine Below.trans ?_ (Below.mono (by assumption) ?_)) | (with_reducible refine bl_set ?_ ?_ _) | (simp; done) | (simp; omega) | omega))) bb
    clear kk ff zz bb
    have ow_y := own_lo (lo' := w10.heap.size) on_y (by (first | omega | (simp; done) | (simp; omega)))
    have in_y := Lib.hid ow_y.lt
    clear on_y
    go_wp2_with fail
    refine (galI_any _ l _ (Rd.of_own ow_y) hl).mono ?_
    rintro e w12 ⟨A_h, c_h, rfl, on_h, bb⟩
    obtain ⟨kk, ff, zz⟩ := bcell bb
    replace ow_t := own_bl ow_t bb
    replace ow_s := own_bl ow_s bb
    replace ow_x := own_bl ow_x bb
    replace ow_g := own_bl ow_g bb
    replace ow_z := own_bl ow_z bb
    replace ow_y := own_bl ow_y bb
    have sz12 : w11.heap.size ≤ w12.heap.size := bb.size
    replace bel : Below w.heap.size w w12 := bl_to (by (repeat' (first | (with_reducible exact Below.refl _ _) | (with_reducible refine bl_alloc ?_ _) | (with_reducible refine bl_drewN ?_ _) | (with_reducible refine bl_drew ?_) | (with_reducible assumption) | (with_reducible refine bl_to ?_ (by assumption)) | (with_reducible refine Below.trans ?_ (by assumption)) | (with_reducible refine Below.trans ?_ (Below.mono (by assumption) ?_)) | (with_reducible refine bl_set ?_ ?_ _) | (simp; done) | (simp; omega) | omega))) bb
    clear kk ff zz bb
    have ow_h := own_lo (lo' := w11.heap.size) on_h (by (first | omega | (simp; done) | (simp; omega)))
    have in_h := Lib.hid ow_h.lt
    clear on_h
    go_wp2_with fail
    refine (eqI_any _ _ (galF l) _ (Rd.of_own ow_h) (Rd.of_own ow_s) hlR).mono ?_
    rintro e w13 ⟨rfl, bb⟩
    obtain ⟨kk, ff, zz⟩ := bcell bb
    replace ow_t := own_bl ow_t bb
    replace ow_s := own_bl ow_s bb
    replace ow_x := own_bl ow_x bb
    replace ow_g := own_bl ow_g bb
    replace ow_z := own_bl ow_z bb
    replace ow_y := own_bl ow_y bb
    replace ow_h := own_bl ow_h bb
    have sz13 : w12.heap.size ≤ w13.heap.size := bb.size
    replace bel : Below w.heap.size w w13 := bl_to (by (repeat' (first | (with_reducible exact Below.refl _ _) | (with_reducible refine bl_alloc ?_ _) | (with_reducible refine bl_drewN ?_ _) | (with_reducible refine bl_drew ?_) | (with_reducible assumption) | (with_reducible refine bl_to ?_ (by assumption)) | (with_reducible refine Below.trans ?_ (by assumption)) | (with_reducible refine Below.trans ?_ (Below.mono (by assumption) ?_)) | (with_reducible refine bl_set ?_ ?_ _) | (simp; done) | (simp; omega) | omega))) bb
    clear kk ff zz bb
    go_wp2_with fail
    refine (heldI_any _ (galF l).length 1 _ (Rd.of_own ow_g) hlR (by omega) (by omega)).mono ?_
    rintro e wq ⟨rfl, rfl⟩
    go_wp2
    go_ret
    exact ⟨rfl, by (repeat' (first | (with_reducible exact Below.refl _ _) | (with_reducible refine bl_alloc ?_ _) | (with_reducible refine bl_drewN ?_ _) | (with_reducible refine bl_drew ?_) | (with_reducible assumption) | (with_reducible refine bl_to ?_ (by assumption)) | (with_reducible refine Below.trans ?_ (by assumption)) | (with_reducible refine Below.trans ?_ (Below.mono (by assumption) ?_)) | (with_reducible refine bl_set ?_ ?_ _) | (simp; done) | (simp; omega) | omega))⟩
  · go_enter Try.func7, Try.ntmps7
    go_wp2_with fail
    refine (szJobS_any v l _ _ hr (by omega) (by omega)).mono ?_
    rintro e w1 ⟨rfl, rfl⟩
    rw [if_pos (by omega)]
    go_wp2
    go_ret
    exact ⟨rfl, by (repeat' (first | (with_reducible exact Below.refl _ _) | (with_reducible refine bl_alloc ?_ _) | (with_reducible refine bl_drewN ?_ _) | (with_reducible refine bl_drew ?_) | (with_reducible assumption) | (with_reducible refine bl_to ?_ (by assumption)) | (with_reducible refine Below.trans ?_ (by assumption)) | (with_reducible refine Below.trans ?_ (Below.mono (by assumption) ?_)) | (with_reducible refine bl_set ?_ ?_ _) | (simp; done) | (simp; omega) | omega))⟩
end Go.Proofs.Ytloienidakomdaa
