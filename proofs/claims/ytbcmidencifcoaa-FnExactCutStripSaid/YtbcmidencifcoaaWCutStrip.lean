/- FnExactCutStrip: the law returns true at every input; no condition. -/
import Derived.Test.YtbcmidencifcoaaCut
import Derived.Test.YtbcmidencifcoaaStMStrip
import Derived.Deep.DeepCutAuto
import Derived.Deep.RegionHeld3
namespace Go.Proofs.Ytbcmidencifcoaa
open Go.RowKit

theorem apart_ab {a b : Value} (h : ∀ k, a.ownBlock = some k → b.ownBlock ≠ some k) : b.ownBlock = none ∨ b.ownBlock ≠ a.ownBlock := by
  cases e : b.ownBlock with
  | none => exact .inl rfl
  | some k => exact .inr fun e2 => h k e2.symm e
theorem apart_ba {a b : Value} (h : ∀ k, a.ownBlock = some k → b.ownBlock ≠ some k) : a.ownBlock = none ∨ a.ownBlock ≠ b.ownBlock := by
  cases e : a.ownBlock with
  | none => exact .inl rfl
  | some k => exact .inr fun e2 => h k e e2.symm
theorem cut_len (n : Int) (l : List (Int × Int)) (a : Int) : (cutAl n l a).length + (cutBl n l a).length ≤ l.length := by
  unfold cutAl cutBl
  have := cu_len l a l.length
  split <;> simp <;> omega
set_option maxHeartbeats 12800000 in
set_option maxRecDepth 100000 in
theorem cutStrip_law (n : Int) (v : Value) (l : List (Int × Int)) (a : Int) (w : World) (hr : RdN w v l) : Calls Try.prog 11 #[.agg #[.int .i64 n, v], .int .i64 a] w fun e w' => e = .returned (.bool true) ∧ Below w.heap.size w w' := by
  by_cases hl : l.length ≤ 1048576
  · have hcl := cut_len n l a
    have hlR1 : (cutAl n l a).length ≤ 1048576 := by omega
    have hlR2 : (cutBl n l a).length ≤ 1048576 := by omega
    clear hcl
    go_enter Try.func11, Try.ntmps11
    go_wp2_with fail
    refine (szStrip_any n v l _ _ (hr.bl (by (repeat' (first | (with_reducible exact Below.refl _ _) | (with_reducible refine bl_alloc ?_ _) | (with_reducible refine bl_drewN ?_ _) | (with_reducible refine bl_drew ?_) | (with_reducible assumption) | (with_reducible refine bl_to ?_ (by assumption)) | (with_reducible refine Below.trans ?_ (by assumption)) | (with_reducible refine Below.trans ?_ (Below.mono (by assumption) ?_)) | (with_reducible refine bl_set ?_ ?_ _) | (simp; done) | (simp; omega) | omega)))) (by omega) (by omega)).mono ?_
    rintro e w1 ⟨rfl, bb⟩
    rw [if_neg (by omega)]
    obtain ⟨kk, ff, zz⟩ := bcell bb
    have bx_d_0 : w1.cell? ⟨w.heap.size, 0, none⟩ = some (.int .i64 n) := (kk _ _ (by (first | omega | (simp; done) | (simp; omega)))).trans (by simp [go_sem])
    have bx_d_1 : w1.cell? ⟨w.heap.size, 1, none⟩ = some (v) := (kk _ _ (by (first | omega | (simp; done) | (simp; omega)))).trans (by simp [go_sem])
    have yb_d : w.heap.size < w1.heap.size := zz _ (by (first | omega | (simp; done) | (simp; omega)))
    have sz1 : w.heap.size + 1 ≤ w1.heap.size := by have := bb.size; simp only [World.size_alloc] at this; omega
    have bel : Below w.heap.size w w1 := bl_to (by (repeat' (first | (with_reducible exact Below.refl _ _) | (with_reducible refine bl_alloc ?_ _) | (with_reducible refine bl_drewN ?_ _) | (with_reducible refine bl_drew ?_) | (with_reducible assumption) | (with_reducible refine bl_to ?_ (by assumption)) | (with_reducible refine Below.trans ?_ (by assumption)) | (with_reducible refine Below.trans ?_ (Below.mono (by assumption) ?_)) | (with_reducible refine bl_set ?_ ?_ _) | (simp; done) | (simp; omega) | omega))) bb
    clear kk ff zz bb
    go_wp2_with fail
    refine (toStrip_any n v l _ (hr.bl (by (repeat' (first | (with_reducible exact Below.refl _ _) | (with_reducible refine bl_alloc ?_ _) | (with_reducible refine bl_drewN ?_ _) | (with_reducible refine bl_drew ?_) | (with_reducible assumption) | (with_reducible refine bl_to ?_ (by assumption)) | (with_reducible refine Below.trans ?_ (by assumption)) | (with_reducible refine Below.trans ?_ (Below.mono (by assumption) ?_)) | (with_reducible refine bl_set ?_ ?_ _) | (simp; done) | (simp; omega) | omega)))) hl).mono ?_
    rintro e w2 ⟨A_t, c_t, rfl, on_t, bb⟩
    obtain ⟨kk, ff, zz⟩ := bcell bb
    replace bx_d_0 := (kk _ 0 yb_d).trans bx_d_0
    replace bx_d_1 := (kk _ 1 yb_d).trans bx_d_1
    replace yb_d : w.heap.size < w2.heap.size := zz _ (by (first | omega | (simp; done) | (simp; omega)))
    have sz2 : w1.heap.size ≤ w2.heap.size := bb.size
    replace bel : Below w.heap.size w w2 := bl_to (by (repeat' (first | (with_reducible exact Below.refl _ _) | (with_reducible refine bl_alloc ?_ _) | (with_reducible refine bl_drewN ?_ _) | (with_reducible refine bl_drew ?_) | (with_reducible assumption) | (with_reducible refine bl_to ?_ (by assumption)) | (with_reducible refine Below.trans ?_ (by assumption)) | (with_reducible refine Below.trans ?_ (Below.mono (by assumption) ?_)) | (with_reducible refine bl_set ?_ ?_ _) | (simp; done) | (simp; omega) | omega))) bb
    clear kk ff zz bb
    have ow_t := own_lo (lo' := w1.heap.size) on_t (by (first | omega | (simp; done) | (simp; omega)))
    have in_t := Lib.hid ow_t.lt
    clear on_t
    go_wp2_with fail
    refine (cutS_any n a _ l _ (Rd.of_own ow_t) hl).mono ?_
    rintro e w3 ⟨A_s1, c_s1, A_s2, c_s2, rfl, on_s1, on_s2, ap, bb⟩
    obtain ⟨kk, ff, zz⟩ := bcell bb
    replace bx_d_0 := (kk _ 0 yb_d).trans bx_d_0
    replace bx_d_1 := (kk _ 1 yb_d).trans bx_d_1
    replace yb_d : w.heap.size < w3.heap.size := zz _ (by (first | omega | (simp; done) | (simp; omega)))
    replace ow_t := own_bl ow_t bb
    have sz3 : w2.heap.size ≤ w3.heap.size := bb.size
    replace bel : Below w.heap.size w w3 := bl_to (by (repeat' (first | (with_reducible exact Below.refl _ _) | (with_reducible refine bl_alloc ?_ _) | (with_reducible refine bl_drewN ?_ _) | (with_reducible refine bl_drew ?_) | (with_reducible assumption) | (with_reducible refine bl_to ?_ (by assumption)) | (with_reducible refine Below.trans ?_ (by assumption)) | (with_reducible refine Below.trans ?_ (Below.mono (by assumption) ?_)) | (with_reducible refine bl_set ?_ ?_ _) | (simp; done) | (simp; omega) | omega))) bb
    clear kk ff zz bb
    have ap_s1 := Lib.hid ap
    clear ap
    have ow_s1 := own_lo (lo' := w2.heap.size) on_s1 (by (first | omega | (simp; done) | (simp; omega)))
    have in_s1 := Lib.hid ow_s1.lt
    clear on_s1
    have ow_s2 := own_lo (lo' := w2.heap.size) on_s2 (by (first | omega | (simp; done) | (simp; omega)))
    have in_s2 := Lib.hid ow_s2.lt
    clear on_s2
    go_wp2_with fail
    refine (toStrip_any n v l _ (hr.bl (by (repeat' (first | (with_reducible exact Below.refl _ _) | (with_reducible refine bl_alloc ?_ _) | (with_reducible refine bl_drewN ?_ _) | (with_reducible refine bl_drew ?_) | (with_reducible assumption) | (with_reducible refine bl_to ?_ (by assumption)) | (with_reducible refine Below.trans ?_ (by assumption)) | (with_reducible refine Below.trans ?_ (Below.mono (by assumption) ?_)) | (with_reducible refine bl_set ?_ ?_ _) | (simp; done) | (simp; omega) | omega)))) hl).mono ?_
    rintro e w4 ⟨A_x, c_x, rfl, on_x, bb⟩
    obtain ⟨kk, ff, zz⟩ := bcell bb
    replace bx_d_0 : w4.cell? ⟨w.heap.size, 0, none⟩ = some (.int .i64 n) := (kk _ _ (by (first | omega | (simp; done) | (simp; omega)))).trans (((bl_alloc (bl_alloc (Below.refl _ _) _) _).cell (p := ⟨w.heap.size, 0, none⟩) yb_d).trans bx_d_0)
    replace bx_d_1 : w4.cell? ⟨w.heap.size, 1, none⟩ = some (v) := (kk _ _ (by (first | omega | (simp; done) | (simp; omega)))).trans (((bl_alloc (bl_alloc (Below.refl _ _) _) _).cell (p := ⟨w.heap.size, 1, none⟩) yb_d).trans bx_d_1)
    have bx_s1_0 : w4.cell? ⟨w3.heap.size, 0, none⟩ = some (.int .i64 (cutAn n l a)) := (kk _ _ (by (first | omega | (simp; done) | (simp; omega)))).trans (by simp [go_sem])
    have bx_s1_1 : w4.cell? ⟨w3.heap.size, 1, none⟩ = some ((.slice A_s1 ((cutAl n l a).length) c_s1)) := (kk _ _ (by (first | omega | (simp; done) | (simp; omega)))).trans (by simp [go_sem])
    have bx_s2_0 : w4.cell? ⟨w3.heap.size + 1, 0, none⟩ = some (.int .i64 (cutBn n l a)) := (kk _ _ (by (first | omega | (simp; done) | (simp; omega)))).trans (by simp [go_sem])
    have bx_s2_1 : w4.cell? ⟨w3.heap.size + 1, 1, none⟩ = some ((.slice A_s2 ((cutBl n l a).length) c_s2)) := (kk _ _ (by (first | omega | (simp; done) | (simp; omega)))).trans (by simp [go_sem])
    replace yb_d : w.heap.size < w4.heap.size := zz _ (by (first | omega | (simp; done) | (simp; omega)))
    have yb_s1 : w3.heap.size < w4.heap.size := zz _ (by (first | omega | (simp; done) | (simp; omega)))
    have yb_s2 : w3.heap.size + 1 < w4.heap.size := zz _ (by (first | omega | (simp; done) | (simp; omega)))
    replace ow_t := own_bl ((ow_t.alloc _).alloc _) bb
    replace ow_s1 := own_bl ((ow_s1.alloc _).alloc _) bb
    replace ow_s2 := own_bl ((ow_s2.alloc _).alloc _) bb
    have sz4 : w3.heap.size + 2 ≤ w4.heap.size := by have := bb.size; simp only [World.size_alloc] at this; omega
    replace bel : Below w.heap.size w w4 := bl_to (by (repeat' (first | (with_reducible exact Below.refl _ _) | (with_reducible refine bl_alloc ?_ _) | (with_reducible refine bl_drewN ?_ _) | (with_reducible refine bl_drew ?_) | (with_reducible assumption) | (with_reducible refine bl_to ?_ (by assumption)) | (with_reducible refine Below.trans ?_ (by assumption)) | (with_reducible refine Below.trans ?_ (Below.mono (by assumption) ?_)) | (with_reducible refine bl_set ?_ ?_ _) | (simp; done) | (simp; omega) | omega))) bb
    clear kk ff zz bb
    have ow_x := own_lo (lo' := w3.heap.size + 2) on_x (by (first | omega | (simp; done) | (simp; omega)))
    have in_x := Lib.hid ow_x.lt
    clear on_x
    go_wp2_with fail
    refine (cutI_any n a _ l _ (Rd.of_own (ow_x.alloc _)) hl).mono ?_
    rintro e w5 ⟨A_g1, c_g1, A_g2, c_g2, rfl, on_g1, on_g2, ap, bb⟩
    obtain ⟨kk, ff, zz⟩ := bcell bb
    replace bx_d_0 : w5.cell? ⟨w.heap.size, 0, none⟩ = some (.int .i64 n) := (kk _ _ (by (first | omega | (simp; done) | (simp; omega)))).trans (((bl_alloc (Below.refl _ _) _).cell (p := ⟨w.heap.size, 0, none⟩) yb_d).trans bx_d_0)
    replace bx_d_1 : w5.cell? ⟨w.heap.size, 1, none⟩ = some (v) := (kk _ _ (by (first | omega | (simp; done) | (simp; omega)))).trans (((bl_alloc (Below.refl _ _) _).cell (p := ⟨w.heap.size, 1, none⟩) yb_d).trans bx_d_1)
    replace bx_s1_0 : w5.cell? ⟨w3.heap.size, 0, none⟩ = some (.int .i64 (cutAn n l a)) := (kk _ _ (by (first | omega | (simp; done) | (simp; omega)))).trans (((bl_alloc (Below.refl _ _) _).cell (p := ⟨w3.heap.size, 0, none⟩) yb_s1).trans bx_s1_0)
    replace bx_s1_1 : w5.cell? ⟨w3.heap.size, 1, none⟩ = some ((.slice A_s1 ((cutAl n l a).length) c_s1)) := (kk _ _ (by (first | omega | (simp; done) | (simp; omega)))).trans (((bl_alloc (Below.refl _ _) _).cell (p := ⟨w3.heap.size, 1, none⟩) yb_s1).trans bx_s1_1)
    replace bx_s2_0 : w5.cell? ⟨w3.heap.size + 1, 0, none⟩ = some (.int .i64 (cutBn n l a)) := (kk _ _ (by (first | omega | (simp; done) | (simp; omega)))).trans (((bl_alloc (Below.refl _ _) _).cell (p := ⟨w3.heap.size + 1, 0, none⟩) yb_s2).trans bx_s2_0)
    replace bx_s2_1 : w5.cell? ⟨w3.heap.size + 1, 1, none⟩ = some ((.slice A_s2 ((cutBl n l a).length) c_s2)) := (kk _ _ (by (first | omega | (simp; done) | (simp; omega)))).trans (((bl_alloc (Below.refl _ _) _).cell (p := ⟨w3.heap.size + 1, 1, none⟩) yb_s2).trans bx_s2_1)
    have bx_x_0 : w5.cell? ⟨w4.heap.size, 0, none⟩ = some (.int .i64 n) := (kk _ _ (by (first | omega | (simp; done) | (simp; omega)))).trans (by simp [go_sem])
    have bx_x_1 : w5.cell? ⟨w4.heap.size, 1, none⟩ = some ((.slice A_x (l.length) c_x)) := (kk _ _ (by (first | omega | (simp; done) | (simp; omega)))).trans (by simp [go_sem])
    replace yb_d : w.heap.size < w5.heap.size := zz _ (by (first | omega | (simp; done) | (simp; omega)))
    replace yb_s1 : w3.heap.size < w5.heap.size := zz _ (by (first | omega | (simp; done) | (simp; omega)))
    replace yb_s2 : w3.heap.size + 1 < w5.heap.size := zz _ (by (first | omega | (simp; done) | (simp; omega)))
    have yb_x : w4.heap.size < w5.heap.size := zz _ (by (first | omega | (simp; done) | (simp; omega)))
    replace ow_t := own_bl (ow_t.alloc _) bb
    replace ow_s1 := own_bl (ow_s1.alloc _) bb
    replace ow_s2 := own_bl (ow_s2.alloc _) bb
    replace ow_x := own_bl (ow_x.alloc _) bb
    have sz5 : w4.heap.size + 1 ≤ w5.heap.size := by have := bb.size; simp only [World.size_alloc] at this; omega
    replace bel : Below w.heap.size w w5 := bl_to (by (repeat' (first | (with_reducible exact Below.refl _ _) | (with_reducible refine bl_alloc ?_ _) | (with_reducible refine bl_drewN ?_ _) | (with_reducible refine bl_drew ?_) | (with_reducible assumption) | (with_reducible refine bl_to ?_ (by assumption)) | (with_reducible refine Below.trans ?_ (by assumption)) | (with_reducible refine Below.trans ?_ (Below.mono (by assumption) ?_)) | (with_reducible refine bl_set ?_ ?_ _) | (simp; done) | (simp; omega) | omega))) bb
    clear kk ff zz bb
    have ap_g1 := Lib.hid ap
    clear ap
    have ow_g1 := own_lo (lo' := w4.heap.size + 1) on_g1 (by (first | omega | (simp; done) | (simp; omega)))
    have in_g1 := Lib.hid ow_g1.lt
    clear on_g1
    have ow_g2 := own_lo (lo' := w4.heap.size + 1) on_g2 (by (first | omega | (simp; done) | (simp; omega)))
    have in_g2 := Lib.hid ow_g2.lt
    clear on_g2
    go_wp2_with fail
    refine (eqStrip_any (cutAn n l a) _ _ (cutAl n l a) _ (Rd.of_own ((ow_g1.alloc _).alloc _)) (Rd.of_own ((ow_s1.alloc _).alloc _)) hlR1).mono ?_
    rintro e w6 ⟨rfl, bb⟩
    obtain ⟨kk, ff, zz⟩ := bcell bb
    replace bx_d_0 : w6.cell? ⟨w.heap.size, 0, none⟩ = some (.int .i64 n) := (kk _ _ (by (first | omega | (simp; done) | (simp; omega)))).trans (((bl_alloc (bl_alloc (Below.refl _ _) _) _).cell (p := ⟨w.heap.size, 0, none⟩) yb_d).trans bx_d_0)
    replace bx_d_1 : w6.cell? ⟨w.heap.size, 1, none⟩ = some (v) := (kk _ _ (by (first | omega | (simp; done) | (simp; omega)))).trans (((bl_alloc (bl_alloc (Below.refl _ _) _) _).cell (p := ⟨w.heap.size, 1, none⟩) yb_d).trans bx_d_1)
    replace bx_s1_0 : w6.cell? ⟨w3.heap.size, 0, none⟩ = some (.int .i64 (cutAn n l a)) := (kk _ _ (by (first | omega | (simp; done) | (simp; omega)))).trans (((bl_alloc (bl_alloc (Below.refl _ _) _) _).cell (p := ⟨w3.heap.size, 0, none⟩) yb_s1).trans bx_s1_0)
    replace bx_s1_1 : w6.cell? ⟨w3.heap.size, 1, none⟩ = some ((.slice A_s1 ((cutAl n l a).length) c_s1)) := (kk _ _ (by (first | omega | (simp; done) | (simp; omega)))).trans (((bl_alloc (bl_alloc (Below.refl _ _) _) _).cell (p := ⟨w3.heap.size, 1, none⟩) yb_s1).trans bx_s1_1)
    replace bx_s2_0 : w6.cell? ⟨w3.heap.size + 1, 0, none⟩ = some (.int .i64 (cutBn n l a)) := (kk _ _ (by (first | omega | (simp; done) | (simp; omega)))).trans (((bl_alloc (bl_alloc (Below.refl _ _) _) _).cell (p := ⟨w3.heap.size + 1, 0, none⟩) yb_s2).trans bx_s2_0)
    replace bx_s2_1 : w6.cell? ⟨w3.heap.size + 1, 1, none⟩ = some ((.slice A_s2 ((cutBl n l a).length) c_s2)) := (kk _ _ (by (first | omega | (simp; done) | (simp; omega)))).trans (((bl_alloc (bl_alloc (Below.refl _ _) _) _).cell (p := ⟨w3.heap.size + 1, 1, none⟩) yb_s2).trans bx_s2_1)
    replace bx_x_0 : w6.cell? ⟨w4.heap.size, 0, none⟩ = some (.int .i64 n) := (kk _ _ (by (first | omega | (simp; done) | (simp; omega)))).trans (((bl_alloc (bl_alloc (Below.refl _ _) _) _).cell (p := ⟨w4.heap.size, 0, none⟩) yb_x).trans bx_x_0)
    replace bx_x_1 : w6.cell? ⟨w4.heap.size, 1, none⟩ = some ((.slice A_x (l.length) c_x)) := (kk _ _ (by (first | omega | (simp; done) | (simp; omega)))).trans (((bl_alloc (bl_alloc (Below.refl _ _) _) _).cell (p := ⟨w4.heap.size, 1, none⟩) yb_x).trans bx_x_1)
    have bx_g1_0 : w6.cell? ⟨w5.heap.size, 0, none⟩ = some (.int .i64 (cutAn n l a)) := (kk _ _ (by (first | omega | (simp; done) | (simp; omega)))).trans (by simp [go_sem])
    have bx_g1_1 : w6.cell? ⟨w5.heap.size, 1, none⟩ = some ((.slice A_g1 ((cutAl n l a).length) c_g1)) := (kk _ _ (by (first | omega | (simp; done) | (simp; omega)))).trans (by simp [go_sem])
    have bx_g2_0 : w6.cell? ⟨w5.heap.size + 1, 0, none⟩ = some (.int .i64 (cutBn n l a)) := (kk _ _ (by (first | omega | (simp; done) | (simp; omega)))).trans (by simp [go_sem])
    have bx_g2_1 : w6.cell? ⟨w5.heap.size + 1, 1, none⟩ = some ((.slice A_g2 ((cutBl n l a).length) c_g2)) := (kk _ _ (by (first | omega | (simp; done) | (simp; omega)))).trans (by simp [go_sem])
    replace yb_d : w.heap.size < w6.heap.size := zz _ (by (first | omega | (simp; done) | (simp; omega)))
    replace yb_s1 : w3.heap.size < w6.heap.size := zz _ (by (first | omega | (simp; done) | (simp; omega)))
    replace yb_s2 : w3.heap.size + 1 < w6.heap.size := zz _ (by (first | omega | (simp; done) | (simp; omega)))
    replace yb_x : w4.heap.size < w6.heap.size := zz _ (by (first | omega | (simp; done) | (simp; omega)))
    have yb_g1 : w5.heap.size < w6.heap.size := zz _ (by (first | omega | (simp; done) | (simp; omega)))
    have yb_g2 : w5.heap.size + 1 < w6.heap.size := zz _ (by (first | omega | (simp; done) | (simp; omega)))
    replace ow_t := own_bl ((ow_t.alloc _).alloc _) bb
    replace ow_s1 := own_bl ((ow_s1.alloc _).alloc _) bb
    replace ow_s2 := own_bl ((ow_s2.alloc _).alloc _) bb
    replace ow_x := own_bl ((ow_x.alloc _).alloc _) bb
    replace ow_g1 := own_bl ((ow_g1.alloc _).alloc _) bb
    replace ow_g2 := own_bl ((ow_g2.alloc _).alloc _) bb
    have sz6 : w5.heap.size + 2 ≤ w6.heap.size := by have := bb.size; simp only [World.size_alloc] at this; omega
    replace bel : Below w.heap.size w w6 := bl_to (by (repeat' (first | (with_reducible exact Below.refl _ _) | (with_reducible refine bl_alloc ?_ _) | (with_reducible refine bl_drewN ?_ _) | (with_reducible refine bl_drew ?_) | (with_reducible assumption) | (with_reducible refine bl_to ?_ (by assumption)) | (with_reducible refine Below.trans ?_ (by assumption)) | (with_reducible refine Below.trans ?_ (Below.mono (by assumption) ?_)) | (with_reducible refine bl_set ?_ ?_ _) | (simp; done) | (simp; omega) | omega))) bb
    clear kk ff zz bb
    go_wp2_with fail
    refine (eqStrip_any (cutBn n l a) _ _ (cutBl n l a) _ (Rd.of_own ow_g2) (Rd.of_own ow_s2) hlR2).mono ?_
    rintro e w7 ⟨rfl, bb⟩
    obtain ⟨kk, ff, zz⟩ := bcell bb
    replace bx_d_0 := (kk _ 0 yb_d).trans bx_d_0
    replace bx_d_1 := (kk _ 1 yb_d).trans bx_d_1
    replace bx_s1_0 := (kk _ 0 yb_s1).trans bx_s1_0
    replace bx_s1_1 := (kk _ 1 yb_s1).trans bx_s1_1
    replace bx_s2_0 := (kk _ 0 yb_s2).trans bx_s2_0
    replace bx_s2_1 := (kk _ 1 yb_s2).trans bx_s2_1
    replace bx_x_0 := (kk _ 0 yb_x).trans bx_x_0
    replace bx_x_1 := (kk _ 1 yb_x).trans bx_x_1
    replace bx_g1_0 := (kk _ 0 yb_g1).trans bx_g1_0
    replace bx_g1_1 := (kk _ 1 yb_g1).trans bx_g1_1
    replace bx_g2_0 := (kk _ 0 yb_g2).trans bx_g2_0
    replace bx_g2_1 := (kk _ 1 yb_g2).trans bx_g2_1
    replace yb_d : w.heap.size < w7.heap.size := zz _ (by (first | omega | (simp; done) | (simp; omega)))
    replace yb_s1 : w3.heap.size < w7.heap.size := zz _ (by (first | omega | (simp; done) | (simp; omega)))
    replace yb_s2 : w3.heap.size + 1 < w7.heap.size := zz _ (by (first | omega | (simp; done) | (simp; omega)))
    replace yb_x : w4.heap.size < w7.heap.size := zz _ (by (first | omega | (simp; done) | (simp; omega)))
    replace yb_g1 : w5.heap.size < w7.heap.size := zz _ (by (first | omega | (simp; done) | (simp; omega)))
    replace yb_g2 : w5.heap.size + 1 < w7.heap.size := zz _ (by (first | omega | (simp; done) | (simp; omega)))
    replace ow_t := own_bl ow_t bb
    replace ow_s1 := own_bl ow_s1 bb
    replace ow_s2 := own_bl ow_s2 bb
    replace ow_x := own_bl ow_x bb
    replace ow_g1 := own_bl ow_g1 bb
    replace ow_g2 := own_bl ow_g2 bb
    have sz7 : w6.heap.size ≤ w7.heap.size := bb.size
    replace bel : Below w.heap.size w w7 := bl_to (by (repeat' (first | (with_reducible exact Below.refl _ _) | (with_reducible refine bl_alloc ?_ _) | (with_reducible refine bl_drewN ?_ _) | (with_reducible refine bl_drew ?_) | (with_reducible assumption) | (with_reducible refine bl_to ?_ (by assumption)) | (with_reducible refine Below.trans ?_ (by assumption)) | (with_reducible refine Below.trans ?_ (Below.mono (by assumption) ?_)) | (with_reducible refine bl_set ?_ ?_ _) | (simp; done) | (simp; omega) | omega))) bb
    clear kk ff zz bb
    go_upto_region 10 with (fail)
    go_cut [60] (fun s wx => s = .bool false ∧ Below w7.heap.size w7 wx)
    case first =>
      go_region_with (first | (go_at_call 22; refine (toStrip_any n v l _ (hr.bl (by (repeat' (first | (with_reducible exact Below.refl _ _) | (with_reducible refine bl_alloc ?_ _) | (with_reducible refine bl_drewN ?_ _) | (with_reducible refine bl_drew ?_) | (with_reducible assumption) | (with_reducible refine bl_to ?_ (by assumption)) | (with_reducible refine Below.trans ?_ (by assumption)) | (with_reducible refine Below.trans ?_ (Below.mono (by assumption) ?_)) | (with_reducible refine bl_set ?_ ?_ _) | (simp; done) | (simp; omega) | omega)))) hl).mono ?_; rintro e wt ⟨At, ct, rfl, owt, bt⟩; obtain ⟨kt, ft, zt⟩ := bcell bt; have xt0 := (kt _ 0 yb_x).trans bx_x_0; have xt1 := (kt _ 1 yb_x).trans bx_x_1) | (go_at_call 24; refine (eqStrip_any n _ _ l _ (Rd.of_own (own_bl (by first | exact ow_x | exact World.ownsRow.drew ow_x) bt)) (Rd.of_own owt) hl).mono ?_; rintro e wu ⟨rfl, bu⟩))
      all_goals (go_wp2_with fail; go_meet; exact ⟨rfl, by (repeat' (first | (with_reducible exact Below.refl _ _) | (with_reducible refine bl_alloc ?_ _) | (with_reducible refine bl_drewN ?_ _) | (with_reducible refine bl_drew ?_) | (with_reducible assumption) | (with_reducible refine bl_to ?_ (by assumption)) | (with_reducible refine Below.trans ?_ (by assumption)) | (with_reducible refine Below.trans ?_ (Below.mono (by assumption) ?_)) | (with_reducible refine bl_set ?_ ?_ _) | (simp; done) | (simp; omega) | omega))⟩)
    case rest =>
      obtain ⟨rfl, bb⟩ := hcut
      obtain ⟨w8, rfl⟩ : ∃ x : World, x = wc := ⟨_, rfl⟩
      obtain ⟨kk, ff, zz⟩ := bcell bb
      replace bx_d_0 := (kk _ 0 yb_d).trans bx_d_0
      replace bx_d_1 := (kk _ 1 yb_d).trans bx_d_1
      replace bx_s1_0 := (kk _ 0 yb_s1).trans bx_s1_0
      replace bx_s1_1 := (kk _ 1 yb_s1).trans bx_s1_1
      replace bx_s2_0 := (kk _ 0 yb_s2).trans bx_s2_0
      replace bx_s2_1 := (kk _ 1 yb_s2).trans bx_s2_1
      replace bx_x_0 := (kk _ 0 yb_x).trans bx_x_0
      replace bx_x_1 := (kk _ 1 yb_x).trans bx_x_1
      replace bx_g1_0 := (kk _ 0 yb_g1).trans bx_g1_0
      replace bx_g1_1 := (kk _ 1 yb_g1).trans bx_g1_1
      replace bx_g2_0 := (kk _ 0 yb_g2).trans bx_g2_0
      replace bx_g2_1 := (kk _ 1 yb_g2).trans bx_g2_1
      replace yb_d : w.heap.size < w8.heap.size := zz _ (by (first | omega | (simp; done) | (simp; omega)))
      replace yb_s1 : w3.heap.size < w8.heap.size := zz _ (by (first | omega | (simp; done) | (simp; omega)))
      replace yb_s2 : w3.heap.size + 1 < w8.heap.size := zz _ (by (first | omega | (simp; done) | (simp; omega)))
      replace yb_x : w4.heap.size < w8.heap.size := zz _ (by (first | omega | (simp; done) | (simp; omega)))
      replace yb_g1 : w5.heap.size < w8.heap.size := zz _ (by (first | omega | (simp; done) | (simp; omega)))
      replace yb_g2 : w5.heap.size + 1 < w8.heap.size := zz _ (by (first | omega | (simp; done) | (simp; omega)))
      replace ow_t := own_bl ow_t bb
      replace ow_s1 := own_bl ow_s1 bb
      replace ow_s2 := own_bl ow_s2 bb
      replace ow_x := own_bl ow_x bb
      replace ow_g1 := own_bl ow_g1 bb
      replace ow_g2 := own_bl ow_g2 bb
      have sz8 : w7.heap.size ≤ w8.heap.size := bb.size
      replace bel : Below w.heap.size w w8 := bl_to (by (repeat' (first | (with_reducible exact Below.refl _ _) | (with_reducible refine bl_alloc ?_ _) | (with_reducible refine bl_drewN ?_ _) | (with_reducible refine bl_drew ?_) | (with_reducible assumption) | (with_reducible refine bl_to ?_ (by assumption)) | (with_reducible refine Below.trans ?_ (by assumption)) | (with_reducible refine Below.trans ?_ (Below.mono (by assumption) ?_)) | (with_reducible refine bl_set ?_ ?_ _) | (simp; done) | (simp; omega) | omega))) bb
      clear kk ff zz bb
      go_wp2_with fail
      refine (markStrip_any _ n _ l 1 _ ow_x hl (by omega) (by omega)).mono ?_
      rintro e w9 ⟨rfl, om, gg⟩
      replace bx_d_0 := (cell_grown gg yb_d (fun k hk => by have := in_x.out k hk; omega) 0).trans bx_d_0
      replace bx_d_1 := (cell_grown gg yb_d (fun k hk => by have := in_x.out k hk; omega) 1).trans bx_d_1
      replace yb_d := Nat.lt_of_lt_of_le yb_d gg.size
      replace bx_s1_0 := (cell_grown gg yb_s1 (fun k hk => by have := in_x.out k hk; omega) 0).trans bx_s1_0
      replace bx_s1_1 := (cell_grown gg yb_s1 (fun k hk => by have := in_x.out k hk; omega) 1).trans bx_s1_1
      replace yb_s1 := Nat.lt_of_lt_of_le yb_s1 gg.size
      replace bx_s2_0 := (cell_grown gg yb_s2 (fun k hk => by have := in_x.out k hk; omega) 0).trans bx_s2_0
      replace bx_s2_1 := (cell_grown gg yb_s2 (fun k hk => by have := in_x.out k hk; omega) 1).trans bx_s2_1
      replace yb_s2 := Nat.lt_of_lt_of_le yb_s2 gg.size
      replace bx_x_0 := (cell_grown gg yb_x (fun k hk => by have := in_x.out k hk; omega) 0).trans bx_x_0
      replace bx_x_1 := (cell_grown gg yb_x (fun k hk => by have := in_x.out k hk; omega) 1).trans bx_x_1
      replace yb_x := Nat.lt_of_lt_of_le yb_x gg.size
      replace bx_g1_0 := (cell_grown gg yb_g1 (fun k hk => by have := in_x.out k hk; omega) 0).trans bx_g1_0
      replace bx_g1_1 := (cell_grown gg yb_g1 (fun k hk => by have := in_x.out k hk; omega) 1).trans bx_g1_1
      replace yb_g1 := Nat.lt_of_lt_of_le yb_g1 gg.size
      replace bx_g2_0 := (cell_grown gg yb_g2 (fun k hk => by have := in_x.out k hk; omega) 0).trans bx_g2_0
      replace bx_g2_1 := (cell_grown gg yb_g2 (fun k hk => by have := in_x.out k hk; omega) 1).trans bx_g2_1
      replace yb_g2 := Nat.lt_of_lt_of_le yb_g2 gg.size
      replace ow_t := ow_t.kept gg (own_apart in_t.out in_x.out (by omega))
      replace ow_s1 := ow_s1.kept gg (own_apart in_s1.out in_x.out (by omega))
      replace ow_s2 := ow_s2.kept gg (own_apart in_s2.out in_x.out (by omega))
      replace ow_g1 := ow_g1.kept gg (own_apart in_g1.out in_x.out (by omega))
      replace ow_g2 := ow_g2.kept gg (own_apart in_g2.out in_x.out (by omega))
      replace ow_x := om
      have sz9 : w8.heap.size ≤ w9.heap.size := gg.size
      replace bel : Below w.heap.size w w9 := bl_grown bel gg (fun k hk => by have := in_x.out k hk; omega)
      clear gg om
      go_wp2_with fail
      refine (eqStrip_any (cutAn n l a) _ _ (cutAl n l a) _ (Rd.of_own ow_g1) (Rd.of_own ow_s1) hlR1).mono ?_
      rintro e w10 ⟨rfl, bb⟩
      obtain ⟨kk, ff, zz⟩ := bcell bb
      replace bx_d_0 := (kk _ 0 yb_d).trans bx_d_0
      replace bx_d_1 := (kk _ 1 yb_d).trans bx_d_1
      replace bx_s1_0 := (kk _ 0 yb_s1).trans bx_s1_0
      replace bx_s1_1 := (kk _ 1 yb_s1).trans bx_s1_1
      replace bx_s2_0 := (kk _ 0 yb_s2).trans bx_s2_0
      replace bx_s2_1 := (kk _ 1 yb_s2).trans bx_s2_1
      replace bx_x_0 := (kk _ 0 yb_x).trans bx_x_0
      replace bx_x_1 := (kk _ 1 yb_x).trans bx_x_1
      replace bx_g1_0 := (kk _ 0 yb_g1).trans bx_g1_0
      replace bx_g1_1 := (kk _ 1 yb_g1).trans bx_g1_1
      replace bx_g2_0 := (kk _ 0 yb_g2).trans bx_g2_0
      replace bx_g2_1 := (kk _ 1 yb_g2).trans bx_g2_1
      replace yb_d : w.heap.size < w10.heap.size := zz _ (by (first | omega | (simp; done) | (simp; omega)))
      replace yb_s1 : w3.heap.size < w10.heap.size := zz _ (by (first | omega | (simp; done) | (simp; omega)))
      replace yb_s2 : w3.heap.size + 1 < w10.heap.size := zz _ (by (first | omega | (simp; done) | (simp; omega)))
      replace yb_x : w4.heap.size < w10.heap.size := zz _ (by (first | omega | (simp; done) | (simp; omega)))
      replace yb_g1 : w5.heap.size < w10.heap.size := zz _ (by (first | omega | (simp; done) | (simp; omega)))
      replace yb_g2 : w5.heap.size + 1 < w10.heap.size := zz _ (by (first | omega | (simp; done) | (simp; omega)))
      replace ow_t := own_bl ow_t bb
      replace ow_s1 := own_bl ow_s1 bb
      replace ow_s2 := own_bl ow_s2 bb
      replace ow_x := own_bl ow_x bb
      replace ow_g1 := own_bl ow_g1 bb
      replace ow_g2 := own_bl ow_g2 bb
      have sz10 : w9.heap.size ≤ w10.heap.size := bb.size
      replace bel : Below w.heap.size w w10 := bl_to (by (repeat' (first | (with_reducible exact Below.refl _ _) | (with_reducible refine bl_alloc ?_ _) | (with_reducible refine bl_drewN ?_ _) | (with_reducible refine bl_drew ?_) | (with_reducible assumption) | (with_reducible refine bl_to ?_ (by assumption)) | (with_reducible refine Below.trans ?_ (by assumption)) | (with_reducible refine Below.trans ?_ (Below.mono (by assumption) ?_)) | (with_reducible refine bl_set ?_ ?_ _) | (simp; done) | (simp; omega) | omega))) bb
      clear kk ff zz bb
      go_wp2_with fail
      refine (eqStrip_any (cutBn n l a) _ _ (cutBl n l a) _ (Rd.of_own ow_g2) (Rd.of_own ow_s2) hlR2).mono ?_
      rintro e w11 ⟨rfl, bb⟩
      obtain ⟨kk, ff, zz⟩ := bcell bb
      replace bx_d_0 := (kk _ 0 yb_d).trans bx_d_0
      replace bx_d_1 := (kk _ 1 yb_d).trans bx_d_1
      replace bx_s1_0 := (kk _ 0 yb_s1).trans bx_s1_0
      replace bx_s1_1 := (kk _ 1 yb_s1).trans bx_s1_1
      replace bx_s2_0 := (kk _ 0 yb_s2).trans bx_s2_0
      replace bx_s2_1 := (kk _ 1 yb_s2).trans bx_s2_1
      replace bx_x_0 := (kk _ 0 yb_x).trans bx_x_0
      replace bx_x_1 := (kk _ 1 yb_x).trans bx_x_1
      replace bx_g1_0 := (kk _ 0 yb_g1).trans bx_g1_0
      replace bx_g1_1 := (kk _ 1 yb_g1).trans bx_g1_1
      replace bx_g2_0 := (kk _ 0 yb_g2).trans bx_g2_0
      replace bx_g2_1 := (kk _ 1 yb_g2).trans bx_g2_1
      replace yb_d : w.heap.size < w11.heap.size := zz _ (by (first | omega | (simp; done) | (simp; omega)))
      replace yb_s1 : w3.heap.size < w11.heap.size := zz _ (by (first | omega | (simp; done) | (simp; omega)))
      replace yb_s2 : w3.heap.size + 1 < w11.heap.size := zz _ (by (first | omega | (simp; done) | (simp; omega)))
      replace yb_x : w4.heap.size < w11.heap.size := zz _ (by (first | omega | (simp; done) | (simp; omega)))
      replace yb_g1 : w5.heap.size < w11.heap.size := zz _ (by (first | omega | (simp; done) | (simp; omega)))
      replace yb_g2 : w5.heap.size + 1 < w11.heap.size := zz _ (by (first | omega | (simp; done) | (simp; omega)))
      replace ow_t := own_bl ow_t bb
      replace ow_s1 := own_bl ow_s1 bb
      replace ow_s2 := own_bl ow_s2 bb
      replace ow_x := own_bl ow_x bb
      replace ow_g1 := own_bl ow_g1 bb
      replace ow_g2 := own_bl ow_g2 bb
      have sz11 : w10.heap.size ≤ w11.heap.size := bb.size
      replace bel : Below w.heap.size w w11 := bl_to (by (repeat' (first | (with_reducible exact Below.refl _ _) | (with_reducible refine bl_alloc ?_ _) | (with_reducible refine bl_drewN ?_ _) | (with_reducible refine bl_drew ?_) | (with_reducible assumption) | (with_reducible refine bl_to ?_ (by assumption)) | (with_reducible refine Below.trans ?_ (by assumption)) | (with_reducible refine Below.trans ?_ (Below.mono (by assumption) ?_)) | (with_reducible refine bl_set ?_ ?_ _) | (simp; done) | (simp; omega) | omega))) bb
      clear kk ff zz bb
      go_wp2_with fail
      refine (markStrip_any _ (cutAn n l a) _ (cutAl n l a) 1 _ ow_g1 hlR1 (by omega) (by omega)).mono ?_
      rintro e w12 ⟨rfl, om, gg⟩
      replace bx_d_0 := (cell_grown gg yb_d (fun k hk => by have := in_g1.out k hk; omega) 0).trans bx_d_0
      replace bx_d_1 := (cell_grown gg yb_d (fun k hk => by have := in_g1.out k hk; omega) 1).trans bx_d_1
      replace yb_d := Nat.lt_of_lt_of_le yb_d gg.size
      replace bx_s1_0 := (cell_grown gg yb_s1 (fun k hk => by have := in_g1.out k hk; omega) 0).trans bx_s1_0
      replace bx_s1_1 := (cell_grown gg yb_s1 (fun k hk => by have := in_g1.out k hk; omega) 1).trans bx_s1_1
      replace yb_s1 := Nat.lt_of_lt_of_le yb_s1 gg.size
      replace bx_s2_0 := (cell_grown gg yb_s2 (fun k hk => by have := in_g1.out k hk; omega) 0).trans bx_s2_0
      replace bx_s2_1 := (cell_grown gg yb_s2 (fun k hk => by have := in_g1.out k hk; omega) 1).trans bx_s2_1
      replace yb_s2 := Nat.lt_of_lt_of_le yb_s2 gg.size
      replace bx_x_0 := (cell_grown gg yb_x (fun k hk => by have := in_g1.out k hk; omega) 0).trans bx_x_0
      replace bx_x_1 := (cell_grown gg yb_x (fun k hk => by have := in_g1.out k hk; omega) 1).trans bx_x_1
      replace yb_x := Nat.lt_of_lt_of_le yb_x gg.size
      replace bx_g1_0 := (cell_grown gg yb_g1 (fun k hk => by have := in_g1.out k hk; omega) 0).trans bx_g1_0
      replace bx_g1_1 := (cell_grown gg yb_g1 (fun k hk => by have := in_g1.out k hk; omega) 1).trans bx_g1_1
      replace yb_g1 := Nat.lt_of_lt_of_le yb_g1 gg.size
      replace bx_g2_0 := (cell_grown gg yb_g2 (fun k hk => by have := in_g1.out k hk; omega) 0).trans bx_g2_0
      replace bx_g2_1 := (cell_grown gg yb_g2 (fun k hk => by have := in_g1.out k hk; omega) 1).trans bx_g2_1
      replace yb_g2 := Nat.lt_of_lt_of_le yb_g2 gg.size
      replace ow_t := ow_t.kept gg (own_apart in_t.out in_g1.out (by omega))
      replace ow_s1 := ow_s1.kept gg (own_apart in_s1.out in_g1.out (by omega))
      replace ow_s2 := ow_s2.kept gg (own_apart in_s2.out in_g1.out (by omega))
      replace ow_x := ow_x.kept gg (own_apart in_x.out in_g1.out (by omega))
      replace ow_g2 := ow_g2.kept gg (apart_ab ap_g1.out)
      replace ow_g1 := om
      have sz12 : w11.heap.size ≤ w12.heap.size := gg.size
      replace bel : Below w.heap.size w w12 := bl_grown bel gg (fun k hk => by have := in_g1.out k hk; omega)
      clear gg om
      go_wp2_with fail
      refine (markStrip_any _ (cutBn n l a) _ (cutBl n l a) _ _ ow_g2 hlR2 (by omega) (by omega)).mono ?_
      rintro e w13 ⟨rfl, om, gg⟩
      replace bx_d_0 := (cell_grown gg yb_d (fun k hk => by have := in_g2.out k hk; omega) 0).trans bx_d_0
      replace bx_d_1 := (cell_grown gg yb_d (fun k hk => by have := in_g2.out k hk; omega) 1).trans bx_d_1
      replace yb_d := Nat.lt_of_lt_of_le yb_d gg.size
      replace bx_s1_0 := (cell_grown gg yb_s1 (fun k hk => by have := in_g2.out k hk; omega) 0).trans bx_s1_0
      replace bx_s1_1 := (cell_grown gg yb_s1 (fun k hk => by have := in_g2.out k hk; omega) 1).trans bx_s1_1
      replace yb_s1 := Nat.lt_of_lt_of_le yb_s1 gg.size
      replace bx_s2_0 := (cell_grown gg yb_s2 (fun k hk => by have := in_g2.out k hk; omega) 0).trans bx_s2_0
      replace bx_s2_1 := (cell_grown gg yb_s2 (fun k hk => by have := in_g2.out k hk; omega) 1).trans bx_s2_1
      replace yb_s2 := Nat.lt_of_lt_of_le yb_s2 gg.size
      replace bx_x_0 := (cell_grown gg yb_x (fun k hk => by have := in_g2.out k hk; omega) 0).trans bx_x_0
      replace bx_x_1 := (cell_grown gg yb_x (fun k hk => by have := in_g2.out k hk; omega) 1).trans bx_x_1
      replace yb_x := Nat.lt_of_lt_of_le yb_x gg.size
      replace bx_g1_0 := (cell_grown gg yb_g1 (fun k hk => by have := in_g2.out k hk; omega) 0).trans bx_g1_0
      replace bx_g1_1 := (cell_grown gg yb_g1 (fun k hk => by have := in_g2.out k hk; omega) 1).trans bx_g1_1
      replace yb_g1 := Nat.lt_of_lt_of_le yb_g1 gg.size
      replace bx_g2_0 := (cell_grown gg yb_g2 (fun k hk => by have := in_g2.out k hk; omega) 0).trans bx_g2_0
      replace bx_g2_1 := (cell_grown gg yb_g2 (fun k hk => by have := in_g2.out k hk; omega) 1).trans bx_g2_1
      replace yb_g2 := Nat.lt_of_lt_of_le yb_g2 gg.size
      replace ow_t := ow_t.kept gg (own_apart in_t.out in_g2.out (by omega))
      replace ow_s1 := ow_s1.kept gg (own_apart in_s1.out in_g2.out (by omega))
      replace ow_s2 := ow_s2.kept gg (own_apart in_s2.out in_g2.out (by omega))
      replace ow_x := ow_x.kept gg (own_apart in_x.out in_g2.out (by omega))
      replace ow_g1 := ow_g1.kept gg (apart_ba ap_g1.out)
      replace ow_g2 := om
      have sz13 : w12.heap.size ≤ w13.heap.size := gg.size
      replace bel : Below w.heap.size w w13 := bl_grown bel gg (fun k hk => by have := in_g2.out k hk; omega)
      clear gg om
      go_wp2_with fail
      refine (heldStrip_any (cutAn n l a) _ (cutAl n l a).length 1 _ (Rd.of_own ow_g1) hlR1 (by omega) (by omega)).mono ?_
      rintro e w14 ⟨rfl, bb⟩
      obtain ⟨kk, ff, zz⟩ := bcell bb
      replace bx_d_0 := (kk _ 0 yb_d).trans bx_d_0
      replace bx_d_1 := (kk _ 1 yb_d).trans bx_d_1
      replace bx_s1_0 := (kk _ 0 yb_s1).trans bx_s1_0
      replace bx_s1_1 := (kk _ 1 yb_s1).trans bx_s1_1
      replace bx_s2_0 := (kk _ 0 yb_s2).trans bx_s2_0
      replace bx_s2_1 := (kk _ 1 yb_s2).trans bx_s2_1
      replace bx_x_0 := (kk _ 0 yb_x).trans bx_x_0
      replace bx_x_1 := (kk _ 1 yb_x).trans bx_x_1
      replace bx_g1_0 := (kk _ 0 yb_g1).trans bx_g1_0
      replace bx_g1_1 := (kk _ 1 yb_g1).trans bx_g1_1
      replace bx_g2_0 := (kk _ 0 yb_g2).trans bx_g2_0
      replace bx_g2_1 := (kk _ 1 yb_g2).trans bx_g2_1
      replace yb_d : w.heap.size < w14.heap.size := zz _ (by (first | omega | (simp; done) | (simp; omega)))
      replace yb_s1 : w3.heap.size < w14.heap.size := zz _ (by (first | omega | (simp; done) | (simp; omega)))
      replace yb_s2 : w3.heap.size + 1 < w14.heap.size := zz _ (by (first | omega | (simp; done) | (simp; omega)))
      replace yb_x : w4.heap.size < w14.heap.size := zz _ (by (first | omega | (simp; done) | (simp; omega)))
      replace yb_g1 : w5.heap.size < w14.heap.size := zz _ (by (first | omega | (simp; done) | (simp; omega)))
      replace yb_g2 : w5.heap.size + 1 < w14.heap.size := zz _ (by (first | omega | (simp; done) | (simp; omega)))
      replace ow_t := own_bl ow_t bb
      replace ow_s1 := own_bl ow_s1 bb
      replace ow_s2 := own_bl ow_s2 bb
      replace ow_x := own_bl ow_x bb
      replace ow_g1 := own_bl ow_g1 bb
      replace ow_g2 := own_bl ow_g2 bb
      have sz14 : w13.heap.size ≤ w14.heap.size := bb.size
      replace bel : Below w.heap.size w w14 := bl_to (by (repeat' (first | (with_reducible exact Below.refl _ _) | (with_reducible refine bl_alloc ?_ _) | (with_reducible refine bl_drewN ?_ _) | (with_reducible refine bl_drew ?_) | (with_reducible assumption) | (with_reducible refine bl_to ?_ (by assumption)) | (with_reducible refine Below.trans ?_ (by assumption)) | (with_reducible refine Below.trans ?_ (Below.mono (by assumption) ?_)) | (with_reducible refine bl_set ?_ ?_ _) | (simp; done) | (simp; omega) | omega))) bb
      clear kk ff zz bb
      go_wp2_with fail
      refine (heldStrip_any (cutBn n l a) _ (cutBl n l a).length _ _ (Rd.of_own ow_g2) hlR2 (by omega) (by omega)).mono ?_
      rintro e w15 ⟨rfl, bb⟩
      obtain ⟨kk, ff, zz⟩ := bcell bb
      replace bx_d_0 := (kk _ 0 yb_d).trans bx_d_0
      replace bx_d_1 := (kk _ 1 yb_d).trans bx_d_1
      replace bx_s1_0 := (kk _ 0 yb_s1).trans bx_s1_0
      replace bx_s1_1 := (kk _ 1 yb_s1).trans bx_s1_1
      replace bx_s2_0 := (kk _ 0 yb_s2).trans bx_s2_0
      replace bx_s2_1 := (kk _ 1 yb_s2).trans bx_s2_1
      replace bx_x_0 := (kk _ 0 yb_x).trans bx_x_0
      replace bx_x_1 := (kk _ 1 yb_x).trans bx_x_1
      replace bx_g1_0 := (kk _ 0 yb_g1).trans bx_g1_0
      replace bx_g1_1 := (kk _ 1 yb_g1).trans bx_g1_1
      replace bx_g2_0 := (kk _ 0 yb_g2).trans bx_g2_0
      replace bx_g2_1 := (kk _ 1 yb_g2).trans bx_g2_1
      replace yb_d : w.heap.size < w15.heap.size := zz _ (by (first | omega | (simp; done) | (simp; omega)))
      replace yb_s1 : w3.heap.size < w15.heap.size := zz _ (by (first | omega | (simp; done) | (simp; omega)))
      replace yb_s2 : w3.heap.size + 1 < w15.heap.size := zz _ (by (first | omega | (simp; done) | (simp; omega)))
      replace yb_x : w4.heap.size < w15.heap.size := zz _ (by (first | omega | (simp; done) | (simp; omega)))
      replace yb_g1 : w5.heap.size < w15.heap.size := zz _ (by (first | omega | (simp; done) | (simp; omega)))
      replace yb_g2 : w5.heap.size + 1 < w15.heap.size := zz _ (by (first | omega | (simp; done) | (simp; omega)))
      replace ow_t := own_bl ow_t bb
      replace ow_s1 := own_bl ow_s1 bb
      replace ow_s2 := own_bl ow_s2 bb
      replace ow_x := own_bl ow_x bb
      replace ow_g1 := own_bl ow_g1 bb
      replace ow_g2 := own_bl ow_g2 bb
      have sz15 : w14.heap.size ≤ w15.heap.size := bb.size
      replace bel : Below w.heap.size w w15 := bl_to (by (repeat' (first | (with_reducible exact Below.refl _ _) | (with_reducible refine bl_alloc ?_ _) | (with_reducible refine bl_drewN ?_ _) | (with_reducible refine bl_drew ?_) | (with_reducible assumption) | (with_reducible refine bl_to ?_ (by assumption)) | (with_reducible refine Below.trans ?_ (by assumption)) | (with_reducible refine Below.trans ?_ (Below.mono (by assumption) ?_)) | (with_reducible refine bl_set ?_ ?_ _) | (simp; done) | (simp; omega) | omega))) bb
      clear kk ff zz bb
      go_wp2_with fail
      refine (toStrip_any n v l _ (hr.bl (by (repeat' (first | (with_reducible exact Below.refl _ _) | (with_reducible refine bl_alloc ?_ _) | (with_reducible refine bl_drewN ?_ _) | (with_reducible refine bl_drew ?_) | (with_reducible assumption) | (with_reducible refine bl_to ?_ (by assumption)) | (with_reducible refine Below.trans ?_ (by assumption)) | (with_reducible refine Below.trans ?_ (Below.mono (by assumption) ?_)) | (with_reducible refine bl_set ?_ ?_ _) | (simp; done) | (simp; omega) | omega)))) hl).mono ?_
      rintro e w16 ⟨A_y, c_y, rfl, on_y, bb⟩
      obtain ⟨kk, ff, zz⟩ := bcell bb
      replace bx_d_0 := (kk _ 0 yb_d).trans bx_d_0
      replace bx_d_1 := (kk _ 1 yb_d).trans bx_d_1
      replace bx_s1_0 := (kk _ 0 yb_s1).trans bx_s1_0
      replace bx_s1_1 := (kk _ 1 yb_s1).trans bx_s1_1
      replace bx_s2_0 := (kk _ 0 yb_s2).trans bx_s2_0
      replace bx_s2_1 := (kk _ 1 yb_s2).trans bx_s2_1
      replace bx_x_0 := (kk _ 0 yb_x).trans bx_x_0
      replace bx_x_1 := (kk _ 1 yb_x).trans bx_x_1
      replace bx_g1_0 := (kk _ 0 yb_g1).trans bx_g1_0
      replace bx_g1_1 := (kk _ 1 yb_g1).trans bx_g1_1
      replace bx_g2_0 := (kk _ 0 yb_g2).trans bx_g2_0
      replace bx_g2_1 := (kk _ 1 yb_g2).trans bx_g2_1
      replace yb_d : w.heap.size < w16.heap.size := zz _ (by (first | omega | (simp; done) | (simp; omega)))
      replace yb_s1 : w3.heap.size < w16.heap.size := zz _ (by (first | omega | (simp; done) | (simp; omega)))
      replace yb_s2 : w3.heap.size + 1 < w16.heap.size := zz _ (by (first | omega | (simp; done) | (simp; omega)))
      replace yb_x : w4.heap.size < w16.heap.size := zz _ (by (first | omega | (simp; done) | (simp; omega)))
      replace yb_g1 : w5.heap.size < w16.heap.size := zz _ (by (first | omega | (simp; done) | (simp; omega)))
      replace yb_g2 : w5.heap.size + 1 < w16.heap.size := zz _ (by (first | omega | (simp; done) | (simp; omega)))
      replace ow_t := own_bl ow_t bb
      replace ow_s1 := own_bl ow_s1 bb
      replace ow_s2 := own_bl ow_s2 bb
      replace ow_x := own_bl ow_x bb
      replace ow_g1 := own_bl ow_g1 bb
      replace ow_g2 := own_bl ow_g2 bb
      have sz16 : w15.heap.size ≤ w16.heap.size := bb.size
      replace bel : Below w.heap.size w w16 := bl_to (by (repeat' (first | (with_reducible exact Below.refl _ _) | (with_reducible refine bl_alloc ?_ _) | (with_reducible refine bl_drewN ?_ _) | (with_reducible refine bl_drew ?_) | (with_reducible assumption) | (with_reducible refine bl_to ?_ (by assumption)) | (with_reducible refine Below.trans ?_ (by assumption)) | (with_reducible refine Below.trans ?_ (Below.mono (by assumption) ?_)) | (with_reducible refine bl_set ?_ ?_ _) | (simp; done) | (simp; omega) | omega))) bb
      clear kk ff zz bb
      have ow_y := own_lo (lo' := w15.heap.size) on_y (by (first | omega | (simp; done) | (simp; omega)))
      have in_y := Lib.hid ow_y.lt
      clear on_y
      go_wp2_with fail
      refine (cutI_any n a _ l _ (Rd.of_own ow_y) hl).mono ?_
      rintro e w17 ⟨A_h1, c_h1, A_h2, c_h2, rfl, on_h1, on_h2, ap, bb⟩
      obtain ⟨kk, ff, zz⟩ := bcell bb
      replace bx_d_0 := (kk _ 0 yb_d).trans bx_d_0
      replace bx_d_1 := (kk _ 1 yb_d).trans bx_d_1
      replace bx_s1_0 := (kk _ 0 yb_s1).trans bx_s1_0
      replace bx_s1_1 := (kk _ 1 yb_s1).trans bx_s1_1
      replace bx_s2_0 := (kk _ 0 yb_s2).trans bx_s2_0
      replace bx_s2_1 := (kk _ 1 yb_s2).trans bx_s2_1
      replace bx_x_0 := (kk _ 0 yb_x).trans bx_x_0
      replace bx_x_1 := (kk _ 1 yb_x).trans bx_x_1
      replace bx_g1_0 := (kk _ 0 yb_g1).trans bx_g1_0
      replace bx_g1_1 := (kk _ 1 yb_g1).trans bx_g1_1
      replace bx_g2_0 := (kk _ 0 yb_g2).trans bx_g2_0
      replace bx_g2_1 := (kk _ 1 yb_g2).trans bx_g2_1
      replace yb_d : w.heap.size < w17.heap.size := zz _ (by (first | omega | (simp; done) | (simp; omega)))
      replace yb_s1 : w3.heap.size < w17.heap.size := zz _ (by (first | omega | (simp; done) | (simp; omega)))
      replace yb_s2 : w3.heap.size + 1 < w17.heap.size := zz _ (by (first | omega | (simp; done) | (simp; omega)))
      replace yb_x : w4.heap.size < w17.heap.size := zz _ (by (first | omega | (simp; done) | (simp; omega)))
      replace yb_g1 : w5.heap.size < w17.heap.size := zz _ (by (first | omega | (simp; done) | (simp; omega)))
      replace yb_g2 : w5.heap.size + 1 < w17.heap.size := zz _ (by (first | omega | (simp; done) | (simp; omega)))
      replace ow_t := own_bl ow_t bb
      replace ow_s1 := own_bl ow_s1 bb
      replace ow_s2 := own_bl ow_s2 bb
      replace ow_x := own_bl ow_x bb
      replace ow_g1 := own_bl ow_g1 bb
      replace ow_g2 := own_bl ow_g2 bb
      replace ow_y := own_bl ow_y bb
      have sz17 : w16.heap.size ≤ w17.heap.size := bb.size
      replace bel : Below w.heap.size w w17 := bl_to (by (repeat' (first | (with_reducible exact Below.refl _ _) | (with_reducible refine bl_alloc ?_ _) | (with_reducible refine bl_drewN ?_ _) | (with_reducible refine bl_drew ?_) | (with_reducible assumption) | (with_reducible refine bl_to ?_ (by assumption)) | (with_reducible refine Below.trans ?_ (by assumption)) | (with_reducible refine Below.trans ?_ (Below.mono (by assumption) ?_)) | (with_reducible refine bl_set ?_ ?_ _) | (simp; done) | (simp; omega) | omega))) bb
      clear kk ff zz bb
      have ap_h1 := Lib.hid ap
      clear ap
      have ow_h1 := own_lo (lo' := w16.heap.size) on_h1 (by (first | omega | (simp; done) | (simp; omega)))
      have in_h1 := Lib.hid ow_h1.lt
      clear on_h1
      have ow_h2 := own_lo (lo' := w16.heap.size) on_h2 (by (first | omega | (simp; done) | (simp; omega)))
      have in_h2 := Lib.hid ow_h2.lt
      clear on_h2
      go_wp2_with fail
      refine (eqStrip_any (cutAn n l a) _ _ (cutAl n l a) _ (Rd.of_own ((ow_h1.alloc _).alloc _)) (Rd.of_own ((ow_s1.alloc _).alloc _)) hlR1).mono ?_
      rintro e w18 ⟨rfl, bb⟩
      obtain ⟨kk, ff, zz⟩ := bcell bb
      replace bx_d_0 : w18.cell? ⟨w.heap.size, 0, none⟩ = some (.int .i64 n) := (kk _ _ (by (first | omega | (simp; done) | (simp; omega)))).trans (((bl_alloc (bl_alloc (Below.refl _ _) _) _).cell (p := ⟨w.heap.size, 0, none⟩) yb_d).trans bx_d_0)
      replace bx_d_1 : w18.cell? ⟨w.heap.size, 1, none⟩ = some (v) := (kk _ _ (by (first | omega | (simp; done) | (simp; omega)))).trans (((bl_alloc (bl_alloc (Below.refl _ _) _) _).cell (p := ⟨w.heap.size, 1, none⟩) yb_d).trans bx_d_1)
      replace bx_s1_0 : w18.cell? ⟨w3.heap.size, 0, none⟩ = some (.int .i64 (cutAn n l a)) := (kk _ _ (by (first | omega | (simp; done) | (simp; omega)))).trans (((bl_alloc (bl_alloc (Below.refl _ _) _) _).cell (p := ⟨w3.heap.size, 0, none⟩) yb_s1).trans bx_s1_0)
      replace bx_s1_1 : w18.cell? ⟨w3.heap.size, 1, none⟩ = some ((.slice A_s1 ((cutAl n l a).length) c_s1)) := (kk _ _ (by (first | omega | (simp; done) | (simp; omega)))).trans (((bl_alloc (bl_alloc (Below.refl _ _) _) _).cell (p := ⟨w3.heap.size, 1, none⟩) yb_s1).trans bx_s1_1)
      replace bx_s2_0 : w18.cell? ⟨w3.heap.size + 1, 0, none⟩ = some (.int .i64 (cutBn n l a)) := (kk _ _ (by (first | omega | (simp; done) | (simp; omega)))).trans (((bl_alloc (bl_alloc (Below.refl _ _) _) _).cell (p := ⟨w3.heap.size + 1, 0, none⟩) yb_s2).trans bx_s2_0)
      replace bx_s2_1 : w18.cell? ⟨w3.heap.size + 1, 1, none⟩ = some ((.slice A_s2 ((cutBl n l a).length) c_s2)) := (kk _ _ (by (first | omega | (simp; done) | (simp; omega)))).trans (((bl_alloc (bl_alloc (Below.refl _ _) _) _).cell (p := ⟨w3.heap.size + 1, 1, none⟩) yb_s2).trans bx_s2_1)
      replace bx_x_0 : w18.cell? ⟨w4.heap.size, 0, none⟩ = some (.int .i64 n) := (kk _ _ (by (first | omega | (simp; done) | (simp; omega)))).trans (((bl_alloc (bl_alloc (Below.refl _ _) _) _).cell (p := ⟨w4.heap.size, 0, none⟩) yb_x).trans bx_x_0)
      replace bx_x_1 : w18.cell? ⟨w4.heap.size, 1, none⟩ = some ((.slice A_x (l.length) c_x)) := (kk _ _ (by (first | omega | (simp; done) | (simp; omega)))).trans (((bl_alloc (bl_alloc (Below.refl _ _) _) _).cell (p := ⟨w4.heap.size, 1, none⟩) yb_x).trans bx_x_1)
      replace bx_g1_0 : w18.cell? ⟨w5.heap.size, 0, none⟩ = some (.int .i64 (cutAn n l a)) := (kk _ _ (by (first | omega | (simp; done) | (simp; omega)))).trans (((bl_alloc (bl_alloc (Below.refl _ _) _) _).cell (p := ⟨w5.heap.size, 0, none⟩) yb_g1).trans bx_g1_0)
      replace bx_g1_1 : w18.cell? ⟨w5.heap.size, 1, none⟩ = some ((.slice A_g1 ((cutAl n l a).length) c_g1)) := (kk _ _ (by (first | omega | (simp; done) | (simp; omega)))).trans (((bl_alloc (bl_alloc (Below.refl _ _) _) _).cell (p := ⟨w5.heap.size, 1, none⟩) yb_g1).trans bx_g1_1)
      replace bx_g2_0 : w18.cell? ⟨w5.heap.size + 1, 0, none⟩ = some (.int .i64 (cutBn n l a)) := (kk _ _ (by (first | omega | (simp; done) | (simp; omega)))).trans (((bl_alloc (bl_alloc (Below.refl _ _) _) _).cell (p := ⟨w5.heap.size + 1, 0, none⟩) yb_g2).trans bx_g2_0)
      replace bx_g2_1 : w18.cell? ⟨w5.heap.size + 1, 1, none⟩ = some ((.slice A_g2 ((cutBl n l a).length) c_g2)) := (kk _ _ (by (first | omega | (simp; done) | (simp; omega)))).trans (((bl_alloc (bl_alloc (Below.refl _ _) _) _).cell (p := ⟨w5.heap.size + 1, 1, none⟩) yb_g2).trans bx_g2_1)
      have bx_h1_0 : w18.cell? ⟨w17.heap.size, 0, none⟩ = some (.int .i64 (cutAn n l a)) := (kk _ _ (by (first | omega | (simp; done) | (simp; omega)))).trans (by simp [go_sem])
      have bx_h1_1 : w18.cell? ⟨w17.heap.size, 1, none⟩ = some ((.slice A_h1 ((cutAl n l a).length) c_h1)) := (kk _ _ (by (first | omega | (simp; done) | (simp; omega)))).trans (by simp [go_sem])
      have bx_h2_0 : w18.cell? ⟨w17.heap.size + 1, 0, none⟩ = some (.int .i64 (cutBn n l a)) := (kk _ _ (by (first | omega | (simp; done) | (simp; omega)))).trans (by simp [go_sem])
      have bx_h2_1 : w18.cell? ⟨w17.heap.size + 1, 1, none⟩ = some ((.slice A_h2 ((cutBl n l a).length) c_h2)) := (kk _ _ (by (first | omega | (simp; done) | (simp; omega)))).trans (by simp [go_sem])
      replace yb_d : w.heap.size < w18.heap.size := zz _ (by (first | omega | (simp; done) | (simp; omega)))
      replace yb_s1 : w3.heap.size < w18.heap.size := zz _ (by (first | omega | (simp; done) | (simp; omega)))
      replace yb_s2 : w3.heap.size + 1 < w18.heap.size := zz _ (by (first | omega | (simp; done) | (simp; omega)))
      replace yb_x : w4.heap.size < w18.heap.size := zz _ (by (first | omega | (simp; done) | (simp; omega)))
      replace yb_g1 : w5.heap.size < w18.heap.size := zz _ (by (first | omega | (simp; done) | (simp; omega)))
      replace yb_g2 : w5.heap.size + 1 < w18.heap.size := zz _ (by (first | omega | (simp; done) | (simp; omega)))
      have yb_h1 : w17.heap.size < w18.heap.size := zz _ (by (first | omega | (simp; done) | (simp; omega)))
      have yb_h2 : w17.heap.size + 1 < w18.heap.size := zz _ (by (first | omega | (simp; done) | (simp; omega)))
      replace ow_t := own_bl ((ow_t.alloc _).alloc _) bb
      replace ow_s1 := own_bl ((ow_s1.alloc _).alloc _) bb
      replace ow_s2 := own_bl ((ow_s2.alloc _).alloc _) bb
      replace ow_x := own_bl ((ow_x.alloc _).alloc _) bb
      replace ow_g1 := own_bl ((ow_g1.alloc _).alloc _) bb
      replace ow_g2 := own_bl ((ow_g2.alloc _).alloc _) bb
      replace ow_y := own_bl ((ow_y.alloc _).alloc _) bb
      replace ow_h1 := own_bl ((ow_h1.alloc _).alloc _) bb
      replace ow_h2 := own_bl ((ow_h2.alloc _).alloc _) bb
      have sz18 : w17.heap.size + 2 ≤ w18.heap.size := by have := bb.size; simp only [World.size_alloc] at this; omega
      replace bel : Below w.heap.size w w18 := bl_to (by (repeat' (first | (with_reducible exact Below.refl _ _) | (with_reducible refine bl_alloc ?_ _) | (with_reducible refine bl_drewN ?_ _) | (with_reducible refine bl_drew ?_) | (with_reducible assumption) | (with_reducible refine bl_to ?_ (by assumption)) | (with_reducible refine Below.trans ?_ (by assumption)) | (with_reducible refine Below.trans ?_ (Below.mono (by assumption) ?_)) | (with_reducible refine bl_set ?_ ?_ _) | (simp; done) | (simp; omega) | omega))) bb
      clear kk ff zz bb
      go_wp2_with fail
      refine (eqStrip_any (cutBn n l a) _ _ (cutBl n l a) _ (Rd.of_own ow_h2) (Rd.of_own ow_s2) hlR2).mono ?_
      rintro e w19 ⟨rfl, bb⟩
      obtain ⟨kk, ff, zz⟩ := bcell bb
      replace bx_d_0 := (kk _ 0 yb_d).trans bx_d_0
      replace bx_d_1 := (kk _ 1 yb_d).trans bx_d_1
      replace bx_s1_0 := (kk _ 0 yb_s1).trans bx_s1_0
      replace bx_s1_1 := (kk _ 1 yb_s1).trans bx_s1_1
      replace bx_s2_0 := (kk _ 0 yb_s2).trans bx_s2_0
      replace bx_s2_1 := (kk _ 1 yb_s2).trans bx_s2_1
      replace bx_x_0 := (kk _ 0 yb_x).trans bx_x_0
      replace bx_x_1 := (kk _ 1 yb_x).trans bx_x_1
      replace bx_g1_0 := (kk _ 0 yb_g1).trans bx_g1_0
      replace bx_g1_1 := (kk _ 1 yb_g1).trans bx_g1_1
      replace bx_g2_0 := (kk _ 0 yb_g2).trans bx_g2_0
      replace bx_g2_1 := (kk _ 1 yb_g2).trans bx_g2_1
      replace bx_h1_0 := (kk _ 0 yb_h1).trans bx_h1_0
      replace bx_h1_1 := (kk _ 1 yb_h1).trans bx_h1_1
      replace bx_h2_0 := (kk _ 0 yb_h2).trans bx_h2_0
      replace bx_h2_1 := (kk _ 1 yb_h2).trans bx_h2_1
      replace yb_d : w.heap.size < w19.heap.size := zz _ (by (first | omega | (simp; done) | (simp; omega)))
      replace yb_s1 : w3.heap.size < w19.heap.size := zz _ (by (first | omega | (simp; done) | (simp; omega)))
      replace yb_s2 : w3.heap.size + 1 < w19.heap.size := zz _ (by (first | omega | (simp; done) | (simp; omega)))
      replace yb_x : w4.heap.size < w19.heap.size := zz _ (by (first | omega | (simp; done) | (simp; omega)))
      replace yb_g1 : w5.heap.size < w19.heap.size := zz _ (by (first | omega | (simp; done) | (simp; omega)))
      replace yb_g2 : w5.heap.size + 1 < w19.heap.size := zz _ (by (first | omega | (simp; done) | (simp; omega)))
      replace yb_h1 : w17.heap.size < w19.heap.size := zz _ (by (first | omega | (simp; done) | (simp; omega)))
      replace yb_h2 : w17.heap.size + 1 < w19.heap.size := zz _ (by (first | omega | (simp; done) | (simp; omega)))
      replace ow_t := own_bl ow_t bb
      replace ow_s1 := own_bl ow_s1 bb
      replace ow_s2 := own_bl ow_s2 bb
      replace ow_x := own_bl ow_x bb
      replace ow_g1 := own_bl ow_g1 bb
      replace ow_g2 := own_bl ow_g2 bb
      replace ow_y := own_bl ow_y bb
      replace ow_h1 := own_bl ow_h1 bb
      replace ow_h2 := own_bl ow_h2 bb
      have sz19 : w18.heap.size ≤ w19.heap.size := bb.size
      replace bel : Below w.heap.size w w19 := bl_to (by (repeat' (first | (with_reducible exact Below.refl _ _) | (with_reducible refine bl_alloc ?_ _) | (with_reducible refine bl_drewN ?_ _) | (with_reducible refine bl_drew ?_) | (with_reducible assumption) | (with_reducible refine bl_to ?_ (by assumption)) | (with_reducible refine Below.trans ?_ (by assumption)) | (with_reducible refine Below.trans ?_ (Below.mono (by assumption) ?_)) | (with_reducible refine bl_set ?_ ?_ _) | (simp; done) | (simp; omega) | omega))) bb
      clear kk ff zz bb
      go_wp2_with fail
      refine (heldStrip_any (cutAn n l a) _ (cutAl n l a).length 1 _ (Rd.of_own ow_g1) hlR1 (by omega) (by omega)).mono ?_
      rintro e w20 ⟨rfl, bb⟩
      obtain ⟨kk, ff, zz⟩ := bcell bb
      replace bx_d_0 := (kk _ 0 yb_d).trans bx_d_0
      replace bx_d_1 := (kk _ 1 yb_d).trans bx_d_1
      replace bx_s1_0 := (kk _ 0 yb_s1).trans bx_s1_0
      replace bx_s1_1 := (kk _ 1 yb_s1).trans bx_s1_1
      replace bx_s2_0 := (kk _ 0 yb_s2).trans bx_s2_0
      replace bx_s2_1 := (kk _ 1 yb_s2).trans bx_s2_1
      replace bx_x_0 := (kk _ 0 yb_x).trans bx_x_0
      replace bx_x_1 := (kk _ 1 yb_x).trans bx_x_1
      replace bx_g1_0 := (kk _ 0 yb_g1).trans bx_g1_0
      replace bx_g1_1 := (kk _ 1 yb_g1).trans bx_g1_1
      replace bx_g2_0 := (kk _ 0 yb_g2).trans bx_g2_0
      replace bx_g2_1 := (kk _ 1 yb_g2).trans bx_g2_1
      replace bx_h1_0 := (kk _ 0 yb_h1).trans bx_h1_0
      replace bx_h1_1 := (kk _ 1 yb_h1).trans bx_h1_1
      replace bx_h2_0 := (kk _ 0 yb_h2).trans bx_h2_0
      replace bx_h2_1 := (kk _ 1 yb_h2).trans bx_h2_1
      replace yb_d : w.heap.size < w20.heap.size := zz _ (by (first | omega | (simp; done) | (simp; omega)))
      replace yb_s1 : w3.heap.size < w20.heap.size := zz _ (by (first | omega | (simp; done) | (simp; omega)))
      replace yb_s2 : w3.heap.size + 1 < w20.heap.size := zz _ (by (first | omega | (simp; done) | (simp; omega)))
      replace yb_x : w4.heap.size < w20.heap.size := zz _ (by (first | omega | (simp; done) | (simp; omega)))
      replace yb_g1 : w5.heap.size < w20.heap.size := zz _ (by (first | omega | (simp; done) | (simp; omega)))
      replace yb_g2 : w5.heap.size + 1 < w20.heap.size := zz _ (by (first | omega | (simp; done) | (simp; omega)))
      replace yb_h1 : w17.heap.size < w20.heap.size := zz _ (by (first | omega | (simp; done) | (simp; omega)))
      replace yb_h2 : w17.heap.size + 1 < w20.heap.size := zz _ (by (first | omega | (simp; done) | (simp; omega)))
      replace ow_t := own_bl ow_t bb
      replace ow_s1 := own_bl ow_s1 bb
      replace ow_s2 := own_bl ow_s2 bb
      replace ow_x := own_bl ow_x bb
      replace ow_g1 := own_bl ow_g1 bb
      replace ow_g2 := own_bl ow_g2 bb
      replace ow_y := own_bl ow_y bb
      replace ow_h1 := own_bl ow_h1 bb
      replace ow_h2 := own_bl ow_h2 bb
      have sz20 : w19.heap.size ≤ w20.heap.size := bb.size
      replace bel : Below w.heap.size w w20 := bl_to (by (repeat' (first | (with_reducible exact Below.refl _ _) | (with_reducible refine bl_alloc ?_ _) | (with_reducible refine bl_drewN ?_ _) | (with_reducible refine bl_drew ?_) | (with_reducible assumption) | (with_reducible refine bl_to ?_ (by assumption)) | (with_reducible refine Below.trans ?_ (by assumption)) | (with_reducible refine Below.trans ?_ (Below.mono (by assumption) ?_)) | (with_reducible refine bl_set ?_ ?_ _) | (simp; done) | (simp; omega) | omega))) bb
      clear kk ff zz bb
      go_wp2_with fail
      refine (heldStrip_any (cutBn n l a) _ (cutBl n l a).length _ _ (Rd.of_own ow_g2) hlR2 (by omega) (by omega)).mono ?_
      rintro e w21 ⟨rfl, bb⟩
      obtain ⟨kk, ff, zz⟩ := bcell bb
      replace bx_d_0 := (kk _ 0 yb_d).trans bx_d_0
      replace bx_d_1 := (kk _ 1 yb_d).trans bx_d_1
      replace bx_s1_0 := (kk _ 0 yb_s1).trans bx_s1_0
      replace bx_s1_1 := (kk _ 1 yb_s1).trans bx_s1_1
      replace bx_s2_0 := (kk _ 0 yb_s2).trans bx_s2_0
      replace bx_s2_1 := (kk _ 1 yb_s2).trans bx_s2_1
      replace bx_x_0 := (kk _ 0 yb_x).trans bx_x_0
      replace bx_x_1 := (kk _ 1 yb_x).trans bx_x_1
      replace bx_g1_0 := (kk _ 0 yb_g1).trans bx_g1_0
      replace bx_g1_1 := (kk _ 1 yb_g1).trans bx_g1_1
      replace bx_g2_0 := (kk _ 0 yb_g2).trans bx_g2_0
      replace bx_g2_1 := (kk _ 1 yb_g2).trans bx_g2_1
      replace bx_h1_0 := (kk _ 0 yb_h1).trans bx_h1_0
      replace bx_h1_1 := (kk _ 1 yb_h1).trans bx_h1_1
      replace bx_h2_0 := (kk _ 0 yb_h2).trans bx_h2_0
      replace bx_h2_1 := (kk _ 1 yb_h2).trans bx_h2_1
      replace yb_d : w.heap.size < w21.heap.size := zz _ (by (first | omega | (simp; done) | (simp; omega)))
      replace yb_s1 : w3.heap.size < w21.heap.size := zz _ (by (first | omega | (simp; done) | (simp; omega)))
      replace yb_s2 : w3.heap.size + 1 < w21.heap.size := zz _ (by (first | omega | (simp; done) | (simp; omega)))
      replace yb_x : w4.heap.size < w21.heap.size := zz _ (by (first | omega | (simp; done) | (simp; omega)))
      replace yb_g1 : w5.heap.size < w21.heap.size := zz _ (by (first | omega | (simp; done) | (simp; omega)))
      replace yb_g2 : w5.heap.size + 1 < w21.heap.size := zz _ (by (first | omega | (simp; done) | (simp; omega)))
      replace yb_h1 : w17.heap.size < w21.heap.size := zz _ (by (first | omega | (simp; done) | (simp; omega)))
      replace yb_h2 : w17.heap.size + 1 < w21.heap.size := zz _ (by (first | omega | (simp; done) | (simp; omega)))
      replace ow_t := own_bl ow_t bb
      replace ow_s1 := own_bl ow_s1 bb
      replace ow_s2 := own_bl ow_s2 bb
      replace ow_x := own_bl ow_x bb
      replace ow_g1 := own_bl ow_g1 bb
      replace ow_g2 := own_bl ow_g2 bb
      replace ow_y := own_bl ow_y bb
      replace ow_h1 := own_bl ow_h1 bb
      replace ow_h2 := own_bl ow_h2 bb
      have sz21 : w20.heap.size ≤ w21.heap.size := bb.size
      replace bel : Below w.heap.size w w21 := bl_to (by (repeat' (first | (with_reducible exact Below.refl _ _) | (with_reducible refine bl_alloc ?_ _) | (with_reducible refine bl_drewN ?_ _) | (with_reducible refine bl_drew ?_) | (with_reducible assumption) | (with_reducible refine bl_to ?_ (by assumption)) | (with_reducible refine Below.trans ?_ (by assumption)) | (with_reducible refine Below.trans ?_ (Below.mono (by assumption) ?_)) | (with_reducible refine bl_set ?_ ?_ _) | (simp; done) | (simp; omega) | omega))) bb
      clear kk ff zz bb
      go_wp2
      go_ret
      exact ⟨rfl, by (repeat' (first | (with_reducible exact Below.refl _ _) | (with_reducible refine bl_alloc ?_ _) | (with_reducible refine bl_drewN ?_ _) | (with_reducible refine bl_drew ?_) | (with_reducible assumption) | (with_reducible refine bl_to ?_ (by assumption)) | (with_reducible refine Below.trans ?_ (by assumption)) | (with_reducible refine Below.trans ?_ (Below.mono (by assumption) ?_)) | (with_reducible refine bl_set ?_ ?_ _) | (simp; done) | (simp; omega) | omega))⟩
  · go_enter Try.func11, Try.ntmps11
    go_wp2_with fail
    refine (szStrip_any n v l _ _ (hr.bl (by (repeat' (first | (with_reducible exact Below.refl _ _) | (with_reducible refine bl_alloc ?_ _) | (with_reducible refine bl_drewN ?_ _) | (with_reducible refine bl_drew ?_) | (with_reducible assumption) | (with_reducible refine bl_to ?_ (by assumption)) | (with_reducible refine Below.trans ?_ (by assumption)) | (with_reducible refine Below.trans ?_ (Below.mono (by assumption) ?_)) | (with_reducible refine bl_set ?_ ?_ _) | (simp; done) | (simp; omega) | omega)))) (by omega) (by omega)).mono ?_
    rintro e w1 ⟨rfl, b1⟩
    rw [if_pos (by omega)]
    go_wp2
    go_ret
    exact ⟨rfl, by (repeat' (first | (with_reducible exact Below.refl _ _) | (with_reducible refine bl_alloc ?_ _) | (with_reducible refine bl_drewN ?_ _) | (with_reducible refine bl_drew ?_) | (with_reducible assumption) | (with_reducible refine bl_to ?_ (by assumption)) | (with_reducible refine Below.trans ?_ (by assumption)) | (with_reducible refine Below.trans ?_ (Below.mono (by assumption) ?_)) | (with_reducible refine bl_set ?_ ?_ _) | (simp; done) | (simp; omega) | omega))⟩
end Go.Proofs.Ytbcmidencifcoaa
