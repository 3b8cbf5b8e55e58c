/- FnExactWithoutSilent: the law returns true at every input; no condition. -/
import Derived.Test.YtoijjjaodfincaaWos
import Derived.Test.YtoijjjaodfincaaBoxCylinder
import Derived.Test.YtoijjjaodfincaaStMCylinder
import Derived.Deep.DeepCutAuto
import Derived.Deep.RegionHeld3
namespace Go.Proofs.Ytoijjjaodfincaa
open Go.RowKit

theorem cell_nn {w : World} {g j b o : Nat} {u v : Value} (h : w.cell? ⟨b, o, none⟩ = some v) (hne : b ≠ g) : (w.setCell ⟨g, j, none⟩ u).cell? ⟨b, o, none⟩ = some v :=
  (World.cell?_of_block (Below.heap_setCell w ⟨g, j, none⟩ u b hne)).trans h
set_option maxHeartbeats 12800000 in
set_option maxRecDepth 100000 in
theorem withoutSilent_law (st1 tr1 : Int) (v1 : Value) (l1 : List (Int × Int)) (n2 : Int) (v2 : Value) (l2 : List Int)  (m : Int) (w : World) (hr1 : RdP w v1 l1) (hr2 : RdI w v2 l2) : Calls Try.prog 15 #[.agg #[.int .i64 st1, .int .i64 tr1, v1], .agg #[v2, .int .i64 n2], .int .i64 m] w fun e w' => e = .returned (.bool true) ∧ Below w.heap.size w w' := by
  by_cases ha : l1.length ≤ 1048576
  · by_cases hb : l1.length + l2.length ≤ 1048576
    · have hl1 : l1.length ≤ 1048576 := ha
      have hl2 : l2.length ≤ 1048576 := by omega
      have hlR : (wosL st1 tr1 l1 n2 l2 m).length ≤ 1048576 := Nat.le_trans wosL_len hl1
      go_enter Try.func15, Try.ntmps15
      go_wp2_with fail
      refine (szCylinder_any st1 tr1 v1 l1 _ _ (hr1.bl (by (repeat' (first | (with_reducible exact Below.refl _ _) | (with_reducible refine bl_alloc ?_ _) | (with_reducible refine bl_drewN ?_ _) | (with_reducible refine bl_drew ?_) | (with_reducible assumption) | (with_reducible refine bl_to ?_ (by assumption)) | (with_reducible refine Below.trans ?_ (by assumption)) | (with_reducible refine Below.trans ?_ (Below.mono (by assumption) ?_)) | (with_reducible refine bl_set ?_ ?_ _) | (simp; done) | (simp; omega) | omega)))) (by omega) (by omega)).mono ?_
      rintro e w1 ⟨rfl, bb⟩
      rw [if_neg (by omega)]
      obtain ⟨kk, ff, zz⟩ := bcell bb
      have bx_d1_0 : w1.cell? ⟨w.heap.size, 0, none⟩ = some (.int .i64 st1) := (kk _ _ (by (first | omega | (simp; done) | (simp; omega)))).trans (by simp [go_sem])
      have bx_d1_1 : w1.cell? ⟨w.heap.size, 1, none⟩ = some (.int .i64 tr1) := (kk _ _ (by (first | omega | (simp; done) | (simp; omega)))).trans (by simp [go_sem])
      have bx_d1_2 : w1.cell? ⟨w.heap.size, 2, none⟩ = some (v1) := (kk _ _ (by (first | omega | (simp; done) | (simp; omega)))).trans (by simp [go_sem])
      have bx_d2_0 : w1.cell? ⟨w.heap.size + 1, 0, none⟩ = some (v2) := (kk _ _ (by (first | omega | (simp; done) | (simp; omega)))).trans (by simp [go_sem])
      have bx_d2_1 : w1.cell? ⟨w.heap.size + 1, 1, none⟩ = some (.int .i64 n2) := (kk _ _ (by (first | omega | (simp; done) | (simp; omega)))).trans (by simp [go_sem])
      have yb_d1 : w.heap.size < w1.heap.size := zz _ (by (first | omega | (simp; done) | (simp; omega)))
      have yb_d2 : w.heap.size + 1 < w1.heap.size := zz _ (by (first | omega | (simp; done) | (simp; omega)))
      have sz1 : w.heap.size + 2 ≤ w1.heap.size := by have := bb.size; simp only [World.size_alloc] at this; omega
      have bel : Below w.heap.size w w1 := bl_to (by (repeat' (first | (with_reducible exact Below.refl _ _) | (with_reducible refine bl_alloc ?_ _) | (with_reducible refine bl_drewN ?_ _) | (with_reducible refine bl_drew ?_) | (with_reducible assumption) | (with_reducible refine bl_to ?_ (by assumption)) | (with_reducible refine Below.trans ?_ (by assumption)) | (with_reducible refine Below.trans ?_ (Below.mono (by assumption) ?_)) | (with_reducible refine bl_set ?_ ?_ _) | (simp; done) | (simp; omega) | omega))) bb
      clear kk ff zz bb
      go_wp2_with fail
      refine (szWear_any n2 v2 l2 _ _ (hr2.bl (by (repeat' (first | (with_reducible exact Below.refl _ _) | (with_reducible refine bl_alloc ?_ _) | (with_reducible refine bl_drewN ?_ _) | (with_reducible refine bl_drew ?_) | (with_reducible assumption) | (with_reducible refine bl_to ?_ (by assumption)) | (with_reducible refine Below.trans ?_ (by assumption)) | (with_reducible refine Below.trans ?_ (Below.mono (by assumption) ?_)) | (with_reducible refine bl_set ?_ ?_ _) | (simp; done) | (simp; omega) | omega)))) (by omega) (by omega)).mono ?_
      rintro e w2 ⟨rfl, bb⟩
      rw [if_neg (by omega)]
      obtain ⟨kk, ff, zz⟩ := bcell bb
      replace bx_d1_0 := (kk _ 0 yb_d1).trans bx_d1_0
      replace bx_d1_1 := (kk _ 1 yb_d1).trans bx_d1_1
      replace bx_d1_2 := (kk _ 2 yb_d1).trans bx_d1_2
      replace bx_d2_0 := (kk _ 0 yb_d2).trans bx_d2_0
      replace bx_d2_1 := (kk _ 1 yb_d2).trans bx_d2_1
      replace yb_d1 : w.heap.size < w2.heap.size := zz _ (by (first | omega | (simp; done) | (simp; omega)))
      replace yb_d2 : w.heap.size + 1 < w2.heap.size := zz _ (by (first | omega | (simp; done) | (simp; omega)))
      have sz2 : w1.heap.size ≤ w2.heap.size := bb.size
      replace bel : Below w.heap.size w w2 := bl_to (by (repeat' (first | (with_reducible exact Below.refl _ _) | (with_reducible refine bl_alloc ?_ _) | (with_reducible refine bl_drewN ?_ _) | (with_reducible refine bl_drew ?_) | (with_reducible assumption) | (with_reducible refine bl_to ?_ (by assumption)) | (with_reducible refine Below.trans ?_ (by assumption)) | (with_reducible refine Below.trans ?_ (Below.mono (by assumption) ?_)) | (with_reducible refine bl_set ?_ ?_ _) | (simp; done) | (simp; omega) | omega))) bb
      clear kk ff zz bb
      have HX_s := Lib.hid (And.intro sz1 sz2)
      clear sz1 sz2
      go_upto_region 8 with (fail)
      go_cut [8, 9] (fun s q wx => CylinderMade w2 (wosS st1 tr1 l1 n2 l2 m) (wosT st1 tr1 l1 n2 l2 m) (wosL st1 tr1 l1 n2 l2 m) (wosB st1 tr1 l1 n2 l2 m) s q wx)
      case first =>
        go_region_held3 (fun w' => w'.cell? ⟨w.heap.size, 0, none⟩ = some (.int .i64 st1) ∧ w'.cell? ⟨w.heap.size, 1, none⟩ = some (.int .i64 tr1) ∧ w'.cell? ⟨w.heap.size, 2, none⟩ = some (v1) ∧ w'.cell? ⟨w.heap.size + 1, 0, none⟩ = some (v2) ∧ w'.cell? ⟨w.heap.size + 1, 1, none⟩ = some (.int .i64 n2)) (first | exact ⟨sC_d1_0, sC_d1_1, sC_d1_2, sC_d2_0, sC_d2_1⟩ | exact ⟨sB_d1_0, sB_d1_1, sB_d1_2, sB_d2_0, sB_d2_1⟩ | exact ⟨sA_d1_0, sA_d1_1, sA_d1_2, sA_d2_0, sA_d2_1⟩ | exact ⟨(cell_nn (cell_nn (cell_nn sC_d1_0 (by omega)) (by omega)) (by omega)), (cell_nn (cell_nn (cell_nn sC_d1_1 (by omega)) (by omega)) (by omega)), (cell_nn (cell_nn (cell_nn sC_d1_2 (by omega)) (by omega)) (by omega)), (cell_nn (cell_nn (cell_nn sC_d2_0 (by omega)) (by omega)) (by omega)), (cell_nn (cell_nn (cell_nn sC_d2_1 (by omega)) (by omega)) (by omega))⟩ | go_keep) (first | (go_at_call 65; refine (wosS_any st1 tr1 n2 m _ _ l1 l2 _ ((Rd.of_own owA).bl (by (repeat' (first | (with_reducible exact Below.refl _ _) | (with_reducible refine bl_alloc ?_ _) | (with_reducible refine bl_drewN ?_ _) | (with_reducible refine bl_drew ?_) | (with_reducible assumption) | (with_reducible refine bl_to ?_ (by assumption)) | (with_reducible refine Below.trans ?_ (by assumption)) | (with_reducible refine Below.trans ?_ (Below.mono (by assumption) ?_)) | (with_reducible refine bl_set ?_ ?_ _) | (simp; done) | (simp; omega) | omega)))) ((Rd.of_own owB).bl (by (repeat' (first | (with_reducible exact Below.refl _ _) | (with_reducible refine bl_alloc ?_ _) | (with_reducible refine bl_drewN ?_ _) | (with_reducible refine bl_drew ?_) | (with_reducible assumption) | (with_reducible refine bl_to ?_ (by assumption)) | (with_reducible refine Below.trans ?_ (by assumption)) | (with_reducible refine Below.trans ?_ (Below.mono (by assumption) ?_)) | (with_reducible refine bl_set ?_ ?_ _) | (simp; done) | (simp; omega) | omega)))) hl1 hl2).mono ?_; rintro e wC ⟨AC, cC, rfl, owC, bC⟩; obtain ⟨kC, fC, zC⟩ := bcell bC; have yC_d1 : w.heap.size < wC.heap.size := zC _ (by (first | omega | (simp; done) | (simp; omega))); have yC_d2 : w.heap.size + 1 < wC.heap.size := zC _ (by (first | omega | (simp; done) | (simp; omega))); have sC_d1_0 : wC.cell? ⟨w.heap.size, 0, none⟩ = some (.int .i64 st1) := (kC _ _ (by (first | omega | (simp; done) | (simp; omega)))).trans (by first | exact bx_d1_0 | (simp [go_sem, bx_d1_0, yb_d1]; done) | exact sA_d1_0 | (simp [go_sem, sA_d1_0, yA_d1]; done) | exact sB_d1_0 | (simp [go_sem, sB_d1_0, yB_d1]; done)); have sC_d1_1 : wC.cell? ⟨w.heap.size, 1, none⟩ = some (.int .i64 tr1) := (kC _ _ (by (first | omega | (simp; done) | (simp; omega)))).trans (by first | exact bx_d1_1 | (simp [go_sem, bx_d1_1, yb_d1]; done) | exact sA_d1_1 | (simp [go_sem, sA_d1_1, yA_d1]; done) | exact sB_d1_1 | (simp [go_sem, sB_d1_1, yB_d1]; done)); have sC_d1_2 : wC.cell? ⟨w.heap.size, 2, none⟩ = some (v1) := (kC _ _ (by (first | omega | (simp; done) | (simp; omega)))).trans (by first | exact bx_d1_2 | (simp [go_sem, bx_d1_2, yb_d1]; done) | exact sA_d1_2 | (simp [go_sem, sA_d1_2, yA_d1]; done) | exact sB_d1_2 | (simp [go_sem, sB_d1_2, yB_d1]; done)); have sC_d2_0 : wC.cell? ⟨w.heap.size + 1, 0, none⟩ = some (v2) := (kC _ _ (by (first | omega | (simp; done) | (simp; omega)))).trans (by first | exact bx_d2_0 | (simp [go_sem, bx_d2_0, yb_d2]; done) | exact sA_d2_0 | (simp [go_sem, sA_d2_0, yA_d2]; done) | exact sB_d2_0 | (simp [go_sem, sB_d2_0, yB_d2]; done)); have sC_d2_1 : wC.cell? ⟨w.heap.size + 1, 1, none⟩ = some (.int .i64 n2) := (kC _ _ (by (first | omega | (simp; done) | (simp; omega)))).trans (by first | exact bx_d2_1 | (simp [go_sem, bx_d2_1, yb_d2]; done) | exact sA_d2_1 | (simp [go_sem, sA_d2_1, yA_d2]; done) | exact sB_d2_1 | (simp [go_sem, sB_d2_1, yB_d2]; done)); have szC := bC.size; (try (have qq : ∀ x : World, x.drew.heap.size = x.heap.size := fun _ => rfl; simp only [qq, World.size_alloc] at szC; clear qq)); (try (have rr : wC.cell? ⟨w2.heap.size, 0, none⟩ = some (.int .i64 0) ∧ wC.cell? ⟨w2.heap.size, 1, none⟩ = some (.int .i64 0) ∧ wC.cell? ⟨w2.heap.size, 2, none⟩ = some (.slice none 0 0) ∧ wC.frozen? ⟨w2.heap.size, 0, none⟩ = false ∧ wC.frozen? ⟨w2.heap.size, 1, none⟩ = false ∧ wC.frozen? ⟨w2.heap.size, 2, none⟩ = false := ⟨(kC _ _ (by (first | omega | (simp; done) | (simp; omega)))).trans (by first | exact rB0_k0 | (simp [go_sem]; done)), (kC _ _ (by (first | omega | (simp; done) | (simp; omega)))).trans (by first | exact rB0_k1 | (simp [go_sem]; done)), (kC _ _ (by (first | omega | (simp; done) | (simp; omega)))).trans (by first | exact rB0_k2 | (simp [go_sem]; done)), (fC _ _ (by (first | omega | (simp; done) | (simp; omega)))).trans (by first | exact rB0_f0 | (simp [go_sem]; done)), (fC _ _ (by (first | omega | (simp; done) | (simp; omega)))).trans (by first | exact rB0_f1 | (simp [go_sem]; done)), (fC _ _ (by (first | omega | (simp; done) | (simp; omega)))).trans (by first | exact rB0_f2 | (simp [go_sem]; done))⟩; obtain ⟨rC0_k0, rC0_k1, rC0_k2, rC0_f0, rC0_f1, rC0_f2⟩ := rr)); (try (have rr : wC.cell? ⟨wA.heap.size, 0, none⟩ = some (.int .i64 0) ∧ wC.cell? ⟨wA.heap.size, 1, none⟩ = some (.int .i64 0) ∧ wC.cell? ⟨wA.heap.size, 2, none⟩ = some (.slice none 0 0) ∧ wC.frozen? ⟨wA.heap.size, 0, none⟩ = false ∧ wC.frozen? ⟨wA.heap.size, 1, none⟩ = false ∧ wC.frozen? ⟨wA.heap.size, 2, none⟩ = false := ⟨(kC _ _ (by (first | omega | (simp; done) | (simp; omega)))).trans (by first | exact rB1_k0 | (simp [go_sem]; done)), (kC _ _ (by (first | omega | (simp; done) | (simp; omega)))).trans (by first | exact rB1_k1 | (simp [go_sem]; done)), (kC _ _ (by (first | omega | (simp; done) | (simp; omega)))).trans (by first | exact rB1_k2 | (simp [go_sem]; done)), (fC _ _ (by (first | omega | (simp; done) | (simp; omega)))).trans (by first | exact rB1_f0 | (simp [go_sem]; done)), (fC _ _ (by (first | omega | (simp; done) | (simp; omega)))).trans (by first | exact rB1_f1 | (simp [go_sem]; done)), (fC _ _ (by (first | omega | (simp; done) | (simp; omega)))).trans (by first | exact rB1_f2 | (simp [go_sem]; done))⟩; obtain ⟨rC1_k0, rC1_k1, rC1_k2, rC1_f0, rC1_f1, rC1_f2⟩ := rr)); (try (have rr : wC.cell? ⟨wB.heap.size, 0, none⟩ = some (.int .i64 0) ∧ wC.cell? ⟨wB.heap.size, 1, none⟩ = some (.int .i64 0) ∧ wC.cell? ⟨wB.heap.size, 2, none⟩ = some (.slice none 0 0) ∧ wC.frozen? ⟨wB.heap.size, 0, none⟩ = false ∧ wC.frozen? ⟨wB.heap.size, 1, none⟩ = false ∧ wC.frozen? ⟨wB.heap.size, 2, none⟩ = false := ⟨(kC _ _ (by (first | omega | (simp; done) | (simp; omega)))).trans (by first | (simp [go_sem]; done)), (kC _ _ (by (first | omega | (simp; done) | (simp; omega)))).trans (by first | (simp [go_sem]; done)), (kC _ _ (by (first | omega | (simp; done) | (simp; omega)))).trans (by first | (simp [go_sem]; done)), (fC _ _ (by (first | omega | (simp; done) | (simp; omega)))).trans (by first | (simp [go_sem]; done)), (fC _ _ (by (first | omega | (simp; done) | (simp; omega)))).trans (by first | (simp [go_sem]; done)), (fC _ _ (by (first | omega | (simp; done) | (simp; omega)))).trans (by first | (simp [go_sem]; done))⟩; obtain ⟨rC2_k0, rC2_k1, rC2_k2, rC2_f0, rC2_f1, rC2_f2⟩ := rr))) | (go_at_call 33; have tok := kA; clear tok; refine (toWear_any n2 v2 l2 _ (hr2.bl (by (repeat' (first | (with_reducible exact Below.refl _ _) | (with_reducible refine bl_alloc ?_ _) | (with_reducible refine bl_drewN ?_ _) | (with_reducible refine bl_drew ?_) | (with_reducible assumption) | (with_reducible refine bl_to ?_ (by assumption)) | (with_reducible refine Below.trans ?_ (by assumption)) | (with_reducible refine Below.trans ?_ (Below.mono (by assumption) ?_)) | (with_reducible refine bl_set ?_ ?_ _) | (simp; done) | (simp; omega) | omega)))) hl2).mono ?_; rintro e wB ⟨AB, cB, rfl, owB, bB⟩; obtain ⟨kB, fB, zB⟩ := bcell bB; have yB_d1 : w.heap.size < wB.heap.size := zB _ (by (first | omega | (simp; done) | (simp; omega))); have yB_d2 : w.heap.size + 1 < wB.heap.size := zB _ (by (first | omega | (simp; done) | (simp; omega))); have sB_d1_0 : wB.cell? ⟨w.heap.size, 0, none⟩ = some (.int .i64 st1) := (kB _ _ (by (first | omega | (simp; done) | (simp; omega)))).trans (by first | exact bx_d1_0 | (simp [go_sem, bx_d1_0, yb_d1]; done) | exact sA_d1_0 | (simp [go_sem, sA_d1_0, yA_d1]; done)); have sB_d1_1 : wB.cell? ⟨w.heap.size, 1, none⟩ = some (.int .i64 tr1) := (kB _ _ (by (first | omega | (simp; done) | (simp; omega)))).trans (by first | exact bx_d1_1 | (simp [go_sem, bx_d1_1, yb_d1]; done) | exact sA_d1_1 | (simp [go_sem, sA_d1_1, yA_d1]; done)); have sB_d1_2 : wB.cell? ⟨w.heap.size, 2, none⟩ = some (v1) := (kB _ _ (by (first | omega | (simp; done) | (simp; omega)))).trans (by first | exact bx_d1_2 | (simp [go_sem, bx_d1_2, yb_d1]; done) | exact sA_d1_2 | (simp [go_sem, sA_d1_2, yA_d1]; done)); have sB_d2_0 : wB.cell? ⟨w.heap.size + 1, 0, none⟩ = some (v2) := (kB _ _ (by (first | omega | (simp; done) | (simp; omega)))).trans (by first | exact bx_d2_0 | (simp [go_sem, bx_d2_0, yb_d2]; done) | exact sA_d2_0 | (simp [go_sem, sA_d2_0, yA_d2]; done)); have sB_d2_1 : wB.cell? ⟨w.heap.size + 1, 1, none⟩ = some (.int .i64 n2) := (kB _ _ (by (first | omega | (simp; done) | (simp; omega)))).trans (by first | exact bx_d2_1 | (simp [go_sem, bx_d2_1, yb_d2]; done) | exact sA_d2_1 | (simp [go_sem, sA_d2_1, yA_d2]; done)); have szB := bB.size; (try (have qq : ∀ x : World, x.drew.heap.size = x.heap.size := fun _ => rfl; simp only [qq, World.size_alloc] at szB; clear qq)); (try (have rr : wB.cell? ⟨w2.heap.size, 0, none⟩ = some (.int .i64 0) ∧ wB.cell? ⟨w2.heap.size, 1, none⟩ = some (.int .i64 0) ∧ wB.cell? ⟨w2.heap.size, 2, none⟩ = some (.slice none 0 0) ∧ wB.frozen? ⟨w2.heap.size, 0, none⟩ = false ∧ wB.frozen? ⟨w2.heap.size, 1, none⟩ = false ∧ wB.frozen? ⟨w2.heap.size, 2, none⟩ = false := ⟨(kB _ _ (by (first | omega | (simp; done) | (simp; omega)))).trans (by first | exact rA0_k0 | (simp [go_sem]; done)), (kB _ _ (by (first | omega | (simp; done) | (simp; omega)))).trans (by first | exact rA0_k1 | (simp [go_sem]; done)), (kB _ _ (by (first | omega | (simp; done) | (simp; omega)))).trans (by first | exact rA0_k2 | (simp [go_sem]; done)), (fB _ _ (by (first | omega | (simp; done) | (simp; omega)))).trans (by first | exact rA0_f0 | (simp [go_sem]; done)), (fB _ _ (by (first | omega | (simp; done) | (simp; omega)))).trans (by first | exact rA0_f1 | (simp [go_sem]; done)), (fB _ _ (by (first | omega | (simp; done) | (simp; omega)))).trans (by first | exact rA0_f2 | (simp [go_sem]; done))⟩; obtain ⟨rB0_k0, rB0_k1, rB0_k2, rB0_f0, rB0_f1, rB0_f2⟩ := rr)); (try (have rr : wB.cell? ⟨wA.heap.size, 0, none⟩ = some (.int .i64 0) ∧ wB.cell? ⟨wA.heap.size, 1, none⟩ = some (.int .i64 0) ∧ wB.cell? ⟨wA.heap.size, 2, none⟩ = some (.slice none 0 0) ∧ wB.frozen? ⟨wA.heap.size, 0, none⟩ = false ∧ wB.frozen? ⟨wA.heap.size, 1, none⟩ = false ∧ wB.frozen? ⟨wA.heap.size, 2, none⟩ = false := ⟨(kB _ _ (by (first | omega | (simp; done) | (simp; omega)))).trans (by first | (simp [go_sem]; done)), (kB _ _ (by (first | omega | (simp; done) | (simp; omega)))).trans (by first | (simp [go_sem]; done)), (kB _ _ (by (first | omega | (simp; done) | (simp; omega)))).trans (by first | (simp [go_sem]; done)), (fB _ _ (by (first | omega | (simp; done) | (simp; omega)))).trans (by first | (simp [go_sem]; done)), (fB _ _ (by (first | omega | (simp; done) | (simp; omega)))).trans (by first | (simp [go_sem]; done)), (fB _ _ (by (first | omega | (simp; done) | (simp; omega)))).trans (by first | (simp [go_sem]; done))⟩; obtain ⟨rB1_k0, rB1_k1, rB1_k2, rB1_f0, rB1_f1, rB1_f2⟩ := rr))) | (go_at_call 60; refine (toCylinder_any st1 tr1 v1 l1 _ (hr1.bl (by (repeat' (first | (with_reducible exact Below.refl _ _) | (with_reducible refine bl_alloc ?_ _) | (with_reducible refine bl_drewN ?_ _) | (with_reducible refine bl_drew ?_) | (with_reducible assumption) | (with_reducible refine bl_to ?_ (by assumption)) | (with_reducible refine Below.trans ?_ (by assumption)) | (with_reducible refine Below.trans ?_ (Below.mono (by assumption) ?_)) | (with_reducible refine bl_set ?_ ?_ _) | (simp; done) | (simp; omega) | omega)))) hl1).mono ?_; rintro e wA ⟨AA, cA, rfl, owA, bA⟩; obtain ⟨kA, fA, zA⟩ := bcell bA; have yA_d1 : w.heap.size < wA.heap.size := zA _ (by (first | omega | (simp; done) | (simp; omega))); have yA_d2 : w.heap.size + 1 < wA.heap.size := zA _ (by (first | omega | (simp; done) | (simp; omega))); have sA_d1_0 : wA.cell? ⟨w.heap.size, 0, none⟩ = some (.int .i64 st1) := (kA _ _ (by (first | omega | (simp; done) | (simp; omega)))).trans (by first | exact bx_d1_0 | (simp [go_sem, bx_d1_0, yb_d1]; done) | exact sB_d1_0 | (simp [go_sem, sB_d1_0, yB_d1]; done)); have sA_d1_1 : wA.cell? ⟨w.heap.size, 1, none⟩ = some (.int .i64 tr1) := (kA _ _ (by (first | omega | (simp; done) | (simp; omega)))).trans (by first | exact bx_d1_1 | (simp [go_sem, bx_d1_1, yb_d1]; done) | exact sB_d1_1 | (simp [go_sem, sB_d1_1, yB_d1]; done)); have sA_d1_2 : wA.cell? ⟨w.heap.size, 2, none⟩ = some (v1) := (kA _ _ (by (first | omega | (simp; done) | (simp; omega)))).trans (by first | exact bx_d1_2 | (simp [go_sem, bx_d1_2, yb_d1]; done) | exact sB_d1_2 | (simp [go_sem, sB_d1_2, yB_d1]; done)); have sA_d2_0 : wA.cell? ⟨w.heap.size + 1, 0, none⟩ = some (v2) := (kA _ _ (by (first | omega | (simp; done) | (simp; omega)))).trans (by first | exact bx_d2_0 | (simp [go_sem, bx_d2_0, yb_d2]; done) | exact sB_d2_0 | (simp [go_sem, sB_d2_0, yB_d2]; done)); have sA_d2_1 : wA.cell? ⟨w.heap.size + 1, 1, none⟩ = some (.int .i64 n2) := (kA _ _ (by (first | omega | (simp; done) | (simp; omega)))).trans (by first | exact bx_d2_1 | (simp [go_sem, bx_d2_1, yb_d2]; done) | exact sB_d2_1 | (simp [go_sem, sB_d2_1, yB_d2]; done)); have szA := bA.size; (try (have qq : ∀ x : World, x.drew.heap.size = x.heap.size := fun _ => rfl; simp only [qq, World.size_alloc] at szA; clear qq)); (try (have rr : wA.cell? ⟨w2.heap.size, 0, none⟩ = some (.int .i64 0) ∧ wA.cell? ⟨w2.heap.size, 1, none⟩ = some (.int .i64 0) ∧ wA.cell? ⟨w2.heap.size, 2, none⟩ = some (.slice none 0 0) ∧ wA.frozen? ⟨w2.heap.size, 0, none⟩ = false ∧ wA.frozen? ⟨w2.heap.size, 1, none⟩ = false ∧ wA.frozen? ⟨w2.heap.size, 2, none⟩ = false := ⟨(kA _ _ (by (first | omega | (simp; done) | (simp; omega)))).trans (by first | (simp [go_sem]; done)), (kA _ _ (by (first | omega | (simp; done) | (simp; omega)))).trans (by first | (simp [go_sem]; done)), (kA _ _ (by (first | omega | (simp; done) | (simp; omega)))).trans (by first | (simp [go_sem]; done)), (fA _ _ (by (first | omega | (simp; done) | (simp; omega)))).trans (by first | (simp [go_sem]; done)), (fA _ _ (by (first | omega | (simp; done) | (simp; omega)))).trans (by first | (simp [go_sem]; done)), (fA _ _ (by (first | omega | (simp; done) | (simp; omega)))).trans (by first | (simp [go_sem]; done))⟩; obtain ⟨rA0_k0, rA0_k1, rA0_k2, rA0_f0, rA0_f1, rA0_f2⟩ := rr))))
        all_goals
          go_wp2
          go_meet
          first
            | (refine ⟨_, AC, cC, rfl, rfl, ?_⟩; (with_reducible refine CylinderBx.new ?gb ?gh (own_lo owC ?go)); (case gb => (repeat' (first | (with_reducible exact Below.refl _ _) | (with_reducible refine bl_alloc ?_ _) | (with_reducible refine bl_drewN ?_ _) | (with_reducible refine bl_drew ?_) | (with_reducible assumption) | (with_reducible refine bl_to ?_ (by assumption)) | (with_reducible refine Below.trans ?_ (by assumption)) | (with_reducible refine Below.trans ?_ (Below.mono (by assumption) ?_)) | (with_reducible refine bl_set ?_ ?_ _) | (simp; done) | (simp; omega) | omega))); (case gh => (first | omega | (simp; done) | (simp; omega))); (case go => (first | omega | (simp; done) | (simp; omega))))
            | (refine ⟨_, AC, cC, rfl, rfl, ?_⟩; (with_reducible refine CylinderBx.old ?gb ?gh ?gd (own_lo owC ?go) ?gn ?g0 ?g1 ?g2 ?g3); (case gb => (repeat' (first | (with_reducible exact Below.refl _ _) | (with_reducible refine bl_alloc ?_ _) | (with_reducible refine bl_drewN ?_ _) | (with_reducible refine bl_drew ?_) | (with_reducible assumption) | (with_reducible refine bl_to ?_ (by assumption)) | (with_reducible refine Below.trans ?_ (by assumption)) | (with_reducible refine Below.trans ?_ (Below.mono (by assumption) ?_)) | (with_reducible refine bl_set ?_ ?_ _) | (simp; done) | (simp; omega) | omega))); (case gh => (first | omega | (simp; done) | (simp; omega))); (case gd => (first | omega | (simp; done) | (simp; omega))); (case go => (first | omega | (simp; done) | (simp; omega))); (case gn => (intro e; have := (owC.lt _ e).1; (try simp at this); omega)); (case g0 => (first | with_reducible exact rC0_k0 | with_reducible exact rC1_k0 | with_reducible exact rC2_k0)); (case g1 => (first | with_reducible exact rC0_k1 | with_reducible exact rC1_k1 | with_reducible exact rC2_k1)); (case g2 => (first | with_reducible exact rC0_k2 | with_reducible exact rC1_k2 | with_reducible exact rC2_k2)); (case g3 => (first | with_reducible exact rC0_f2 | with_reducible exact rC1_f2 | with_reducible exact rC2_f2)))
      case rest =>
        obtain ⟨Ds, A_s, c_s, rfl, rfl, hs⟩ := hcut
        obtain ⟨w3, rfl⟩ : ∃ x : World, x = wc := ⟨_, rfl⟩
        obtain ⟨sz1, sz2⟩ := HX_s.out
        clear HX_s
        have bb := hs.bel
        obtain ⟨kk, ff, zz⟩ := bcell bb
        replace bx_d1_0 := (kk _ 0 yb_d1).trans bx_d1_0
        replace bx_d1_1 := (kk _ 1 yb_d1).trans bx_d1_1
        replace bx_d1_2 := (kk _ 2 yb_d1).trans bx_d1_2
        replace bx_d2_0 := (kk _ 0 yb_d2).trans bx_d2_0
        replace bx_d2_1 := (kk _ 1 yb_d2).trans bx_d2_1
        replace yb_d1 : w.heap.size < w3.heap.size := zz _ (by (first | omega | (simp; done) | (simp; omega)))
        replace yb_d2 : w.heap.size + 1 < w3.heap.size := zz _ (by (first | omega | (simp; done) | (simp; omega)))
        have sz3 : w2.heap.size ≤ w3.heap.size := bb.size
        replace bel : Below w.heap.size w w3 := bl_to (by (repeat' (first | (with_reducible exact Below.refl _ _) | (with_reducible refine bl_alloc ?_ _) | (with_reducible refine bl_drewN ?_ _) | (with_reducible refine bl_drew ?_) | (with_reducible assumption) | (with_reducible refine bl_to ?_ (by assumption)) | (with_reducible refine Below.trans ?_ (by assumption)) | (with_reducible refine Below.trans ?_ (Below.mono (by assumption) ?_)) | (with_reducible refine bl_set ?_ ?_ _) | (simp; done) | (simp; omega) | omega))) bb
        clear kk ff zz bb
        have ow_s := hs.ow
        have in_s := Lib.hid ow_s.lt
        have bx_s_0 := hs.d0
        have bx_s_1 := hs.d1
        have bx_s_2 := hs.dv
        have yb_s := hs.dl
        have ub_s := hs.dl
        have lo_s := hs.hB
        clear hs
        go_wp2_with fail
        refine (toCylinder_any st1 tr1 v1 l1 _ (hr1.bl (by (repeat' (first | (with_reducible exact Below.refl _ _) | (with_reducible refine bl_alloc ?_ _) | (with_reducible refine bl_drewN ?_ _) | (with_reducible refine bl_drew ?_) | (with_reducible assumption) | (with_reducible refine bl_to ?_ (by assumption)) | (with_reducible refine Below.trans ?_ (by assumption)) | (with_reducible refine Below.trans ?_ (Below.mono (by assumption) ?_)) | (with_reducible refine bl_set ?_ ?_ _) | (simp; done) | (simp; omega) | omega)))) hl1).mono ?_
        rintro e w4 ⟨A_x1, c_x1, rfl, on_x1, bb⟩
        obtain ⟨kk, ff, zz⟩ := bcell bb
        replace bx_d1_0 := (kk _ 0 yb_d1).trans bx_d1_0
        replace bx_d1_1 := (kk _ 1 yb_d1).trans bx_d1_1
        replace bx_d1_2 := (kk _ 2 yb_d1).trans bx_d1_2
        replace bx_d2_0 := (kk _ 0 yb_d2).trans bx_d2_0
        replace bx_d2_1 := (kk _ 1 yb_d2).trans bx_d2_1
        replace bx_s_0 := (kk _ 0 yb_s).trans bx_s_0
        replace bx_s_1 := (kk _ 1 yb_s).trans bx_s_1
        replace bx_s_2 := (kk _ 2 yb_s).trans bx_s_2
        replace yb_d1 : w.heap.size < w4.heap.size := zz _ (by (first | omega | (simp; done) | (simp; omega)))
        replace yb_d2 : w.heap.size + 1 < w4.heap.size := zz _ (by (first | omega | (simp; done) | (simp; omega)))
        replace yb_s : Ds < w4.heap.size := zz _ (by (first | omega | (simp; done) | (simp; omega)))
        replace ow_s := own_bl ow_s bb
        have sz4 : w3.heap.size ≤ w4.heap.size := bb.size
        replace bel : Below w.heap.size w w4 := bl_to (by (repeat' (first | (with_reducible exact Below.refl _ _) | (with_reducible refine bl_alloc ?_ _) | (with_reducible refine bl_drewN ?_ _) | (with_reducible refine bl_drew ?_) | (with_reducible assumption) | (with_reducible refine bl_to ?_ (by assumption)) | (with_reducible refine Below.trans ?_ (by assumption)) | (with_reducible refine Below.trans ?_ (Below.mono (by assumption) ?_)) | (with_reducible refine bl_set ?_ ?_ _) | (simp; done) | (simp; omega) | omega))) bb
        clear kk ff zz bb
        have ow_x1 := own_lo (lo' := w3.heap.size) on_x1 (by (first | omega | (simp; done) | (simp; omega)))
        have in_x1 := Lib.hid ow_x1.lt
        clear on_x1
        go_wp2_with fail
        refine (toWear_any n2 v2 l2 _ (hr2.bl (by (repeat' (first | (with_reducible exact Below.refl _ _) | (with_reducible refine bl_alloc ?_ _) | (with_reducible refine bl_drewN ?_ _) | (with_reducible refine bl_drew ?_) | (with_reducible assumption) | (with_reducible refine bl_to ?_ (by assumption)) | (with_reducible refine Below.trans ?_ (by assumption)) | (with_reducible refine Below.trans ?_ (Below.mono (by assumption) ?_)) | (with_reducible refine bl_set ?_ ?_ _) | (simp; done) | (simp; omega) | omega)))) hl2).mono ?_
        rintro e w5 ⟨A_x2, c_x2, rfl, on_x2, bb⟩
        obtain ⟨kk, ff, zz⟩ := bcell bb
        replace bx_d1_0 : w5.cell? ⟨w.heap.size, 0, none⟩ = some (.int .i64 st1) := (kk _ _ (by (first | omega | (simp; done) | (simp; omega)))).trans (((bl_alloc (Below.refl _ _) _).cell (p := ⟨w.heap.size, 0, none⟩) yb_d1).trans bx_d1_0)
        replace bx_d1_1 : w5.cell? ⟨w.heap.size, 1, none⟩ = some (.int .i64 tr1) := (kk _ _ (by (first | omega | (simp; done) | (simp; omega)))).trans (((bl_alloc (Below.refl _ _) _).cell (p := ⟨w.heap.size, 1, none⟩) yb_d1).trans bx_d1_1)
        replace bx_d1_2 : w5.cell? ⟨w.heap.size, 2, none⟩ = some (v1) := (kk _ _ (by (first | omega | (simp; done) | (simp; omega)))).trans (((bl_alloc (Below.refl _ _) _).cell (p := ⟨w.heap.size, 2, none⟩) yb_d1).trans bx_d1_2)
        replace bx_d2_0 : w5.cell? ⟨w.heap.size + 1, 0, none⟩ = some (v2) := (kk _ _ (by (first | omega | (simp; done) | (simp; omega)))).trans (((bl_alloc (Below.refl _ _) _).cell (p := ⟨w.heap.size + 1, 0, none⟩) yb_d2).trans bx_d2_0)
        replace bx_d2_1 : w5.cell? ⟨w.heap.size + 1, 1, none⟩ = some (.int .i64 n2) := (kk _ _ (by (first | omega | (simp; done) | (simp; omega)))).trans (((bl_alloc (Below.refl _ _) _).cell (p := ⟨w.heap.size + 1, 1, none⟩) yb_d2).trans bx_d2_1)
        replace bx_s_0 : w5.cell? ⟨Ds, 0, none⟩ = some (.int .i64 (wosS st1 tr1 l1 n2 l2 m)) := (kk _ _ (by (first | omega | (simp; done) | (simp; omega)))).trans (((bl_alloc (Below.refl _ _) _).cell (p := ⟨Ds, 0, none⟩) yb_s).trans bx_s_0)
        replace bx_s_1 : w5.cell? ⟨Ds, 1, none⟩ = some (.int .i64 (wosT st1 tr1 l1 n2 l2 m)) := (kk _ _ (by (first | omega | (simp; done) | (simp; omega)))).trans (((bl_alloc (Below.refl _ _) _).cell (p := ⟨Ds, 1, none⟩) yb_s).trans bx_s_1)
        replace bx_s_2 : w5.cell? ⟨Ds, 2, none⟩ = some ((.slice A_s ((wosL st1 tr1 l1 n2 l2 m).length) c_s)) := (kk _ _ (by (first | omega | (simp; done) | (simp; omega)))).trans (((bl_alloc (Below.refl _ _) _).cell (p := ⟨Ds, 2, none⟩) yb_s).trans bx_s_2)
        have bx_x1_0 : w5.cell? ⟨w4.heap.size, 0, none⟩ = some (.int .i64 st1) := (kk _ _ (by (first | omega | (simp; done) | (simp; omega)))).trans (by simp [go_sem])
        have bx_x1_1 : w5.cell? ⟨w4.heap.size, 1, none⟩ = some (.int .i64 tr1) := (kk _ _ (by (first | omega | (simp; done) | (simp; omega)))).trans (by simp [go_sem])
        have bx_x1_2 : w5.cell? ⟨w4.heap.size, 2, none⟩ = some ((.slice A_x1 (l1.length) c_x1)) := (kk _ _ (by (first | omega | (simp; done) | (simp; omega)))).trans (by simp [go_sem])
        replace yb_d1 : w.heap.size < w5.heap.size := zz _ (by (first | omega | (simp; done) | (simp; omega)))
        replace yb_d2 : w.heap.size + 1 < w5.heap.size := zz _ (by (first | omega | (simp; done) | (simp; omega)))
        replace yb_s : Ds < w5.heap.size := zz _ (by (first | omega | (simp; done) | (simp; omega)))
        have yb_x1 : w4.heap.size < w5.heap.size := zz _ (by (first | omega | (simp; done) | (simp; omega)))
        replace ow_s := own_bl (ow_s.alloc _) bb
        replace ow_x1 := own_bl (ow_x1.alloc _) bb
        have sz5 : w4.heap.size + 1 ≤ w5.heap.size := by have := bb.size; simp only [World.size_alloc] at this; omega
        replace bel : Below w.heap.size w w5 := bl_to (by (repeat' (first | (with_reducible exact Below.refl _ _) | (with_reducible refine bl_alloc ?_ _) | (with_reducible refine bl_drewN ?_ _) | (with_reducible refine bl_drew ?_) | (with_reducible assumption) | (with_reducible refine bl_to ?_ (by assumption)) | (with_reducible refine Below.trans ?_ (by assumption)) | (with_reducible refine Below.trans ?_ (Below.mono (by assumption) ?_)) | (with_reducible refine bl_set ?_ ?_ _) | (simp; done) | (simp; omega) | omega))) bb
        clear kk ff zz bb
        have ow_x2 := own_lo (lo' := w4.heap.size + 1) on_x2 (by (first | omega | (simp; done) | (simp; omega)))
        have in_x2 := Lib.hid ow_x2.lt
        clear on_x2
        go_wp2_with fail
        refine (wosI_any st1 tr1 n2 m _ _ l1 l2 _ (Rd.of_own (ow_x1.alloc _)) (Rd.of_own (ow_x2.alloc _)) hl1 hl2).mono ?_
        rintro e w6 ⟨A_g, c_g, rfl, on_g, bb⟩
        obtain ⟨kk, ff, zz⟩ := bcell bb
        replace bx_d1_0 : w6.cell? ⟨w.heap.size, 0, none⟩ = some (.int .i64 st1) := (kk _ _ (by (first | omega | (simp; done) | (simp; omega)))).trans (((bl_alloc (Below.refl _ _) _).cell (p := ⟨w.heap.size, 0, none⟩) yb_d1).trans bx_d1_0)
        replace bx_d1_1 : w6.cell? ⟨w.heap.size, 1, none⟩ = some (.int .i64 tr1) := (kk _ _ (by (first | omega | (simp; done) | (simp; omega)))).trans (((bl_alloc (Below.refl _ _) _).cell (p := ⟨w.heap.size, 1, none⟩) yb_d1).trans bx_d1_1)
        replace bx_d1_2 : w6.cell? ⟨w.heap.size, 2, none⟩ = some (v1) := (kk _ _ (by (first | omega | (simp; done) | (simp; omega)))).trans (((bl_alloc (Below.refl _ _) _).cell (p := ⟨w.heap.size, 2, none⟩) yb_d1).trans bx_d1_2)
        replace bx_d2_0 : w6.cell? ⟨w.heap.size + 1, 0, none⟩ = some (v2) := (kk _ _ (by (first | omega | (simp; done) | (simp; omega)))).trans (((bl_alloc (Below.refl _ _) _).cell (p := ⟨w.heap.size + 1, 0, none⟩) yb_d2).trans bx_d2_0)
        replace bx_d2_1 : w6.cell? ⟨w.heap.size + 1, 1, none⟩ = some (.int .i64 n2) := (kk _ _ (by (first | omega | (simp; done) | (simp; omega)))).trans (((bl_alloc (Below.refl _ _) _).cell (p := ⟨w.heap.size + 1, 1, none⟩) yb_d2).trans bx_d2_1)
        replace bx_s_0 : w6.cell? ⟨Ds, 0, none⟩ = some (.int .i64 (wosS st1 tr1 l1 n2 l2 m)) := (kk _ _ (by (first | omega | (simp; done) | (simp; omega)))).trans (((bl_alloc (Below.refl _ _) _).cell (p := ⟨Ds, 0, none⟩) yb_s).trans bx_s_0)
        replace bx_s_1 : w6.cell? ⟨Ds, 1, none⟩ = some (.int .i64 (wosT st1 tr1 l1 n2 l2 m)) := (kk _ _ (by (first | omega | (simp; done) | (simp; omega)))).trans (((bl_alloc (Below.refl _ _) _).cell (p := ⟨Ds, 1, none⟩) yb_s).trans bx_s_1)
        replace bx_s_2 : w6.cell? ⟨Ds, 2, none⟩ = some ((.slice A_s ((wosL st1 tr1 l1 n2 l2 m).length) c_s)) := (kk _ _ (by (first | omega | (simp; done) | (simp; omega)))).trans (((bl_alloc (Below.refl _ _) _).cell (p := ⟨Ds, 2, none⟩) yb_s).trans bx_s_2)
        replace bx_x1_0 : w6.cell? ⟨w4.heap.size, 0, none⟩ = some (.int .i64 st1) := (kk _ _ (by (first | omega | (simp; done) | (simp; omega)))).trans (((bl_alloc (Below.refl _ _) _).cell (p := ⟨w4.heap.size, 0, none⟩) yb_x1).trans bx_x1_0)
        replace bx_x1_1 : w6.cell? ⟨w4.heap.size, 1, none⟩ = some (.int .i64 tr1) := (kk _ _ (by (first | omega | (simp; done) | (simp; omega)))).trans (((bl_alloc (Below.refl _ _) _).cell (p := ⟨w4.heap.size, 1, none⟩) yb_x1).trans bx_x1_1)
        replace bx_x1_2 : w6.cell? ⟨w4.heap.size, 2, none⟩ = some ((.slice A_x1 (l1.length) c_x1)) := (kk _ _ (by (first | omega | (simp; done) | (simp; omega)))).trans (((bl_alloc (Below.refl _ _) _).cell (p := ⟨w4.heap.size, 2, none⟩) yb_x1).trans bx_x1_2)
        have bx_x2_0 : w6.cell? ⟨w5.heap.size, 0, none⟩ = some ((.slice A_x2 (l2.length) c_x2)) := (kk _ _ (by (first | omega | (simp; done) | (simp; omega)))).trans (by simp [go_sem])
        have bx_x2_1 : w6.cell? ⟨w5.heap.size, 1, none⟩ = some (.int .i64 n2) := (kk _ _ (by (first | omega | (simp; done) | (simp; omega)))).trans (by simp [go_sem])
        replace yb_d1 : w.heap.size < w6.heap.size := zz _ (by (first | omega | (simp; done) | (simp; omega)))
        replace yb_d2 : w.heap.size + 1 < w6.heap.size := zz _ (by (first | omega | (simp; done) | (simp; omega)))
        replace yb_s : Ds < w6.heap.size := zz _ (by (first | omega | (simp; done) | (simp; omega)))
        replace yb_x1 : w4.heap.size < w6.heap.size := zz _ (by (first | omega | (simp; done) | (simp; omega)))
        have yb_x2 : w5.heap.size < w6.heap.size := zz _ (by (first | omega | (simp; done) | (simp; omega)))
        replace ow_s := own_bl (ow_s.alloc _) bb
        replace ow_x1 := own_bl (ow_x1.alloc _) bb
        replace ow_x2 := own_bl (ow_x2.alloc _) bb
        have sz6 : w5.heap.size + 1 ≤ w6.heap.size := by have := bb.size; simp only [World.size_alloc] at this; omega
        replace bel : Below w.heap.size w w6 := bl_to (by (repeat' (first | (with_reducible exact Below.refl _ _) | (with_reducible refine bl_alloc ?_ _) | (with_reducible refine bl_drewN ?_ _) | (with_reducible refine bl_drew ?_) | (with_reducible assumption) | (with_reducible refine bl_to ?_ (by assumption)) | (with_reducible refine Below.trans ?_ (by assumption)) | (with_reducible refine Below.trans ?_ (Below.mono (by assumption) ?_)) | (with_reducible refine bl_set ?_ ?_ _) | (simp; done) | (simp; omega) | omega))) bb
        clear kk ff zz bb
        have ow_g := own_lo (lo' := w5.heap.size + 1) on_g (by (first | omega | (simp; done) | (simp; omega)))
        have in_g := Lib.hid ow_g.lt
        clear on_g
        go_wp2_with fail
        refine (eqCylinder_any (wosS st1 tr1 l1 n2 l2 m) (wosT st1 tr1 l1 n2 l2 m) _ _ (wosL st1 tr1 l1 n2 l2 m) _ (Rd.of_own (ow_g.alloc _)) (Rd.of_own (ow_s.alloc _)) hlR).mono ?_
        rintro e w7 ⟨rfl, bb⟩
        obtain ⟨kk, ff, zz⟩ := bcell bb
        replace bx_d1_0 : w7.cell? ⟨w.heap.size, 0, none⟩ = some (.int .i64 st1) := (kk _ _ (by (first | omega | (simp; done) | (simp; omega)))).trans (((bl_alloc (Below.refl _ _) _).cell (p := ⟨w.heap.size, 0, none⟩) yb_d1).trans bx_d1_0)
        replace bx_d1_1 : w7.cell? ⟨w.heap.size, 1, none⟩ = some (.int .i64 tr1) := (kk _ _ (by (first | omega | (simp; done) | (simp; omega)))).trans (((bl_alloc (Below.refl _ _) _).cell (p := ⟨w.heap.size, 1, none⟩) yb_d1).trans bx_d1_1)
        replace bx_d1_2 : w7.cell? ⟨w.heap.size, 2, none⟩ = some (v1) := (kk _ _ (by (first | omega | (simp; done) | (simp; omega)))).trans (((bl_alloc (Below.refl _ _) _).cell (p := ⟨w.heap.size, 2, none⟩) yb_d1).trans bx_d1_2)
        replace bx_d2_0 : w7.cell? ⟨w.heap.size + 1, 0, none⟩ = some (v2) := (kk _ _ (by (first | omega | (simp; done) | (simp; omega)))).trans (((bl_alloc (Below.refl _ _) _).cell (p := ⟨w.heap.size + 1, 0, none⟩) yb_d2).trans bx_d2_0)
        replace bx_d2_1 : w7.cell? ⟨w.heap.size + 1, 1, none⟩ = some (.int .i64 n2) := (kk _ _ (by (first | omega | (simp; done) | (simp; omega)))).trans (((bl_alloc (Below.refl _ _) _).cell (p := ⟨w.heap.size + 1, 1, none⟩) yb_d2).trans bx_d2_1)
        replace bx_s_0 : w7.cell? ⟨Ds, 0, none⟩ = some (.int .i64 (wosS st1 tr1 l1 n2 l2 m)) := (kk _ _ (by (first | omega | (simp; done) | (simp; omega)))).trans (((bl_alloc (Below.refl _ _) _).cell (p := ⟨Ds, 0, none⟩) yb_s).trans bx_s_0)
        replace bx_s_1 : w7.cell? ⟨Ds, 1, none⟩ = some (.int .i64 (wosT st1 tr1 l1 n2 l2 m)) := (kk _ _ (by (first | omega | (simp; done) | (simp; omega)))).trans (((bl_alloc (Below.refl _ _) _).cell (p := ⟨Ds, 1, none⟩) yb_s).trans bx_s_1)
        replace bx_s_2 : w7.cell? ⟨Ds, 2, none⟩ = some ((.slice A_s ((wosL st1 tr1 l1 n2 l2 m).length) c_s)) := (kk _ _ (by (first | omega | (simp; done) | (simp; omega)))).trans (((bl_alloc (Below.refl _ _) _).cell (p := ⟨Ds, 2, none⟩) yb_s).trans bx_s_2)
        replace bx_x1_0 : w7.cell? ⟨w4.heap.size, 0, none⟩ = some (.int .i64 st1) := (kk _ _ (by (first | omega | (simp; done) | (simp; omega)))).trans (((bl_alloc (Below.refl _ _) _).cell (p := ⟨w4.heap.size, 0, none⟩) yb_x1).trans bx_x1_0)
        replace bx_x1_1 : w7.cell? ⟨w4.heap.size, 1, none⟩ = some (.int .i64 tr1) := (kk _ _ (by (first | omega | (simp; done) | (simp; omega)))).trans (((bl_alloc (Below.refl _ _) _).cell (p := ⟨w4.heap.size, 1, none⟩) yb_x1).trans bx_x1_1)
        replace bx_x1_2 : w7.cell? ⟨w4.heap.size, 2, none⟩ = some ((.slice A_x1 (l1.length) c_x1)) := (kk _ _ (by (first | omega | (simp; done) | (simp; omega)))).trans (((bl_alloc (Below.refl _ _) _).cell (p := ⟨w4.heap.size, 2, none⟩) yb_x1).trans bx_x1_2)
        replace bx_x2_0 : w7.cell? ⟨w5.heap.size, 0, none⟩ = some ((.slice A_x2 (l2.length) c_x2)) := (kk _ _ (by (first | omega | (simp; done) | (simp; omega)))).trans (((bl_alloc (Below.refl _ _) _).cell (p := ⟨w5.heap.size, 0, none⟩) yb_x2).trans bx_x2_0)
        replace bx_x2_1 : w7.cell? ⟨w5.heap.size, 1, none⟩ = some (.int .i64 n2) := (kk _ _ (by (first | omega | (simp; done) | (simp; omega)))).trans (((bl_alloc (Below.refl _ _) _).cell (p := ⟨w5.heap.size, 1, none⟩) yb_x2).trans bx_x2_1)
        have bx_g_0 : w7.cell? ⟨w6.heap.size, 0, none⟩ = some (.int .i64 (wosS st1 tr1 l1 n2 l2 m)) := (kk _ _ (by (first | omega | (simp; done) | (simp; omega)))).trans (by simp [go_sem])
        have bx_g_1 : w7.cell? ⟨w6.heap.size, 1, none⟩ = some (.int .i64 (wosT st1 tr1 l1 n2 l2 m)) := (kk _ _ (by (first | omega | (simp; done) | (simp; omega)))).trans (by simp [go_sem])
        have bx_g_2 : w7.cell? ⟨w6.heap.size, 2, none⟩ = some ((.slice A_g ((wosL st1 tr1 l1 n2 l2 m).length) c_g)) := (kk _ _ (by (first | omega | (simp; done) | (simp; omega)))).trans (by simp [go_sem])
        replace yb_d1 : w.heap.size < w7.heap.size := zz _ (by (first | omega | (simp; done) | (simp; omega)))
        replace yb_d2 : w.heap.size + 1 < w7.heap.size := zz _ (by (first | omega | (simp; done) | (simp; omega)))
        replace yb_s : Ds < w7.heap.size := zz _ (by (first | omega | (simp; done) | (simp; omega)))
        replace yb_x1 : w4.heap.size < w7.heap.size := zz _ (by (first | omega | (simp; done) | (simp; omega)))
        replace yb_x2 : w5.heap.size < w7.heap.size := zz _ (by (first | omega | (simp; done) | (simp; omega)))
        have yb_g : w6.heap.size < w7.heap.size := zz _ (by (first | omega | (simp; done) | (simp; omega)))
        replace ow_s := own_bl (ow_s.alloc _) bb
        replace ow_x1 := own_bl (ow_x1.alloc _) bb
        replace ow_x2 := own_bl (ow_x2.alloc _) bb
        replace ow_g := own_bl (ow_g.alloc _) bb
        have sz7 : w6.heap.size + 1 ≤ w7.heap.size := by have := bb.size; simp only [World.size_alloc] at this; omega
        replace bel : Below w.heap.size w w7 := bl_to (by (repeat' (first | (with_reducible exact Below.refl _ _) | (with_reducible refine bl_alloc ?_ _) | (with_reducible refine bl_drewN ?_ _) | (with_reducible refine bl_drew ?_) | (with_reducible assumption) | (with_reducible refine bl_to ?_ (by assumption)) | (with_reducible refine Below.trans ?_ (by assumption)) | (with_reducible refine Below.trans ?_ (Below.mono (by assumption) ?_)) | (with_reducible refine bl_set ?_ ?_ _) | (simp; done) | (simp; omega) | omega))) bb
        clear kk ff zz bb
        go_upto_region 14 with (fail)
        go_cut [62] (fun s wx => s = .bool false ∧ Below w7.heap.size w7 wx)
        case first =>
          go_region_with (first | (go_at_call 60; refine (toCylinder_any st1 tr1 v1 l1 _ (hr1.bl (by (repeat' (first | (with_reducible exact Below.refl _ _) | (with_reducible refine bl_alloc ?_ _) | (with_reducible refine bl_drewN ?_ _) | (with_reducible refine bl_drew ?_) | (with_reducible assumption) | (with_reducible refine bl_to ?_ (by assumption)) | (with_reducible refine Below.trans ?_ (by assumption)) | (with_reducible refine Below.trans ?_ (Below.mono (by assumption) ?_)) | (with_reducible refine bl_set ?_ ?_ _) | (simp; done) | (simp; omega) | omega)))) hl1).mono ?_; rintro e wt ⟨At, ct, rfl, owt, bt⟩; obtain ⟨kt, ft, zt⟩ := bcell bt; have xt0 := (kt _ 0 yb_x1).trans bx_x1_0; have xt1 := (kt _ 1 yb_x1).trans bx_x1_1; have xt2 := (kt _ 2 yb_x1).trans bx_x1_2) | (go_at_call 61; refine (eqCylinder_any st1 tr1 _ _ l1 _ (Rd.of_own (own_bl (by first | exact ow_x1 | exact World.ownsRow.drew ow_x1) bt)) (Rd.of_own owt) hl1).mono ?_; rintro e wu ⟨rfl, bu⟩))
          all_goals (go_wp2_with fail; go_meet; exact ⟨rfl, by (repeat' (first | (with_reducible exact Below.refl _ _) | (with_reducible refine bl_alloc ?_ _) | (with_reducible refine bl_drewN ?_ _) | (with_reducible refine bl_drew ?_) | (with_reducible assumption) | (with_reducible refine bl_to ?_ (by assumption)) | (with_reducible refine Below.trans ?_ (by assumption)) | (with_reducible refine Below.trans ?_ (Below.mono (by assumption) ?_)) | (with_reducible refine bl_set ?_ ?_ _) | (simp; done) | (simp; omega) | omega))⟩)
        case rest =>
          obtain ⟨rfl, bb⟩ := hcut
          obtain ⟨w8, rfl⟩ : ∃ x : World, x = wc := ⟨_, rfl⟩
          obtain ⟨kk, ff, zz⟩ := bcell bb
          replace bx_d1_0 := (kk _ 0 yb_d1).trans bx_d1_0
          replace bx_d1_1 := (kk _ 1 yb_d1).trans bx_d1_1
          replace bx_d1_2 := (kk _ 2 yb_d1).trans bx_d1_2
          replace bx_d2_0 := (kk _ 0 yb_d2).trans bx_d2_0
          replace bx_d2_1 := (kk _ 1 yb_d2).trans bx_d2_1
          replace bx_s_0 := (kk _ 0 yb_s).trans bx_s_0
          replace bx_s_1 := (kk _ 1 yb_s).trans bx_s_1
          replace bx_s_2 := (kk _ 2 yb_s).trans bx_s_2
          replace bx_x1_0 := (kk _ 0 yb_x1).trans bx_x1_0
          replace bx_x1_1 := (kk _ 1 yb_x1).trans bx_x1_1
          replace bx_x1_2 := (kk _ 2 yb_x1).trans bx_x1_2
          replace bx_x2_0 := (kk _ 0 yb_x2).trans bx_x2_0
          replace bx_x2_1 := (kk _ 1 yb_x2).trans bx_x2_1
          replace bx_g_0 := (kk _ 0 yb_g).trans bx_g_0
          replace bx_g_1 := (kk _ 1 yb_g).trans bx_g_1
          replace bx_g_2 := (kk _ 2 yb_g).trans bx_g_2
          replace yb_d1 : w.heap.size < w8.heap.size := zz _ (by (first | omega | (simp; done) | (simp; omega)))
          replace yb_d2 : w.heap.size + 1 < w8.heap.size := zz _ (by (first | omega | (simp; done) | (simp; omega)))
          replace yb_s : Ds < w8.heap.size := zz _ (by (first | omega | (simp; done) | (simp; omega)))
          replace yb_x1 : w4.heap.size < w8.heap.size := zz _ (by (first | omega | (simp; done) | (simp; omega)))
          replace yb_x2 : w5.heap.size < w8.heap.size := zz _ (by (first | omega | (simp; done) | (simp; omega)))
          replace yb_g : w6.heap.size < w8.heap.size := zz _ (by (first | omega | (simp; done) | (simp; omega)))
          replace ow_s := own_bl ow_s bb
          replace ow_x1 := own_bl ow_x1 bb
          replace ow_x2 := own_bl ow_x2 bb
          replace ow_g := own_bl ow_g bb
          have sz8 : w7.heap.size ≤ w8.heap.size := bb.size
          replace bel : Below w.heap.size w w8 := bl_to (by (repeat' (first | (with_reducible exact Below.refl _ _) | (with_reducible refine bl_alloc ?_ _) | (with_reducible refine bl_drewN ?_ _) | (with_reducible refine bl_drew ?_) | (with_reducible assumption) | (with_reducible refine bl_to ?_ (by assumption)) | (with_reducible refine Below.trans ?_ (by assumption)) | (with_reducible refine Below.trans ?_ (Below.mono (by assumption) ?_)) | (with_reducible refine bl_set ?_ ?_ _) | (simp; done) | (simp; omega) | omega))) bb
          clear kk ff zz bb
          go_upto_region 16 with (fail)
          go_cut [67] (fun s wx => s = .bool false ∧ Below w8.heap.size w8 wx)
          case first =>
            go_region_with (first | (go_at_call 33; refine (toWear_any n2 v2 l2 _ (hr2.bl (by (repeat' (first | (with_reducible exact Below.refl _ _) | (with_reducible refine bl_alloc ?_ _) | (with_reducible refine bl_drewN ?_ _) | (with_reducible refine bl_drew ?_) | (with_reducible assumption) | (with_reducible refine bl_to ?_ (by assumption)) | (with_reducible refine Below.trans ?_ (by assumption)) | (with_reducible refine Below.trans ?_ (Below.mono (by assumption) ?_)) | (with_reducible refine bl_set ?_ ?_ _) | (simp; done) | (simp; omega) | omega)))) hl2).mono ?_; rintro e wt ⟨At, ct, rfl, owt, bt⟩; obtain ⟨kt, ft, zt⟩ := bcell bt; have xt0 := (kt _ 0 yb_x2).trans bx_x2_0; have xt1 := (kt _ 1 yb_x2).trans bx_x2_1) | (go_at_call 35; refine (eqWear_any n2 _ _ l2 _ (Rd.of_own (own_bl (by first | exact ow_x2 | exact World.ownsRow.drew ow_x2) bt)) (Rd.of_own owt) hl2).mono ?_; rintro e wu ⟨rfl, bu⟩))
            all_goals (go_wp2_with fail; go_meet; exact ⟨rfl, by (repeat' (first | (with_reducible exact Below.refl _ _) | (with_reducible refine bl_alloc ?_ _) | (with_reducible refine bl_drewN ?_ _) | (with_reducible refine bl_drew ?_) | (with_reducible assumption) | (with_reducible refine bl_to ?_ (by assumption)) | (with_reducible refine Below.trans ?_ (by assumption)) | (with_reducible refine Below.trans ?_ (Below.mono (by assumption) ?_)) | (with_reducible refine bl_set ?_ ?_ _) | (simp; done) | (simp; omega) | omega))⟩)
          case rest =>
            obtain ⟨rfl, bb⟩ := hcut
            obtain ⟨w9, rfl⟩ : ∃ x : World, x = wc := ⟨_, rfl⟩
            obtain ⟨kk, ff, zz⟩ := bcell bb
            replace bx_d1_0 := (kk _ 0 yb_d1).trans bx_d1_0
            replace bx_d1_1 := (kk _ 1 yb_d1).trans bx_d1_1
            replace bx_d1_2 := (kk _ 2 yb_d1).trans bx_d1_2
            replace bx_d2_0 := (kk _ 0 yb_d2).trans bx_d2_0
            replace bx_d2_1 := (kk _ 1 yb_d2).trans bx_d2_1
            replace bx_s_0 := (kk _ 0 yb_s).trans bx_s_0
            replace bx_s_1 := (kk _ 1 yb_s).trans bx_s_1
            replace bx_s_2 := (kk _ 2 yb_s).trans bx_s_2
            replace bx_x1_0 := (kk _ 0 yb_x1).trans bx_x1_0
            replace bx_x1_1 := (kk _ 1 yb_x1).trans bx_x1_1
            replace bx_x1_2 := (kk _ 2 yb_x1).trans bx_x1_2
            replace bx_x2_0 := (kk _ 0 yb_x2).trans bx_x2_0
            replace bx_x2_1 := (kk _ 1 yb_x2).trans bx_x2_1
            replace bx_g_0 := (kk _ 0 yb_g).trans bx_g_0
            replace bx_g_1 := (kk _ 1 yb_g).trans bx_g_1
            replace bx_g_2 := (kk _ 2 yb_g).trans bx_g_2
            replace yb_d1 : w.heap.size < w9.heap.size := zz _ (by (first | omega | (simp; done) | (simp; omega)))
            replace yb_d2 : w.heap.size + 1 < w9.heap.size := zz _ (by (first | omega | (simp; done) | (simp; omega)))
            replace yb_s : Ds < w9.heap.size := zz _ (by (first | omega | (simp; done) | (simp; omega)))
            replace yb_x1 : w4.heap.size < w9.heap.size := zz _ (by (first | omega | (simp; done) | (simp; omega)))
            replace yb_x2 : w5.heap.size < w9.heap.size := zz _ (by (first | omega | (simp; done) | (simp; omega)))
            replace yb_g : w6.heap.size < w9.heap.size := zz _ (by (first | omega | (simp; done) | (simp; omega)))
            replace ow_s := own_bl ow_s bb
            replace ow_x1 := own_bl ow_x1 bb
            replace ow_x2 := own_bl ow_x2 bb
            replace ow_g := own_bl ow_g bb
            have sz9 : w8.heap.size ≤ w9.heap.size := bb.size
            replace bel : Below w.heap.size w w9 := bl_to (by (repeat' (first | (with_reducible exact Below.refl _ _) | (with_reducible refine bl_alloc ?_ _) | (with_reducible refine bl_drewN ?_ _) | (with_reducible refine bl_drew ?_) | (with_reducible assumption) | (with_reducible refine bl_to ?_ (by assumption)) | (with_reducible refine Below.trans ?_ (by assumption)) | (with_reducible refine Below.trans ?_ (Below.mono (by assumption) ?_)) | (with_reducible refine bl_set ?_ ?_ _) | (simp; done) | (simp; omega) | omega))) bb
            clear kk ff zz bb
            go_wp2_with fail
            refine (markCylinder_any _ st1 tr1 _ l1 _ _ ow_x1 hl1 (by omega) (by omega)).mono ?_
            rintro e w10 ⟨rfl, om, gg⟩
            replace bx_d1_0 := (cell_grown gg yb_d1 (fun k hk => by have := in_x1.out k hk; omega) 0).trans bx_d1_0
            replace bx_d1_1 := (cell_grown gg yb_d1 (fun k hk => by have := in_x1.out k hk; omega) 1).trans bx_d1_1
            replace bx_d1_2 := (cell_grown gg yb_d1 (fun k hk => by have := in_x1.out k hk; omega) 2).trans bx_d1_2
            replace yb_d1 := Nat.lt_of_lt_of_le yb_d1 gg.size
            replace bx_d2_0 := (cell_grown gg yb_d2 (fun k hk => by have := in_x1.out k hk; omega) 0).trans bx_d2_0
            replace bx_d2_1 := (cell_grown gg yb_d2 (fun k hk => by have := in_x1.out k hk; omega) 1).trans bx_d2_1
            replace yb_d2 := Nat.lt_of_lt_of_le yb_d2 gg.size
            replace bx_s_0 := (cell_grown gg yb_s (fun k hk => by have := in_x1.out k hk; omega) 0).trans bx_s_0
            replace bx_s_1 := (cell_grown gg yb_s (fun k hk => by have := in_x1.out k hk; omega) 1).trans bx_s_1
            replace bx_s_2 := (cell_grown gg yb_s (fun k hk => by have := in_x1.out k hk; omega) 2).trans bx_s_2
            replace yb_s := Nat.lt_of_lt_of_le yb_s gg.size
            replace bx_x1_0 := (cell_grown gg yb_x1 (fun k hk => by have := in_x1.out k hk; omega) 0).trans bx_x1_0
            replace bx_x1_1 := (cell_grown gg yb_x1 (fun k hk => by have := in_x1.out k hk; omega) 1).trans bx_x1_1
            replace bx_x1_2 := (cell_grown gg yb_x1 (fun k hk => by have := in_x1.out k hk; omega) 2).trans bx_x1_2
            replace yb_x1 := Nat.lt_of_lt_of_le yb_x1 gg.size
            replace bx_x2_0 := (cell_grown gg yb_x2 (fun k hk => by have := in_x1.out k hk; omega) 0).trans bx_x2_0
            replace bx_x2_1 := (cell_grown gg yb_x2 (fun k hk => by have := in_x1.out k hk; omega) 1).trans bx_x2_1
            replace yb_x2 := Nat.lt_of_lt_of_le yb_x2 gg.size
            replace bx_g_0 := (cell_grown gg yb_g (fun k hk => by have := in_x1.out k hk; omega) 0).trans bx_g_0
            replace bx_g_1 := (cell_grown gg yb_g (fun k hk => by have := in_x1.out k hk; omega) 1).trans bx_g_1
            replace bx_g_2 := (cell_grown gg yb_g (fun k hk => by have := in_x1.out k hk; omega) 2).trans bx_g_2
            replace yb_g := Nat.lt_of_lt_of_le yb_g gg.size
            replace ow_s := ow_s.kept gg (own_apart in_s.out in_x1.out (by omega))
            replace ow_x2 := ow_x2.kept gg (own_apart in_x2.out in_x1.out (by omega))
            replace ow_g := ow_g.kept gg (own_apart in_g.out in_x1.out (by omega))
            replace ow_x1 := om
            have sz10 : w9.heap.size ≤ w10.heap.size := gg.size
            replace bel : Below w.heap.size w w10 := bl_grown bel gg (fun k hk => by have := in_x1.out k hk; omega)
            clear gg om
            go_wp2_with fail
            refine (markWear_any _ n2 _ l2 _ _ ow_x2 hl2 (by omega) (by omega)).mono ?_
            rintro e w11 ⟨rfl, om, gg⟩
            replace bx_d1_0 := (cell_grown gg yb_d1 (fun k hk => by have := in_x2.out k hk; omega) 0).trans bx_d1_0
            replace bx_d1_1 := (cell_grown gg yb_d1 (fun k hk => by have := in_x2.out k hk; omega) 1).trans bx_d1_1
            replace bx_d1_2 := (cell_grown gg yb_d1 (fun k hk => by have := in_x2.out k hk; omega) 2).trans bx_d1_2
            replace yb_d1 := Nat.lt_of_lt_of_le yb_d1 gg.size
            replace bx_d2_0 := (cell_grown gg yb_d2 (fun k hk => by have := in_x2.out k hk; omega) 0).trans bx_d2_0
            replace bx_d2_1 := (cell_grown gg yb_d2 (fun k hk => by have := in_x2.out k hk; omega) 1).trans bx_d2_1
            replace yb_d2 := Nat.lt_of_lt_of_le yb_d2 gg.size
            replace bx_s_0 := (cell_grown gg yb_s (fun k hk => by have := in_x2.out k hk; omega) 0).trans bx_s_0
            replace bx_s_1 := (cell_grown gg yb_s (fun k hk => by have := in_x2.out k hk; omega) 1).trans bx_s_1
            replace bx_s_2 := (cell_grown gg yb_s (fun k hk => by have := in_x2.out k hk; omega) 2).trans bx_s_2
            replace yb_s := Nat.lt_of_lt_of_le yb_s gg.size
            replace bx_x1_0 := (cell_grown gg yb_x1 (fun k hk => by have := in_x2.out k hk; omega) 0).trans bx_x1_0
            replace bx_x1_1 := (cell_grown gg yb_x1 (fun k hk => by have := in_x2.out k hk; omega) 1).trans bx_x1_1
            replace bx_x1_2 := (cell_grown gg yb_x1 (fun k hk => by have := in_x2.out k hk; omega) 2).trans bx_x1_2
            replace yb_x1 := Nat.lt_of_lt_of_le yb_x1 gg.size
            replace bx_x2_0 := (cell_grown gg yb_x2 (fun k hk => by have := in_x2.out k hk; omega) 0).trans bx_x2_0
            replace bx_x2_1 := (cell_grown gg yb_x2 (fun k hk => by have := in_x2.out k hk; omega) 1).trans bx_x2_1
            replace yb_x2 := Nat.lt_of_lt_of_le yb_x2 gg.size
            replace bx_g_0 := (cell_grown gg yb_g (fun k hk => by have := in_x2.out k hk; omega) 0).trans bx_g_0
            replace bx_g_1 := (cell_grown gg yb_g (fun k hk => by have := in_x2.out k hk; omega) 1).trans bx_g_1
            replace bx_g_2 := (cell_grown gg yb_g (fun k hk => by have := in_x2.out k hk; omega) 2).trans bx_g_2
            replace yb_g := Nat.lt_of_lt_of_le yb_g gg.size
            replace ow_s := ow_s.kept gg (own_apart in_s.out in_x2.out (by omega))
            replace ow_x1 := ow_x1.kept gg (own_apart in_x1.out in_x2.out (by omega))
            replace ow_g := ow_g.kept gg (own_apart in_g.out in_x2.out (by omega))
            replace ow_x2 := om
            have sz11 : w10.heap.size ≤ w11.heap.size := gg.size
            replace bel : Below w.heap.size w w11 := bl_grown bel gg (fun k hk => by have := in_x2.out k hk; omega)
            clear gg om
            go_wp2_with fail
            refine (eqCylinder_any (wosS st1 tr1 l1 n2 l2 m) (wosT st1 tr1 l1 n2 l2 m) _ _ (wosL st1 tr1 l1 n2 l2 m) _ (Rd.of_own ow_g) (Rd.of_own ow_s) hlR).mono ?_
            rintro e w12 ⟨rfl, bb⟩
            obtain ⟨kk, ff, zz⟩ := bcell bb
            replace bx_d1_0 := (kk _ 0 yb_d1).trans bx_d1_0
            replace bx_d1_1 := (kk _ 1 yb_d1).trans bx_d1_1
            replace bx_d1_2 := (kk _ 2 yb_d1).trans bx_d1_2
            replace bx_d2_0 := (kk _ 0 yb_d2).trans bx_d2_0
            replace bx_d2_1 := (kk _ 1 yb_d2).trans bx_d2_1
            replace bx_s_0 := (kk _ 0 yb_s).trans bx_s_0
            replace bx_s_1 := (kk _ 1 yb_s).trans bx_s_1
            replace bx_s_2 := (kk _ 2 yb_s).trans bx_s_2
            replace bx_x1_0 := (kk _ 0 yb_x1).trans bx_x1_0
            replace bx_x1_1 := (kk _ 1 yb_x1).trans bx_x1_1
            replace bx_x1_2 := (kk _ 2 yb_x1).trans bx_x1_2
            replace bx_x2_0 := (kk _ 0 yb_x2).trans bx_x2_0
            replace bx_x2_1 := (kk _ 1 yb_x2).trans bx_x2_1
            replace bx_g_0 := (kk _ 0 yb_g).trans bx_g_0
            replace bx_g_1 := (kk _ 1 yb_g).trans bx_g_1
            replace bx_g_2 := (kk _ 2 yb_g).trans bx_g_2
            replace yb_d1 : w.heap.size < w12.heap.size := zz _ (by (first | omega | (simp; done) | (simp; omega)))
            replace yb_d2 : w.heap.size + 1 < w12.heap.size := zz _ (by (first | omega | (simp; done) | (simp; omega)))
            replace yb_s : Ds < w12.heap.size := zz _ (by (first | omega | (simp; done) | (simp; omega)))
            replace yb_x1 : w4.heap.size < w12.heap.size := zz _ (by (first | omega | (simp; done) | (simp; omega)))
            replace yb_x2 : w5.heap.size < w12.heap.size := zz _ (by (first | omega | (simp; done) | (simp; omega)))
            replace yb_g : w6.heap.size < w12.heap.size := zz _ (by (first | omega | (simp; done) | (simp; omega)))
            replace ow_s := own_bl ow_s bb
            replace ow_x1 := own_bl ow_x1 bb
            replace ow_x2 := own_bl ow_x2 bb
            replace ow_g := own_bl ow_g bb
            have sz12 : w11.heap.size ≤ w12.heap.size := bb.size
            replace bel : Below w.heap.size w w12 := bl_to (by (repeat' (first | (with_reducible exact Below.refl _ _) | (with_reducible refine bl_alloc ?_ _) | (with_reducible refine bl_drewN ?_ _) | (with_reducible refine bl_drew ?_) | (with_reducible assumption) | (with_reducible refine bl_to ?_ (by assumption)) | (with_reducible refine Below.trans ?_ (by assumption)) | (with_reducible refine Below.trans ?_ (Below.mono (by assumption) ?_)) | (with_reducible refine bl_set ?_ ?_ _) | (simp; done) | (simp; omega) | omega))) bb
            clear kk ff zz bb
            go_wp2_with fail
            refine (markCylinder_any _ (wosS st1 tr1 l1 n2 l2 m) (wosT st1 tr1 l1 n2 l2 m) _ (wosL st1 tr1 l1 n2 l2 m) 1 _ ow_g hlR (by omega) (by omega)).mono ?_
            rintro e w13 ⟨rfl, om, gg⟩
            replace bx_d1_0 := (cell_grown gg yb_d1 (fun k hk => by have := in_g.out k hk; omega) 0).trans bx_d1_0
            replace bx_d1_1 := (cell_grown gg yb_d1 (fun k hk => by have := in_g.out k hk; omega) 1).trans bx_d1_1
            replace bx_d1_2 := (cell_grown gg yb_d1 (fun k hk => by have := in_g.out k hk; omega) 2).trans bx_d1_2
            replace yb_d1 := Nat.lt_of_lt_of_le yb_d1 gg.size
            replace bx_d2_0 := (cell_grown gg yb_d2 (fun k hk => by have := in_g.out k hk; omega) 0).trans bx_d2_0
            replace bx_d2_1 := (cell_grown gg yb_d2 (fun k hk => by have := in_g.out k hk; omega) 1).trans bx_d2_1
            replace yb_d2 := Nat.lt_of_lt_of_le yb_d2 gg.size
            replace bx_s_0 := (cell_grown gg yb_s (fun k hk => by have := in_g.out k hk; omega) 0).trans bx_s_0
            replace bx_s_1 := (cell_grown gg yb_s (fun k hk => by have := in_g.out k hk; omega) 1).trans bx_s_1
            replace bx_s_2 := (cell_grown gg yb_s (fun k hk => by have := in_g.out k hk; omega) 2).trans bx_s_2
            replace yb_s := Nat.lt_of_lt_of_le yb_s gg.size
            replace bx_x1_0 := (cell_grown gg yb_x1 (fun k hk => by have := in_g.out k hk; omega) 0).trans bx_x1_0
            replace bx_x1_1 := (cell_grown gg yb_x1 (fun k hk => by have := in_g.out k hk; omega) 1).trans bx_x1_1
            replace bx_x1_2 := (cell_grown gg yb_x1 (fun k hk => by have := in_g.out k hk; omega) 2).trans bx_x1_2
            replace yb_x1 := Nat.lt_of_lt_of_le yb_x1 gg.size
            replace bx_x2_0 := (cell_grown gg yb_x2 (fun k hk => by have := in_g.out k hk; omega) 0).trans bx_x2_0
            replace bx_x2_1 := (cell_grown gg yb_x2 (fun k hk => by have := in_g.out k hk; omega) 1).trans bx_x2_1
            replace yb_x2 := Nat.lt_of_lt_of_le yb_x2 gg.size
            replace bx_g_0 := (cell_grown gg yb_g (fun k hk => by have := in_g.out k hk; omega) 0).trans bx_g_0
            replace bx_g_1 := (cell_grown gg yb_g (fun k hk => by have := in_g.out k hk; omega) 1).trans bx_g_1
            replace bx_g_2 := (cell_grown gg yb_g (fun k hk => by have := in_g.out k hk; omega) 2).trans bx_g_2
            replace yb_g := Nat.lt_of_lt_of_le yb_g gg.size
            replace ow_s := ow_s.kept gg (own_apart in_s.out in_g.out (by omega))
            replace ow_x1 := ow_x1.kept gg (own_apart in_x1.out in_g.out (by omega))
            replace ow_x2 := ow_x2.kept gg (own_apart in_x2.out in_g.out (by omega))
            replace ow_g := om
            have sz13 : w12.heap.size ≤ w13.heap.size := gg.size
            replace bel : Below w.heap.size w w13 := bl_grown bel gg (fun k hk => by have := in_g.out k hk; omega)
            clear gg om
            go_wp2_with fail
            refine (heldCylinder_any (wosS st1 tr1 l1 n2 l2 m) (wosT st1 tr1 l1 n2 l2 m) _ (wosL st1 tr1 l1 n2 l2 m).length 1 _ (Rd.of_own ow_g) hlR (by omega) (by omega)).mono ?_
            rintro e w14 ⟨rfl, bb⟩
            obtain ⟨kk, ff, zz⟩ := bcell bb
            replace bx_d1_0 := (kk _ 0 yb_d1).trans bx_d1_0
            replace bx_d1_1 := (kk _ 1 yb_d1).trans bx_d1_1
            replace bx_d1_2 := (kk _ 2 yb_d1).trans bx_d1_2
            replace bx_d2_0 := (kk _ 0 yb_d2).trans bx_d2_0
            replace bx_d2_1 := (kk _ 1 yb_d2).trans bx_d2_1
            replace bx_s_0 := (kk _ 0 yb_s).trans bx_s_0
            replace bx_s_1 := (kk _ 1 yb_s).trans bx_s_1
            replace bx_s_2 := (kk _ 2 yb_s).trans bx_s_2
            replace bx_x1_0 := (kk _ 0 yb_x1).trans bx_x1_0
            replace bx_x1_1 := (kk _ 1 yb_x1).trans bx_x1_1
            replace bx_x1_2 := (kk _ 2 yb_x1).trans bx_x1_2
            replace bx_x2_0 := (kk _ 0 yb_x2).trans bx_x2_0
            replace bx_x2_1 := (kk _ 1 yb_x2).trans bx_x2_1
            replace bx_g_0 := (kk _ 0 yb_g).trans bx_g_0
            replace bx_g_1 := (kk _ 1 yb_g).trans bx_g_1
            replace bx_g_2 := (kk _ 2 yb_g).trans bx_g_2
            replace yb_d1 : w.heap.size < w14.heap.size := zz _ (by (first | omega | (simp; done) | (simp; omega)))
            replace yb_d2 : w.heap.size + 1 < w14.heap.size := zz _ (by (first | omega | (simp; done) | (simp; omega)))
            replace yb_s : Ds < w14.heap.size := zz _ (by (first | omega | (simp; done) | (simp; omega)))
            replace yb_x1 : w4.heap.size < w14.heap.size := zz _ (by (first | omega | (simp; done) | (simp; omega)))
            replace yb_x2 : w5.heap.size < w14.heap.size := zz _ (by (first | omega | (simp; done) | (simp; omega)))
            replace yb_g : w6.heap.size < w14.heap.size := zz _ (by (first | omega | (simp; done) | (simp; omega)))
            replace ow_s := own_bl ow_s bb
            replace ow_x1 := own_bl ow_x1 bb
            replace ow_x2 := own_bl ow_x2 bb
            replace ow_g := own_bl ow_g bb
            have sz14 : w13.heap.size ≤ w14.heap.size := bb.size
            replace bel : Below w.heap.size w w14 := bl_to (by (repeat' (first | (with_reducible exact Below.refl _ _) | (with_reducible refine bl_alloc ?_ _) | (with_reducible refine bl_drewN ?_ _) | (with_reducible refine bl_drew ?_) | (with_reducible assumption) | (with_reducible refine bl_to ?_ (by assumption)) | (with_reducible refine Below.trans ?_ (by assumption)) | (with_reducible refine Below.trans ?_ (Below.mono (by assumption) ?_)) | (with_reducible refine bl_set ?_ ?_ _) | (simp; done) | (simp; omega) | omega))) bb
            clear kk ff zz bb
            have HX_h := Lib.hid (And.intro bx_s_0 (And.intro bx_s_1 (And.intro bx_s_2 (And.intro bx_x1_0 (And.intro bx_x1_1 (And.intro bx_x1_2 (And.intro bx_x2_0 (And.intro bx_x2_1 (And.intro bx_g_0 (And.intro bx_g_1 (And.intro bx_g_2 (And.intro yb_s (And.intro yb_x1 (And.intro yb_x2 (And.intro yb_g (And.intro ow_s (And.intro ow_x1 (And.intro ow_x2 (And.intro ow_g (And.intro sz1 (And.intro sz2 (And.intro sz3 (And.intro sz4 (And.intro sz5 (And.intro sz6 (And.intro sz7 (And.intro sz8 (And.intro sz9 (And.intro sz10 (And.intro sz11 (And.intro sz12 (And.intro sz13 sz14))))))))))))))))))))))))))))))))
            clear bx_s_0 bx_s_1 bx_s_2 bx_x1_0 bx_x1_1 bx_x1_2 bx_x2_0 bx_x2_1 bx_g_0 bx_g_1 bx_g_2 yb_s yb_x1 yb_x2 yb_g ow_s ow_x1 ow_x2 ow_g sz1 sz2 sz3 sz4 sz5 sz6 sz7 sz8 sz9 sz10 sz11 sz12 sz13 sz14
            go_upto_region 31 with (fail)
            go_cut [17, 18] (fun s q wx => CylinderMade w14 (wosS st1 tr1 l1 n2 l2 m) (wosT st1 tr1 l1 n2 l2 m) (wosL st1 tr1 l1 n2 l2 m) (wosB st1 tr1 l1 n2 l2 m) s q wx)
            case first =>
              go_region_held3 (fun w' => w'.cell? ⟨w.heap.size, 0, none⟩ = some (.int .i64 st1) ∧ w'.cell? ⟨w.heap.size, 1, none⟩ = some (.int .i64 tr1) ∧ w'.cell? ⟨w.heap.size, 2, none⟩ = some (v1) ∧ w'.cell? ⟨w.heap.size + 1, 0, none⟩ = some (v2) ∧ w'.cell? ⟨w.heap.size + 1, 1, none⟩ = some (.int .i64 n2)) (first | exact ⟨sC_d1_0, sC_d1_1, sC_d1_2, sC_d2_0, sC_d2_1⟩ | exact ⟨sB_d1_0, sB_d1_1, sB_d1_2, sB_d2_0, sB_d2_1⟩ | exact ⟨sA_d1_0, sA_d1_1, sA_d1_2, sA_d2_0, sA_d2_1⟩ | exact ⟨(cell_nn (cell_nn (cell_nn sC_d1_0 (by omega)) (by omega)) (by omega)), (cell_nn (cell_nn (cell_nn sC_d1_1 (by omega)) (by omega)) (by omega)), (cell_nn (cell_nn (cell_nn sC_d1_2 (by omega)) (by omega)) (by omega)), (cell_nn (cell_nn (cell_nn sC_d2_0 (by omega)) (by omega)) (by omega)), (cell_nn (cell_nn (cell_nn sC_d2_1 (by omega)) (by omega)) (by omega))⟩ | go_keep) (first | (go_at_call 53; refine (wosI_any st1 tr1 n2 m _ _ l1 l2 _ ((Rd.of_own owA).bl (by (repeat' (first | (with_reducible exact Below.refl _ _) | (with_reducible refine bl_alloc ?_ _) | (with_reducible refine bl_drewN ?_ _) | (with_reducible refine bl_drew ?_) | (with_reducible assumption) | (with_reducible refine bl_to ?_ (by assumption)) | (with_reducible refine Below.trans ?_ (by assumption)) | (with_reducible refine Below.trans ?_ (Below.mono (by assumption) ?_)) | (with_reducible refine bl_set ?_ ?_ _) | (simp; done) | (simp; omega) | omega)))) ((Rd.of_own owB).bl (by (repeat' (first | (with_reducible exact Below.refl _ _) | (with_reducible refine bl_alloc ?_ _) | (with_reducible refine bl_drewN ?_ _) | (with_reducible refine bl_drew ?_) | (with_reducible assumption) | (with_reducible refine bl_to ?_ (by assumption)) | (with_reducible refine Below.trans ?_ (by assumption)) | (with_reducible refine Below.trans ?_ (Below.mono (by assumption) ?_)) | (with_reducible refine bl_set ?_ ?_ _) | (simp; done) | (simp; omega) | omega)))) hl1 hl2).mono ?_; rintro e wC ⟨AC, cC, rfl, owC, bC⟩; obtain ⟨kC, fC, zC⟩ := bcell bC; have yC_d1 : w.heap.size < wC.heap.size := zC _ (by (first | omega | (simp; done) | (simp; omega))); have yC_d2 : w.heap.size + 1 < wC.heap.size := zC _ (by (first | omega | (simp; done) | (simp; omega))); have sC_d1_0 : wC.cell? ⟨w.heap.size, 0, none⟩ = some (.int .i64 st1) := (kC _ _ (by (first | omega | (simp; done) | (simp; omega)))).trans (by first | exact bx_d1_0 | (simp [go_sem, bx_d1_0, yb_d1]; done) | exact sA_d1_0 | (simp [go_sem, sA_d1_0, yA_d1]; done) | exact sB_d1_0 | (simp [go_sem, sB_d1_0, yB_d1]; done)); have sC_d1_1 : wC.cell? ⟨w.heap.size, 1, none⟩ = some (.int .i64 tr1) := (kC _ _ (by (first | omega | (simp; done) | (simp; omega)))).trans (by first | exact bx_d1_1 | (simp [go_sem, bx_d1_1, yb_d1]; done) | exact sA_d1_1 | (simp [go_sem, sA_d1_1, yA_d1]; done) | exact sB_d1_1 | (simp [go_sem, sB_d1_1, yB_d1]; done)); have sC_d1_2 : wC.cell? ⟨w.heap.size, 2, none⟩ = some (v1) := (kC _ _ (by (first | omega | (simp; done) | (simp; omega)))).trans (by first | exact bx_d1_2 | (simp [go_sem, bx_d1_2, yb_d1]; done) | exact sA_d1_2 | (simp [go_sem, sA_d1_2, yA_d1]; done) | exact sB_d1_2 | (simp [go_sem, sB_d1_2, yB_d1]; done)); have sC_d2_0 : wC.cell? ⟨w.heap.size + 1, 0, none⟩ = some (v2) := (kC _ _ (by (first | omega | (simp; done) | (simp; omega)))).trans (by first | exact bx_d2_0 | (simp [go_sem, bx_d2_0, yb_d2]; done) | exact sA_d2_0 | (simp [go_sem, sA_d2_0, yA_d2]; done) | exact sB_d2_0 | (simp [go_sem, sB_d2_0, yB_d2]; done)); have sC_d2_1 : wC.cell? ⟨w.heap.size + 1, 1, none⟩ = some (.int .i64 n2) := (kC _ _ (by (first | omega | (simp; done) | (simp; omega)))).trans (by first | exact bx_d2_1 | (simp [go_sem, bx_d2_1, yb_d2]; done) | exact sA_d2_1 | (simp [go_sem, sA_d2_1, yA_d2]; done) | exact sB_d2_1 | (simp [go_sem, sB_d2_1, yB_d2]; done)); have szC := bC.size; (try (have qq : ∀ x : World, x.drew.heap.size = x.heap.size := fun _ => rfl; simp only [qq, World.size_alloc] at szC; clear qq)); (try (have rr : wC.cell? ⟨w14.heap.size, 0, none⟩ = some (.int .i64 0) ∧ wC.cell? ⟨w14.heap.size, 1, none⟩ = some (.int .i64 0) ∧ wC.cell? ⟨w14.heap.size, 2, none⟩ = some (.slice none 0 0) ∧ wC.frozen? ⟨w14.heap.size, 0, none⟩ = false ∧ wC.frozen? ⟨w14.heap.size, 1, none⟩ = false ∧ wC.frozen? ⟨w14.heap.size, 2, none⟩ = false := ⟨(kC _ _ (by (first | omega | (simp; done) | (simp; omega)))).trans (by first | exact rB0_k0 | (simp [go_sem]; done)), (kC _ _ (by (first | omega | (simp; done) | (simp; omega)))).trans (by first | exact rB0_k1 | (simp [go_sem]; done)), (kC _ _ (by (first | omega | (simp; done) | (simp; omega)))).trans (by first | exact rB0_k2 | (simp [go_sem]; done)), (fC _ _ (by (first | omega | (simp; done) | (simp; omega)))).trans (by first | exact rB0_f0 | (simp [go_sem]; done)), (fC _ _ (by (first | omega | (simp; done) | (simp; omega)))).trans (by first | exact rB0_f1 | (simp [go_sem]; done)), (fC _ _ (by (first | omega | (simp; done) | (simp; omega)))).trans (by first | exact rB0_f2 | (simp [go_sem]; done))⟩; obtain ⟨rC0_k0, rC0_k1, rC0_k2, rC0_f0, rC0_f1, rC0_f2⟩ := rr)); (try (have rr : wC.cell? ⟨wA.heap.size, 0, none⟩ = some (.int .i64 0) ∧ wC.cell? ⟨wA.heap.size, 1, none⟩ = some (.int .i64 0) ∧ wC.cell? ⟨wA.heap.size, 2, none⟩ = some (.slice none 0 0) ∧ wC.frozen? ⟨wA.heap.size, 0, none⟩ = false ∧ wC.frozen? ⟨wA.heap.size, 1, none⟩ = false ∧ wC.frozen? ⟨wA.heap.size, 2, none⟩ = false := ⟨(kC _ _ (by (first | omega | (simp; done) | (simp; omega)))).trans (by first | exact rB1_k0 | (simp [go_sem]; done)), (kC _ _ (by (first | omega | (simp; done) | (simp; omega)))).trans (by first | exact rB1_k1 | (simp [go_sem]; done)), (kC _ _ (by (first | omega | (simp; done) | (simp; omega)))).trans (by first | exact rB1_k2 | (simp [go_sem]; done)), (fC _ _ (by (first | omega | (simp; done) | (simp; omega)))).trans (by first | exact rB1_f0 | (simp [go_sem]; done)), (fC _ _ (by (first | omega | (simp; done) | (simp; omega)))).trans (by first | exact rB1_f1 | (simp [go_sem]; done)), (fC _ _ (by (first | omega | (simp; done) | (simp; omega)))).trans (by first | exact rB1_f2 | (simp [go_sem]; done))⟩; obtain ⟨rC1_k0, rC1_k1, rC1_k2, rC1_f0, rC1_f1, rC1_f2⟩ := rr)); (try (have rr : wC.cell? ⟨wB.heap.size, 0, none⟩ = some (.int .i64 0) ∧ wC.cell? ⟨wB.heap.size, 1, none⟩ = some (.int .i64 0) ∧ wC.cell? ⟨wB.heap.size, 2, none⟩ = some (.slice none 0 0) ∧ wC.frozen? ⟨wB.heap.size, 0, none⟩ = false ∧ wC.frozen? ⟨wB.heap.size, 1, none⟩ = false ∧ wC.frozen? ⟨wB.heap.size, 2, none⟩ = false := ⟨(kC _ _ (by (first | omega | (simp; done) | (simp; omega)))).trans (by first | (simp [go_sem]; done)), (kC _ _ (by (first | omega | (simp; done) | (simp; omega)))).trans (by first | (simp [go_sem]; done)), (kC _ _ (by (first | omega | (simp; done) | (simp; omega)))).trans (by first | (simp [go_sem]; done)), (fC _ _ (by (first | omega | (simp; done) | (simp; omega)))).trans (by first | (simp [go_sem]; done)), (fC _ _ (by (first | omega | (simp; done) | (simp; omega)))).trans (by first | (simp [go_sem]; done)), (fC _ _ (by (first | omega | (simp; done) | (simp; omega)))).trans (by first | (simp [go_sem]; done))⟩; obtain ⟨rC2_k0, rC2_k1, rC2_k2, rC2_f0, rC2_f1, rC2_f2⟩ := rr))) | (go_at_call 33; have tok := kA; clear tok; refine (toWear_any n2 v2 l2 _ (hr2.bl (by (repeat' (first | (with_reducible exact Below.refl _ _) | (with_reducible refine bl_alloc ?_ _) | (with_reducible refine bl_drewN ?_ _) | (with_reducible refine bl_drew ?_) | (with_reducible assumption) | (with_reducible refine bl_to ?_ (by assumption)) | (with_reducible refine Below.trans ?_ (by assumption)) | (with_reducible refine Below.trans ?_ (Below.mono (by assumption) ?_)) | (with_reducible refine bl_set ?_ ?_ _) | (simp; done) | (simp; omega) | omega)))) hl2).mono ?_; rintro e wB ⟨AB, cB, rfl, owB, bB⟩; obtain ⟨kB, fB, zB⟩ := bcell bB; have yB_d1 : w.heap.size < wB.heap.size := zB _ (by (first | omega | (simp; done) | (simp; omega))); have yB_d2 : w.heap.size + 1 < wB.heap.size := zB _ (by (first | omega | (simp; done) | (simp; omega))); have sB_d1_0 : wB.cell? ⟨w.heap.size, 0, none⟩ = some (.int .i64 st1) := (kB _ _ (by (first | omega | (simp; done) | (simp; omega)))).trans (by first | exact bx_d1_0 | (simp [go_sem, bx_d1_0, yb_d1]; done) | exact sA_d1_0 | (simp [go_sem, sA_d1_0, yA_d1]; done)); have sB_d1_1 : wB.cell? ⟨w.heap.size, 1, none⟩ = some (.int .i64 tr1) := (kB _ _ (by (first | omega | (simp; done) | (simp; omega)))).trans (by first | exact bx_d1_1 | (simp [go_sem, bx_d1_1, yb_d1]; done) | exact sA_d1_1 | (simp [go_sem, sA_d1_1, yA_d1]; done)); have sB_d1_2 : wB.cell? ⟨w.heap.size, 2, none⟩ = some (v1) := (kB _ _ (by (first | omega | (simp; done) | (simp; omega)))).trans (by first | exact bx_d1_2 | (simp [go_sem, bx_d1_2, yb_d1]; done) | exact sA_d1_2 | (simp [go_sem, sA_d1_2, yA_d1]; done)); have sB_d2_0 : wB.cell? ⟨w.heap.size + 1, 0, none⟩ = some (v2) := (kB _ _ (by (first | omega | (simp; done) | (simp; omega)))).trans (by first | exact bx_d2_0 | (simp [go_sem, bx_d2_0, yb_d2]; done) | exact sA_d2_0 | (simp [go_sem, sA_d2_0, yA_d2]; done)); have sB_d2_1 : wB.cell? ⟨w.heap.size + 1, 1, none⟩ = some (.int .i64 n2) := (kB _ _ (by (first | omega | (simp; done) | (simp; omega)))).trans (by first | exact bx_d2_1 | (simp [go_sem, bx_d2_1, yb_d2]; done) | exact sA_d2_1 | (simp [go_sem, sA_d2_1, yA_d2]; done)); have szB := bB.size; (try (have qq : ∀ x : World, x.drew.heap.size = x.heap.size := fun _ => rfl; simp only [qq, World.size_alloc] at szB; clear qq)); (try (have rr : wB.cell? ⟨w14.heap.size, 0, none⟩ = some (.int .i64 0) ∧ wB.cell? ⟨w14.heap.size, 1, none⟩ = some (.int .i64 0) ∧ wB.cell? ⟨w14.heap.size, 2, none⟩ = some (.slice none 0 0) ∧ wB.frozen? ⟨w14.heap.size, 0, none⟩ = false ∧ wB.frozen? ⟨w14.heap.size, 1, none⟩ = false ∧ wB.frozen? ⟨w14.heap.size, 2, none⟩ = false := ⟨(kB _ _ (by (first | omega | (simp; done) | (simp; omega)))).trans (by first | exact rA0_k0 | (simp [go_sem]; done)), (kB _ _ (by (first | omega | (simp; done) | (simp; omega)))).trans (by first | exact rA0_k1 | (simp [go_sem]; done)), (kB _ _ (by (first | omega | (simp; done) | (simp; omega)))).trans (by first | exact rA0_k2 | (simp [go_sem]; done)), (fB _ _ (by (first | omega | (simp; done) | (simp; omega)))).trans (by first | exact rA0_f0 | (simp [go_sem]; done)), (fB _ _ (by (first | omega | (simp; done) | (simp; omega)))).trans (by first | exact rA0_f1 | (simp [go_sem]; done)), (fB _ _ (by (first | omega | (simp; done) | (simp; omega)))).trans (by first | exact rA0_f2 | (simp [go_sem]; done))⟩; obtain ⟨rB0_k0, rB0_k1, rB0_k2, rB0_f0, rB0_f1, rB0_f2⟩ := rr)); (try (have rr : wB.cell? ⟨wA.heap.size, 0, none⟩ = some (.int .i64 0) ∧ wB.cell? ⟨wA.heap.size, 1, none⟩ = some (.int .i64 0) ∧ wB.cell? ⟨wA.heap.size, 2, none⟩ = some (.slice none 0 0) ∧ wB.frozen? ⟨wA.heap.size, 0, none⟩ = false ∧ wB.frozen? ⟨wA.heap.size, 1, none⟩ = false ∧ wB.frozen? ⟨wA.heap.size, 2, none⟩ = false := ⟨(kB _ _ (by (first | omega | (simp; done) | (simp; omega)))).trans (by first | (simp [go_sem]; done)), (kB _ _ (by (first | omega | (simp; done) | (simp; omega)))).trans (by first | (simp [go_sem]; done)), (kB _ _ (by (first | omega | (simp; done) | (simp; omega)))).trans (by first | (simp [go_sem]; done)), (fB _ _ (by (first | omega | (simp; done) | (simp; omega)))).trans (by first | (simp [go_sem]; done)), (fB _ _ (by (first | omega | (simp; done) | (simp; omega)))).trans (by first | (simp [go_sem]; done)), (fB _ _ (by (first | omega | (simp; done) | (simp; omega)))).trans (by first | (simp [go_sem]; done))⟩; obtain ⟨rB1_k0, rB1_k1, rB1_k2, rB1_f0, rB1_f1, rB1_f2⟩ := rr))) | (go_at_call 60; refine (toCylinder_any st1 tr1 v1 l1 _ (hr1.bl (by (repeat' (first | (with_reducible exact Below.refl _ _) | (with_reducible refine bl_alloc ?_ _) | (with_reducible refine bl_drewN ?_ _) | (with_reducible refine bl_drew ?_) | (with_reducible assumption) | (with_reducible refine bl_to ?_ (by assumption)) | (with_reducible refine Below.trans ?_ (by assumption)) | (with_reducible refine Below.trans ?_ (Below.mono (by assumption) ?_)) | (with_reducible refine bl_set ?_ ?_ _) | (simp; done) | (simp; omega) | omega)))) hl1).mono ?_; rintro e wA ⟨AA, cA, rfl, owA, bA⟩; obtain ⟨kA, fA, zA⟩ := bcell bA; have yA_d1 : w.heap.size < wA.heap.size := zA _ (by (first | omega | (simp; done) | (simp; omega))); have yA_d2 : w.heap.size + 1 < wA.heap.size := zA _ (by (first | omega | (simp; done) | (simp; omega))); have sA_d1_0 : wA.cell? ⟨w.heap.size, 0, none⟩ = some (.int .i64 st1) := (kA _ _ (by (first | omega | (simp; done) | (simp; omega)))).trans (by first | exact bx_d1_0 | (simp [go_sem, bx_d1_0, yb_d1]; done) | exact sB_d1_0 | (simp [go_sem, sB_d1_0, yB_d1]; done)); have sA_d1_1 : wA.cell? ⟨w.heap.size, 1, none⟩ = some (.int .i64 tr1) := (kA _ _ (by (first | omega | (simp; done) | (simp; omega)))).trans (by first | exact bx_d1_1 | (simp [go_sem, bx_d1_1, yb_d1]; done) | exact sB_d1_1 | (simp [go_sem, sB_d1_1, yB_d1]; done)); have sA_d1_2 : wA.cell? ⟨w.heap.size, 2, none⟩ = some (v1) := (kA _ _ (by (first | omega | (simp; done) | (simp; omega)))).trans (by first | exact bx_d1_2 | (simp [go_sem, bx_d1_2, yb_d1]; done) | exact sB_d1_2 | (simp [go_sem, sB_d1_2, yB_d1]; done)); have sA_d2_0 : wA.cell? ⟨w.heap.size + 1, 0, none⟩ = some (v2) := (kA _ _ (by (first | omega | (simp; done) | (simp; omega)))).trans (by first | exact bx_d2_0 | (simp [go_sem, bx_d2_0, yb_d2]; done) | exact sB_d2_0 | (simp [go_sem, sB_d2_0, yB_d2]; done)); have sA_d2_1 : wA.cell? ⟨w.heap.size + 1, 1, none⟩ = some (.int .i64 n2) := (kA _ _ (by (first | omega | (simp; done) | (simp; omega)))).trans (by first | exact bx_d2_1 | (simp [go_sem, bx_d2_1, yb_d2]; done) | exact sB_d2_1 | (simp [go_sem, sB_d2_1, yB_d2]; done)); have szA := bA.size; (try (have qq : ∀ x : World, x.drew.heap.size = x.heap.size := fun _ => rfl; simp only [qq, World.size_alloc] at szA; clear qq)); (try (have rr : wA.cell? ⟨w14.heap.size, 0, none⟩ = some (.int .i64 0) ∧ wA.cell? ⟨w14.heap.size, 1, none⟩ = some (.int .i64 0) ∧ wA.cell? ⟨w14.heap.size, 2, none⟩ = some (.slice none 0 0) ∧ wA.frozen? ⟨w14.heap.size, 0, none⟩ = false ∧ wA.frozen? ⟨w14.heap.size, 1, none⟩ = false ∧ wA.frozen? ⟨w14.heap.size, 2, none⟩ = false := ⟨(kA _ _ (by (first | omega | (simp; done) | (simp; omega)))).trans (by first | (simp [go_sem]; done)), (kA _ _ (by (first | omega | (simp; done) | (simp; omega)))).trans (by first | (simp [go_sem]; done)), (kA _ _ (by (first | omega | (simp; done) | (simp; omega)))).trans (by first | (simp [go_sem]; done)), (fA _ _ (by (first | omega | (simp; done) | (simp; omega)))).trans (by first | (simp [go_sem]; done)), (fA _ _ (by (first | omega | (simp; done) | (simp; omega)))).trans (by first | (simp [go_sem]; done)), (fA _ _ (by (first | omega | (simp; done) | (simp; omega)))).trans (by first | (simp [go_sem]; done))⟩; obtain ⟨rA0_k0, rA0_k1, rA0_k2, rA0_f0, rA0_f1, rA0_f2⟩ := rr))))
              all_goals
                go_wp2
                go_meet
                first
                  | (refine ⟨_, AC, cC, rfl, rfl, ?_⟩; (with_reducible refine CylinderBx.new ?gb ?gh (own_lo owC ?go)); (case gb => (repeat' (first | (with_reducible exact Below.refl _ _) | (with_reducible refine bl_alloc ?_ _) | (with_reducible refine bl_drewN ?_ _) | (with_reducible refine bl_drew ?_) | (with_reducible assumption) | (with_reducible refine bl_to ?_ (by assumption)) | (with_reducible refine Below.trans ?_ (by assumption)) | (with_reducible refine Below.trans ?_ (Below.mono (by assumption) ?_)) | (with_reducible refine bl_set ?_ ?_ _) | (simp; done) | (simp; omega) | omega))); (case gh => (first | omega | (simp; done) | (simp; omega))); (case go => (first | omega | (simp; done) | (simp; omega))))
                  | (refine ⟨_, AC, cC, rfl, rfl, ?_⟩; (with_reducible refine CylinderBx.old ?gb ?gh ?gd (own_lo owC ?go) ?gn ?g0 ?g1 ?g2 ?g3); (case gb => (repeat' (first | (with_reducible exact Below.refl _ _) | (with_reducible refine bl_alloc ?_ _) | (with_reducible refine bl_drewN ?_ _) | (with_reducible refine bl_drew ?_) | (with_reducible assumption) | (with_reducible refine bl_to ?_ (by assumption)) | (with_reducible refine Below.trans ?_ (by assumption)) | (with_reducible refine Below.trans ?_ (Below.mono (by assumption) ?_)) | (with_reducible refine bl_set ?_ ?_ _) | (simp; done) | (simp; omega) | omega))); (case gh => (first | omega | (simp; done) | (simp; omega))); (case gd => (first | omega | (simp; done) | (simp; omega))); (case go => (first | omega | (simp; done) | (simp; omega))); (case gn => (intro e; have := (owC.lt _ e).1; (try simp at this); omega)); (case g0 => (first | with_reducible exact rC0_k0 | with_reducible exact rC1_k0 | with_reducible exact rC2_k0)); (case g1 => (first | with_reducible exact rC0_k1 | with_reducible exact rC1_k1 | with_reducible exact rC2_k1)); (case g2 => (first | with_reducible exact rC0_k2 | with_reducible exact rC1_k2 | with_reducible exact rC2_k2)); (case g3 => (first | with_reducible exact rC0_f2 | with_reducible exact rC1_f2 | with_reducible exact rC2_f2)))
            case rest =>
              obtain ⟨Dh, A_h, c_h, rfl, rfl, hh⟩ := hcut
              obtain ⟨w15, rfl⟩ : ∃ x : World, x = wc := ⟨_, rfl⟩
              obtain ⟨bx_s_0, bx_s_1, bx_s_2, bx_x1_0, bx_x1_1, bx_x1_2, bx_x2_0, bx_x2_1, bx_g_0, bx_g_1, bx_g_2, yb_s, yb_x1, yb_x2, yb_g, ow_s, ow_x1, ow_x2, ow_g, sz1, sz2, sz3, sz4, sz5, sz6, sz7, sz8, sz9, sz10, sz11, sz12, sz13, sz14⟩ := HX_h.out
              clear HX_h
              have bb := hh.bel
              obtain ⟨kk, ff, zz⟩ := bcell bb
              replace bx_d1_0 := (kk _ 0 yb_d1).trans bx_d1_0
              replace bx_d1_1 := (kk _ 1 yb_d1).trans bx_d1_1
              replace bx_d1_2 := (kk _ 2 yb_d1).trans bx_d1_2
              replace bx_d2_0 := (kk _ 0 yb_d2).trans bx_d2_0
              replace bx_d2_1 := (kk _ 1 yb_d2).trans bx_d2_1
              replace bx_s_0 := (kk _ 0 yb_s).trans bx_s_0
              replace bx_s_1 := (kk _ 1 yb_s).trans bx_s_1
              replace bx_s_2 := (kk _ 2 yb_s).trans bx_s_2
              replace bx_x1_0 := (kk _ 0 yb_x1).trans bx_x1_0
              replace bx_x1_1 := (kk _ 1 yb_x1).trans bx_x1_1
              replace bx_x1_2 := (kk _ 2 yb_x1).trans bx_x1_2
              replace bx_x2_0 := (kk _ 0 yb_x2).trans bx_x2_0
              replace bx_x2_1 := (kk _ 1 yb_x2).trans bx_x2_1
              replace bx_g_0 := (kk _ 0 yb_g).trans bx_g_0
              replace bx_g_1 := (kk _ 1 yb_g).trans bx_g_1
              replace bx_g_2 := (kk _ 2 yb_g).trans bx_g_2
              replace yb_d1 : w.heap.size < w15.heap.size := zz _ (by (first | omega | (simp; done) | (simp; omega)))
              replace yb_d2 : w.heap.size + 1 < w15.heap.size := zz _ (by (first | omega | (simp; done) | (simp; omega)))
              replace yb_s : Ds < w15.heap.size := zz _ (by (first | omega | (simp; done) | (simp; omega)))
              replace yb_x1 : w4.heap.size < w15.heap.size := zz _ (by (first | omega | (simp; done) | (simp; omega)))
              replace yb_x2 : w5.heap.size < w15.heap.size := zz _ (by (first | omega | (simp; done) | (simp; omega)))
              replace yb_g : w6.heap.size < w15.heap.size := zz _ (by (first | omega | (simp; done) | (simp; omega)))
              replace ow_s := own_bl ow_s bb
              replace ow_x1 := own_bl ow_x1 bb
              replace ow_x2 := own_bl ow_x2 bb
              replace ow_g := own_bl ow_g bb
              have sz15 : w14.heap.size ≤ w15.heap.size := bb.size
              replace bel : Below w.heap.size w w15 := bl_to (by (repeat' (first | (with_reducible exact Below.refl _ _) | (with_reducible refine bl_alloc ?_ _) | (with_reducible refine bl_drewN ?_ _) | (with_reducible refine bl_drew ?_) | (with_reducible assumption) | (with_reducible refine bl_to ?_ (by assumption)) | (with_reducible refine Below.trans ?_ (by assumption)) | (with_reducible refine Below.trans ?_ (Below.mono (by assumption) ?_)) | (with_reducible refine bl_set ?_ ?_ _) | (simp; done) | (simp; omega) | omega))) bb
              clear kk ff zz bb
              have ow_h := hh.ow
              have in_h := Lib.hid ow_h.lt
              have bx_h_0 := hh.d0
              have bx_h_1 := hh.d1
              have bx_h_2 := hh.dv
              have yb_h := hh.dl
              have ub_h := hh.dl
              have lo_h := hh.hB
              clear hh
              go_wp2_with fail
              refine (eqCylinder_any (wosS st1 tr1 l1 n2 l2 m) (wosT st1 tr1 l1 n2 l2 m) _ _ (wosL st1 tr1 l1 n2 l2 m) _ (Rd.of_own ow_h) (Rd.of_own ow_s) hlR).mono ?_
              rintro e w16 ⟨rfl, bb⟩
              obtain ⟨kk, ff, zz⟩ := bcell bb
              replace bx_d1_0 := (kk _ 0 yb_d1).trans bx_d1_0
              replace bx_d1_1 := (kk _ 1 yb_d1).trans bx_d1_1
              replace bx_d1_2 := (kk _ 2 yb_d1).trans bx_d1_2
              replace bx_d2_0 := (kk _ 0 yb_d2).trans bx_d2_0
              replace bx_d2_1 := (kk _ 1 yb_d2).trans bx_d2_1
              replace bx_s_0 := (kk _ 0 yb_s).trans bx_s_0
              replace bx_s_1 := (kk _ 1 yb_s).trans bx_s_1
              replace bx_s_2 := (kk _ 2 yb_s).trans bx_s_2
              replace bx_x1_0 := (kk _ 0 yb_x1).trans bx_x1_0
              replace bx_x1_1 := (kk _ 1 yb_x1).trans bx_x1_1
              replace bx_x1_2 := (kk _ 2 yb_x1).trans bx_x1_2
              replace bx_x2_0 := (kk _ 0 yb_x2).trans bx_x2_0
              replace bx_x2_1 := (kk _ 1 yb_x2).trans bx_x2_1
              replace bx_g_0 := (kk _ 0 yb_g).trans bx_g_0
              replace bx_g_1 := (kk _ 1 yb_g).trans bx_g_1
              replace bx_g_2 := (kk _ 2 yb_g).trans bx_g_2
              replace bx_h_0 := (kk _ 0 yb_h).trans bx_h_0
              replace bx_h_1 := (kk _ 1 yb_h).trans bx_h_1
              replace bx_h_2 := (kk _ 2 yb_h).trans bx_h_2
              replace yb_d1 : w.heap.size < w16.heap.size := zz _ (by (first | omega | (simp; done) | (simp; omega)))
              replace yb_d2 : w.heap.size + 1 < w16.heap.size := zz _ (by (first | omega | (simp; done) | (simp; omega)))
              replace yb_s : Ds < w16.heap.size := zz _ (by (first | omega | (simp; done) | (simp; omega)))
              replace yb_x1 : w4.heap.size < w16.heap.size := zz _ (by (first | omega | (simp; done) | (simp; omega)))
              replace yb_x2 : w5.heap.size < w16.heap.size := zz _ (by (first | omega | (simp; done) | (simp; omega)))
              replace yb_g : w6.heap.size < w16.heap.size := zz _ (by (first | omega | (simp; done) | (simp; omega)))
              replace yb_h : Dh < w16.heap.size := zz _ (by (first | omega | (simp; done) | (simp; omega)))
              replace ow_s := own_bl ow_s bb
              replace ow_x1 := own_bl ow_x1 bb
              replace ow_x2 := own_bl ow_x2 bb
              replace ow_g := own_bl ow_g bb
              replace ow_h := own_bl ow_h bb
              have sz16 : w15.heap.size ≤ w16.heap.size := bb.size
              replace bel : Below w.heap.size w w16 := bl_to (by (repeat' (first | (with_reducible exact Below.refl _ _) | (with_reducible refine bl_alloc ?_ _) | (with_reducible refine bl_drewN ?_ _) | (with_reducible refine bl_drew ?_) | (with_reducible assumption) | (with_reducible refine bl_to ?_ (by assumption)) | (with_reducible refine Below.trans ?_ (by assumption)) | (with_reducible refine Below.trans ?_ (Below.mono (by assumption) ?_)) | (with_reducible refine bl_set ?_ ?_ _) | (simp; done) | (simp; omega) | omega))) bb
              clear kk ff zz bb
              go_wp2_with fail
              refine (heldCylinder_any (wosS st1 tr1 l1 n2 l2 m) (wosT st1 tr1 l1 n2 l2 m) _ (wosL st1 tr1 l1 n2 l2 m).length 1 _ (Rd.of_own ow_g) hlR (by omega) (by omega)).mono ?_
              rintro e w17 ⟨rfl, bb⟩
              obtain ⟨kk, ff, zz⟩ := bcell bb
              replace bx_d1_0 := (kk _ 0 yb_d1).trans bx_d1_0
              replace bx_d1_1 := (kk _ 1 yb_d1).trans bx_d1_1
              replace bx_d1_2 := (kk _ 2 yb_d1).trans bx_d1_2
              replace bx_d2_0 := (kk _ 0 yb_d2).trans bx_d2_0
              replace bx_d2_1 := (kk _ 1 yb_d2).trans bx_d2_1
              replace bx_s_0 := (kk _ 0 yb_s).trans bx_s_0
              replace bx_s_1 := (kk _ 1 yb_s).trans bx_s_1
              replace bx_s_2 := (kk _ 2 yb_s).trans bx_s_2
              replace bx_x1_0 := (kk _ 0 yb_x1).trans bx_x1_0
              replace bx_x1_1 := (kk _ 1 yb_x1).trans bx_x1_1
              replace bx_x1_2 := (kk _ 2 yb_x1).trans bx_x1_2
              replace bx_x2_0 := (kk _ 0 yb_x2).trans bx_x2_0
              replace bx_x2_1 := (kk _ 1 yb_x2).trans bx_x2_1
              replace bx_g_0 := (kk _ 0 yb_g).trans bx_g_0
              replace bx_g_1 := (kk _ 1 yb_g).trans bx_g_1
              replace bx_g_2 := (kk _ 2 yb_g).trans bx_g_2
              replace bx_h_0 := (kk _ 0 yb_h).trans bx_h_0
              replace bx_h_1 := (kk _ 1 yb_h).trans bx_h_1
              replace bx_h_2 := (kk _ 2 yb_h).trans bx_h_2
              replace yb_d1 : w.heap.size < w17.heap.size := zz _ (by (first | omega | (simp; done) | (simp; omega)))
              replace yb_d2 : w.heap.size + 1 < w17.heap.size := zz _ (by (first | omega | (simp; done) | (simp; omega)))
              replace yb_s : Ds < w17.heap.size := zz _ (by (first | omega | (simp; done) | (simp; omega)))
              replace yb_x1 : w4.heap.size < w17.heap.size := zz _ (by (first | omega | (simp; done) | (simp; omega)))
              replace yb_x2 : w5.heap.size < w17.heap.size := zz _ (by (first | omega | (simp; done) | (simp; omega)))
              replace yb_g : w6.heap.size < w17.heap.size := zz _ (by (first | omega | (simp; done) | (simp; omega)))
              replace yb_h : Dh < w17.heap.size := zz _ (by (first | omega | (simp; done) | (simp; omega)))
              replace ow_s := own_bl ow_s bb
              replace ow_x1 := own_bl ow_x1 bb
              replace ow_x2 := own_bl ow_x2 bb
              replace ow_g := own_bl ow_g bb
              replace ow_h := own_bl ow_h bb
              have sz17 : w16.heap.size ≤ w17.heap.size := bb.size
              replace bel : Below w.heap.size w w17 := bl_to (by (repeat' (first | (with_reducible exact Below.refl _ _) | (with_reducible refine bl_alloc ?_ _) | (with_reducible refine bl_drewN ?_ _) | (with_reducible refine bl_drew ?_) | (with_reducible assumption) | (with_reducible refine bl_to ?_ (by assumption)) | (with_reducible refine Below.trans ?_ (by assumption)) | (with_reducible refine Below.trans ?_ (Below.mono (by assumption) ?_)) | (with_reducible refine bl_set ?_ ?_ _) | (simp; done) | (simp; omega) | omega))) bb
              clear kk ff zz bb
              go_wp2
              go_ret
              exact ⟨rfl, by (repeat' (first | (with_reducible exact Below.refl _ _) | (with_reducible refine bl_alloc ?_ _) | (with_reducible refine bl_drewN ?_ _) | (with_reducible refine bl_drew ?_) | (with_reducible assumption) | (with_reducible refine bl_to ?_ (by assumption)) | (with_reducible refine Below.trans ?_ (by assumption)) | (with_reducible refine Below.trans ?_ (Below.mono (by assumption) ?_)) | (with_reducible refine bl_set ?_ ?_ _) | (simp; done) | (simp; omega) | omega))⟩
    · go_enter Try.func15, Try.ntmps15
      go_wp2_with fail
      refine (szCylinder_any st1 tr1 v1 l1 _ _ (hr1.bl (by (repeat' (first | (with_reducible exact Below.refl _ _) | (with_reducible refine bl_alloc ?_ _) | (with_reducible refine bl_drewN ?_ _) | (with_reducible refine bl_drew ?_) | (with_reducible assumption) | (with_reducible refine bl_to ?_ (by assumption)) | (with_reducible refine Below.trans ?_ (by assumption)) | (with_reducible refine Below.trans ?_ (Below.mono (by assumption) ?_)) | (with_reducible refine bl_set ?_ ?_ _) | (simp; done) | (simp; omega) | omega)))) (by omega) (by omega)).mono ?_
      rintro e w1 ⟨rfl, b1⟩
      rw [if_neg (by omega)]
      obtain ⟨k1, f1, z1⟩ := bcell b1
      go_wp2_with fail
      refine (szWear_any n2 v2 l2 _ _ (hr2.bl (by (repeat' (first | (with_reducible exact Below.refl _ _) | (with_reducible refine bl_alloc ?_ _) | (with_reducible refine bl_drewN ?_ _) | (with_reducible refine bl_drew ?_) | (with_reducible assumption) | (with_reducible refine bl_to ?_ (by assumption)) | (with_reducible refine Below.trans ?_ (by assumption)) | (with_reducible refine Below.trans ?_ (Below.mono (by assumption) ?_)) | (with_reducible refine bl_set ?_ ?_ _) | (simp; done) | (simp; omega) | omega)))) (by omega) (by omega)).mono ?_
      rintro e w2 ⟨rfl, b2⟩
      rw [if_pos (by omega)]
      go_wp2
      go_ret
      exact ⟨rfl, by (repeat' (first | (with_reducible exact Below.refl _ _) | (with_reducible refine bl_alloc ?_ _) | (with_reducible refine bl_drewN ?_ _) | (with_reducible refine bl_drew ?_) | (with_reducible assumption) | (with_reducible refine bl_to ?_ (by assumption)) | (with_reducible refine Below.trans ?_ (by assumption)) | (with_reducible refine Below.trans ?_ (Below.mono (by assumption) ?_)) | (with_reducible refine bl_set ?_ ?_ _) | (simp; done) | (simp; omega) | omega))⟩
  · go_enter Try.func15, Try.ntmps15
    go_wp2_with fail
    refine (szCylinder_any st1 tr1 v1 l1 _ _ (hr1.bl (by (repeat' (first | (with_reducible exact Below.refl _ _) | (with_reducible refine bl_alloc ?_ _) | (with_reducible refine bl_drewN ?_ _) | (with_reducible refine bl_drew ?_) | (with_reducible assumption) | (with_reducible refine bl_to ?_ (by assumption)) | (with_reducible refine Below.trans ?_ (by assumption)) | (with_reducible refine Below.trans ?_ (Below.mono (by assumption) ?_)) | (with_reducible refine bl_set ?_ ?_ _) | (simp; done) | (simp; omega) | omega)))) (by omega) (by omega)).mono ?_
    rintro e w1 ⟨rfl, b1⟩
    rw [if_pos (by omega)]
    go_wp2
    go_ret
    exact ⟨rfl, by (repeat' (first | (with_reducible exact Below.refl _ _) | (with_reducible refine bl_alloc ?_ _) | (with_reducible refine bl_drewN ?_ _) | (with_reducible refine bl_drew ?_) | (with_reducible assumption) | (with_reducible refine bl_to ?_ (by assumption)) | (with_reducible refine Below.trans ?_ (by assumption)) | (with_reducible refine Below.trans ?_ (Below.mono (by assumption) ?_)) | (with_reducible refine bl_set ?_ ?_ _) | (simp; done) | (simp; omega) | omega))⟩
end Go.Proofs.Ytoijjjaodfincaa
