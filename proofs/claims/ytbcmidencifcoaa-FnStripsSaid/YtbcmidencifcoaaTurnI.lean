/- TurnStrip of the program; lengths up to 2^20. -/
import Derived.Test.YtbcmidencifcoaaGlue0
import Derived.Test.YtbcmidencifcoaaTurnStrip0
import Derived.Test.YtbcmidencifcoaaSortedN
import Derived.Deep.RegionHeld3
import Derived.Deep.DeepCutAuto
namespace Go.Proofs.Ytbcmidencifcoaa
open Go.RowKit

set_option maxHeartbeats 3200000 in
set_option maxRecDepth 100000 in
theorem turnStripI_any (n : Int) (va : Value) (l : List (Int × Int)) (w : World) (ha : RdN w va l) (hl : l.length ≤ 1048576) :
    Calls Try.prog 48 #[.agg #[.int .i64 n, va]] w (NewStrip n (turL n l) w) := by
  obtain ⟨Aa, ca, rfl, ha0, ha1⟩ := ha.form
  have x0 : ((w.alloc (.cells #[.int .i64 n, .slice Aa l.length ca] 34)).alloc (.cells #[.int .i64 0, .slice none 0 0] 34)).cell? ⟨w.heap.size, 0, none⟩ = some (.int .i64 n) := by simp [go_sem]
  have x1 : ((w.alloc (.cells #[.int .i64 n, .slice Aa l.length ca] 34)).alloc (.cells #[.int .i64 0, .slice none 0 0] 34)).cell? ⟨w.heap.size, 1, none⟩ = some (.slice Aa l.length ca) := by simp [go_sem]
  have q0 : ((w.alloc (.cells #[.int .i64 n, .slice Aa l.length ca] 34)).alloc (.cells #[.int .i64 0, .slice none 0 0] 34)).cell? ⟨w.heap.size + 1, 0, none⟩ = some (.int .i64 0) := by simp [go_sem]
  have q1 : ((w.alloc (.cells #[.int .i64 n, .slice Aa l.length ca] 34)).alloc (.cells #[.int .i64 0, .slice none 0 0] 34)).cell? ⟨w.heap.size + 1, 1, none⟩ = some (.slice none 0 0) := by simp [go_sem]
  have p0 : ((w.alloc (.cells #[.int .i64 n, .slice Aa l.length ca] 34)).alloc (.cells #[.int .i64 0, .slice none 0 0] 34)).frozen? ⟨w.heap.size + 1, 0, none⟩ = false := by simp [go_sem]
  have p1 : ((w.alloc (.cells #[.int .i64 n, .slice Aa l.length ca] 34)).alloc (.cells #[.int .i64 0, .slice none 0 0] 34)).frozen? ⟨w.heap.size + 1, 1, none⟩ = false := by simp [go_sem]
  have bel2 : Below w.heap.size w ((w.alloc (.cells #[.int .i64 n, .slice Aa l.length ca] 34)).alloc (.cells #[.int .i64 0, .slice none 0 0] 34)) := by (repeat' (first | (with_reducible exact Below.refl _ _) | (with_reducible refine bl_alloc ?_ _) | (with_reducible refine bl_drewN ?_ _) | (with_reducible refine bl_drew ?_) | (with_reducible assumption) | (with_reducible refine bl_to ?_ (by assumption)) | (with_reducible refine Below.trans ?_ (by assumption)) | (with_reducible refine Below.trans ?_ (Below.mono (by assumption) ?_)) | (with_reducible refine bl_set ?_ ?_ _) | (simp; done) | (simp; omega) | omega))
  have y2 : w.heap.size + 1 < ((w.alloc (.cells #[.int .i64 n, .slice Aa l.length ca] 34)).alloc (.cells #[.int .i64 0, .slice none 0 0] 34)).heap.size := by simp
  go_enter Try.func48, Try.ntmps48
  go_upto_region 1 with (fail)
  generalize (w.alloc (.cells #[.int .i64 n, .slice Aa l.length ca] 34)).alloc (.cells #[.int .i64 0, .slice none 0 0] 34) = w2 at *
  have y3 : w.heap.size < w2.heap.size := by omega
  have hra := ha.bl bel2
  go_cut [3] (fun s wx => GMade w2 n l s wx)
  case first =>
    go_region_held3 (fun w' => w'.cell? ⟨w.heap.size, 0, none⟩ = some (.int .i64 n) ∧ w'.cell? ⟨w.heap.size, 1, none⟩ = some (.slice Aa l.length ca)) (first | exact ⟨u0, u1⟩ | exact ⟨cell_two u0 (by omega), cell_two u1 (by omega)⟩ | go_keep) (((go_at_call 63; refine (copyNotes_any _ l _ (hra.bl (by (repeat' (first | (with_reducible exact Below.refl _ _) | (with_reducible refine bl_alloc ?_ _) | (with_reducible refine bl_drewN ?_ _) | (with_reducible refine bl_drew ?_) | (with_reducible assumption) | (with_reducible refine bl_to ?_ (by assumption)) | (with_reducible refine Below.trans ?_ (by assumption)) | (with_reducible refine Below.trans ?_ (Below.mono (by assumption) ?_)) | (with_reducible refine bl_set ?_ ?_ _) | (simp; done) | (simp; omega) | omega)))) hl).mono ?_; rintro e w3 ⟨A3, c3, rfl, ow3, b3⟩; obtain ⟨k3, f3, z3⟩ := bcell b3); have u0 : w3.cell? ⟨w.heap.size, 0, none⟩ = some (.int .i64 n) := (k3 _ _ (by (first | omega | (simp; done) | (simp; omega)))).trans (by simp [go_sem, x0, y3]); have u1 : w3.cell? ⟨w.heap.size, 1, none⟩ = some (.slice Aa l.length ca) := (k3 _ _ (by (first | omega | (simp; done) | (simp; omega)))).trans (by simp [go_sem, x1, y3])))
    all_goals
      go_wp2
      go_meet
      first
        | exact gmade_a (w2 := w2) ow3 (bl_undrew b3)
        | exact gmade_b (w2 := w2) ow3 (bl_undrew b3)
  case rest =>
    obtain ⟨D, v, rfl, h⟩ := hcut
    obtain ⟨w3, rfl⟩ : ∃ x : World, x = wc := ⟨_, rfl⟩
    have X0 := (h.bel.cell (p := ⟨w.heap.size, 0, none⟩) y3).trans x0
    have X1 := (h.bel.cell (p := ⟨w.heap.size, 1, none⟩) y3).trans x1
    have Q0 := (h.bel.cell (p := ⟨w.heap.size + 1, 0, none⟩) y2).trans q0
    have Q1 := (h.bel.cell (p := ⟨w.heap.size + 1, 1, none⟩) y2).trans q1
    have P0 := (h.bel.frozen (p := ⟨w.heap.size + 1, 0, none⟩) y2).trans p0
    have P1 := (h.bel.frozen (p := ⟨w.heap.size + 1, 1, none⟩) y2).trans p1
    have bel3 : Below w.heap.size w w3 := bel2.trans (h.bel.mono (by omega))
    have y4 : w.heap.size + 1 < w3.heap.size := by have := h.hB; have := h.dl; omega
    have y5 : w.heap.size < w3.heap.size := by omega
    have hD : w.heap.size + 1 < D := by have := h.hB; omega
    clear x0 x1 q0 q1 p0 p1 hra
    cases hB : stripB n l
    · have hT : turL n l = l := by simp [turL, turB, hB]
      obtain ⟨A, m, c, rfl, hm⟩ := own_formL h.ow
      have HM := Lib.hid hm
      clear hm
      have cs := stripI_ok n _ l w3 (ha.bl bel3) hl
      rw [hB] at cs
      go_wp2_with fail
      refine cs.mono ?_
      rintro e w4 ⟨rfl, b4⟩
      have h4 := h.step b4
      have S0 := h4.d0
      have S1 := h4.dv
      have Z0 := (b4.cell (p := ⟨w.heap.size + 1, 0, none⟩) y4).trans Q0
      have Z1 := (b4.cell (p := ⟨w.heap.size + 1, 1, none⟩) y4).trans Q1
      have F0 := (b4.frozen (p := ⟨w.heap.size + 1, 0, none⟩) y4).trans P0
      have F1 := (b4.frozen (p := ⟨w.heap.size + 1, 1, none⟩) y4).trans P1
      go_wp2
      exact bodyPost_ret (v := .agg #[.int .i64 n, .slice A m c]) (by simp [results, Try.results48, go_sem, Z0, Z1, S0, S1]) rfl (by rw [hT]; obtain rfl := HM.out; exact ⟨A, c, rfl, own_lo (ownsRow_setCell_below (ownsRow_setCell_below h4.ow (by simp; omega) _) (by simp; omega) _) (by omega), by (repeat' (first | (with_reducible exact Below.refl _ _) | (with_reducible refine bl_alloc ?_ _) | (with_reducible refine bl_drewN ?_ _) | (with_reducible refine bl_drew ?_) | (with_reducible assumption) | (with_reducible refine bl_to ?_ (by assumption)) | (with_reducible refine Below.trans ?_ (by assumption)) | (with_reducible refine Below.trans ?_ (Below.mono (by assumption) ?_)) | (with_reducible refine bl_set ?_ ?_ _) | (simp; done) | (simp; omega) | omega))⟩)
    · obtain ⟨⟨s1, s2⟩, t1, t9⟩ := stripB_iff hB
      have ll := (tuneB_iff t1).1
      have hnd := rvN_nodup (n := n) (tuneB_iff t1).2 l.length (Nat.le_refl _)
      have cs := stripI_ok n _ l w3 (ha.bl bel3) hl
      rw [hB] at cs
      go_wp2_with fail
      refine cs.mono ?_
      rintro e w4 ⟨rfl, b4⟩
      have h4 := h.step b4
      have bel4 := bl_to bel3 b4
      replace X0 := (b4.cell (p := ⟨w.heap.size, 0, none⟩) y5).trans X0
      replace X1 := (b4.cell (p := ⟨w.heap.size, 1, none⟩) y5).trans X1
      replace Q0 := (b4.cell (p := ⟨w.heap.size + 1, 0, none⟩) y4).trans Q0
      replace Q1 := (b4.cell (p := ⟨w.heap.size + 1, 1, none⟩) y4).trans Q1
      replace P0 := (b4.frozen (p := ⟨w.heap.size + 1, 0, none⟩) y4).trans P0
      replace P1 := (b4.frozen (p := ⟨w.heap.size + 1, 1, none⟩) y4).trans P1
      replace y4 := Nat.lt_of_lt_of_le y4 b4.size
      replace y5 := Nat.lt_of_lt_of_le y5 b4.size
      have XQ := Lib.hid (And.intro Q0 (And.intro Q1 (And.intro P0 P1)))
      have st0 : StripBx (w4.alloc (.cells #[.int .i64 n, .slice none 0 0] 34)) w4.heap.size w4.heap.size (w4.alloc (.cells #[.int .i64 n, .slice none 0 0] 34)) n (.slice none 0 0) (rvN n l 0) := StripBx.mk0 rfl (Nat.le_refl _)
      have HN := Lib.hid hnd
      clear h b4 bel3 cs Q0 Q1 P0 P1 hnd
      go_wp2
      go_loopw [23] (fun i wr => ∃ (k : Nat) (vu : Value), k ≤ l.length ∧ i = .int .i64 k ∧ StripBx (w4.alloc (.cells #[.int .i64 n, .slice none 0 0] 34)) w4.heap.size w4.heap.size wr n vu (rvN n l k)) (fun i _ => l.length - (intOf i).toNat)
      case atStart => exact ⟨0, _, Nat.zero_le _, rfl, st0⟩
      case round =>
        clear st0
        obtain ⟨k, vu, hk, rfl, h⟩ := hrel
        have bw : Below w4.heap.size w4 wr := (bl_alloc (Below.refl _ _) _).trans h.bel
        have pl := rvN_len n l k
        by_cases hlt : k < l.length
        · have hlt' : (k : Int) < (l.length : Int) := by omega
          obtain ⟨g, o, rfl, hg, e0, e1⟩ := RdN.at_ (ha.bl (bl_to bel4 bw)) hlt
          obtain ⟨⟨a1, a2⟩, _⟩ := okN_bd (tuneB_iff t1).2 hlt
          have st : StripBx (w4.alloc (.cells #[.int .i64 n, .slice none 0 0] 34)) w4.heap.size w4.heap.size ((wr.alloc (Obj.cells #[.int .i64 (gN l k).1, .int .i64 (gN l k).2] 62)).alloc (Obj.cells #[.int .i64 (n - 1 - (gN l k).1), .int .i64 (gN l k).2] 62)) n vu (rvN n l k) := h.step (bl_alloc (bl_alloc (Below.refl _ _) _) _)
          have hx0 := (bw.cell (p := ⟨w.heap.size, 0, none⟩) y5).trans X0
          have dv := h.dv
          have hdl := h.dl
          have hyy : w.heap.size < wr.heap.size := Nat.lt_of_lt_of_le y5 bw.size
          have HL : Hid ((rvN n l k).length ≤ 4194304) := by show _ ≤ _; omega
          have hw1 : IntKind.i64.wrap (n - 1) = n - 1 := IntWalk.i64_in _ (by omega)
          have hw2 : IntKind.i64.wrap (n - 1 - (gN l k).1) = n - 1 - (gN l k).1 := IntWalk.i64_in _ (by omega)
          have aa : Hid (rvN n l (k + 1) = rvN n l k ++ [(n - 1 - (gN l k).1, (gN l k).2)]) := rfl
          clear pl ha
          go_wp2_with (at_builtin; refine wpList_app_N _ rfl _ _ rfl w4.heap.size _ _ rfl st.ow (wr.heap.size + 1) (n - 1 - (gN l k).1) (gN l k).2 rfl ?_ ?_ HL.out (by have := h.hB; simp; omega) ?_; rotate_left 2; intro v2 w2' ow2 bb gr at2; obtain ⟨A2, m2, c2, rfl⟩ := own_form3 ow2; obtain ⟨cD, fD⟩ := st.cellAt gr)
          · go_roundw
            case rel => exact ⟨k + 1, _, by omega, by go_num, by rw [aa.out]; exact st.app (_, _) gr ow2 at2⟩
            case measure => simp [intOf]; omega
          all_goals (simp; done)
        · obtain rfl : k = l.length := by omega
          have hlt' : ¬ (l.length : Int) < (l.length : Int) := by omega
          obtain ⟨Q0, Q1, P0, P1⟩ := XQ.out
          have T0 := h.d0
          have T1 := h.dv
          have TF := h.fv
          have hdl := h.dl
          obtain ⟨Au, mu, cu, rfl, hmu⟩ := own_formL h.ow
          subst hmu
          have cso := sortedI_any _ (rvN n l l.length) wr (Rd.of_own h.ow) (by omega) HN.out
          have hsl := srtN_len (rvN n l l.length)
          rw [pl] at hsl
          have HTL : Hid (∀ b, stripB n (srtN (rvN n l l.length)) = b → turL n l = if b then srtN (rvN n l l.length) else l) := fun b hb => by simp [turL, turB, hB, hb]
          generalize srtN (rvN n l l.length) = R at *
          have PL := Lib.hid pl
          clear pl X0 X1 hB ha
          go_wp2_with fail
          refine cso.mono ?_
          rintro e w6 ⟨A6, c6, rfl, ow6, b6⟩
          have D0 := (b6.cell (p := ⟨w4.heap.size, 0, none⟩) hdl).trans T0
          have D1 := (b6.cell (p := ⟨w4.heap.size, 1, none⟩) hdl).trans T1
          have DF := (b6.frozen (p := ⟨w4.heap.size, 1, none⟩) hdl).trans TF
          have bw7 : Below w4.heap.size w4 (w6.setCell ⟨w4.heap.size, 1, none⟩ (.slice A6 R.length c6)) := ((bw.trans (b6.mono bw.size)).setCell (p := ⟨w4.heap.size, 1, none⟩) (Nat.le_refl _) _)
          have E0 : (w6.setCell ⟨w4.heap.size, 1, none⟩ (.slice A6 R.length c6)).cell? ⟨w4.heap.size, 0, none⟩ = some (.int .i64 n) := (World.cell?_setCell_other _ _ _ _ (by simp)).trans D0
          have E1 : (w6.setCell ⟨w4.heap.size, 1, none⟩ (.slice A6 R.length c6)).cell? ⟨w4.heap.size, 1, none⟩ = some (.slice A6 R.length c6) := World.cell?_setCell_same _ _ _ D1
          have ow7 : (w6.setCell ⟨w4.heap.size, 1, none⟩ (.slice A6 R.length c6)).ownsRow wr.heap.size 62 2 (.slice A6 R.length c6) R.length (cN R) := ownsRow_setCell_below ow6 hdl _
          have l7 : w4.heap.size < (w6.setCell ⟨w4.heap.size, 1, none⟩ (.slice A6 R.length c6)).heap.size := by simpa using Nat.lt_of_lt_of_le hdl b6.size
          have hwr := bw.size
          clear cso T0 T1 TF h b6 ow6
          go_upto_region 11 with (fail)
          generalize w6.setCell ⟨w4.heap.size, 1, none⟩ (.slice A6 R.length c6) = w7 at *
          clear D0 D1 DF
          have h7 := h4.step bw7
          have cz := stripI_ok n _ R w7 (Rd.of_own ow7) (by omega)
          obtain ⟨A, m, c, rfl, hm⟩ := own_formL h7.ow
          have HM := Lib.hid hm
          clear hm bw
          cases hB2 : stripB n R
          · have hT := HTL.out false hB2
            rw [hB2] at cz
            go_wp2_with fail
            refine cz.mono ?_
            rintro e w8 ⟨rfl, b8⟩
            have h8 := h7.step b8
            have bw8 := bw7.trans (b8.mono bw7.size)
            have S0 := h8.d0
            have S1 := h8.dv
            have Z0 := (bw8.cell (p := ⟨w.heap.size + 1, 0, none⟩) y4).trans Q0
            have Z1 := (bw8.cell (p := ⟨w.heap.size + 1, 1, none⟩) y4).trans Q1
            have F0 := (bw8.frozen (p := ⟨w.heap.size + 1, 0, none⟩) y4).trans P0
            have F1 := (bw8.frozen (p := ⟨w.heap.size + 1, 1, none⟩) y4).trans P1
            have bel8 := bl_to bel4 bw8
            go_wp2
            exact bodyPost_ret (v := .agg #[.int .i64 n, .slice A m c]) (by simp [results, Try.results48, go_sem, Z0, Z1, S0, S1]) rfl (by rw [hT]; obtain rfl := HM.out; exact ⟨A, c, rfl, own_lo (ownsRow_setCell_below (ownsRow_setCell_below h8.ow (by simp; omega) _) (by simp; omega) _) (by omega), by (repeat' (first | (with_reducible exact Below.refl _ _) | (with_reducible refine bl_alloc ?_ _) | (with_reducible refine bl_drewN ?_ _) | (with_reducible refine bl_drew ?_) | (with_reducible assumption) | (with_reducible refine bl_to ?_ (by assumption)) | (with_reducible refine Below.trans ?_ (by assumption)) | (with_reducible refine Below.trans ?_ (Below.mono (by assumption) ?_)) | (with_reducible refine bl_set ?_ ?_ _) | (simp; done) | (simp; omega) | omega))⟩)
          · have hT := HTL.out true hB2
            rw [hB2] at cz
            go_wp2_with fail
            refine cz.mono ?_
            rintro e w8 ⟨rfl, b8⟩
            have bw8 := bw7.trans (b8.mono bw7.size)
            have S0 := (b8.cell (p := ⟨w4.heap.size, 0, none⟩) l7).trans E0
            have S1 := (b8.cell (p := ⟨w4.heap.size, 1, none⟩) l7).trans E1
            have Z0 := (bw8.cell (p := ⟨w.heap.size + 1, 0, none⟩) y4).trans Q0
            have Z1 := (bw8.cell (p := ⟨w.heap.size + 1, 1, none⟩) y4).trans Q1
            have F0 := (bw8.frozen (p := ⟨w.heap.size + 1, 0, none⟩) y4).trans P0
            have F1 := (bw8.frozen (p := ⟨w.heap.size + 1, 1, none⟩) y4).trans P1
            have bel8 := bl_to bel4 bw8
            have ow8 := own_bl ow7 b8
            go_wp2
            exact bodyPost_ret (v := .agg #[.int .i64 n, .slice A6 R.length c6]) (by simp [results, Try.results48, go_sem, Z0, Z1, S0, S1]) rfl (by rw [hT]; exact ⟨A6, c6, rfl, own_lo (ownsRow_setCell_below (ownsRow_setCell_below ow8 (by simp; omega) _) (by simp; omega) _) (by omega), by (repeat' (first | (with_reducible exact Below.refl _ _) | (with_reducible refine bl_alloc ?_ _) | (with_reducible refine bl_drewN ?_ _) | (with_reducible refine bl_drew ?_) | (with_reducible assumption) | (with_reducible refine bl_to ?_ (by assumption)) | (with_reducible refine Below.trans ?_ (by assumption)) | (with_reducible refine Below.trans ?_ (Below.mono (by assumption) ?_)) | (with_reducible refine bl_set ?_ ?_ _) | (simp; done) | (simp; omega) | omega))⟩)
end Go.Proofs.Ytbcmidencifcoaa
