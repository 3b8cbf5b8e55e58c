/- StripOf of the program; lengths up to 2^20. -/
import Derived.Test.YtbcmidencifcoaaSof
import Derived.Deep.RegionLaw
namespace Go.Proofs.Ytbcmidencifcoaa
open Go.RowKit

set_option maxHeartbeats 3200000 in
set_option maxRecDepth 100000 in
theorem sofI_any (v : Value) (l : List (Int × Int)) (a b : Int) (w : World) (h1 : RdN w v l) (hl : l.length ≤ 1048576) :
    Calls Try.prog 45 #[v, .int .i64 a, .int .i64 b] w (NewStripB (sofFn l a b) (sofFl l a b) (sofB l a b) w) := by
  obtain ⟨A0, c0, rfl, hc, hm⟩ := h1.form
  unfold maxLen at hm
  by_cases hg : tuneB l = true ∧ 0 < l.length ∧ inB a 0 100 = true ∧ inB b 0 100 = true
  rotate_left
  · have hB : sofB l a b = false := by
      cases e : sofB l a b with
      | false => rfl
      | true =>
        simp only [sofB, Bool.and_eq_true, decide_eq_true_eq] at e
        exact absurd ⟨e.1.1.1.1, e.1.1.1.2, e.1.1.2, e.1.2⟩ hg
    rw [sofFn, sofFl, hB]
    cases ht : tuneB l
    · go_enter Try.func45, Try.ntmps45
      go_wp2_with ((go_at_call 54; refine (tuneI_ok _ l _ (h1.bl (by (repeat' (first | (with_reducible exact Below.refl _ _) | (with_reducible refine bl_alloc ?_ _) | (with_reducible refine bl_drewN ?_ _) | (with_reducible refine bl_drew ?_) | (with_reducible assumption) | (with_reducible refine bl_to ?_ (by assumption)) | (with_reducible refine Below.trans ?_ (by assumption)) | (with_reducible refine Below.trans ?_ (Below.mono (by assumption) ?_)) | (with_reducible refine bl_set ?_ ?_ _) | (simp; done) | (simp; omega) | omega)))) hl).mono ?_; rintro e w1 ⟨rfl, b1⟩; obtain ⟨k1, f1, z1⟩ := bcell b1); have y1 := z1 w.heap.size (by (first | omega | (simp; done) | (simp; omega))))
      exact bodyPost_ret (v := .tuple #[.agg #[.int .i64 0, .slice none 0 0], .bool false]) (by simp [results, Try.results45, go_sem, k1, y1]) rfl ⟨none, 0, rfl, World.ownsRow_nil _ _ _ _, by (repeat' (first | (with_reducible exact Below.refl _ _) | (with_reducible refine bl_alloc ?_ _) | (with_reducible refine bl_drewN ?_ _) | (with_reducible refine bl_drew ?_) | (with_reducible assumption) | (with_reducible refine bl_to ?_ (by assumption)) | (with_reducible refine Below.trans ?_ (by assumption)) | (with_reducible refine Below.trans ?_ (Below.mono (by assumption) ?_)) | (with_reducible refine bl_set ?_ ?_ _) | (simp; done) | (simp; omega) | omega))⟩
    by_cases h0 : l.length = 0
    · have g1 : ((l.length : Int) == 0) = true := by rw [h0]; rfl
      have g2 : decide (l.length = 0) = true := by rw [h0]; rfl
      clear h0 hg
      go_enter Try.func45, Try.ntmps45
      go_wp2_with ((go_at_call 54; refine (tuneI_ok _ l _ (h1.bl (by (repeat' (first | (with_reducible exact Below.refl _ _) | (with_reducible refine bl_alloc ?_ _) | (with_reducible refine bl_drewN ?_ _) | (with_reducible refine bl_drew ?_) | (with_reducible assumption) | (with_reducible refine bl_to ?_ (by assumption)) | (with_reducible refine Below.trans ?_ (by assumption)) | (with_reducible refine Below.trans ?_ (Below.mono (by assumption) ?_)) | (with_reducible refine bl_set ?_ ?_ _) | (simp; done) | (simp; omega) | omega)))) hl).mono ?_; rintro e w1 ⟨rfl, b1⟩; obtain ⟨k1, f1, z1⟩ := bcell b1); have y1 := z1 w.heap.size (by (first | omega | (simp; done) | (simp; omega))))
      exact bodyPost_ret (v := .tuple #[.agg #[.int .i64 0, .slice none 0 0], .bool false]) (by simp [results, Try.results45, go_sem, k1, y1]) rfl ⟨none, 0, rfl, World.ownsRow_nil _ _ _ _, by (repeat' (first | (with_reducible exact Below.refl _ _) | (with_reducible refine bl_alloc ?_ _) | (with_reducible refine bl_drewN ?_ _) | (with_reducible refine bl_drew ?_) | (with_reducible assumption) | (with_reducible refine bl_to ?_ (by assumption)) | (with_reducible refine Below.trans ?_ (by assumption)) | (with_reducible refine Below.trans ?_ (Below.mono (by assumption) ?_)) | (with_reducible refine bl_set ?_ ?_ _) | (simp; done) | (simp; omega) | omega))⟩
    have g1 : ((l.length : Int) == 0) = false := by rw [beq_eq_false_iff_ne]; omega
    cases ha : inB a 0 100
    rotate_left
    have hb : inB b 0 100 = false := by
      cases e : inB b 0 100 with
      | false => rfl
      | true => exact absurd ⟨ht, by omega, ha, e⟩ hg
    all_goals
      clear hg h0
      go_enter Try.func45, Try.ntmps45
      go_wp2_with (first | ((go_at_call 54; refine (tuneI_ok _ l _ (h1.bl (by (repeat' (first | (with_reducible exact Below.refl _ _) | (with_reducible refine bl_alloc ?_ _) | (with_reducible refine bl_drewN ?_ _) | (with_reducible refine bl_drew ?_) | (with_reducible assumption) | (with_reducible refine bl_to ?_ (by assumption)) | (with_reducible refine Below.trans ?_ (by assumption)) | (with_reducible refine Below.trans ?_ (Below.mono (by assumption) ?_)) | (with_reducible refine bl_set ?_ ?_ _) | (simp; done) | (simp; omega) | omega)))) hl).mono ?_; rintro e w1 ⟨rfl, b1⟩; obtain ⟨k1, f1, z1⟩ := bcell b1); have y1 := z1 w.heap.size (by (first | omega | (simp; done) | (simp; omega)))) | (go_at_call 57; refine (within_any _ _ _ _).mono ?_; rintro e w' ⟨rfl, rfl⟩))
      exact bodyPost_ret (v := .tuple #[.agg #[.int .i64 0, .slice none 0 0], .bool false]) (by simp [results, Try.results45, go_sem, k1, y1]) rfl ⟨none, 0, rfl, World.ownsRow_nil _ _ _ _, by (repeat' (first | (with_reducible exact Below.refl _ _) | (with_reducible refine bl_alloc ?_ _) | (with_reducible refine bl_drewN ?_ _) | (with_reducible refine bl_drew ?_) | (with_reducible assumption) | (with_reducible refine bl_to ?_ (by assumption)) | (with_reducible refine Below.trans ?_ (by assumption)) | (with_reducible refine Below.trans ?_ (Below.mono (by assumption) ?_)) | (with_reducible refine bl_set ?_ ?_ _) | (simp; done) | (simp; omega) | omega))⟩
  · obtain ⟨ht, h0, ha, hb⟩ := hg
    have hSB := sofB_iff ht h0 ha hb
    obtain ⟨a1, a2⟩ := inB_iff.1 ha
    obtain ⟨b1', b2'⟩ := inB_iff.1 hb
    have g1 : ((l.length : Int) == 0) = false := by rw [beq_eq_false_iff_ne]; omega
    have t0 := (okN_bd (tuneB_iff ht).2 h0).1
    have hlast : 0 ≤ lastF l ∧ lastF l ≤ 1000 := by
      have tn := (okN_bd (tuneB_iff ht).2 (show l.length - 1 < l.length by omega)).1
      have tm := okN_mono (tuneB_iff ht).2 (show 0 ≤ l.length - 1 by omega) (show l.length - 1 < l.length by omega)
      rw [lastF, if_pos ht, if_neg (by omega)]
      omega
    obtain ⟨g, o, rfl, hg, e0, e1⟩ := RdN.at_ h1 h0
    simp only [Nat.zero_mul, Nat.add_zero] at e0
    have hd : -1000 ≤ a - (gN l 0).1 ∧ a - (gN l 0).1 ≤ 1000 := by omega
    have z00 : 0 < l.length := h0
    have z01 : (0 : Int) < (l.length : Int) := by omega
    have ll := (tuneB_iff ht).1
    have HOK := Lib.hid (tuneB_iff ht).2
    have wa : IntKind.i64.wrap (a + lastF l) = a + lastF l := IntWalk.i64_in _ (by omega)
    have wb : IntKind.i64.wrap (a + lastF l + 1) = a + lastF l + 1 := IntWalk.i64_in _ (by omega)
    have wn : IntKind.i64.wrap (a + lastF l + 1 + b) = sofN l a b := IntWalk.i64_in _ (by omega)
    have eB : sofB l a b = stripB (sofN l a b) (shN l (a - (gN l 0).1) l.length) := by simp [sofB, ht, h0, ha, hb, sofL]
    have EB := Lib.hid eB
    clear eB h0 e1
    go_enter Try.func45, Try.ntmps45
    go_upto_region 4 with (first | ((go_at_call 54; refine (tuneI_ok _ l _ (h1.bl (by (repeat' (first | (with_reducible exact Below.refl _ _) | (with_reducible refine bl_alloc ?_ _) | (with_reducible refine bl_drewN ?_ _) | (with_reducible refine bl_drew ?_) | (with_reducible assumption) | (with_reducible refine bl_to ?_ (by assumption)) | (with_reducible refine Below.trans ?_ (by assumption)) | (with_reducible refine Below.trans ?_ (Below.mono (by assumption) ?_)) | (with_reducible refine bl_set ?_ ?_ _) | (simp; done) | (simp; omega) | omega)))) hl).mono ?_; rintro e w1 ⟨rfl, b1⟩; obtain ⟨k1, f1, z1⟩ := bcell b1); have q0 : w1.cell? ⟨w.heap.size, 0, none⟩ = some (.int .i64 0) := (k1 _ _ (by (first | omega | (simp; done) | (simp; omega)))).trans (by simp [go_sem]); have q1 : w1.cell? ⟨w.heap.size, 1, none⟩ = some (.slice none 0 0) := (k1 _ _ (by (first | omega | (simp; done) | (simp; omega)))).trans (by simp [go_sem]); have p0 : w1.frozen? ⟨w.heap.size, 0, none⟩ = false := (f1 _ _ (by (first | omega | (simp; done) | (simp; omega)))).trans (by simp [go_sem]); have p1 : w1.frozen? ⟨w.heap.size, 1, none⟩ = false := (f1 _ _ (by (first | omega | (simp; done) | (simp; omega)))).trans (by simp [go_sem]); have y1 : w.heap.size < w1.heap.size := z1 _ (by (first | omega | (simp; done) | (simp; omega))); have bel : Below w.heap.size w w1 := (by (repeat' (first | (with_reducible exact Below.refl _ _) | (with_reducible refine bl_alloc ?_ _) | (with_reducible refine bl_drewN ?_ _) | (with_reducible refine bl_drew ?_) | (with_reducible assumption) | (with_reducible refine bl_to ?_ (by assumption)) | (with_reducible refine Below.trans ?_ (by assumption)) | (with_reducible refine Below.trans ?_ (Below.mono (by assumption) ?_)) | (with_reducible refine bl_set ?_ ?_ _) | (simp; done) | (simp; omega) | omega))); clear k1 f1 z1) | (go_at_call 57; refine (within_any _ _ _ _).mono ?_; rintro e w' ⟨rfl, rfl⟩) | ((go_at_call 66; refine (lastI_any _ l _ (h1.bl bel) hl).mono ?_; rintro e w2 ⟨rfl, b2⟩; obtain ⟨k2, f2, z2⟩ := bcell b2); have q0 : w2.cell? ⟨w.heap.size, 0, none⟩ = some (.int .i64 0) := (k2 _ _ (by (first | omega | (simp; done) | (simp; omega)))).trans (by simp [go_sem, q0, y1]); have q1 : w2.cell? ⟨w.heap.size, 1, none⟩ = some (.slice none 0 0) := (k2 _ _ (by (first | omega | (simp; done) | (simp; omega)))).trans (by simp [go_sem, q1, y1]); have p0 : w2.frozen? ⟨w.heap.size, 0, none⟩ = false := (f2 _ _ (by (first | omega | (simp; done) | (simp; omega)))).trans (by simp [go_sem, p0, y1]); have p1 : w2.frozen? ⟨w.heap.size, 1, none⟩ = false := (f2 _ _ (by (first | omega | (simp; done) | (simp; omega)))).trans (by simp [go_sem, p1, y1]); have y2 : w.heap.size < w2.heap.size := z2 _ (by (first | omega | (simp; done) | (simp; omega))); have bel2 : Below w.heap.size w w2 := (by (repeat' (first | (with_reducible exact Below.refl _ _) | (with_reducible refine bl_alloc ?_ _) | (with_reducible refine bl_drewN ?_ _) | (with_reducible refine bl_drew ?_) | (with_reducible assumption) | (with_reducible refine bl_to ?_ (by assumption)) | (with_reducible refine Below.trans ?_ (by assumption)) | (with_reducible refine Below.trans ?_ (Below.mono (by assumption) ?_)) | (with_reducible refine bl_set ?_ ?_ _) | (simp; done) | (simp; omega) | omega))); clear k2 f2 z2))
    have H0 : StripBx (w2.alloc (Obj.cells #[.int .i64 (sofN l a b), .slice none 0 0] 34)) w2.heap.size w2.heap.size (w2.alloc (Obj.cells #[.int .i64 (sofN l a b), .slice none 0 0] 34)) (sofN l a b) (.slice none 0 0) (shN l (a - (gN l 0).1) 0) := StripBx.mk0 rfl (Nat.le_refl _)
    have XQ := Lib.hid (And.intro q0 (And.intro q1 (And.intro p0 p1)))
    clear q0 q1 p0 p1 wa wb wn
    go_wp2
    go_loopw [40] (fun i wr => ∃ (k : Nat) (v : Value), k ≤ l.length ∧ i = .int .i64 k ∧ StripBx (w2.alloc (Obj.cells #[.int .i64 (sofN l a b), .slice none 0 0] 34)) w2.heap.size w2.heap.size wr (sofN l a b) v (shN l (a - (gN l 0).1) k)) (fun i _ => l.length - (intOf i).toNat)
    case atStart => exact ⟨0, _, Nat.zero_le _, rfl, H0⟩
    case round =>
      clear H0
      obtain ⟨k, v, hk, rfl, h⟩ := hrel
      have belr : Below w.heap.size w wr := (bl_alloc bel2 _).trans (h.bel.mono (by omega))
      obtain ⟨q0, q1, p0, p1⟩ := XQ.out
      have hyy : w2.heap.size < wr.heap.size := h.dl
      by_cases hlt : k < l.length
      · have hlt' : (k : Int) < (l.length : Int) := by omega
        obtain ⟨g', o', hgo, _, d0, d1⟩ := RdN.at_ (h1.bl belr) hlt
        obtain ⟨rfl, rfl⟩ : g = g' ∧ o = o' := by simpa using hgo
        obtain ⟨⟨x1, x2⟩, ⟨x3, x4⟩⟩ := okN_bd HOK.out hlt
        have E0 := (belr.cell (p := ⟨g, o, none⟩) hg).trans e0
        have hLl : (shN l (a - (gN l 0).1) k).length ≤ 4194304 := by rw [shN_len]; omega
        have st : StripBx (w2.alloc (Obj.cells #[.int .i64 (sofN l a b), .slice none 0 0] 34)) w2.heap.size w2.heap.size ((wr.alloc (Obj.cells #[.int .i64 (gN l k).1, .int .i64 (gN l k).2] 62)).alloc (Obj.cells #[.int .i64 ((gN l k).1 + (a - (gN l 0).1)), .int .i64 (gN l k).2] 62)).drew (sofN l a b) v (shN l (a - (gN l 0).1) k) := h.step (bl_drew (bl_alloc (bl_alloc (Below.refl _ _) _) _))
        have dv := h.dv
        have hgz : g < wr.heap.size := by omega
        have hw0 : IntKind.i64.wrap ((gN l k).1 - (gN l 0).1) = (gN l k).1 - (gN l 0).1 := IntWalk.i64_in _ (by omega)
        have hw1 : IntKind.i64.wrap ((gN l k).1 - (gN l 0).1 + a) = (gN l k).1 + (a - (gN l 0).1) := (IntWalk.i64_in _ (by omega)).trans (by omega)
        have k0 : (0 : Int) ≤ (k : Int) := by omega
        have HL := Lib.hid hLl
        clear hLl q0 q1 p0 p1 h1 hgo
        go_wp2
        go_region_law ((refine step_app_N1 _ (by rfl) _ _ (by rfl) w2.heap.size v (shN l (a - (gN l 0).1) k) (by rfl) st.ow (wr.heap.size + 1) ((gN l k).1 + (a - (gN l 0).1)) (gN l k).2 (by rfl) (by simp [go_sem]) (by simp [go_sem]) HL.out (by simp; omega) ?_; intro A2 m2 c2 w2' ow2 bb gr at2; obtain ⟨cD, fD⟩ := st.cellAt gr))
        all_goals
          clear hw0 hw1
          go_wp2
          go_roundw
          case rel => exact ⟨k + 1, _, by omega, by go_num, by rw [shN]; exact st.app (_, _) gr ow2 at2⟩
          case measure => simp [intOf]; omega
      · have hlt' : ¬ (k : Int) < (l.length : Int) := by omega
        obtain rfl : k = l.length := by omega
        have Q0 := (h.bel.cell (p := ⟨w.heap.size, 0, none⟩) y2).trans ((World.cell?_alloc_lt w2 _ ⟨w.heap.size, 0, none⟩ y2).trans q0)
        have Q1 := (h.bel.cell (p := ⟨w.heap.size, 1, none⟩) y2).trans ((World.cell?_alloc_lt w2 _ ⟨w.heap.size, 1, none⟩ y2).trans q1)
        have P0 := (h.bel.frozen (p := ⟨w.heap.size, 0, none⟩) y2).trans (show _ = false by simp [go_sem, p0, y2])
        have P1 := (h.bel.frozen (p := ⟨w.heap.size, 1, none⟩) y2).trans (show _ = false by simp [go_sem, p1, y2])
        have T0 := h.d0
        have T1 := h.dv
        have hyw : w.heap.size < wr.heap.size := by omega
        have hLl : (shN l (a - (gN l 0).1) l.length).length ≤ 1048576 := by rw [shN_len]; omega
        have HL := Lib.hid hLl
        have hrd := Rd.of_own h.ow
        clear q0 q1 p0 p1 h1 hLl
        cases hB : stripB (sofN l a b) (shN l (a - (gN l 0).1) l.length)
        · have hBB : sofB l a b = false := EB.out.trans hB
          go_wp2_with (go_at_call 23; refine (stripI_ok _ _ (shN l (a - (gN l 0).1) l.length) _ (hrd.bl (Below.refl _ _)) HL.out).mono ?_; rintro e w5 ⟨rfl, b5⟩; have Z0 := (b5.cell (p := ⟨w.heap.size, 0, none⟩) hyw).trans Q0; have Z1 := (b5.cell (p := ⟨w.heap.size, 1, none⟩) hyw).trans Q1; have F0 := (b5.frozen (p := ⟨w.heap.size, 0, none⟩) hyw).trans P0; have F1 := (b5.frozen (p := ⟨w.heap.size, 1, none⟩) hyw).trans P1)
          exact bodyPost_ret (v := .tuple #[.agg #[.int .i64 0, .slice none 0 0], .bool false]) (by simp [results, Try.results45, go_sem, Z0, Z1]) rfl (by rw [NewStripB, sofFn, sofFl, hBB]; exact ⟨none, 0, rfl, World.ownsRow_nil _ _ _ _, by (repeat' (first | (with_reducible exact Below.refl _ _) | (with_reducible refine bl_alloc ?_ _) | (with_reducible refine bl_drewN ?_ _) | (with_reducible refine bl_drew ?_) | (with_reducible assumption) | (with_reducible refine bl_to ?_ (by assumption)) | (with_reducible refine Below.trans ?_ (by assumption)) | (with_reducible refine Below.trans ?_ (Below.mono (by assumption) ?_)) | (with_reducible refine bl_set ?_ ?_ _) | (simp; done) | (simp; omega) | omega))⟩)
        · have hBB : sofB l a b = true := EB.out.trans hB
          have hFn : sofFn l a b = sofN l a b := by rw [sofFn, if_pos hBB]
          have hFl : sofFl l a b = shN l (a - (gN l 0).1) l.length := by rw [sofFl, if_pos hBB]; rfl
          obtain ⟨A, m, c, rfl, hm⟩ := own_formL h.ow
          have HM := Lib.hid hm
          clear hm
          go_wp2_with (go_at_call 23; refine (stripI_ok _ _ (shN l (a - (gN l 0).1) l.length) _ (hrd.bl (Below.refl _ _)) HL.out).mono ?_; rintro e w5 ⟨rfl, b5⟩; have Z0 := (b5.cell (p := ⟨w.heap.size, 0, none⟩) hyw).trans Q0; have Z1 := (b5.cell (p := ⟨w.heap.size, 1, none⟩) hyw).trans Q1; have F0 := (b5.frozen (p := ⟨w.heap.size, 0, none⟩) hyw).trans P0; have F1 := (b5.frozen (p := ⟨w.heap.size, 1, none⟩) hyw).trans P1; have S0 := (b5.cell (p := ⟨w2.heap.size, 0, none⟩) hyy).trans T0; have S1 := (b5.cell (p := ⟨w2.heap.size, 1, none⟩) hyy).trans T1; have h5 := h.step b5)
          exact bodyPost_ret (v := .tuple #[.agg #[.int .i64 (sofN l a b), .slice A m c], .bool true]) (by simp [results, Try.results45, go_sem, Z0, Z1, S0, S1]) rfl (by rw [NewStripB, hFn, hFl, hBB]; obtain rfl := HM.out; exact ⟨A, c, rfl, own_lo (ownsRow_setCell_below (ownsRow_setCell_below h5.ow (by simp; omega) _) (by simp; omega) _) (by omega), by (repeat' (first | (with_reducible exact Below.refl _ _) | (with_reducible refine bl_alloc ?_ _) | (with_reducible refine bl_drewN ?_ _) | (with_reducible refine bl_drew ?_) | (with_reducible assumption) | (with_reducible refine bl_to ?_ (by assumption)) | (with_reducible refine Below.trans ?_ (by assumption)) | (with_reducible refine Below.trans ?_ (Below.mono (by assumption) ?_)) | (with_reducible refine bl_set ?_ ?_ _) | (simp; done) | (simp; omega) | omega))⟩)
end Go.Proofs.Ytbcmidencifcoaa
