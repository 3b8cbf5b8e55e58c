/- GlueStrips of the program; lengths up to 2^20. -/
import Derived.Test.YtbcmidencifcoaaGlue0
import Derived.Deep.RegionLaw
namespace Go.Proofs.Ytbcmidencifcoaa
open Go.RowKit

set_option maxHeartbeats 3200000 in
set_option maxRecDepth 100000 in
theorem gluI_any (n1 n2 : Int) (va vb : Value) (l1 l2 : List (Int × Int)) (w : World) (ha : RdN w va l1) (hb : RdN w vb l2) (hl1 : l1.length ≤ 1048576) (hl2 : l2.length ≤ 1048576) :
    Calls Try.prog 39 #[.agg #[.int .i64 n1, va], .agg #[.int .i64 n2, vb]] w (NewStripB (gluN n1 l1 n2 l2) (gluL n1 l1 n2 l2) (gluB n1 l1 n2 l2) w) := by
  cases h1 : stripB n1 l1
  · have hB : gluB n1 l1 n2 l2 = false := by simp [gluB, h1]
    rw [gluN, gluL, hB]
    go_enter Try.func39, Try.ntmps39
    go_wp2_with ((go_at_call 23; refine (stripI_ok _ _ l1 _ (ha.bl (by (repeat' (first | (with_reducible exact Below.refl _ _) | (with_reducible refine bl_alloc ?_ _) | (with_reducible refine bl_drewN ?_ _) | (with_reducible refine bl_drew ?_) | (with_reducible assumption) | (with_reducible refine bl_to ?_ (by assumption)) | (with_reducible refine Below.trans ?_ (by assumption)) | (with_reducible refine Below.trans ?_ (Below.mono (by assumption) ?_)) | (with_reducible refine bl_set ?_ ?_ _) | (simp; done) | (simp; omega) | omega)))) hl1).mono ?_; rintro e w1 ⟨rfl, b1⟩; obtain ⟨k1, f1, z1⟩ := bcell b1); have y1 : w.heap.size + 2 < w1.heap.size := z1 _ (by (first | omega | (simp; done) | (simp; omega))))
    exact bodyPost_ret (v := .tuple #[.agg #[.int .i64 0, .slice none 0 0], .bool false]) (by simp [results, Try.results39, go_sem, k1, y1]) rfl ⟨none, 0, rfl, World.ownsRow_nil _ _ _ _, by (repeat' (first | (with_reducible exact Below.refl _ _) | (with_reducible refine bl_alloc ?_ _) | (with_reducible refine bl_drewN ?_ _) | (with_reducible refine bl_drew ?_) | (with_reducible assumption) | (with_reducible refine bl_to ?_ (by assumption)) | (with_reducible refine Below.trans ?_ (by assumption)) | (with_reducible refine Below.trans ?_ (Below.mono (by assumption) ?_)) | (with_reducible refine bl_set ?_ ?_ _) | (simp; done) | (simp; omega) | omega))⟩
  cases h2 : stripB n2 l2
  · have hB : gluB n1 l1 n2 l2 = false := by simp [gluB, h2]
    rw [gluN, gluL, hB]
    go_enter Try.func39, Try.ntmps39
    go_wp2_with (first | (have tok := f1; (go_at_call 23; refine (stripI_ok _ _ l2 _ (hb.bl (by (repeat' (first | (with_reducible exact Below.refl _ _) | (with_reducible refine bl_alloc ?_ _) | (with_reducible refine bl_drewN ?_ _) | (with_reducible refine bl_drew ?_) | (with_reducible assumption) | (with_reducible refine bl_to ?_ (by assumption)) | (with_reducible refine Below.trans ?_ (by assumption)) | (with_reducible refine Below.trans ?_ (Below.mono (by assumption) ?_)) | (with_reducible refine bl_set ?_ ?_ _) | (simp; done) | (simp; omega) | omega)))) hl2).mono ?_; rintro e w2 ⟨rfl, b2⟩; obtain ⟨k2, f2, z2⟩ := bcell b2); clear tok) | ((go_at_call 23; refine (stripI_ok _ _ l1 _ (ha.bl (by (repeat' (first | (with_reducible exact Below.refl _ _) | (with_reducible refine bl_alloc ?_ _) | (with_reducible refine bl_drewN ?_ _) | (with_reducible refine bl_drew ?_) | (with_reducible assumption) | (with_reducible refine bl_to ?_ (by assumption)) | (with_reducible refine Below.trans ?_ (by assumption)) | (with_reducible refine Below.trans ?_ (Below.mono (by assumption) ?_)) | (with_reducible refine bl_set ?_ ?_ _) | (simp; done) | (simp; omega) | omega)))) hl1).mono ?_; rintro e w1 ⟨rfl, b1⟩; obtain ⟨k1, f1, z1⟩ := bcell b1); have y1 : w.heap.size + 2 < w1.heap.size := z1 _ (by (first | omega | (simp; done) | (simp; omega))); have y1' : w.heap.size + 1 < w1.heap.size := z1 _ (by (first | omega | (simp; done) | (simp; omega)))))
    have q0 : w2.cell? ⟨w.heap.size + 2, 0, none⟩ = some (.int .i64 0) := (k2 _ _ (by (first | omega | (simp; done) | (simp; omega)))).trans ((k1 _ _ (by (first | omega | (simp; done) | (simp; omega)))).trans (by simp [go_sem]))
    have q1 : w2.cell? ⟨w.heap.size + 2, 1, none⟩ = some (.slice none 0 0) := (k2 _ _ (by (first | omega | (simp; done) | (simp; omega)))).trans ((k1 _ _ (by (first | omega | (simp; done) | (simp; omega)))).trans (by simp [go_sem]))
    clear k1 k2
    exact bodyPost_ret (v := .tuple #[.agg #[.int .i64 0, .slice none 0 0], .bool false]) (by simp [results, Try.results39, go_sem, q0, q1]) rfl ⟨none, 0, rfl, World.ownsRow_nil _ _ _ _, by (repeat' (first | (with_reducible exact Below.refl _ _) | (with_reducible refine bl_alloc ?_ _) | (with_reducible refine bl_drewN ?_ _) | (with_reducible refine bl_drew ?_) | (with_reducible assumption) | (with_reducible refine bl_to ?_ (by assumption)) | (with_reducible refine Below.trans ?_ (by assumption)) | (with_reducible refine Below.trans ?_ (Below.mono (by assumption) ?_)) | (with_reducible refine bl_set ?_ ?_ _) | (simp; done) | (simp; omega) | omega))⟩
  obtain ⟨⟨s1, s2⟩, t1, _⟩ := stripB_iff h1
  obtain ⟨⟨s3, s4⟩, t2, _⟩ := stripB_iff h2
  have ll1 := (tuneB_iff t1).1
  have ll2 := (tuneB_iff t2).1
  obtain ⟨Aa, ca, rfl, ha0, ha1⟩ := ha.form
  obtain ⟨Ab, cb, rfl, hb0, hb1⟩ := hb.form
  go_enter Try.func39, Try.ntmps39
  go_wp2_with (first | (have tok := f1; (go_at_call 23; refine (stripI_ok _ _ l2 _ (hb.bl (by (repeat' (first | (with_reducible exact Below.refl _ _) | (with_reducible refine bl_alloc ?_ _) | (with_reducible refine bl_drewN ?_ _) | (with_reducible refine bl_drew ?_) | (with_reducible assumption) | (with_reducible refine bl_to ?_ (by assumption)) | (with_reducible refine Below.trans ?_ (by assumption)) | (with_reducible refine Below.trans ?_ (Below.mono (by assumption) ?_)) | (with_reducible refine bl_set ?_ ?_ _) | (simp; done) | (simp; omega) | omega)))) hl2).mono ?_; rintro e w2 ⟨rfl, b2⟩; obtain ⟨k2, f2, z2⟩ := bcell b2); clear tok) | ((go_at_call 23; refine (stripI_ok _ _ l1 _ (ha.bl (by (repeat' (first | (with_reducible exact Below.refl _ _) | (with_reducible refine bl_alloc ?_ _) | (with_reducible refine bl_drewN ?_ _) | (with_reducible refine bl_drew ?_) | (with_reducible assumption) | (with_reducible refine bl_to ?_ (by assumption)) | (with_reducible refine Below.trans ?_ (by assumption)) | (with_reducible refine Below.trans ?_ (Below.mono (by assumption) ?_)) | (with_reducible refine bl_set ?_ ?_ _) | (simp; done) | (simp; omega) | omega)))) hl1).mono ?_; rintro e w1 ⟨rfl, b1⟩; obtain ⟨k1, f1, z1⟩ := bcell b1); have y1 : w.heap.size + 2 < w1.heap.size := z1 _ (by (first | omega | (simp; done) | (simp; omega))); have y1' : w.heap.size + 1 < w1.heap.size := z1 _ (by (first | omega | (simp; done) | (simp; omega)))))
  have q0 : w2.cell? ⟨w.heap.size + 2, 0, none⟩ = some (.int .i64 0) := (k2 _ _ (by (first | omega | (simp; done) | (simp; omega)))).trans ((k1 _ _ (by (first | omega | (simp; done) | (simp; omega)))).trans (by simp [go_sem]))
  have q1 : w2.cell? ⟨w.heap.size + 2, 1, none⟩ = some (.slice none 0 0) := (k2 _ _ (by (first | omega | (simp; done) | (simp; omega)))).trans ((k1 _ _ (by (first | omega | (simp; done) | (simp; omega)))).trans (by simp [go_sem]))
  have p0 : w2.frozen? ⟨w.heap.size + 2, 0, none⟩ = false := (f2 _ _ (by (first | omega | (simp; done) | (simp; omega)))).trans ((f1 _ _ (by (first | omega | (simp; done) | (simp; omega)))).trans (by simp [go_sem]))
  have p1 : w2.frozen? ⟨w.heap.size + 2, 1, none⟩ = false := (f2 _ _ (by (first | omega | (simp; done) | (simp; omega)))).trans ((f1 _ _ (by (first | omega | (simp; done) | (simp; omega)))).trans (by simp [go_sem]))
  have x0 : w2.cell? ⟨w.heap.size, 0, none⟩ = some (.int .i64 n1) := (k2 _ _ (by (first | omega | (simp; done) | (simp; omega)))).trans ((k1 _ _ (by (first | omega | (simp; done) | (simp; omega)))).trans (by simp [go_sem]))
  have x1 : w2.cell? ⟨w.heap.size, 1, none⟩ = some (.slice Aa l1.length ca) := (k2 _ _ (by (first | omega | (simp; done) | (simp; omega)))).trans ((k1 _ _ (by (first | omega | (simp; done) | (simp; omega)))).trans (by simp [go_sem]))
  have x2 : w2.cell? ⟨w.heap.size + 1, 0, none⟩ = some (.int .i64 n2) := (k2 _ _ (by (first | omega | (simp; done) | (simp; omega)))).trans ((k1 _ _ (by (first | omega | (simp; done) | (simp; omega)))).trans (by simp [go_sem]))
  have x3 : w2.cell? ⟨w.heap.size + 1, 1, none⟩ = some (.slice Ab l2.length cb) := (k2 _ _ (by (first | omega | (simp; done) | (simp; omega)))).trans ((k1 _ _ (by (first | omega | (simp; done) | (simp; omega)))).trans (by simp [go_sem]))
  have bel2 : Below w.heap.size w w2 := by (repeat' (first | (with_reducible exact Below.refl _ _) | (with_reducible refine bl_alloc ?_ _) | (with_reducible refine bl_drewN ?_ _) | (with_reducible refine bl_drew ?_) | (with_reducible assumption) | (with_reducible refine bl_to ?_ (by assumption)) | (with_reducible refine Below.trans ?_ (by assumption)) | (with_reducible refine Below.trans ?_ (Below.mono (by assumption) ?_)) | (with_reducible refine bl_set ?_ ?_ _) | (simp; done) | (simp; omega) | omega))
  have y2 : w.heap.size + 2 < w2.heap.size := Nat.lt_of_lt_of_le y1 b2.size
  have y3 : w.heap.size < w2.heap.size := by omega
  have y4 : w.heap.size + 1 < w2.heap.size := by omega
  clear k1 f1 z1 b1 k2 f2 z2 b2 y1 y1'
  have hra := ha.bl bel2
  have hww : IntKind.i64.wrap (n1 + n2) = n1 + n2 := IntWalk.i64_in _ (by omega)
  go_upto_region 3 with (fail)
  go_cut [6] (fun s wx => GMade w2 (n1 + n2) l1 s wx)
  case first =>
    go_region_held3 (fun w' => w'.cell? ⟨w.heap.size, 0, none⟩ = some (.int .i64 n1) ∧ w'.cell? ⟨w.heap.size, 1, none⟩ = some (.slice Aa l1.length ca) ∧ w'.cell? ⟨w.heap.size + 1, 0, none⟩ = some (.int .i64 n2)) (first | exact ⟨u0, u1, u2⟩ | exact ⟨cell_two u0 (by omega), cell_two u1 (by omega), cell_two u2 (by omega)⟩ | go_keep) (((go_at_call 63; refine (copyNotes_any _ l1 _ (hra.bl (by (repeat' (first | (with_reducible exact Below.refl _ _) | (with_reducible refine bl_alloc ?_ _) | (with_reducible refine bl_drewN ?_ _) | (with_reducible refine bl_drew ?_) | (with_reducible assumption) | (with_reducible refine bl_to ?_ (by assumption)) | (with_reducible refine Below.trans ?_ (by assumption)) | (with_reducible refine Below.trans ?_ (Below.mono (by assumption) ?_)) | (with_reducible refine bl_set ?_ ?_ _) | (simp; done) | (simp; omega) | omega)))) hl1).mono ?_; rintro e w3 ⟨A3, c3, rfl, ow3, b3⟩; obtain ⟨k3, f3, z3⟩ := bcell b3); have u0 : w3.cell? ⟨w.heap.size, 0, none⟩ = some (.int .i64 n1) := (k3 _ _ (by (first | omega | (simp; done) | (simp; omega)))).trans (by simp [go_sem, x0, y3]); have u1 : w3.cell? ⟨w.heap.size, 1, none⟩ = some (.slice Aa l1.length ca) := (k3 _ _ (by (first | omega | (simp; done) | (simp; omega)))).trans (by simp [go_sem, x1, y3]); have u2 : w3.cell? ⟨w.heap.size + 1, 0, none⟩ = some (.int .i64 n2) := (k3 _ _ (by (first | omega | (simp; done) | (simp; omega)))).trans (by simp [go_sem, x2, y4])))
    all_goals
      clear hww
      go_wp2
      go_meet
      first
        | exact gmade_a (w2 := w2) ow3 (bl_undrew b3)
        | exact gmade_b (w2 := w2) ow3 (bl_undrew b3)
  case rest =>
    obtain ⟨D, v, rfl, h⟩ := hcut
    obtain ⟨w3, rfl⟩ : ∃ x : World, x = wc := ⟨_, rfl⟩
    have H0 : StripBx w2 w2.heap.size D w3 (n1 + n2) v (l1 ++ shN l2 n1 0) := by simpa [shN] using h
    have XQ := Lib.hid (And.intro x0 (And.intro x3 (And.intro q0 (And.intro q1 (And.intro p0 p1)))))
    replace x3 := (h.bel.cell (p := ⟨w.heap.size + 1, 1, none⟩) y4).trans x3
    clear h x0 x1 x2 q0 q1 p0 p1 hww hra
    go_wp2
    go_loopw [30] (fun i wr => ∃ (k : Nat) (v : Value), k ≤ l2.length ∧ i = .int .i64 k ∧ StripBx w2 w2.heap.size D wr (n1 + n2) v (l1 ++ shN l2 n1 k)) (fun i _ => l2.length - (intOf i).toNat)
    case atStart => exact ⟨0, v, Nat.zero_le _, rfl, H0⟩
    case round =>
      clear H0 x3
      obtain ⟨k, v, hk, rfl, h⟩ := hrel
      have belr : Below w.heap.size w wr := bel2.trans (h.bel.mono (by omega))
      obtain ⟨x0, x3, q0, q1, p0, p1⟩ := XQ.out
      by_cases hlt : k < l2.length
      · have hlt' : (k : Int) < (l2.length : Int) := by omega
        obtain ⟨g, o, rfl, hg, e0, e1⟩ := RdN.at_ (hb.bl belr) hlt
        obtain ⟨⟨a1, a2⟩, _⟩ := okN_bd (tuneB_iff t2).2 hlt
        have X0 := (h.bel.cell (p := ⟨w.heap.size, 0, none⟩) y3).trans x0
        have hLl : (l1 ++ shN l2 n1 k).length ≤ 4194304 := by rw [List.length_append, shN_len]; omega
        have st : StripBx w2 w2.heap.size D ((wr.alloc (Obj.cells #[.int .i64 (gN l2 k).1, .int .i64 (gN l2 k).2] 62)).alloc (Obj.cells #[.int .i64 ((gN l2 k).1 + n1), .int .i64 (gN l2 k).2] 62)) (n1 + n2) v (l1 ++ shN l2 n1 k) := h.step (bl_alloc (bl_alloc (Below.refl _ _) _) _)
        have dv := h.dv
        have hdl := h.dl
        have hyy : w.heap.size < wr.heap.size := by have := h.hB; omega
        have HL := Lib.hid hLl
        clear hLl x0 x3 q0 q1 p0 p1 ha hb
        go_wp2_with (at_builtin; refine wpList_app_N _ rfl _ _ rfl w2.heap.size _ _ rfl st.ow (wr.heap.size + 1) ((gN l2 k).1 + n1) (gN l2 k).2 rfl ?_ ?_ HL.out (by have := h.hB; simp; omega) ?_; rotate_left 2; intro v2 w2' ow2 bb gr at2; obtain ⟨A2, m2, c2, rfl⟩ := own_form3 ow2; obtain ⟨cD, fD⟩ := st.cellAt gr)
        · go_roundw
          case rel => exact ⟨k + 1, _, by omega, by go_num, by rw [shN, ← List.append_assoc]; exact st.app (_, _) gr ow2 at2⟩
          case measure => simp [intOf]; omega
        all_goals (simp; done)
      · obtain rfl : k = l2.length := by omega
        have Q0 := (h.bel.cell (p := ⟨w.heap.size + 2, 0, none⟩) y2).trans q0
        have Q1 := (h.bel.cell (p := ⟨w.heap.size + 2, 1, none⟩) y2).trans q1
        have P0 := (h.bel.frozen (p := ⟨w.heap.size + 2, 0, none⟩) y2).trans p0
        have P1 := (h.bel.frozen (p := ⟨w.heap.size + 2, 1, none⟩) y2).trans p1
        have T0 := h.d0
        have T1 := h.dv
        have hdl := h.dl
        have hyy : w.heap.size + 2 < wr.heap.size := by have := h.hB; omega
        have hLl : (l1 ++ shN l2 n1 l2.length).length ≤ 1048576 := by rw [List.length_append, shN_len]; omega
        have HL := Lib.hid hLl
        have hrd := Rd.of_own h.ow
        clear x0 x3 q0 q1 p0 p1 ha hb hLl
        cases hB : stripB (n1 + n2) (l1 ++ shN l2 n1 l2.length)
        · have hBB : gluB n1 l1 n2 l2 = false := by simp [gluB, hB]
          go_wp2_with (go_at_call 23; refine (stripI_ok _ _ (l1 ++ shN l2 n1 l2.length) _ (hrd.bl (Below.refl _ _)) HL.out).mono ?_; rintro e w5 ⟨rfl, b5⟩; have Z0 := (b5.cell (p := ⟨w.heap.size + 2, 0, none⟩) hyy).trans Q0; have Z1 := (b5.cell (p := ⟨w.heap.size + 2, 1, none⟩) hyy).trans Q1; have F0 := (b5.frozen (p := ⟨w.heap.size + 2, 0, none⟩) hyy).trans P0; have F1 := (b5.frozen (p := ⟨w.heap.size + 2, 1, none⟩) hyy).trans P1)
          exact bodyPost_ret (v := .tuple #[.agg #[.int .i64 0, .slice none 0 0], .bool false]) (by simp [results, Try.results39, go_sem, Z0, Z1]) rfl (by rw [NewStripB, gluN, gluL, hBB]; exact ⟨none, 0, rfl, World.ownsRow_nil _ _ _ _, by (repeat' (first | (with_reducible exact Below.refl _ _) | (with_reducible refine bl_alloc ?_ _) | (with_reducible refine bl_drewN ?_ _) | (with_reducible refine bl_drew ?_) | (with_reducible assumption) | (with_reducible refine bl_to ?_ (by assumption)) | (with_reducible refine Below.trans ?_ (by assumption)) | (with_reducible refine Below.trans ?_ (Below.mono (by assumption) ?_)) | (with_reducible refine bl_set ?_ ?_ _) | (simp; done) | (simp; omega) | omega))⟩)
        · have hBB : gluB n1 l1 n2 l2 = true := by simp [gluB, h1, h2, hB]
          obtain ⟨A, m, c, rfl, hm⟩ := own_formL h.ow
          have HM := Lib.hid hm
          clear hm
          go_wp2_with (go_at_call 23; refine (stripI_ok _ _ (l1 ++ shN l2 n1 l2.length) _ (hrd.bl (Below.refl _ _)) HL.out).mono ?_; rintro e w5 ⟨rfl, b5⟩; have Z0 := (b5.cell (p := ⟨w.heap.size + 2, 0, none⟩) hyy).trans Q0; have Z1 := (b5.cell (p := ⟨w.heap.size + 2, 1, none⟩) hyy).trans Q1; have F0 := (b5.frozen (p := ⟨w.heap.size + 2, 0, none⟩) hyy).trans P0; have F1 := (b5.frozen (p := ⟨w.heap.size + 2, 1, none⟩) hyy).trans P1; have S0 := (b5.cell (p := ⟨D, 0, none⟩) hdl).trans T0; have S1 := (b5.cell (p := ⟨D, 1, none⟩) hdl).trans T1; have h5 := h.step b5)
          exact bodyPost_ret (v := .tuple #[.agg #[.int .i64 (n1 + n2), .slice A m c], .bool true]) (by simp [results, Try.results39, go_sem, Z0, Z1, S0, S1]) rfl (by rw [NewStripB, gluN, gluL, hBB]; obtain rfl := HM.out; exact ⟨A, c, rfl, own_lo (ownsRow_setCell_below (ownsRow_setCell_below h5.ow (by simp; omega) _) (by simp; omega) _) (by omega), by (repeat' (first | (with_reducible exact Below.refl _ _) | (with_reducible refine bl_alloc ?_ _) | (with_reducible refine bl_drewN ?_ _) | (with_reducible refine bl_drew ?_) | (with_reducible assumption) | (with_reducible refine bl_to ?_ (by assumption)) | (with_reducible refine Below.trans ?_ (by assumption)) | (with_reducible refine Below.trans ?_ (Below.mono (by assumption) ?_)) | (with_reducible refine bl_set ?_ ?_ _) | (simp; done) | (simp; omega) | omega))⟩)
end Go.Proofs.Ytbcmidencifcoaa
