/- SameEntries of the program; sizes up to 2^20. -/
import Derived.Test.YtighmoedkknkoaaSameEn
namespace Go.Proofs.Ytighmoedkknkoaa
open Go.RowKit Go.Sort

set_option maxHeartbeats 6400000 in
set_option maxRecDepth 100000 in
theorem samesI_any (v : Value) (l : List En) (w : World) (h1 : RdE w v l) (hl : l.length + szE l ≤ 1048576) :
    Calls Try.prog 27 #[v] w (NewP (sameF l) w) := by
  obtain ⟨A1, c1, rfl, _, hm⟩ := h1.form
  unfold maxLen at hm
  have cc := fun W h => catalogI_ok (.slice A1 l.length c1) l W h (by omega)
  obtain ⟨F, hF⟩ : ∃ F, sameF l = F := ⟨_, rfl⟩
  rw [hF]
  cases hc : catB l
  · have hf : F = [] := by rw [← hF, sameF, hc]; rfl
    rw [hc] at cc
    have CC := Lib.hid cc
    subst hf
    clear cc hc hF
    go_enter Try.func27, Try.ntmps27
    go_wp2_with (go_at_call 12; refine (CC.out _ h1).mono ?_; rintro e w1 ⟨rfl, b1⟩)
    go_ret
    exact ⟨none, 0, rfl, OwnP.nil _ _ _, b1⟩
  have h20 := catB_len hc
  have HFF : Hid (allP l l.length = F) := by show _ = _; rw [← hF, sameF, hc]; rfl
  rw [hc] at cc
  have CC := Lib.hid cc
  clear cc hc hF
  go_enter Try.func27, Try.ntmps27
  go_wp2_with (go_at_call 12; refine (CC.out _ h1).mono ?_; rintro e w1 ⟨rfl, b1⟩)
  have n0 := OwnP.new0 (w := w1) (Nat.le_refl _)
  have s1 := b1.size
  have b2 := bl_alloc b1 (.cells #[] 64)
  clear CC
  go_loopw [3, 14] (fun q i wr => ∃ k : Nat, k ≤ l.length ∧ i = .int .i64 k ∧ OwnP w.heap.size wr.heap.size wr q (allP l k) ∧ Below w.heap.size w wr) (fun _ i _ => l.length - (intOf i).toNat)
  case atStart => exact ⟨0, Nat.zero_le _, rfl, (n0.mono s1 (by simp)), b2⟩
  case round =>
    clear n0 b1 b2 s1
    obtain ⟨i, hi, rfl, ow, bel⟩ := hrel
    obtain ⟨P, hP⟩ : ∃ P, allP l i = P := ⟨_, rfl⟩
    have hPl := allP_le h20 hi
    rw [hP] at ow hPl
    obtain ⟨A3, c3, hq3⟩ := ow.form
    subst hq3
    by_cases hlt : i < l.length
    · have hlt' : (i : Int) < (l.length : Int) := by omega
      have i0 : (0 : Int) ≤ (i : Int) := by omega
      have HP := Lib.hid hP
      obtain ⟨b, o, v1, hA1, hb, e0, e1, r1⟩ := RdE.at_ h1 hlt
      replace e0 := (bel.cell (p := ⟨b, o + i * 2, none⟩) hb).trans e0
      replace e1 := (bel.cell (p := ⟨b, o + i * 2 + 1, none⟩) hb).trans e1
      obtain ⟨Av, cv, rfl, _, _⟩ := r1.form
      have a1 := szE_at hlt
      obtain ⟨x, hx⟩ : ∃ x, (gE l i).1 = x := ⟨_, rfl⟩
      obtain ⟨m, hm2⟩ : ∃ x, (gE l i).2 = x := ⟨_, rfl⟩
      rw [hx] at e0 a1
      rw [hm2] at e1 r1 a1
      obtain ⟨X, hrun, rD⟩ := run_slR_from h1 (k := i + 1) (by omega)
      rw [show ((i + 1 : Nat) : Int) = (i : Int) + 1 by omega] at hrun
      obtain ⟨d, hd⟩ : ∃ d, l.length - (i + 1) = d := ⟨_, rfl⟩
      obtain ⟨D, hD⟩ : ∃ D, l.drop (i + 1) = D := ⟨_, rfl⟩
      have hDl : D.length = d := by rw [← hD, List.length_drop, hd]
      rw [hd] at hrun rD
      rw [hD] at rD
      have HDg : Hid (∀ j, j < d → gE D j = gE l (i + 1 + j)) := fun j hj => by rw [← hD, gE_drop]
      subst hA1
      have hne : ∀ q, (Value.slice A3 P.length c3).ownBlock = some q → q ≠ wr.heap.size := fun q e => by
        obtain ⟨g, bs, pp⟩ := ow
        have := (pp.vb q e).2
        omega
      have q0 : (wr.alloc (.cells #[.string x, .slice Av m.length cv] 41)).cell? ⟨wr.heap.size, 0, none⟩ = some (.string x) := by simp [go_sem]
      have q1 : (wr.alloc (.cells #[.string x, .slice Av m.length cv] 41)).cell? ⟨wr.heap.size, 1, none⟩ = some (.slice Av m.length cv) := by simp [go_sem]
      have q9 : wr.heap.size < (wr.alloc (.cells #[.string x, .slice Av m.length cv] 41)).heap.size := by simp
      have ba := bl_alloc (Below.refl _ wr) (.cells #[.string x, .slice Av m.length cv] 41)
      have ow1 := (ow.bl ba).hig (Nat.le_refl _)
      have bel1 := bl_to bel ba
      have HX := Lib.hid hx
      have HM2 := Lib.hid hm2
      have HDL := Lib.hid hDl
      have hdl : d ≤ l.length := by omega
      have hid1 : i + 1 + d = l.length := by omega
      have szB : w.heap.size ≤ wr.heap.size := bel.size
      clear hP ow bel ba hd hD hDl hx hm2
      go_wp2
      clear e0 e1 hb hrun
      generalize wr.alloc (.cells #[.string x, .slice Av m.length cv] 41) = w2 at *
      generalize wr.heap.size = Ba at *
      go_loopw [3, 24] (fun q j wr => ∃ k : Nat, k ≤ d ∧ j = .int .i64 k ∧ OwnP w.heap.size wr.heap.size wr q (P ++ rowP l i (i + 1 + k)) ∧ Below w.heap.size w wr ∧ wr.cell? ⟨Ba, 0, none⟩ = some (.string x) ∧ wr.cell? ⟨Ba, 1, none⟩ = some (.slice Av m.length cv) ∧ Ba < wr.heap.size ∧ ∀ z, q.ownBlock = some z → z ≠ Ba) (fun _ j _ => d - (intOf j).toNat)
      case atStart => exact ⟨0, Nat.zero_le _, rfl, by rw [rowP_none l i _ (Nat.le_refl _), List.append_nil]; exact ow1, bel1, q0, q1, q9, hne⟩
      case round =>
        clear ow1 bel1 q0 q1 q9 hne
        obtain ⟨k, hk, rfl, ow, bel, q0, q1, q9, hne⟩ := hrel
        obtain ⟨R, hR⟩ : ∃ R, P ++ rowP l i (i + 1 + k) = R := ⟨_, rfl⟩
        have hRl : R.length ≤ 500 := by rw [← hR, List.length_append]; have := rowP_len l i (i + 1 + k); omega
        rw [hR] at ow
        obtain ⟨A4, c4, hq4⟩ := ow.form
        subst hq4
        by_cases hlk : k < d
        · have hlk' : (k : Int) < (d : Int) := by omega
          have k0 : (0 : Int) ≤ (k : Int) := by omega
          have rDD : RdE w (.slice X D.length (c1 - (i + 1))) D := by rw [HDL.out]; exact rD
          obtain ⟨b2, o2, v2, rfl, hb2, d0, d1, r2⟩ := RdE.at_ rDD (k := k) (by rw [HDL.out]; exact hlk)
          obtain ⟨Aw, cw, rfl, _, _⟩ := r2.form
          have hgd := HDg.out k hlk
          have a2 := szE_at (l := l) (k := i + 1 + k) (by omega)
          rw [hgd] at d0 d1 r2
          obtain ⟨y, hy⟩ : ∃ x, (gE l (i + 1 + k)).1 = x := ⟨_, rfl⟩
          obtain ⟨m2, hm3⟩ : ∃ x, (gE l (i + 1 + k)).2 = x := ⟨_, rfl⟩
          rw [hy] at d0 a2
          rw [hm3] at d1 r2 a2
          replace d0 := (bel.cell (p := ⟨b2, o2 + k * 2, none⟩) hb2).trans d0
          replace d1 := (bel.cell (p := ⟨b2, o2 + k * 2 + 1, none⟩) hb2).trans d1
          have r1w := r1.bl bel
          have r2w := r2.bl bel
          have cs := fun W h h2 => sameI_any (.slice Av m.length cv) (.slice Aw m2.length cw) m m2 W h h2 (by omega) (by omega)
          have bal := bl_alloc (Below.refl _ wr) (.cells #[.string y, .slice Aw m2.length cw] 41)
          have szr : w.heap.size ≤ wr.heap.size := bel.size
          cases hs : sameB m m2
          · rw [hs] at cs
            have CS := Lib.hid cs
            have HR : Hid (P ++ rowP l i (i + 1 + k + 1) = R) := by show _ = _; rw [rowP_miss (by rw [HM2.out, hm3]; exact hs), hR]
            clear cs hs hR hgd hy hm3 a2
            go_wp2_with (go_at_call 49; refine (CS.out _ (r1w.bl (by (repeat' (first | (with_reducible exact Below.refl _ _) | (with_reducible refine bl_alloc ?_ _) | (with_reducible refine bl_drewN ?_ _) | (with_reducible refine bl_drew ?_) | (with_reducible assumption) | (with_reducible refine bl_to ?_ (by assumption)) | (with_reducible refine Below.trans ?_ (by assumption)) | (with_reducible refine Below.trans ?_ (Below.mono (by assumption) ?_)) | (with_reducible refine bl_set ?_ ?_ _) | (simp; done) | (simp; omega) | omega)))) (r2w.bl (by (repeat' (first | (with_reducible exact Below.refl _ _) | (with_reducible refine bl_alloc ?_ _) | (with_reducible refine bl_drewN ?_ _) | (with_reducible refine bl_drew ?_) | (with_reducible assumption) | (with_reducible refine bl_to ?_ (by assumption)) | (with_reducible refine Below.trans ?_ (by assumption)) | (with_reducible refine Below.trans ?_ (Below.mono (by assumption) ?_)) | (with_reducible refine bl_set ?_ ?_ _) | (simp; done) | (simp; omega) | omega))))).mono ?_; rintro e w4 ⟨rfl, b4⟩)
            have b5 := bl_to bal b4
            have p0 := (b5.cell (p := ⟨Ba, 0, none⟩) q9).trans q0
            have p1 := (b5.cell (p := ⟨Ba, 1, none⟩) q9).trans q1
            have p9 := Nat.lt_of_lt_of_le q9 b5.size
            have ow5 := (ow.bl b5).hig (Nat.le_refl _)
            have bel5 := bl_to bel b5
            clear q0 q1 ow bel b4 b5 bal
            go_roundw
            case rel => exact ⟨k + 1, by omega, by go_num, by rw [← Nat.add_assoc, HR.out]; exact ow5, bel5, p0, p1, p9, hne⟩
            case measure => simp [intOf]; omega
          · rw [hs] at cs
            have CS := Lib.hid cs
            obtain ⟨R2, hR2⟩ : ∃ R2, R ++ [(x, y)] = R2 := ⟨_, rfl⟩
            have HR : Hid (P ++ rowP l i (i + 1 + k + 1) = R2) := by show _ = _; rw [rowP_hit (by omega) (by rw [HM2.out, hm3]; exact hs), ← List.append_assoc, hR, HX.out, hy, hR2]
            have HR2 := Lib.hid hR2
            clear cs hs hR hR2 hgd hy hm3 a2
            go_wp2_with (first
              | (go_at_call 49; refine (CS.out _ (r1w.bl (by (repeat' (first | (with_reducible exact Below.refl _ _) | (with_reducible refine bl_alloc ?_ _) | (with_reducible refine bl_drewN ?_ _) | (with_reducible refine bl_drew ?_) | (with_reducible assumption) | (with_reducible refine bl_to ?_ (by assumption)) | (with_reducible refine Below.trans ?_ (by assumption)) | (with_reducible refine Below.trans ?_ (Below.mono (by assumption) ?_)) | (with_reducible refine bl_set ?_ ?_ _) | (simp; done) | (simp; omega) | omega)))) (r2w.bl (by (repeat' (first | (with_reducible exact Below.refl _ _) | (with_reducible refine bl_alloc ?_ _) | (with_reducible refine bl_drewN ?_ _) | (with_reducible refine bl_drew ?_) | (with_reducible assumption) | (with_reducible refine bl_to ?_ (by assumption)) | (with_reducible refine Below.trans ?_ (by assumption)) | (with_reducible refine Below.trans ?_ (Below.mono (by assumption) ?_)) | (with_reducible refine bl_set ?_ ?_ _) | (simp; done) | (simp; omega) | omega))))).mono ?_; rintro e w4 ⟨rfl, b4⟩; have b5 := bl_to bal b4; have p0 := (b5.cell (p := ⟨Ba, 0, none⟩) q9).trans q0; have p1 := (b5.cell (p := ⟨Ba, 1, none⟩) q9).trans q1; have p9 := Nat.lt_of_lt_of_le q9 b5.size; have y0 : w4.cell? ⟨wr.heap.size, 0, none⟩ = some (.string y) := (b4.cell (p := ⟨wr.heap.size, 0, none⟩) (by simp)).trans (by simp [go_sem]); have sz4 : w.heap.size ≤ w4.heap.size := Nat.le_trans szr b5.size; have ow5 := (ow.bl b5).hig (hi' := w4.heap.size) (Nat.le_refl _); have bel5 := bl_to bel b5; clear q0 q1)
              | (at_builtin; refine wpList_app_P _ rfl _ _ rfl w.heap.size w4.heap.size _ R rfl (ow5.bl (by (repeat' (first | (with_reducible exact Below.refl _ _) | (with_reducible refine bl_alloc ?_ _) | (with_reducible refine bl_drewN ?_ _) | (with_reducible refine bl_drew ?_) | (with_reducible assumption) | (with_reducible refine bl_to ?_ (by assumption)) | (with_reducible refine Below.trans ?_ (by assumption)) | (with_reducible refine Below.trans ?_ (Below.mono (by assumption) ?_)) | (with_reducible refine bl_set ?_ ?_ _) | (simp; done) | (simp; omega) | omega)))) (w4.heap.size + 1) w4.heap.size (x, y) rfl (by simp [go_sem]) (by exact (own_pair (w := w4) sz4 x y).alloc _) (Nat.le_refl _) sz4 (by omega) (by simp; omega) R2 HR2.out ?_; intro A5 c5 w5 o5 ap5 gr5 at5))
            have bel6 : Below w.heap.size w w5 := bl_apart (w := w) (by (repeat' (first | (with_reducible exact Below.refl _ _) | (with_reducible refine bl_alloc ?_ _) | (with_reducible refine bl_drewN ?_ _) | (with_reducible refine bl_drew ?_) | (with_reducible assumption) | (with_reducible refine bl_to ?_ (by assumption)) | (with_reducible refine Below.trans ?_ (by assumption)) | (with_reducible refine Below.trans ?_ (Below.mono (by assumption) ?_)) | (with_reducible refine bl_set ?_ ?_ _) | (simp; done) | (simp; omega) | omega))) ap5 (Nat.le_refl _)
            have z0 := (cell_grown gr5 (B := Ba) (by simp; omega) (fun q e e2 => hne q e e2.symm) 0).trans ((show Below w4.heap.size w4 _ by (repeat' (first | (with_reducible exact Below.refl _ _) | (with_reducible refine bl_alloc ?_ _) | (with_reducible refine bl_drewN ?_ _) | (with_reducible refine bl_drew ?_) | (with_reducible assumption) | (with_reducible refine bl_to ?_ (by assumption)) | (with_reducible refine Below.trans ?_ (by assumption)) | (with_reducible refine Below.trans ?_ (Below.mono (by assumption) ?_)) | (with_reducible refine bl_set ?_ ?_ _) | (simp; done) | (simp; omega) | omega))).cell (p := ⟨Ba, 0, none⟩) p9 |>.trans p0)
            have z1 := (cell_grown gr5 (B := Ba) (by simp; omega) (fun q e e2 => hne q e e2.symm) 1).trans ((show Below w4.heap.size w4 _ by (repeat' (first | (with_reducible exact Below.refl _ _) | (with_reducible refine bl_alloc ?_ _) | (with_reducible refine bl_drewN ?_ _) | (with_reducible refine bl_drew ?_) | (with_reducible assumption) | (with_reducible refine bl_to ?_ (by assumption)) | (with_reducible refine Below.trans ?_ (by assumption)) | (with_reducible refine Below.trans ?_ (Below.mono (by assumption) ?_)) | (with_reducible refine bl_set ?_ ?_ _) | (simp; done) | (simp; omega) | omega))).cell (p := ⟨Ba, 1, none⟩) p9 |>.trans p1)
            have z9 : Ba < w5.heap.size := Nat.lt_of_lt_of_le (by simp; omega) gr5.size
            have hne5 : ∀ z, (Value.slice A5 R2.length c5).ownBlock = some z → z ≠ Ba := fun z e => by
              rcases at5 with a | a
              · rw [a] at e; exact hne z e
              · rw [a] at e; simp at e; omega
            clear p0 p1 ow bel b4 b5 bal ow5 gr5 at5 ap5
            go_roundw
            case rel => exact ⟨k + 1, by omega, by go_num, by rw [← Nat.add_assoc, HR.out]; exact o5, bel6, z0, z1, z9, hne5⟩
            case measure => simp [intOf]; omega
        · obtain rfl : k = d := by omega
          have hlk' : ¬ (k : Int) < (k : Int) := by omega
          have HR : Hid (allP l (i + 1) = R) := by show _ = _; rw [allP, HP.out, ← hR, hid1]
          clear hR
          go_wp2
          go_roundw
          case rel => exact ⟨i + 1, by omega, by go_num, by rw [HR.out]; exact ow, bel⟩
          case measure => simp [intOf]; omega
    · obtain rfl : i = l.length := by omega
      have hlt' : ¬ (l.length : Int) < (l.length : Int) := by omega
      rw [HFF.out] at hP
      subst hP
      go_wp2
      go_ret
      exact ⟨_, _, rfl, ow, bel⟩
end Go.Proofs.Ytighmoedkknkoaa
