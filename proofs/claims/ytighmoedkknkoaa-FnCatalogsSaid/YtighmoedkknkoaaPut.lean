/- PutEntry of the program; sizes up to 2^20. -/
import Derived.Test.YtighmoedkknkoaaDropEntry0
import Derived.Test.YtighmoedkknkoaaPut0
namespace Go.Proofs.Ytighmoedkknkoaa
open Go.RowKit

set_option maxHeartbeats 6400000 in
set_option maxRecDepth 100000 in
theorem putI_any (v : Value) (s : ByteArray) (ve : Value) (m : List (Int × Int)) (l : List En) (w : World) (h1 : RdE w v l) (h2 : RdN w ve m) (hl : l.length + szE l + (s.size + m.length) ≤ 1048576) :
    Calls Try.prog 23 #[v, .agg #[.string s, ve]] w (NewEB (putL l (s, m)) (putQ l (s, m)) w) := by
  obtain ⟨A1, c1, rfl, hc1, hm⟩ := h1.form
  obtain ⟨Ae, ce, rfl, _, _⟩ := h2.form
  obtain ⟨me, hme⟩ : ∃ n, m.length = n := ⟨_, rfl⟩
  rw [hme] at h2
  rw [hme]
  have ba := bl_alloc (Below.refl _ w) (.cells #[.string s, .slice Ae me ce] 41)
  have r1 := h1.bl ba
  have r2 := h2.bl ba
  have q0 : (w.alloc (.cells #[.string s, .slice Ae me ce] 41)).cell? ⟨w.heap.size, 0, none⟩ = some (.string s) := by simp [go_sem]
  have q1 : (w.alloc (.cells #[.string s, .slice Ae me ce] 41)).cell? ⟨w.heap.size, 1, none⟩ = some (.slice Ae me ce) := by simp [go_sem]
  have q9 : w.heap.size < (w.alloc (.cells #[.string s, .slice Ae me ce] 41)).heap.size := by simp
  have cc := fun W h => catalogI_ok (.slice A1 l.length c1) l W h (by omega)
  have cp := fun W h => copyCatI_any (.slice A1 l.length c1) l W h (by omega)
  have cf := fun W h => findI_any (.slice A1 l.length c1) s l W h (by omega)
  have hps := putL_sz l (s, m)
  by_cases hb : catB l = true ∧ fndF l s < 0
  rotate_left
  · have hQ : putQ l (s, m) = false := by
      cases hc : catB l with
      | false => simp [putQ, hc]
      | true => simp only [not_and, hc, forall_const] at hb; simp [putQ, hb]
    have hL : putL l (s, m) = l := by simp [putL, hQ]
    rw [hQ, hL]
    have hff := fndF_bd l s
    cases hc : catB l
    · rw [hc] at cc
      have CC := Lib.hid cc
      have CP := Lib.hid cp
      clear cc cp cf hps hQ hL hb hff hc h1 h2
      go_enter Try.func23, Try.ntmps23
      go_wp2_with fail
      refine (CC.out _ r1).mono ?_
      rintro e w1 ⟨rfl, b1⟩
      have bel := bl_to ba b1
      go_wp2_with fail
      refine (CP.out _ (r1.bl b1)).mono ?_
      rintro e w2 ⟨A2, c2, rfl, o2, b2⟩
      go_wp2
      go_ret2
      exact ⟨_, _, rfl, o2.mono bel.size (Nat.le_refl _), bl_to bel b2⟩
    · have hge : 0 ≤ fndF l s := by
        simp only [not_and, hc, forall_const] at hb
        omega
      rw [hc] at cc
      generalize fndF l s = f at *
      have hge' : ¬ f < 0 := by omega
      have CC := Lib.hid cc
      have CP := Lib.hid cp
      have CF := Lib.hid cf
      clear cc cp cf hps hQ hL hb hff hc h1 h2
      go_enter Try.func23, Try.ntmps23
      go_wp2_with fail
      refine (CC.out _ r1).mono ?_
      rintro e w1 ⟨rfl, b1⟩
      have bel := bl_to ba b1
      have r1 := r1.bl b1
      have q0 := (b1.cell (p := ⟨w.heap.size, 0, none⟩) q9).trans q0
      clear b1
      go_wp2_with fail
      refine (CF.out _ r1).mono ?_
      rintro e w2 ⟨rfl, b2⟩
      have bel2 := bl_to bel b2
      have r1 := r1.bl b2
      clear b2
      go_wp2_with fail
      refine (CP.out _ r1).mono ?_
      rintro e w3 ⟨A2, c2, rfl, o2, b2⟩
      go_wp2
      go_ret2
      exact ⟨_, _, rfl, o2.mono bel2.size (Nat.le_refl _), bl_to bel2 b2⟩
  obtain ⟨hc, hneg⟩ := hb
  have hbd := fndF_bd l s
  have hP0 : posI l s ≤ l.length := List.findIdx_le_length
  have hPn : ∀ k, k < posI l s → Op.bytesLess (gE l k).1.toList s.toList = true := fun k hk => by
    have := idx_no (P := fun x : En => !ltS x.1 s) (l := l) (k := k) hk
    simpa [ltS] using this
  have hPy : posI l s < l.length → Op.bytesLess (gE l (posI l s)).1.toList s.toList = false := fun h => by
    have := idx_yes (P := fun x : En => !ltS x.1 s) (l := l) h
    simpa [ltS, posI] using this
  have hQ : putQ l (s, m) = catB (insL l (posI l s) (s, m)) := by simp [putQ, hc, hneg]
  have hLL : putL l (s, m) = if catB (insL l (posI l s) (s, m)) then insL l (posI l s) (s, m) else l := by rw [putL, hQ]
  obtain ⟨L, hL⟩ : ∃ L, putL l (s, m) = L := ⟨_, rfl⟩
  obtain ⟨Q, hQQ⟩ : ∃ L, putQ l (s, m) = L := ⟨_, rfl⟩
  rw [hL] at hLL
  rw [hQQ] at hQ
  rw [hL, hQQ]
  rw [hc] at cc
  generalize fndF l s = f at *
  obtain ⟨P, hP⟩ : ∃ P, posI l s = P := ⟨_, rfl⟩
  rw [hP] at hP0 hPn hPy hQ hLL
  have hsz := szE_ins l P (s, m)
  have hln := insL_len l P (s, m)
  have hI : insL l P (s, m) = l.take P ++ [(s, m)] ++ l.drop P := rfl
  obtain ⟨N, hN⟩ : ∃ N, insL l P (s, m) = N := ⟨_, rfl⟩
  rw [hN] at hsz hln hI hQ hLL
  obtain ⟨T1, hT1⟩ : ∃ T, l.take P = T := ⟨_, rfl⟩
  obtain ⟨T2, hT2⟩ : ∃ T, l.drop P = T := ⟨_, rfl⟩
  have hT1l : T1.length = P := by rw [← hT1, List.length_take]; omega
  have hT2l : T2.length = l.length - P := by rw [← hT2, List.length_drop]
  have hTs := szE_append T1 T2
  rw [show T1 ++ T2 = l by rw [← hT1, ← hT2, List.take_append_drop]] at hTs
  rw [hT1, hT2] at hI
  simp only at hsz
  have cn := fun W v h => catalogI_ok v N W h (by omega)
  rw [← hQ] at cn hLL
  have HLL : Hid (L = if Q then N else l) := hLL
  have ca := fun W v h => copyCatI_any v T1 W h (by omega)
  have cb := fun W v h => copyCatI_any v [(s, m)] W h (by simp [szE]; omega)
  have cd := fun W v h => copyCatI_any v T2 W h (by omega)
  have CC := Lib.hid cc
  have CP := Lib.hid cp
  have CF := Lib.hid cf
  have CN := Lib.hid cn
  have CA := Lib.hid ca
  have CB := Lib.hid cb
  have CD := Lib.hid cd
  have HI := Lib.hid hI
  have HT1 := Lib.hid hT1
  have HT2 := Lib.hid hT2
  have HPN := Lib.hid hPn
  have HPY := Lib.hid hPy
  have HME := Lib.hid hme
  have hgd : f < 0 := hneg
  have hgd2 : decide ((0 : Int) ≤ f) = false := by simpa using hneg
  have B1 : T1.length ≤ 1048576 := by omega
  have B2 : T1.length + 1 + T2.length ≤ 1048577 := by omega
  have HL1 := Lib.hid hT1l
  have HL2 := Lib.hid hT2l
  have h1w := h1
  clear cc cp cf cn ca cb cd hps hQ hLL hL hQQ hbd hc h1 h2 hP hN hI hT1 hT2 hT1l hT2l hTs hsz hln hPn hPy hneg hme
  go_enter Try.func23, Try.ntmps23
  go_wp2_with fail
  refine (CC.out _ r1).mono ?_
  rintro e w1 ⟨rfl, b1⟩
  have bel := bl_to ba b1
  replace r1 := r1.bl b1
  replace r2 := r2.bl b1
  replace q0 := (b1.cell (p := ⟨w.heap.size, 0, none⟩) q9).trans q0
  replace q1 := (b1.cell (p := ⟨w.heap.size, 1, none⟩) q9).trans q1
  replace q9 : w.heap.size < w1.heap.size := Nat.lt_of_lt_of_le q9 b1.size
  clear b1 ba
  go_wp2_with fail
  refine (CF.out _ r1).mono ?_
  rintro e w2 ⟨rfl, b2⟩
  replace bel := bl_to bel b2
  replace r1 := r1.bl b2
  replace r2 := r2.bl b2
  replace q0 := (b2.cell (p := ⟨w.heap.size, 0, none⟩) q9).trans q0
  replace q1 := (b2.cell (p := ⟨w.heap.size, 1, none⟩) q9).trans q1
  replace q9 : w.heap.size < w2.heap.size := Nat.lt_of_lt_of_le q9 b2.size
  clear b2 CC CF
  go_wp2
  go_loopw [6] (fun i wr => ∃ k nq : Nat, k ≤ P ∧ i = .int .i64 k ∧ wr = w2.drewN nq) (fun i _ => P - (intOf i).toNat)
  case atStart => exact ⟨0, 0, Nat.zero_le _, rfl, rfl⟩
  case round =>
    obtain ⟨k, nq, hk, rfl, rfl⟩ := hrel
    have hq0 : (w2.drewN nq).cell? ⟨w.heap.size, 0, none⟩ = some (.string s) := q0
    by_cases hkP : k < P
    · have hkl : k < l.length := by omega
      obtain ⟨b, o, vt, rfl, hb, e0, _, _⟩ := RdE.at_ r1 hkl
      have e0 : (w2.drewN nq).cell? ⟨b, o + k * 2, none⟩ = _ := e0
      have hlt' : (k : Int) < (l.length : Int) := by omega
      have hld : decide (k < l.length) = true := by simpa using hkl
      have k0 : (0 : Int) ≤ (k : Int) := by omega
      have hb := HPN.out k hkP
      clear r1 r2 q0 q1
      generalize hwz : w2.drewN nq = wz at *
      have HWZ := Lib.hid hwz
      clear hwz
      go_wp2
      go_big_quiet (fail)
      go_wp2
      go_roundw
      case rel => exact ⟨k + 1, _, by omega, by go_num, by rw [← HWZ.out, World.drewN_drewN]⟩
      case measure => simp [intOf]; omega
    · obtain rfl : k = P := by omega
      have bw := bl_drewN (Below.refl w2.heap.size w2) nq
      replace r1 := r1.bl bw
      replace r2 := r2.bl bw
      replace bel := bl_to bel bw
      replace q9 : w.heap.size < (w2.drewN nq).heap.size := q9
      clear bw q0
      replace q1 : (w2.drewN nq).cell? ⟨w.heap.size, 1, none⟩ = some (.slice Ae me ce) := q1
      generalize w2.drewN nq = w3 at *
      by_cases hkl : k < l.length
      obtain ⟨b, o, vt, hA1, hb, e0, _, _⟩ := RdE.at_ r1 hkl
      subst hA1
      have hlt' : (k : Int) < (l.length : Int) := by omega
      have hld : decide (k < l.length) = true := by simpa using hkl
      have k0 : (0 : Int) ≤ (k : Int) := by omega
      have hb2 := HPY.out hkl
      go_wp2
      go_big_quiet (fail)
      clear hb2 k0 hld hlt' e0 hb
      go_upto_region 6 with (fail)
      rotate_left
      have hlt' : ¬ (k : Int) < (l.length : Int) := by omega
      have hld : decide (k < l.length) = false := by simpa using hkl
      go_wp2
      go_big_quiet (fail)
      clear hld hlt'
      go_upto_region 6 with (fail)
      all_goals
        have bw := bl_drewN (Below.refl w3.heap.size w3) nq
        replace r1 := r1.bl bw
        replace r2 := r2.bl bw
        replace bel := bl_to bel bw
        replace q9 : w.heap.size < (w3.drewN nq).heap.size := q9
        replace q1 : (w3.drewN nq).cell? ⟨w.heap.size, 1, none⟩ = some (.slice Ae me ce) := q1
        replace hq0 : (w3.drewN nq).cell? ⟨w.heap.size, 0, none⟩ = some (.string s) := hq0
        clear bw
        generalize w3.drewN nq = w4 at *
        obtain ⟨hrun1, rA⟩ := run_slR_to r1 (k := k) (by omega)
        obtain ⟨X, hrun2, rD⟩ := run_slR_from r1 (k := k) (by omega)
        rw [HT1.out] at rA
        rw [HT2.out] at rD
        have hlk : l.length - k = T2.length := HL2.out.symm
        rw [hlk] at hrun2 rD
        have rB : RdN w4 (.slice Ae me ce) m := r2
        go_upto_region 6 with (fail)
        obtain ⟨L1, hL1⟩ : ∃ L1, T1 ++ [(s, m)] = L1 := ⟨_, rfl⟩
        have hL1l : L1.length = T1.length + 1 := by rw [← hL1]; simp
        have HL1' := Lib.hid hL1
        have HLL1 := Lib.hid hL1l
        have sz4 : w.heap.size ≤ w4.heap.size := bel.size
        have HR2 := Lib.hid hrun2
        clear hrun2 hL1 hL1l
        go_cut [7] (fun q wx => ∃ A c, q = .slice A L1.length c ∧ OwnE w4.heap.size wx.heap.size wx (.slice A L1.length c) L1 ∧ Below w4.heap.size w4 wx)
        case first =>
          clear HR2 rD r1 CN CD CP HLL HPN HPY HI
          go_region_held3 (fun w' => w'.cell? ⟨w.heap.size, 0, none⟩ = some (.string s) ∧ w'.cell? ⟨w.heap.size, 1, none⟩ = some (.slice Ae me ce))
            (first | exact ⟨x0, x1⟩ | exact ⟨v0, v1⟩ | exact ⟨u0, u1⟩ | go_keep)
            (first
              | (have tok := ordAB; refine step_is_append (.tmp 39) (.tmp 42) _ rfl ?_; refine step_app_E _ (by rfl) _ _ (by rfl) _ _ _ T1 (by rfl) oA _ _ _ [(s, m)] (by rfl) oB (.inl (by first | exact Nat.le_refl _ | omega | (simp; done) | (simp; omega))) w4.heap.size (by first | exact Nat.le_refl _ | omega | (simp; done) | (simp; omega)) (by first | exact Nat.le_refl _ | omega | (simp; done) | (simp; omega)) (by simp; omega) (by first | exact Nat.le_refl _ | omega | (simp; done) | (simp; omega)) L1 HL1'.out ?_; intro A4 c4 w5 o5 p5; have z5 : Below w4.heap.size w4 w5 := (show Below w4.heap.size w4 wB by (repeat' (first | (with_reducible exact Below.refl _ _) | (with_reducible refine bl_alloc ?_ _) | (with_reducible refine bl_drewN ?_ _) | (with_reducible refine bl_drew ?_) | (with_reducible assumption) | (with_reducible refine bl_to ?_ (by assumption)) | (with_reducible refine Below.trans ?_ (by assumption)) | (with_reducible refine Below.trans ?_ (Below.mono (by assumption) ?_)) | (with_reducible refine bl_set ?_ ?_ _) | (simp; done) | (simp; omega) | omega))).trans (p5.below (by first | exact Nat.le_refl _ | omega | (simp; done) | (simp; omega)) (by first | exact Nat.le_refl _ | omega | (simp; done) | (simp; omega))); have x0 := z5.cell (p := ⟨w.heap.size, 0, none⟩) q9 |>.trans hq0; have x1 := z5.cell (p := ⟨w.heap.size, 1, none⟩) q9 |>.trans q1; clear tok)
              | (have tok := ordBA; refine step_is_append (.tmp 39) (.tmp 42) _ rfl ?_; refine step_app_E _ (by rfl) _ _ (by rfl) _ _ _ T1 (by rfl) oA _ _ _ [(s, m)] (by rfl) oB (.inr (by first | exact Nat.le_refl _ | omega | (simp; done) | (simp; omega))) w4.heap.size (by first | exact Nat.le_refl _ | omega | (simp; done) | (simp; omega)) (by first | exact Nat.le_refl _ | omega | (simp; done) | (simp; omega)) (by simp; omega) (by first | exact Nat.le_refl _ | omega | (simp; done) | (simp; omega)) L1 HL1'.out ?_; intro A4 c4 w5 o5 p5; have z5 : Below w4.heap.size w4 w5 := (show Below w4.heap.size w4 wA by (repeat' (first | (with_reducible exact Below.refl _ _) | (with_reducible refine bl_alloc ?_ _) | (with_reducible refine bl_drewN ?_ _) | (with_reducible refine bl_drew ?_) | (with_reducible assumption) | (with_reducible refine bl_to ?_ (by assumption)) | (with_reducible refine Below.trans ?_ (by assumption)) | (with_reducible refine Below.trans ?_ (Below.mono (by assumption) ?_)) | (with_reducible refine bl_set ?_ ?_ _) | (simp; done) | (simp; omega) | omega))).trans (p5.below (by first | exact Nat.le_refl _ | omega | (simp; done) | (simp; omega)) (by first | exact Nat.le_refl _ | omega | (simp; done) | (simp; omega))); have x0 := z5.cell (p := ⟨w.heap.size, 0, none⟩) q9 |>.trans hq0; have x1 := z5.cell (p := ⟨w.heap.size, 1, none⟩) q9 |>.trans q1; clear tok)
              | (have tok := bB; go_at_call 41; (with_reducible refine (CA.out _ _ ?ra).mono ?_); (case ra => exact rA.bl (by (repeat' (first | (with_reducible exact Below.refl _ _) | (with_reducible refine bl_alloc ?_ _) | (with_reducible refine bl_drewN ?_ _) | (with_reducible refine bl_drew ?_) | (with_reducible assumption) | (with_reducible refine bl_to ?_ (by assumption)) | (with_reducible refine Below.trans ?_ (by assumption)) | (with_reducible refine Below.trans ?_ (Below.mono (by assumption) ?_)) | (with_reducible refine bl_set ?_ ?_ _) | (simp; done) | (simp; omega) | omega)))); rintro e wA ⟨Aa, ca, rfl, oA, bA⟩; have zA := bA.size; (try simp at zA); have sA : w4.heap.size ≤ wA.heap.size := (show Below w4.heap.size w4 wA by (repeat' (first | (with_reducible exact Below.refl _ _) | (with_reducible refine bl_alloc ?_ _) | (with_reducible refine bl_drewN ?_ _) | (with_reducible refine bl_drew ?_) | (with_reducible assumption) | (with_reducible refine bl_to ?_ (by assumption)) | (with_reducible refine Below.trans ?_ (by assumption)) | (with_reducible refine Below.trans ?_ (Below.mono (by assumption) ?_)) | (with_reducible refine bl_set ?_ ?_ _) | (simp; done) | (simp; omega) | omega))).size; have u0 := (show Below w4.heap.size w4 wA by (repeat' (first | (with_reducible exact Below.refl _ _) | (with_reducible refine bl_alloc ?_ _) | (with_reducible refine bl_drewN ?_ _) | (with_reducible refine bl_drew ?_) | (with_reducible assumption) | (with_reducible refine bl_to ?_ (by assumption)) | (with_reducible refine Below.trans ?_ (by assumption)) | (with_reducible refine Below.trans ?_ (Below.mono (by assumption) ?_)) | (with_reducible refine bl_set ?_ ?_ _) | (simp; done) | (simp; omega) | omega))).cell (p := ⟨w.heap.size, 0, none⟩) q9 |>.trans hq0; have u1 := (show Below w4.heap.size w4 wA by (repeat' (first | (with_reducible exact Below.refl _ _) | (with_reducible refine bl_alloc ?_ _) | (with_reducible refine bl_drewN ?_ _) | (with_reducible refine bl_drew ?_) | (with_reducible assumption) | (with_reducible refine bl_to ?_ (by assumption)) | (with_reducible refine Below.trans ?_ (by assumption)) | (with_reducible refine Below.trans ?_ (Below.mono (by assumption) ?_)) | (with_reducible refine bl_set ?_ ?_ _) | (simp; done) | (simp; omega) | omega))).cell (p := ⟨w.heap.size, 1, none⟩) q9 |>.trans q1; have ordBA := bA; replace oB := oB.bl (show Below wB.heap.size wB wA by (repeat' (first | (with_reducible exact Below.refl _ _) | (with_reducible refine bl_alloc ?_ _) | (with_reducible refine bl_drewN ?_ _) | (with_reducible refine bl_drew ?_) | (with_reducible assumption) | (with_reducible refine bl_to ?_ (by assumption)) | (with_reducible refine Below.trans ?_ (by assumption)) | (with_reducible refine Below.trans ?_ (Below.mono (by assumption) ?_)) | (with_reducible refine bl_set ?_ ?_ _) | (simp; done) | (simp; omega) | omega))); clear tok)
              | (go_at_call 41; (with_reducible refine (CA.out _ _ ?ra).mono ?_); (case ra => exact rA.bl (by (repeat' (first | (with_reducible exact Below.refl _ _) | (with_reducible refine bl_alloc ?_ _) | (with_reducible refine bl_drewN ?_ _) | (with_reducible refine bl_drew ?_) | (with_reducible assumption) | (with_reducible refine bl_to ?_ (by assumption)) | (with_reducible refine Below.trans ?_ (by assumption)) | (with_reducible refine Below.trans ?_ (Below.mono (by assumption) ?_)) | (with_reducible refine bl_set ?_ ?_ _) | (simp; done) | (simp; omega) | omega)))); rintro e wA ⟨Aa, ca, rfl, oA, bA⟩; have zA := bA.size; (try simp at zA); have sA : w4.heap.size ≤ wA.heap.size := (show Below w4.heap.size w4 wA by (repeat' (first | (with_reducible exact Below.refl _ _) | (with_reducible refine bl_alloc ?_ _) | (with_reducible refine bl_drewN ?_ _) | (with_reducible refine bl_drew ?_) | (with_reducible assumption) | (with_reducible refine bl_to ?_ (by assumption)) | (with_reducible refine Below.trans ?_ (by assumption)) | (with_reducible refine Below.trans ?_ (Below.mono (by assumption) ?_)) | (with_reducible refine bl_set ?_ ?_ _) | (simp; done) | (simp; omega) | omega))).size; have u0 := (show Below w4.heap.size w4 wA by (repeat' (first | (with_reducible exact Below.refl _ _) | (with_reducible refine bl_alloc ?_ _) | (with_reducible refine bl_drewN ?_ _) | (with_reducible refine bl_drew ?_) | (with_reducible assumption) | (with_reducible refine bl_to ?_ (by assumption)) | (with_reducible refine Below.trans ?_ (by assumption)) | (with_reducible refine Below.trans ?_ (Below.mono (by assumption) ?_)) | (with_reducible refine bl_set ?_ ?_ _) | (simp; done) | (simp; omega) | omega))).cell (p := ⟨w.heap.size, 0, none⟩) q9 |>.trans hq0; have u1 := (show Below w4.heap.size w4 wA by (repeat' (first | (with_reducible exact Below.refl _ _) | (with_reducible refine bl_alloc ?_ _) | (with_reducible refine bl_drewN ?_ _) | (with_reducible refine bl_drew ?_) | (with_reducible assumption) | (with_reducible refine bl_to ?_ (by assumption)) | (with_reducible refine Below.trans ?_ (by assumption)) | (with_reducible refine Below.trans ?_ (Below.mono (by assumption) ?_)) | (with_reducible refine bl_set ?_ ?_ _) | (simp; done) | (simp; omega) | omega))).cell (p := ⟨w.heap.size, 1, none⟩) q9 |>.trans q1)
              | (have tok := bA; go_at_call 41; (with_reducible refine (CB.out _ _ ?rb).mono ?_); (case rb => first | exact RdE.one rB | exact (RdE.one rB).bl (bl_drew (Below.refl _ _)) | exact ((RdE.one rB).bl (bl_drew (Below.refl _ _))).bl bA | exact RdE.one (rB.bl (by (repeat' (first | (with_reducible exact Below.refl _ _) | (with_reducible refine bl_alloc ?_ _) | (with_reducible refine bl_drewN ?_ _) | (with_reducible refine bl_drew ?_) | (with_reducible assumption) | (with_reducible refine bl_to ?_ (by assumption)) | (with_reducible refine Below.trans ?_ (by assumption)) | (with_reducible refine Below.trans ?_ (Below.mono (by assumption) ?_)) | (with_reducible refine bl_set ?_ ?_ _) | (simp; done) | (simp; omega) | omega)))) | fail); rintro e wB ⟨Ab, cb, rfl, oB, bB⟩; have zB := bB.size; (try simp at zB); have sB : w4.heap.size ≤ wB.heap.size := (show Below w4.heap.size w4 wB by (repeat' (first | (with_reducible exact Below.refl _ _) | (with_reducible refine bl_alloc ?_ _) | (with_reducible refine bl_drewN ?_ _) | (with_reducible refine bl_drew ?_) | (with_reducible assumption) | (with_reducible refine bl_to ?_ (by assumption)) | (with_reducible refine Below.trans ?_ (by assumption)) | (with_reducible refine Below.trans ?_ (Below.mono (by assumption) ?_)) | (with_reducible refine bl_set ?_ ?_ _) | (simp; done) | (simp; omega) | omega))).size; have v0 := (show Below w4.heap.size w4 wB by (repeat' (first | (with_reducible exact Below.refl _ _) | (with_reducible refine bl_alloc ?_ _) | (with_reducible refine bl_drewN ?_ _) | (with_reducible refine bl_drew ?_) | (with_reducible assumption) | (with_reducible refine bl_to ?_ (by assumption)) | (with_reducible refine Below.trans ?_ (by assumption)) | (with_reducible refine Below.trans ?_ (Below.mono (by assumption) ?_)) | (with_reducible refine bl_set ?_ ?_ _) | (simp; done) | (simp; omega) | omega))).cell (p := ⟨w.heap.size, 0, none⟩) q9 |>.trans hq0; have v1 := (show Below w4.heap.size w4 wB by (repeat' (first | (with_reducible exact Below.refl _ _) | (with_reducible refine bl_alloc ?_ _) | (with_reducible refine bl_drewN ?_ _) | (with_reducible refine bl_drew ?_) | (with_reducible assumption) | (with_reducible refine bl_to ?_ (by assumption)) | (with_reducible refine Below.trans ?_ (by assumption)) | (with_reducible refine Below.trans ?_ (Below.mono (by assumption) ?_)) | (with_reducible refine bl_set ?_ ?_ _) | (simp; done) | (simp; omega) | omega))).cell (p := ⟨w.heap.size, 1, none⟩) q9 |>.trans q1; have ordAB := bB; replace oA := oA.bl (show Below wA.heap.size wA wB by (repeat' (first | (with_reducible exact Below.refl _ _) | (with_reducible refine bl_alloc ?_ _) | (with_reducible refine bl_drewN ?_ _) | (with_reducible refine bl_drew ?_) | (with_reducible assumption) | (with_reducible refine bl_to ?_ (by assumption)) | (with_reducible refine Below.trans ?_ (by assumption)) | (with_reducible refine Below.trans ?_ (Below.mono (by assumption) ?_)) | (with_reducible refine bl_set ?_ ?_ _) | (simp; done) | (simp; omega) | omega))); clear tok)
              | (go_at_call 41; (with_reducible refine (CB.out _ _ ?rb).mono ?_); (case rb => first | exact RdE.one rB | exact (RdE.one rB).bl (bl_drew (Below.refl _ _)) | exact ((RdE.one rB).bl (bl_drew (Below.refl _ _))).bl bA | exact RdE.one (rB.bl (by (repeat' (first | (with_reducible exact Below.refl _ _) | (with_reducible refine bl_alloc ?_ _) | (with_reducible refine bl_drewN ?_ _) | (with_reducible refine bl_drew ?_) | (with_reducible assumption) | (with_reducible refine bl_to ?_ (by assumption)) | (with_reducible refine Below.trans ?_ (by assumption)) | (with_reducible refine Below.trans ?_ (Below.mono (by assumption) ?_)) | (with_reducible refine bl_set ?_ ?_ _) | (simp; done) | (simp; omega) | omega)))) | fail); rintro e wB ⟨Ab, cb, rfl, oB, bB⟩; have zB := bB.size; (try simp at zB); have sB : w4.heap.size ≤ wB.heap.size := (show Below w4.heap.size w4 wB by (repeat' (first | (with_reducible exact Below.refl _ _) | (with_reducible refine bl_alloc ?_ _) | (with_reducible refine bl_drewN ?_ _) | (with_reducible refine bl_drew ?_) | (with_reducible assumption) | (with_reducible refine bl_to ?_ (by assumption)) | (with_reducible refine Below.trans ?_ (by assumption)) | (with_reducible refine Below.trans ?_ (Below.mono (by assumption) ?_)) | (with_reducible refine bl_set ?_ ?_ _) | (simp; done) | (simp; omega) | omega))).size; have v0 := (show Below w4.heap.size w4 wB by (repeat' (first | (with_reducible exact Below.refl _ _) | (with_reducible refine bl_alloc ?_ _) | (with_reducible refine bl_drewN ?_ _) | (with_reducible refine bl_drew ?_) | (with_reducible assumption) | (with_reducible refine bl_to ?_ (by assumption)) | (with_reducible refine Below.trans ?_ (by assumption)) | (with_reducible refine Below.trans ?_ (Below.mono (by assumption) ?_)) | (with_reducible refine bl_set ?_ ?_ _) | (simp; done) | (simp; omega) | omega))).cell (p := ⟨w.heap.size, 0, none⟩) q9 |>.trans hq0; have v1 := (show Below w4.heap.size w4 wB by (repeat' (first | (with_reducible exact Below.refl _ _) | (with_reducible refine bl_alloc ?_ _) | (with_reducible refine bl_drewN ?_ _) | (with_reducible refine bl_drew ?_) | (with_reducible assumption) | (with_reducible refine bl_to ?_ (by assumption)) | (with_reducible refine Below.trans ?_ (by assumption)) | (with_reducible refine Below.trans ?_ (Below.mono (by assumption) ?_)) | (with_reducible refine bl_set ?_ ?_ _) | (simp; done) | (simp; omega) | omega))).cell (p := ⟨w.heap.size, 1, none⟩) q9 |>.trans q1))
          all_goals (go_wp2; go_meet; exact ⟨A4, c4, rfl, o5, z5⟩)
        case rest =>
          obtain ⟨A4, c4, rfl, o5, z5⟩ := hcut
          obtain ⟨w5, rfl⟩ : ∃ x : World, x = wc := ⟨_, rfl⟩
          have hrun2 := HR2.out
          replace rD := rD.bl z5
          replace r1 := r1.bl z5
          replace bel := bl_to bel z5
          have s5 := z5.size
          have hl1 := HLL1.out
          have HHL1 := Lib.hid hl1
          have hN : L1 ++ T2 = N := by rw [HI.out, HL1'.out]
          have HN := Lib.hid hN
          clear HR2 q1 hq0 r2 rA rB z5 q9 hrun1 hl1 hN
          go_wp2_with fail
          refine (CD.out _ _ rD).mono ?_
          rintro e w6 ⟨A6, c6, rfl, o6, b6⟩
          have s6 : w5.heap.size ≤ w6.heap.size := b6.size
          replace o5 := o5.bl b6
          replace r1 := r1.bl b6
          replace bel := bl_to bel b6
          have hlen2 : L1.length + T2.length ≤ 3000000 := by have := HHL1.out; omega
          clear b6 rD hrun2
          go_wp2_with (at_builtin; refine wpList_app_E _ rfl _ _ rfl _ _ _ L1 rfl o5 _ _ _ T2 rfl o6 (.inl (by first | exact Nat.le_refl _ | omega | (simp; done) | (simp; omega))) w4.heap.size (by first | exact Nat.le_refl _ | omega | (simp; done) | (simp; omega)) (by first | exact Nat.le_refl _ | omega | (simp; done) | (simp; omega)) hlen2 (by first | exact Nat.le_refl _ | omega | (simp; done) | (simp; omega)) N HN.out ?_; intro A7 c7 w7 o7 p7)
          have s7 := p7.size
          replace bel : Below w.heap.size w w7 := bl_apart bel p7 sz4
          replace r1 := h1w.bl bel
          refine (CN.out _ _ o7.rd).mono ?_
          rintro e w8 ⟨rfl, b8⟩
          have s8 := b8.size
          replace o7 := o7.bl b8
          replace r1 := r1.bl b8
          replace bel := bl_to bel b8
          clear b8 p7 o5 o6
          cases Q
          · have hL : L = l := by simpa using HLL.out
            subst hL
            go_wp2_with fail
            refine (CP.out _ r1).mono ?_
            rintro e w9 ⟨A9, c9, rfl, o9, b9⟩
            go_wp2
            go_ret2
            exact ⟨_, _, rfl, o9.mono (by omega) (Nat.le_refl _), bl_to bel b9⟩
          · have hL : L = N := by simpa using HLL.out
            subst hL
            go_wp2
            go_ret2
            exact ⟨_, _, rfl, o7.mono sz4 (by omega), bel⟩
end Go.Proofs.Ytighmoedkknkoaa
