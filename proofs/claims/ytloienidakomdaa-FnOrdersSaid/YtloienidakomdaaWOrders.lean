/- FnOrders: the law returns true at every input; no condition. -/
import Derived.Test.YtloienidakomdaaDrawJobs
import Derived.Test.YtloienidakomdaaOrders0
import Derived.Test.YtloienidakomdaaGain2
import Derived.Deep.DeepCutAuto
namespace Go.Proofs.Ytloienidakomdaa
open Go.RowKit

theorem rdI_len {w : World} {A : Option Addr} {c n : Nat} {D : List Int} (h : RdI w (.slice A D.length c) D) (e : D.length = n) : RdI w (.slice A n c) D := by
  subst e
  exact h
set_option maxHeartbeats 12800000 in
set_option maxRecDepth 100000 in
theorem orders_law (v : Value) (L : List Int) (w : World) (h0 : RdB w v L) (hb : ∀ x ∈ L, 0 ≤ x ∧ x ≤ 255) : Calls Try.prog 8 #[v] w fun e w' => e = .returned (.bool true) ∧ Below w.heap.size w w' := by
  by_cases hl : L.length ≤ 1048576
  rotate_left
  · have hbig : decide ((1048576 : Int) < (L.length : Int)) = true := by rw [decide_eq_true_eq]; omega
    go_enter Try.func8, Try.ntmps8
    go_wp2_with fail
    refine (bigB_any v L _ h0).mono ?_
    rintro e wq ⟨rfl, rfl⟩
    rw [hbig]
    go_wp2
    go_ret
    exact ⟨rfl, Below.refl _ _⟩
  have hbig : decide ((1048576 : Int) < (L.length : Int)) = false := by rw [decide_eq_false_iff_not]; omega
  go_enter Try.func8, Try.ntmps8
  go_wp2_with fail
  refine (bigB_any v L _ h0).mono ?_
  rintro e wq ⟨rfl, rfl⟩
  rw [hbig]
  go_wp2_with fail
  refine (drawJobs_any v L _ h0 hl).mono ?_
  rintro e w1 ⟨l, A, c, rfl, l6, hdr, ow1, b1⟩
  have hj := drB_jobs hdr l6
  have hll : l.length ≤ 1048576 := by omega
  have h1 : RdJ w1 (.slice A l.length c) l := Rd.of_own ow1
  have sA := b1.size
  clear ow1 hdr hbig
  go_wp2_with fail
  refine (dueI_any _ l _ h1 hll).mono ?_
  rintro e w2 ⟨Ab, cb, rfl, owb, b2⟩
  have hD0 := dueF_eq hj
  have hDl : (dueF l).length = l.length := by rw [hD0, dueL_len]
  obtain ⟨D, hD⟩ : ∃ D, dueF l = D := ⟨_, rfl⟩
  rw [hD] at owb hD0 hDl ⊢
  have hb2 : RdI w2 (.slice Ab D.length cb) D := Rd.of_own owb
  have h2 := h1.bl b2
  have b2' := bl_to b1 b2
  have HD0 := Lib.hid hD0
  have HDF := Lib.hid hD
  clear owb hD0 hD h1
  have hgl := galI_any _ l _ h2 hll
  rw [hj] at hgl
  go_wp2_with fail
  refine hgl.mono ?_
  rintro e w3 ⟨Ag, cg, rfl, owg, b3⟩
  have hG0 : galF l = memS (bestF l) l.length := by simp [galF, hj]
  obtain ⟨G, hG⟩ : ∃ G, galF l = G := ⟨_, rfl⟩
  rw [hG] at owg hG0 ⊢
  have hg3 : RdI w3 (.slice Ag G.length cg) G := Rd.of_own owg
  have h3 := h2.bl b3
  have hb3 := hb2.bl b3
  have b3' := bl_to b2' b3
  have HG0 := Lib.hid hG0
  clear owg hG0 hG h2 hb2 hgl b2
  have hmo := mostI_any _ l _ h3 hll
  rw [show mogF l = mostF l by simp [mogF, hj]] at hmo
  have m0 : 0 ≤ mostF l := (bst_spec l _).1.1
  have m1 : mostF l ≤ 6000 := by have := gnS_bd hj (bestF l) l.length (Nat.le_refl _); rw [gn_best] at this; omega
  obtain ⟨m, hm⟩ : ∃ m, mostF l = m := ⟨_, rfl⟩
  rw [hm] at hmo m0 m1
  go_wp2_with fail
  refine hmo.mono ?_
  rintro e w4 ⟨rfl, b4⟩
  have h4 := h3.bl b4
  have hb4 := hb3.bl b4
  have hg4 := hg3.bl b4
  have bel4 := bl_to b3' b4
  have HM := Lib.hid hm
  have HJ := Lib.hid hj
  have GL : G.length ≤ l.length := by rw [HG0.out]; exact memS_len _ _
  have HGI : Hid (∀ x ∈ G, 0 ≤ x ∧ x < (l.length : Int)) := fun x hx => memS_mem (HG0.out ▸ hx)
  have HDL := Lib.hid hDl
  have g1 : ((D.length : Int) != (l.length : Int)) = false := by simp; omega
  have g2 : ((D.length : Int) == (l.length : Int)) = true := by simp; omega
  have g3 : (D.length == l.length) = true := by simp; omega
  have g4 : decide (D.length = l.length) = true := by simp; omega
  have own0 : (w4.alloc (Obj.cells #[] 44)).ownsRow w4.heap.size 44 3 (.slice (some ⟨w4.heap.size, 0, none⟩) 0 0) (atJ l (G.take 0)).length (cJ (atJ l (G.take 0))) := own_new0 (Nat.le_refl _) rfl
  clear hmo hm hj hDl h3 hb3 hg3 b1 b3 b4 b2' b3'
  go_wp2
  go_loopw [8, 9, 11] (fun a q i wr => ∃ k : Nat, k ≤ G.length ∧ i = .int .i64 k ∧ q = .int .i64 (sgN l G k) ∧ wr.ownsRow w4.heap.size 44 3 a (atJ l (G.take k)).length (cJ (atJ l (G.take k))) ∧ Below w4.heap.size w4 wr) (fun _ _ i _ => G.length - (intOf i).toNat)
  case atStart => exact ⟨0, Nat.zero_le _, rfl, rfl, own0, bl_alloc (Below.refl _ _) _⟩
  case round =>
    clear own0 g1 g2 g3 g4
    obtain ⟨k, hk, rfl, rfl, ow, bel⟩ := hrel
    by_cases hlt : k < G.length
    · have hlt' : (k : Int) < (G.length : Int) := by omega
      have k0 : (0 : Int) ≤ (k : Int) := by omega
      obtain ⟨gg, og, rfl, hgg, qg⟩ := hg4.look (by omega)
      have eg := (bel.cell (p := ⟨gg, og + k, none⟩) hgg).trans (qg k _ (cI_get hlt))
      obtain ⟨x0, xn⟩ := HGI.out _ (gi_mem hlt)
      obtain ⟨x, hx⟩ := Int.eq_ofNat_of_zero_le x0
      obtain ⟨g, o, rfl, hgb, e0, e1, e2⟩ := RdJ.at_ h4 (k := x) (by omega)
      have e0 := (bel.cell (p := ⟨g, o + x * 3, none⟩) hgb).trans e0
      have e1 := (bel.cell (p := ⟨g, o + x * 3 + 1, none⟩) hgb).trans e1
      have e2 := (bel.cell (p := ⟨g, o + x * 3 + 2, none⟩) hgb).trans e2
      have sb := sgN_bd HJ.out HGI.out k (by omega)
      have jb := (jobB_bd HJ.out (k := x) (by omega)).2
      have ss : Hid (sgN l G (k + 1) = sgN l G k + (gJ l x).2.2) := by show _ = _; rw [sgN, hx]; rfl
      have aa : Hid (atJ l (G.take (k + 1)) = atJ l (G.take k) ++ [gJ l x]) := by show _ = _; rw [atJ_take hlt, hx]; rfl
      have al : (atJ l (G.take k)).length ≤ 6 := by simp [atJ]; omega
      rw [hx] at eg xn
      have x1 : (x : Int) < (l.length : Int) := xn
      have x2 : (0 : Int) ≤ (x : Int) := by omega
      have x3 : ¬ (x : Int) < 0 := by omega
      have x4 : ¬ (l.length : Int) ≤ (x : Int) := by omega
      have szr := bel.size
      clear qg h4 hb4 hg4 x0 hx
      go_wp2_with (at_builtin; refine wpList_app_J _ rfl _ _ rfl w4.heap.size _ _ rfl (ow.alloc _) _ (gJ l x) rfl ?_ ?_ ?_ (by omega) (by (first | omega | (simp; done) | (simp; omega))) ?_; rotate_left 3; intro v2 w5 ow3 bel3 gr3 at3; have d2 : w5.cell? ⟨g, o + x * 3 + 2, none⟩ = some (.int .i64 (gJ l x).2.2) := (bel3.cell (p := ⟨g, o + x * 3 + 2, none⟩) hgb).trans ((World.cell?_alloc_lt _ _ ⟨g, o + x * 3 + 2, none⟩ (by simp; omega)).trans e2); have dg : w5.cell? ⟨gg, og + k, none⟩ = some (.int .i64 (x : Int)) := (bel3.cell (p := ⟨gg, og + k, none⟩) hgg).trans ((World.cell?_alloc_lt _ _ ⟨gg, og + k, none⟩ (by simp; omega)).trans eg))
      · have bel5 : Below w4.heap.size w4 w5 := Below.trans (bl_alloc bel _) bel3
        go_roundw
        case rel => exact ⟨k + 1, by omega, by go_num, by rw [ss.out], by rw [aa.out]; exact ow3, bel5⟩
        case measure => simp [intOf]; omega
      all_goals (simp [go_sem]; done)
    · obtain rfl : k = G.length := by omega
      have hlt' : ¬ (G.length : Int) < (G.length : Int) := by omega
      have e1 : atJ l (G.take G.length) = partS l (bestF l) l.length := by rw [List.take_length, HG0.out, atJ_mem]
      have e2 : sgN l G G.length = m := by rw [← HM.out, ← gn_best, HG0.out, sgN_mem]
      have hpl := partS_len l (bestF l) l.length
      have hai := most_best (l := l)
      rw [e1] at ow
      rw [e2]
      obtain ⟨P, hP⟩ : ∃ P, partS l (bestF l) l.length = P := ⟨_, rfl⟩
      rw [hP] at ow hpl hai
      obtain ⟨Ap, cp, rfl⟩ := own_form ow
      have hp5 : RdJ _ (.slice Ap P.length cp) P := Rd.of_own ow
      have h5 := h4.bl bel
      have hb5 := hb4.bl bel
      have bel5 := bl_to bel4 bel
      have HAI := Lib.hid hai
      obtain ⟨w5, hw5⟩ : ∃ w5, w5 = wr := ⟨wr, rfl⟩
      subst hw5
      clear e1 e2 hP ow h4 hb4 hg4 bel4 bel hai
      go_wp2
      go_loopw [10, 12] (fun q i wr => ∃ k nq : Nat, k ≤ l.length ∧ i = .int .i64 k ∧ q = .int .i64 (allN l k) ∧ wr = w5.drewN nq) (fun _ i _ => l.length - (intOf i).toNat)
      case atStart => exact ⟨0, 0, Nat.zero_le _, rfl, rfl, rfl⟩
      case round =>
        obtain ⟨k, nq, hk, rfl, rfl, rfl⟩ := hrel
        by_cases hlt : k < l.length
        · have hlt' : (k : Int) < (l.length : Int) := by omega
          have k0 : (0 : Int) ≤ (k : Int) := by omega
          have hlD : (k : Int) < (D.length : Int) := by have := HDL.out; omega
          obtain ⟨gd, od, rfl, _, qd⟩ := hb5.look (by have := HDL.out; omega)
          have ed : (w5.drewN nq).cell? ⟨gd, od + k, none⟩ = some (.int .i64 (gi D k)) := qd k _ (cI_get (by have := HDL.out; omega))
          have bd := dueL_bd (d := dueK l) hlt
          rw [← HD0.out] at bd
          obtain ⟨y, hy⟩ := Int.eq_ofNat_of_zero_le bd.1
          rw [hy] at ed bd
          obtain ⟨g, o, rfl, _, _, dy, _⟩ := RdJ.at_ h5 (k := y) (by omega)
          obtain ⟨g2, o2, hgo, _, _, _, dk⟩ := RdJ.at_ h5 hlt
          obtain ⟨rfl, rfl⟩ : g = g2 ∧ o = o2 := by simpa using hgo
          rw [← dueK_nat] at dy
          have dy : (w5.drewN nq).cell? ⟨g, o + y * 3 + 1, none⟩ = some (.int .i64 (dueK l (y : Int))) := dy
          have dk : (w5.drewN nq).cell? ⟨g, o + k * 3 + 2, none⟩ = some (.int .i64 (gJ l k).2.2) := dk
          have ab := allN_bd HJ.out k hk
          have jb := (jobB_bd HJ.out hlt).2
          have aa : Hid (allN l (k + 1) = allN l k + (gJ l k).2.2) := rfl
          have y1 : (y : Int) < (l.length : Int) := bd.2
          have y2 : (0 : Int) ≤ (y : Int) := by omega
          have y3 : ¬ (y : Int) < 0 := by omega
          have y4 : ¬ (l.length : Int) ≤ (y : Int) := by omega
          have y5 : decide (l.length ≤ y) = false := by rw [decide_eq_false_iff_not]; omega
          have y6 : decide ((l.length : Int) ≤ (y : Int)) = false := by rw [decide_eq_false_iff_not]; omega
          have y7 : decide ((y : Int) < 0) = false := by rw [decide_eq_false_iff_not]; omega
          clear hgo bd hp5
          rcases k with _ | kp
          · have z1 : decide ((0 : Int) < ((0 : Nat) : Int)) = false := by decide
            have z2 : ¬ (0 : Int) < ((0 : Nat) : Int) := by omega
            have z3 : (0 : Int) < (l.length : Int) := by omega
            have z4 : (0 : Int) < (D.length : Int) := by omega
            have ed0 : (w5.drewN nq).cell? ⟨gd, od, none⟩ = some (.int .i64 (y : Int)) := ed
            clear h5 hb5 qd hy
            generalize hwz : w5.drewN nq = wz at *
            have HWZ := Lib.hid hwz
            clear hwz
            go_wp2
            go_big_quiet (fail)
            go_wp2
            go_roundw
            case rel => exact ⟨0 + 1, _, by omega, by go_num, by rw [aa.out], by rw [← HWZ.out, World.drewN_drewN]⟩
            case measure => simp [intOf]; omega
          · have ed2 : (w5.drewN nq).cell? ⟨gd, od + kp, none⟩ = some (.int .i64 (gi D kp)) := qd kp _ (cI_get (by have := HDL.out; omega))
            have bd := dueL_bd (d := dueK l) (show kp < l.length by omega)
            rw [← HD0.out] at bd
            obtain ⟨z, hz⟩ := Int.eq_ofNat_of_zero_le bd.1
            have hmo := dueL_mono (d := dueK l) (k := l.length) (show kp ≤ kp + 1 by omega) hlt
            rw [← HD0.out, hy, hz] at hmo
            rw [hz] at ed2 bd
            obtain ⟨g3, o3, hgo, _, _, dz, _⟩ := RdJ.at_ h5 (k := z) (by omega)
            obtain ⟨rfl, rfl⟩ : g = g3 ∧ o = o3 := by simpa using hgo
            rw [← dueK_nat] at dz
            have dz : (w5.drewN nq).cell? ⟨g, o + z * 3 + 1, none⟩ = some (.int .i64 (dueK l (z : Int))) := dz
            have z1 : (z : Int) < (l.length : Int) := bd.2
            have z2 : (0 : Int) ≤ (z : Int) := by omega
            have z3 : ¬ dueK l (y : Int) < dueK l (z : Int) := by omega
            have z4 : (0 : Int) < (kp : Int) + 1 := by omega
            have z5 : IntKind.i64.wrap (kp : Int) = (kp : Int) := IntWalk.i64_in _ (by omega)
            have z6 : ((kp : Int) + 1).toNat = kp + 1 := by omega
            have z7 : (0 : Int) ≤ (kp : Int) + 1 := by omega
            have z8 : (kp : Int) < (D.length : Int) := by omega
            have z9 : (kp : Int) + 1 < (D.length : Int) := by omega
            have za : (kp : Int) + 1 < (l.length : Int) := by omega
            have ed0 : (w5.drewN nq).cell? ⟨gd, od + kp + 1, none⟩ = some (.int .i64 (y : Int)) := ed
            have zb : decide (dueK l (y : Int) < dueK l (z : Int)) = false := by rw [decide_eq_false_iff_not]; omega
            have zc : decide ((0 : Int) < (kp : Int) + 1) = true := by rw [decide_eq_true_eq]; omega
            clear h5 hb5 qd hy hz hgo bd hmo
            generalize hwz : w5.drewN nq = wz at *
            have HWZ := Lib.hid hwz
            clear hwz
            go_wp2
            go_big_quiet (fail)
            go_wp2
            go_roundw
            case rel => exact ⟨kp + 1 + 1, _, by omega, by go_num, by rw [aa.out], by rw [← HWZ.out, World.drewN_drewN]⟩
            case measure => simp [intOf]; omega
        · obtain rfl : k = l.length := by omega
          have hlt' : ¬ (l.length : Int) < (l.length : Int) := by omega
          have h6 : RdJ (w5.drewN nq) (.slice A l.length c) l := h5.bl (bl_drewN (Below.refl _ _) nq)
          have hb6 : RdI (w5.drewN nq) (.slice Ab D.length cb) D := hb5.bl (bl_drewN (Below.refl _ _) nq)
          have hp6 : RdJ (w5.drewN nq) (.slice Ap P.length cp) P := hp5.bl (bl_drewN (Below.refl _ _) nq)
          have bel6 := bl_drewN bel5 nq
          clear h5 hb5 hp5 bel5 hlt hlt'
          generalize w5.drewN nq = w6 at *
          have c1 := aitI_any _ P w6 hp6 (by omega)
          rw [HAI.out] at c1
          have C1 := Lib.hid c1
          clear c1
          cases hA : aitF l
          rotate_left
          · have hLn : lateF l D = [] := by have := (ait_iff HJ.out).1 hA; rw [HDF.out] at this; exact this
            have hma : m = allN l l.length := by rw [← HM.out]; exact most_all HJ.out hA
            have HA := Lib.hid hA
            have HLN := Lib.hid hLn
            rw [← hma]
            clear hA hLn hma
            go_wp2_with fail
            refine C1.out.mono ?_
            rintro e w7 ⟨rfl, b7⟩
            have h7 := h6.bl b7
            have hb7 := hb6.bl b7
            have bel7 := bl_to bel6 b7
            have c2 : ∀ W, Below w7.heap.size w7 W → Hid (Calls Try.prog 22 #[.slice A l.length c] W fun e w' => e = .returned (.bool true) ∧ Below W.heap.size W w') := fun W b => by
              have := aitI_any _ l W (h7.bl b) hll
              rw [HA.out] at this
              exact this
            have C2 := Lib.hid c2
            clear c2
            go_wp2_with fail
            refine (C2.out _ (Below.refl _ _)).out.mono ?_
            rintro e w8 ⟨rfl, b8⟩
            have c3 := lateI_any (.slice A l.length c) (.slice Ab l.length cb) l D w8 (h7.bl b8) (rdI_len (hb7.bl b8) HDL.out) hll (by have := HDL.out; omega)
            rw [HLN.out] at c3
            go_wp2_with fail
            refine c3.mono ?_
            rintro e w9 ⟨Al, cl, rfl, owl, b9⟩
            have b79 := b8.trans (b9.mono b8.size)
            clear owl c3
            go_wp2_with fail
            refine (C2.out _ b79).out.mono ?_
            rintro e w10 ⟨rfl, b10⟩
            have h10 := h7.bl (b79.trans (b10.mono b79.size))
            have bel10 := bl_to bel7 (b79.trans (b10.mono b79.size))
            clear C2 C1 b7 b8 b9 b10 b79 h6 hb6 hp6 h7 hb7 bel6 bel7
            have own0 : (w10.alloc (Obj.cells #[] 3)).ownsRow w10.heap.size 3 1 (.slice (some ⟨w10.heap.size, 0, none⟩) 0 0) (upI 0 0).length (cI (upI 0 0)) := own_new0 (Nat.le_refl _) rfl
            go_wp2
            go_loopw [13, 14] (fun a i wr => ∃ k : Nat, k ≤ l.length ∧ i = .int .i64 k ∧ wr.ownsRow w10.heap.size 3 1 a (upI 0 k).length (cI (upI 0 k)) ∧ Below w10.heap.size w10 wr) (fun _ i _ => l.length - (intOf i).toNat)
            case atStart => exact ⟨0, Nat.zero_le _, rfl, own0, bl_alloc (Below.refl _ _) _⟩
            case round =>
              clear own0
              obtain ⟨k, hk, rfl, ow, bel⟩ := hrel
              by_cases hlt : k < l.length
              · have hlt' : (k : Int) < (l.length : Int) := by omega
                have US : Hid (upI 0 k ++ [(k : Int)] = upI 0 (k + 1)) := by show _ = _; simp [upI, List.range_succ]
                have szr := bel.size
                go_wp2_with (at_builtin; refine wpList_app_int _ rfl _ _ rfl w10.heap.size _ _ rfl (ow.alloc _) _ (k : Int) rfl ?_ (by rw [upI_len]; omega) (by (first | omega | (simp; done) | (simp; omega))) ?_; rotate_left; intro v2 w3 ow3 bel3)
                · rw [US.out] at ow3
                  have bel4 : Below w10.heap.size w10 w3 := Below.trans (bl_alloc bel _) bel3
                  go_roundw
                  case rel => exact ⟨k + 1, by omega, by go_num, ow3, bel4⟩
                  case measure => simp [intOf]; omega
                all_goals (simp [go_sem]; done)
              · obtain rfl : k = l.length := by omega
                have hlt' : ¬ (l.length : Int) < (l.length : Int) := by omega
                obtain ⟨Ao, co, rfl⟩ := own_form ow
                have ho : RdI wr (.slice Ao (upI 0 l.length).length co) (upI 0 l.length) := Rd.of_own ow
                have h11 := h10.bl bel
                have bel11 := bl_to bel10 bel
                obtain ⟨w11, hw11⟩ : ∃ w11, w11 = wr := ⟨wr, rfl⟩
                subst hw11
                clear ow h10 bel10 bel
                have UL := Lib.hid (upI_len 0 l.length)
                have c4 := lateI_any _ _ l (upI 0 l.length) w11 h11 ho hll (by rw [UL.out]; exact hll)
                by_cases hU : lateF l (upI 0 l.length) = []
                · have hA2 : aitF l = true := (ait_iff HJ.out).2 (by rw [HDF.out, HD0.out]; exact edd HJ.out hU)
                  rw [hU] at c4
                  clear hU
                  go_wp2_with fail
                  refine c4.mono ?_
                  rintro e w12 ⟨Am, cm, rfl, owm, b12⟩
                  have c5 := aitI_any _ l w12 (h11.bl b12) hll
                  rw [hA2] at c5
                  clear c4 owm hA2
                  go_wp2_with fail
                  refine c5.mono ?_
                  rintro e w13 ⟨rfl, b13⟩
                  have h13 := (h11.bl b12).bl b13
                  have bel13 := bl_to (bl_to bel11 b12) b13
                  clear c5 b12 b13 h11 bel11 ho
                  have hnz := h0.bl bel13
                  have p8 := pow_le8 (show l.length ≤ 8 by omega)
                  obtain ⟨N, hN⟩ : ∃ N : Nat, 2 ^ l.length = N := ⟨_, rfl⟩
                  rw [hN] at p8
                  have pw : IntKind.i64.wrap ((2 : Int) ^ l.length) = (N : Int) := by rw [show (2 : Int) ^ l.length = ((2 ^ l.length : Nat) : Int) by simp, hN]; exact IntWalk.i64_in _ (by omega)
                  have n64 : (l.length : Int) ≤ 64 := by omega
                  have n0 : (0 : Int) ≤ (l.length : Int) := by omega
                  obtain ⟨x0, x9⟩ := atF_bd hb 0
                  have sm := Int.emod_lt_of_pos (atF L 0) (show (0 : Int) < (N : Int) by omega)
                  have sn := Int.emod_nonneg (atF L 0) (show (N : Int) ≠ 0 by omega)
                  obtain ⟨S, hS⟩ := Int.eq_ofNat_of_zero_le sn
                  rw [hS] at sm
                  have ht : (atF L 0).tmod (N : Int) = (S : Int) := by rw [Int.tmod_eq_emod_of_nonneg x0]; exact hS
                  have sw : IntKind.i64.wrap (S : Int) = (S : Int) := IntWalk.i64_in _ (by omega)
                  have np : (0 : Int) < (N : Int) := by omega
                  have nz : ¬ (N : Int) = 0 := by omega
                  have nb : ((N : Int) == 0) = false := by rw [beq_eq_false_iff_ne]; omega
                  obtain ⟨x, hx⟩ : ∃ x, atF L 0 = x := ⟨_, rfl⟩
                  have hat : ∀ nq, Calls Try.prog 29 #[v, .int .i64 0] (w13.drewN nq) fun e w' => e = .returned (.int .i64 x) ∧ w' = w13.drewN nq := fun nq => by
                    have := at_det v L 0 (w13.drewN nq) (h0.bl (bl_drewN bel13 nq)) hl hb (by omega) (by omega)
                    rw [hx] at this
                    exact this.mono (fun _ _ h => ⟨h.1, h.2.symm⟩)
                  rw [hx] at hS ht x0 x9
                  have HAT := Lib.hid hat
                  have HN := Lib.hid hN
                  clear hat hN hx hnz
                  go_wp2
                  go_big_quiet ((go_at_call 29; exact Calls.quiet_of_same (HAT.out _)))
                  have h14 : RdJ (w13.drewN nq) (.slice A l.length c) l := h13.bl (bl_drewN (Below.refl _ _) nq)
                  have bel14 := bl_drewN bel13 nq
                  have S8 : S ≤ 255 := by omega
                  have HS : Hid (S < 2 ^ l.length) := by show S < _; rw [HN.out]; omega
                  clear h13 bel13 HAT pw ht sn sm np nz nb n64 n0
                  generalize w13.drewN nq = w14 at *
                  have ownS : (w14.alloc (Obj.cells #[] 44)).ownsRow w14.heap.size 44 3 (.slice (some ⟨w14.heap.size, 0, none⟩) 0 0) (partS l S 0).length (cJ (partS l S 0)) := own_new0 (Nat.le_refl _) rfl
                  clear hS x0 x9 sw p8
                  go_wp2
                  go_loopw [16, 17, 18] (fun a q i wr => ∃ k : Nat, k ≤ l.length ∧ i = .int .i64 k ∧ q = .int .i64 (gnS l S k) ∧ wr.ownsRow w14.heap.size 44 3 a (partS l S k).length (cJ (partS l S k)) ∧ Below w14.heap.size w14 wr) (fun _ _ i _ => l.length - (intOf i).toNat)
                  case atStart => exact ⟨0, Nat.zero_le _, rfl, rfl, ownS, bl_alloc (Below.refl _ _) _⟩
                  case round =>
                    clear ownS
                    obtain ⟨k, hk, rfl, rfl, ow, bel⟩ := hrel
                    have hml := partS_len l S k
                    by_cases hlt : k < l.length
                    · have hlt' : (k : Int) < (l.length : Int) := by omega
                      have k0 : (0 : Int) ≤ (k : Int) := by omega
                      have k9 : (k : Int) < 64 := by omega
                      have hba := bt_and S k S8
                      have szr := bel.size
                      cases hbt : bt S k
                      · have hh : Hid (partS l S (k + 1) = partS l S k) := by show _ = _; rw [partS, hbt]; rfl
                        have hg : Hid (gnS l S (k + 1) = gnS l S k) := by show _ = _; rw [gnS, hbt]; rfl
                        have hne : ¬ (((S / 2 ^ k % 2 : Nat) : Int) = 1) := by simp [bt] at hbt; omega
                        have g1 : (bits .and .i64 ((S : Int) / 2 ^ k) 1 == 1) = false := by rw [hba]; simpa using hne
                        have g2 : ¬ bits .and .i64 ((S : Int) / 2 ^ k) 1 = 1 := by rw [hba]; exact hne
                        clear hba hbt hne h14
                        go_wp2
                        go_roundw
                        case rel => exact ⟨k + 1, by omega, by go_num, by rw [hg.out], by rw [hh.out]; exact ow, bel⟩
                        case measure => simp [intOf]; omega
                      · have hh : Hid (partS l S (k + 1) = partS l S k ++ [gJ l k]) := by show _ = _; rw [partS, hbt]; rfl
                        have hg : Hid (gnS l S (k + 1) = gnS l S k + (gJ l k).2.2) := by show _ = _; rw [gnS, hbt]; rfl
                        have hne : ((S / 2 ^ k % 2 : Nat) : Int) = 1 := by simp [bt] at hbt; omega
                        have g2 : bits .and .i64 ((S : Int) / 2 ^ k) 1 = 1 := by rw [hba]; exact hne
                        obtain ⟨g, o, rfl, hgb, e0, e1, e2⟩ := RdJ.at_ h14 hlt
                        have e0 := (bel.cell (p := ⟨g, o + k * 3, none⟩) hgb).trans e0
                        have e1 := (bel.cell (p := ⟨g, o + k * 3 + 1, none⟩) hgb).trans e1
                        have e2 := (bel.cell (p := ⟨g, o + k * 3 + 2, none⟩) hgb).trans e2
                        have gb := gnS_bd HJ.out S k hk
                        have jb := (jobB_bd HJ.out hlt).2
                        clear hba hbt hne h14
                        go_wp2_with (at_builtin; refine wpList_app_J _ rfl _ _ rfl w14.heap.size _ _ rfl (ow.alloc _) _ (gJ l k) rfl ?_ ?_ ?_ (by omega) (by (first | omega | (simp; done) | (simp; omega))) ?_; rotate_left 3; intro v2 w3 ow3 bel3 _ _; have d2 : w3.cell? ⟨g, o + k * 3 + 2, none⟩ = some (.int .i64 (gJ l k).2.2) := (bel3.cell (p := ⟨g, o + k * 3 + 2, none⟩) hgb).trans ((World.cell?_alloc_lt _ _ ⟨g, o + k * 3 + 2, none⟩ (by simp; omega)).trans e2))
                        · have bel4 : Below w14.heap.size w14 w3 := Below.trans (bl_alloc bel _) bel3
                          go_roundw
                          case rel => exact ⟨k + 1, by omega, by go_num, by rw [hg.out], by rw [hh.out]; exact ow3, bel4⟩
                          case measure => simp [intOf]; omega
                        all_goals (simp [go_sem]; done)
                    · obtain rfl : k = l.length := by omega
                      have hlt' : ¬ (l.length : Int) < (l.length : Int) := by omega
                      obtain ⟨Aq, cq, rfl⟩ := own_form ow
                      have h15 := h14.bl bel
                      have bel15 := bl_to bel14 bel
                      obtain ⟨w15, hw15⟩ : ∃ w15, w15 = wr := ⟨wr, rfl⟩
                      subst hw15
                      have HOL : Hid (aitF (partS l S l.length) = true → gnS l S l.length ≤ m) := fun h => by have := other_le HS.out h; rw [HM.out] at this; exact this
                      have hq : RdJ w15 (.slice Aq (partS l S l.length).length cq) (partS l S l.length) := Rd.of_own ow
                      have c6 := jobsI_any _ l w15 h15 hll
                      rw [HJ.out] at c6
                      clear ow h14 bel14 bel
                      go_wp2_with fail
                      refine c6.mono ?_
                      rintro e w16 ⟨rfl, b16⟩
                      have c7 := aitI_any _ (partS l S l.length) w16 (hq.bl b16) (by omega)
                      have c8 : ∀ W, Hid (Calls Try.prog 22 #[.slice none 0 0] W fun e w' => e = .returned (.bool true) ∧ Below W.heap.size W w') := fun W => by
                        have := aitI_any (.slice none 0 0) [] W (Rd.nil _ _) (by simp)
                        rw [ait_nil] at this
                        exact this
                      have C8 := Lib.hid c8
                      have bel16 := bl_to bel15 b16
                      clear c6 c8 h15 hq b16 bel15
                      obtain ⟨q, hq2⟩ : ∃ q, gnS l S l.length = q := ⟨_, rfl⟩
                      rw [hq2] at HOL ⊢
                      cases hB : aitF (partS l S l.length)
                      · rw [hB] at c7
                        clear hB HOL hq2
                        go_wp2_with fail
                        refine c7.mono ?_
                        rintro e w17 ⟨rfl, b17⟩
                        have bel17 := bl_to bel16 b17
                        clear c7 b17
                        go_wp2_with fail
                        refine (C8.out _).out.mono ?_
                        rintro e w18 ⟨rfl, b18⟩
                        go_wp2
                        go_ret
                        exact ⟨rfl, bl_to bel17 b18⟩
                      · rw [hB] at c7
                        have hle := HOL.out hB
                        clear hB HOL hq2
                        go_wp2_with fail
                        refine c7.mono ?_
                        rintro e w17 ⟨rfl, b17⟩
                        have bel17 := bl_to bel16 b17
                        clear c7 b17
                        go_wp2_with fail
                        refine (C8.out _).out.mono ?_
                        rintro e w18 ⟨rfl, b18⟩
                        go_wp2
                        go_ret
                        exact ⟨rfl, bl_to bel17 b18⟩
                · have hlz : 0 < (lateF l (upI 0 l.length)).length := by
                    rcases Nat.eq_zero_or_pos (lateF l (upI 0 l.length)).length with h | h
                    · exact absurd (List.eq_nil_of_length_eq_zero h) hU
                    · exact h
                  have n1 : (((lateF l (upI 0 l.length)).length : Int) == 0) = false := by rw [beq_eq_false_iff_ne]; omega
                  have n2 : ¬ ((lateF l (upI 0 l.length)).length : Int) = 0 := by omega
                  have hlx := lateF_len l (upI 0 l.length)
                  clear hU
                  go_wp2_with fail
                  refine c4.mono ?_
                  rintro e w13 ⟨Am, cm, rfl, owm, b13⟩
                  have h13 := h11.bl b13
                  have bel13 := bl_to bel11 b13
                  clear c4 owm b13 h11 bel11 ho
                  have hnz := h0.bl bel13
                  have p8 := pow_le8 (show l.length ≤ 8 by omega)
                  obtain ⟨N, hN⟩ : ∃ N : Nat, 2 ^ l.length = N := ⟨_, rfl⟩
                  rw [hN] at p8
                  have pw : IntKind.i64.wrap ((2 : Int) ^ l.length) = (N : Int) := by rw [show (2 : Int) ^ l.length = ((2 ^ l.length : Nat) : Int) by simp, hN]; exact IntWalk.i64_in _ (by omega)
                  have n64 : (l.length : Int) ≤ 64 := by omega
                  have n0 : (0 : Int) ≤ (l.length : Int) := by omega
                  obtain ⟨x0, x9⟩ := atF_bd hb 0
                  have sm := Int.emod_lt_of_pos (atF L 0) (show (0 : Int) < (N : Int) by omega)
                  have sn := Int.emod_nonneg (atF L 0) (show (N : Int) ≠ 0 by omega)
                  obtain ⟨S, hS⟩ := Int.eq_ofNat_of_zero_le sn
                  rw [hS] at sm
                  have ht : (atF L 0).tmod (N : Int) = (S : Int) := by rw [Int.tmod_eq_emod_of_nonneg x0]; exact hS
                  have sw : IntKind.i64.wrap (S : Int) = (S : Int) := IntWalk.i64_in _ (by omega)
                  have np : (0 : Int) < (N : Int) := by omega
                  have nz : ¬ (N : Int) = 0 := by omega
                  have nb : ((N : Int) == 0) = false := by rw [beq_eq_false_iff_ne]; omega
                  obtain ⟨x, hx⟩ : ∃ x, atF L 0 = x := ⟨_, rfl⟩
                  have hat : ∀ nq, Calls Try.prog 29 #[v, .int .i64 0] (w13.drewN nq) fun e w' => e = .returned (.int .i64 x) ∧ w' = w13.drewN nq := fun nq => by
                    have := at_det v L 0 (w13.drewN nq) (h0.bl (bl_drewN bel13 nq)) hl hb (by omega) (by omega)
                    rw [hx] at this
                    exact this.mono (fun _ _ h => ⟨h.1, h.2.symm⟩)
                  rw [hx] at hS ht x0 x9
                  have HAT := Lib.hid hat
                  have HN := Lib.hid hN
                  clear hat hN hx hnz
                  go_wp2
                  go_big_quiet ((go_at_call 29; exact Calls.quiet_of_same (HAT.out _)))
                  have h14 : RdJ (w13.drewN nq) (.slice A l.length c) l := h13.bl (bl_drewN (Below.refl _ _) nq)
                  have bel14 := bl_drewN bel13 nq
                  have S8 : S ≤ 255 := by omega
                  have HS : Hid (S < 2 ^ l.length) := by show S < _; rw [HN.out]; omega
                  clear h13 bel13 HAT pw ht sn sm np nz nb n64 n0
                  generalize w13.drewN nq = w14 at *
                  have ownS : (w14.alloc (Obj.cells #[] 44)).ownsRow w14.heap.size 44 3 (.slice (some ⟨w14.heap.size, 0, none⟩) 0 0) (partS l S 0).length (cJ (partS l S 0)) := own_new0 (Nat.le_refl _) rfl
                  clear hS x0 x9 sw p8
                  go_wp2
                  go_loopw [16, 17, 18] (fun a q i wr => ∃ k : Nat, k ≤ l.length ∧ i = .int .i64 k ∧ q = .int .i64 (gnS l S k) ∧ wr.ownsRow w14.heap.size 44 3 a (partS l S k).length (cJ (partS l S k)) ∧ Below w14.heap.size w14 wr) (fun _ _ i _ => l.length - (intOf i).toNat)
                  case atStart => exact ⟨0, Nat.zero_le _, rfl, rfl, ownS, bl_alloc (Below.refl _ _) _⟩
                  case round =>
                    clear ownS
                    obtain ⟨k, hk, rfl, rfl, ow, bel⟩ := hrel
                    have hml := partS_len l S k
                    by_cases hlt : k < l.length
                    · have hlt' : (k : Int) < (l.length : Int) := by omega
                      have k0 : (0 : Int) ≤ (k : Int) := by omega
                      have k9 : (k : Int) < 64 := by omega
                      have hba := bt_and S k S8
                      have szr := bel.size
                      cases hbt : bt S k
                      · have hh : Hid (partS l S (k + 1) = partS l S k) := by show _ = _; rw [partS, hbt]; rfl
                        have hg : Hid (gnS l S (k + 1) = gnS l S k) := by show _ = _; rw [gnS, hbt]; rfl
                        have hne : ¬ (((S / 2 ^ k % 2 : Nat) : Int) = 1) := by simp [bt] at hbt; omega
                        have g1 : (bits .and .i64 ((S : Int) / 2 ^ k) 1 == 1) = false := by rw [hba]; simpa using hne
                        have g2 : ¬ bits .and .i64 ((S : Int) / 2 ^ k) 1 = 1 := by rw [hba]; exact hne
                        clear hba hbt hne h14
                        go_wp2
                        go_roundw
                        case rel => exact ⟨k + 1, by omega, by go_num, by rw [hg.out], by rw [hh.out]; exact ow, bel⟩
                        case measure => simp [intOf]; omega
                      · have hh : Hid (partS l S (k + 1) = partS l S k ++ [gJ l k]) := by show _ = _; rw [partS, hbt]; rfl
                        have hg : Hid (gnS l S (k + 1) = gnS l S k + (gJ l k).2.2) := by show _ = _; rw [gnS, hbt]; rfl
                        have hne : ((S / 2 ^ k % 2 : Nat) : Int) = 1 := by simp [bt] at hbt; omega
                        have g2 : bits .and .i64 ((S : Int) / 2 ^ k) 1 = 1 := by rw [hba]; exact hne
                        obtain ⟨g, o, rfl, hgb, e0, e1, e2⟩ := RdJ.at_ h14 hlt
                        have e0 := (bel.cell (p := ⟨g, o + k * 3, none⟩) hgb).trans e0
                        have e1 := (bel.cell (p := ⟨g, o + k * 3 + 1, none⟩) hgb).trans e1
                        have e2 := (bel.cell (p := ⟨g, o + k * 3 + 2, none⟩) hgb).trans e2
                        have gb := gnS_bd HJ.out S k hk
                        have jb := (jobB_bd HJ.out hlt).2
                        clear hba hbt hne h14
                        go_wp2_with (at_builtin; refine wpList_app_J _ rfl _ _ rfl w14.heap.size _ _ rfl (ow.alloc _) _ (gJ l k) rfl ?_ ?_ ?_ (by omega) (by (first | omega | (simp; done) | (simp; omega))) ?_; rotate_left 3; intro v2 w3 ow3 bel3 _ _; have d2 : w3.cell? ⟨g, o + k * 3 + 2, none⟩ = some (.int .i64 (gJ l k).2.2) := (bel3.cell (p := ⟨g, o + k * 3 + 2, none⟩) hgb).trans ((World.cell?_alloc_lt _ _ ⟨g, o + k * 3 + 2, none⟩ (by simp; omega)).trans e2))
                        · have bel4 : Below w14.heap.size w14 w3 := Below.trans (bl_alloc bel _) bel3
                          go_roundw
                          case rel => exact ⟨k + 1, by omega, by go_num, by rw [hg.out], by rw [hh.out]; exact ow3, bel4⟩
                          case measure => simp [intOf]; omega
                        all_goals (simp [go_sem]; done)
                    · obtain rfl : k = l.length := by omega
                      have hlt' : ¬ (l.length : Int) < (l.length : Int) := by omega
                      obtain ⟨Aq, cq, rfl⟩ := own_form ow
                      have h15 := h14.bl bel
                      have bel15 := bl_to bel14 bel
                      obtain ⟨w15, hw15⟩ : ∃ w15, w15 = wr := ⟨wr, rfl⟩
                      subst hw15
                      have HOL : Hid (aitF (partS l S l.length) = true → gnS l S l.length ≤ m) := fun h => by have := other_le HS.out h; rw [HM.out] at this; exact this
                      have hq : RdJ w15 (.slice Aq (partS l S l.length).length cq) (partS l S l.length) := Rd.of_own ow
                      have c6 := jobsI_any _ l w15 h15 hll
                      rw [HJ.out] at c6
                      clear ow h14 bel14 bel
                      go_wp2_with fail
                      refine c6.mono ?_
                      rintro e w16 ⟨rfl, b16⟩
                      have c7 := aitI_any _ (partS l S l.length) w16 (hq.bl b16) (by omega)
                      have c8 : ∀ W, Hid (Calls Try.prog 22 #[.slice none 0 0] W fun e w' => e = .returned (.bool true) ∧ Below W.heap.size W w') := fun W => by
                        have := aitI_any (.slice none 0 0) [] W (Rd.nil _ _) (by simp)
                        rw [ait_nil] at this
                        exact this
                      have C8 := Lib.hid c8
                      have bel16 := bl_to bel15 b16
                      clear c6 c8 h15 hq b16 bel15
                      obtain ⟨q, hq2⟩ : ∃ q, gnS l S l.length = q := ⟨_, rfl⟩
                      rw [hq2] at HOL ⊢
                      cases hB : aitF (partS l S l.length)
                      · rw [hB] at c7
                        clear hB HOL hq2
                        go_wp2_with fail
                        refine c7.mono ?_
                        rintro e w17 ⟨rfl, b17⟩
                        have bel17 := bl_to bel16 b17
                        clear c7 b17
                        go_wp2_with fail
                        refine (C8.out _).out.mono ?_
                        rintro e w18 ⟨rfl, b18⟩
                        go_wp2
                        go_ret
                        exact ⟨rfl, bl_to bel17 b18⟩
                      · rw [hB] at c7
                        have hle := HOL.out hB
                        clear hB HOL hq2
                        go_wp2_with fail
                        refine c7.mono ?_
                        rintro e w17 ⟨rfl, b17⟩
                        have bel17 := bl_to bel16 b17
                        clear c7 b17
                        go_wp2_with fail
                        refine (C8.out _).out.mono ?_
                        rintro e w18 ⟨rfl, b18⟩
                        go_wp2
                        go_ret
                        exact ⟨rfl, bl_to bel17 b18⟩
          · have hLn : lateF l D ≠ [] := fun h => by
              have := (ait_iff HJ.out).2 (by rw [HDF.out]; exact h)
              rw [this] at hA
              cases hA
            have hlz : 0 < (lateF l D).length := by
              rcases Nat.eq_zero_or_pos (lateF l D).length with h | h
              · exact absurd (List.eq_nil_of_length_eq_zero h) hLn
              · exact h
            have n1 : (((lateF l D).length : Int) == 0) = false := by rw [beq_eq_false_iff_ne]; omega
            have n2 : ¬ ((lateF l D).length : Int) = 0 := by omega
            have hlx := lateF_len l D
            have HA := Lib.hid hA
            clear hA hLn
            go_wp2_with fail
            refine C1.out.mono ?_
            rintro e w7 ⟨rfl, b7⟩
            have h7 := h6.bl b7
            have hb7 := hb6.bl b7
            have bel7 := bl_to bel6 b7
            have c2 : ∀ W, Below w7.heap.size w7 W → Hid (Calls Try.prog 22 #[.slice A l.length c] W fun e w' => e = .returned (.bool false) ∧ Below W.heap.size W w') := fun W b => by
              have := aitI_any _ l W (h7.bl b) hll
              rw [HA.out] at this
              exact this
            have C2 := Lib.hid c2
            clear c2
            go_wp2_with fail
            refine (C2.out _ (Below.refl _ _)).out.mono ?_
            rintro e w8 ⟨rfl, b8⟩
            go_wp2_with fail
            refine (lateI_any (.slice A l.length c) (.slice Ab l.length cb) l D w8 (h7.bl b8) (rdI_len (hb7.bl b8) HDL.out) hll (by have := HDL.out; omega)).mono ?_
            rintro e w9 ⟨Al, cl, rfl, owl, b9⟩
            have b79 := b8.trans (b9.mono b8.size)
            clear owl
            go_wp2_with fail
            refine (C2.out _ b79).out.mono ?_
            rintro e w10 ⟨rfl, b10⟩
            have h10 := h7.bl (b79.trans (b10.mono b79.size))
            have bel10 := bl_to bel7 (b79.trans (b10.mono b79.size))
            clear C2 C1 b7 b8 b9 b10 b79 h6 hb6 hp6 h7 hb7 bel6 bel7 n1 n2 hlz hlx
            have own0 : (w10.alloc (Obj.cells #[] 3)).ownsRow w10.heap.size 3 1 (.slice (some ⟨w10.heap.size, 0, none⟩) 0 0) (upI 0 0).length (cI (upI 0 0)) := own_new0 (Nat.le_refl _) rfl
            go_wp2
            go_loopw [13, 14] (fun a i wr => ∃ k : Nat, k ≤ l.length ∧ i = .int .i64 k ∧ wr.ownsRow w10.heap.size 3 1 a (upI 0 k).length (cI (upI 0 k)) ∧ Below w10.heap.size w10 wr) (fun _ i _ => l.length - (intOf i).toNat)
            case atStart => exact ⟨0, Nat.zero_le _, rfl, own0, bl_alloc (Below.refl _ _) _⟩
            case round =>
              clear own0
              obtain ⟨k, hk, rfl, ow, bel⟩ := hrel
              by_cases hlt : k < l.length
              · have hlt' : (k : Int) < (l.length : Int) := by omega
                have US : Hid (upI 0 k ++ [(k : Int)] = upI 0 (k + 1)) := by show _ = _; simp [upI, List.range_succ]
                have szr := bel.size
                go_wp2_with (at_builtin; refine wpList_app_int _ rfl _ _ rfl w10.heap.size _ _ rfl (ow.alloc _) _ (k : Int) rfl ?_ (by rw [upI_len]; omega) (by (first | omega | (simp; done) | (simp; omega))) ?_; rotate_left; intro v2 w3 ow3 bel3)
                · rw [US.out] at ow3
                  have bel4 : Below w10.heap.size w10 w3 := Below.trans (bl_alloc bel _) bel3
                  go_roundw
                  case rel => exact ⟨k + 1, by omega, by go_num, ow3, bel4⟩
                  case measure => simp [intOf]; omega
                all_goals (simp [go_sem]; done)
              · obtain rfl : k = l.length := by omega
                have hlt' : ¬ (l.length : Int) < (l.length : Int) := by omega
                obtain ⟨Ao, co, rfl⟩ := own_form ow
                have ho : RdI wr (.slice Ao (upI 0 l.length).length co) (upI 0 l.length) := Rd.of_own ow
                have h11 := h10.bl bel
                have bel11 := bl_to bel10 bel
                obtain ⟨w11, hw11⟩ : ∃ w11, w11 = wr := ⟨wr, rfl⟩
                subst hw11
                clear ow h10 bel10 bel
                have UL := Lib.hid (upI_len 0 l.length)
                have c4 := lateI_any _ _ l (upI 0 l.length) w11 h11 ho hll (by rw [UL.out]; exact hll)
                by_cases hU : lateF l (upI 0 l.length) = []
                · have hA2 : aitF l = true := (ait_iff HJ.out).2 (by rw [HDF.out, HD0.out]; exact edd HJ.out hU)
                  exact absurd (HA.out.symm.trans hA2) (by decide)
                · have hlz : 0 < (lateF l (upI 0 l.length)).length := by
                    rcases Nat.eq_zero_or_pos (lateF l (upI 0 l.length)).length with h | h
                    · exact absurd (List.eq_nil_of_length_eq_zero h) hU
                    · exact h
                  have n1 : (((lateF l (upI 0 l.length)).length : Int) == 0) = false := by rw [beq_eq_false_iff_ne]; omega
                  have n2 : ¬ ((lateF l (upI 0 l.length)).length : Int) = 0 := by omega
                  have hlx := lateF_len l (upI 0 l.length)
                  clear hU
                  go_wp2_with fail
                  refine c4.mono ?_
                  rintro e w13 ⟨Am, cm, rfl, owm, b13⟩
                  have h13 := h11.bl b13
                  have bel13 := bl_to bel11 b13
                  clear c4 owm b13 h11 bel11 ho
                  have hnz := h0.bl bel13
                  have p8 := pow_le8 (show l.length ≤ 8 by omega)
                  obtain ⟨N, hN⟩ : ∃ N : Nat, 2 ^ l.length = N := ⟨_, rfl⟩
                  rw [hN] at p8
                  have pw : IntKind.i64.wrap ((2 : Int) ^ l.length) = (N : Int) := by rw [show (2 : Int) ^ l.length = ((2 ^ l.length : Nat) : Int) by simp, hN]; exact IntWalk.i64_in _ (by omega)
                  have n64 : (l.length : Int) ≤ 64 := by omega
                  have n0 : (0 : Int) ≤ (l.length : Int) := by omega
                  obtain ⟨x0, x9⟩ := atF_bd hb 0
                  have sm := Int.emod_lt_of_pos (atF L 0) (show (0 : Int) < (N : Int) by omega)
                  have sn := Int.emod_nonneg (atF L 0) (show (N : Int) ≠ 0 by omega)
                  obtain ⟨S, hS⟩ := Int.eq_ofNat_of_zero_le sn
                  rw [hS] at sm
                  have ht : (atF L 0).tmod (N : Int) = (S : Int) := by rw [Int.tmod_eq_emod_of_nonneg x0]; exact hS
                  have sw : IntKind.i64.wrap (S : Int) = (S : Int) := IntWalk.i64_in _ (by omega)
                  have np : (0 : Int) < (N : Int) := by omega
                  have nz : ¬ (N : Int) = 0 := by omega
                  have nb : ((N : Int) == 0) = false := by rw [beq_eq_false_iff_ne]; omega
                  obtain ⟨x, hx⟩ : ∃ x, atF L 0 = x := ⟨_, rfl⟩
                  have hat : ∀ nq, Calls Try.prog 29 #[v, .int .i64 0] (w13.drewN nq) fun e w' => e = .returned (.int .i64 x) ∧ w' = w13.drewN nq := fun nq => by
                    have := at_det v L 0 (w13.drewN nq) (h0.bl (bl_drewN bel13 nq)) hl hb (by omega) (by omega)
                    rw [hx] at this
                    exact this.mono (fun _ _ h => ⟨h.1, h.2.symm⟩)
                  rw [hx] at hS ht x0 x9
                  have HAT := Lib.hid hat
                  have HN := Lib.hid hN
                  clear hat hN hx hnz
                  go_wp2
                  go_big_quiet ((go_at_call 29; exact Calls.quiet_of_same (HAT.out _)))
                  have h14 : RdJ (w13.drewN nq) (.slice A l.length c) l := h13.bl (bl_drewN (Below.refl _ _) nq)
                  have bel14 := bl_drewN bel13 nq
                  have S8 : S ≤ 255 := by omega
                  have HS : Hid (S < 2 ^ l.length) := by show S < _; rw [HN.out]; omega
                  clear h13 bel13 HAT pw ht sn sm np nz nb n64 n0
                  generalize w13.drewN nq = w14 at *
                  have ownS : (w14.alloc (Obj.cells #[] 44)).ownsRow w14.heap.size 44 3 (.slice (some ⟨w14.heap.size, 0, none⟩) 0 0) (partS l S 0).length (cJ (partS l S 0)) := own_new0 (Nat.le_refl _) rfl
                  clear hS x0 x9 sw p8
                  go_wp2
                  go_loopw [16, 17, 18] (fun a q i wr => ∃ k : Nat, k ≤ l.length ∧ i = .int .i64 k ∧ q = .int .i64 (gnS l S k) ∧ wr.ownsRow w14.heap.size 44 3 a (partS l S k).length (cJ (partS l S k)) ∧ Below w14.heap.size w14 wr) (fun _ _ i _ => l.length - (intOf i).toNat)
                  case atStart => exact ⟨0, Nat.zero_le _, rfl, rfl, ownS, bl_alloc (Below.refl _ _) _⟩
                  case round =>
                    clear ownS
                    obtain ⟨k, hk, rfl, rfl, ow, bel⟩ := hrel
                    have hml := partS_len l S k
                    by_cases hlt : k < l.length
                    · have hlt' : (k : Int) < (l.length : Int) := by omega
                      have k0 : (0 : Int) ≤ (k : Int) := by omega
                      have k9 : (k : Int) < 64 := by omega
                      have hba := bt_and S k S8
                      have szr := bel.size
                      cases hbt : bt S k
                      · have hh : Hid (partS l S (k + 1) = partS l S k) := by show _ = _; rw [partS, hbt]; rfl
                        have hg : Hid (gnS l S (k + 1) = gnS l S k) := by show _ = _; rw [gnS, hbt]; rfl
                        have hne : ¬ (((S / 2 ^ k % 2 : Nat) : Int) = 1) := by simp [bt] at hbt; omega
                        have g1 : (bits .and .i64 ((S : Int) / 2 ^ k) 1 == 1) = false := by rw [hba]; simpa using hne
                        have g2 : ¬ bits .and .i64 ((S : Int) / 2 ^ k) 1 = 1 := by rw [hba]; exact hne
                        clear hba hbt hne h14
                        go_wp2
                        go_roundw
                        case rel => exact ⟨k + 1, by omega, by go_num, by rw [hg.out], by rw [hh.out]; exact ow, bel⟩
                        case measure => simp [intOf]; omega
                      · have hh : Hid (partS l S (k + 1) = partS l S k ++ [gJ l k]) := by show _ = _; rw [partS, hbt]; rfl
                        have hg : Hid (gnS l S (k + 1) = gnS l S k + (gJ l k).2.2) := by show _ = _; rw [gnS, hbt]; rfl
                        have hne : ((S / 2 ^ k % 2 : Nat) : Int) = 1 := by simp [bt] at hbt; omega
                        have g2 : bits .and .i64 ((S : Int) / 2 ^ k) 1 = 1 := by rw [hba]; exact hne
                        obtain ⟨g, o, rfl, hgb, e0, e1, e2⟩ := RdJ.at_ h14 hlt
                        have e0 := (bel.cell (p := ⟨g, o + k * 3, none⟩) hgb).trans e0
                        have e1 := (bel.cell (p := ⟨g, o + k * 3 + 1, none⟩) hgb).trans e1
                        have e2 := (bel.cell (p := ⟨g, o + k * 3 + 2, none⟩) hgb).trans e2
                        have gb := gnS_bd HJ.out S k hk
                        have jb := (jobB_bd HJ.out hlt).2
                        clear hba hbt hne h14
                        go_wp2_with (at_builtin; refine wpList_app_J _ rfl _ _ rfl w14.heap.size _ _ rfl (ow.alloc _) _ (gJ l k) rfl ?_ ?_ ?_ (by omega) (by (first | omega | (simp; done) | (simp; omega))) ?_; rotate_left 3; intro v2 w3 ow3 bel3 _ _; have d2 : w3.cell? ⟨g, o + k * 3 + 2, none⟩ = some (.int .i64 (gJ l k).2.2) := (bel3.cell (p := ⟨g, o + k * 3 + 2, none⟩) hgb).trans ((World.cell?_alloc_lt _ _ ⟨g, o + k * 3 + 2, none⟩ (by simp; omega)).trans e2))
                        · have bel4 : Below w14.heap.size w14 w3 := Below.trans (bl_alloc bel _) bel3
                          go_roundw
                          case rel => exact ⟨k + 1, by omega, by go_num, by rw [hg.out], by rw [hh.out]; exact ow3, bel4⟩
                          case measure => simp [intOf]; omega
                        all_goals (simp [go_sem]; done)
                    · obtain rfl : k = l.length := by omega
                      have hlt' : ¬ (l.length : Int) < (l.length : Int) := by omega
                      obtain ⟨Aq, cq, rfl⟩ := own_form ow
                      have h15 := h14.bl bel
                      have bel15 := bl_to bel14 bel
                      obtain ⟨w15, hw15⟩ : ∃ w15, w15 = wr := ⟨wr, rfl⟩
                      subst hw15
                      have HOL : Hid (aitF (partS l S l.length) = true → gnS l S l.length ≤ m) := fun h => by have := other_le HS.out h; rw [HM.out] at this; exact this
                      have hq : RdJ w15 (.slice Aq (partS l S l.length).length cq) (partS l S l.length) := Rd.of_own ow
                      have c6 := jobsI_any _ l w15 h15 hll
                      rw [HJ.out] at c6
                      clear ow h14 bel14 bel
                      go_wp2_with fail
                      refine c6.mono ?_
                      rintro e w16 ⟨rfl, b16⟩
                      have c7 := aitI_any _ (partS l S l.length) w16 (hq.bl b16) (by omega)
                      have c8 : ∀ W, Hid (Calls Try.prog 22 #[.slice none 0 0] W fun e w' => e = .returned (.bool true) ∧ Below W.heap.size W w') := fun W => by
                        have := aitI_any (.slice none 0 0) [] W (Rd.nil _ _) (by simp)
                        rw [ait_nil] at this
                        exact this
                      have C8 := Lib.hid c8
                      have bel16 := bl_to bel15 b16
                      clear c6 c8 h15 hq b16 bel15
                      obtain ⟨q, hq2⟩ : ∃ q, gnS l S l.length = q := ⟨_, rfl⟩
                      rw [hq2] at HOL ⊢
                      cases hB : aitF (partS l S l.length)
                      · rw [hB] at c7
                        clear hB HOL hq2
                        go_wp2_with fail
                        refine c7.mono ?_
                        rintro e w17 ⟨rfl, b17⟩
                        have bel17 := bl_to bel16 b17
                        clear c7 b17
                        go_wp2_with fail
                        refine (C8.out _).out.mono ?_
                        rintro e w18 ⟨rfl, b18⟩
                        go_wp2
                        go_ret
                        exact ⟨rfl, bl_to bel17 b18⟩
                      · rw [hB] at c7
                        have hle := HOL.out hB
                        clear hB HOL hq2
                        go_wp2_with fail
                        refine c7.mono ?_
                        rintro e w17 ⟨rfl, b17⟩
                        have bel17 := bl_to bel16 b17
                        clear c7 b17
                        go_wp2_with fail
                        refine (C8.out _).out.mono ?_
                        rintro e w18 ⟨rfl, b18⟩
                        go_wp2
                        go_ret
                        exact ⟨rfl, bl_to bel17 b18⟩
end Go.Proofs.Ytloienidakomdaa
