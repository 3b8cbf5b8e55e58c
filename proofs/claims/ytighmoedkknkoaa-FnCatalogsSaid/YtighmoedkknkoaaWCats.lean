/- FnCatalogs: the law returns true at every input; no condition. -/
import Derived.Test.YtighmoedkknkoaaDrawCat
import Derived.Test.YtighmoedkknkoaaPut
import Derived.Test.YtighmoedkknkoaaDropEntry
import Derived.Test.YtighmoedkknkoaaSameEnI
import Derived.Test.YtighmoedkknkoaaQB
import Derived.Deep.DeepCutAuto
namespace Go.Proofs.Ytighmoedkknkoaa
open Go.RowKit Go.Sort

theorem btoi_any (b : Bool) (w : World) : Calls Try.prog 35 #[.bool b] w fun e w' => e = .returned (.int .i64 (if b then 1 else 0)) ∧ w = w' := by
  cases b
  · go_enter Try.func35, Try.ntmps35
    go_wp2
    go_ret
    exact ⟨rfl, rfl⟩
  · go_enter Try.func35, Try.ntmps35
    go_wp2
    go_ret
    exact ⟨rfl, rfl⟩
set_option maxHeartbeats 12800000 in
set_option maxRecDepth 100000 in
theorem cats_walk (v : Value) (L : List Int) (w : World) (h0 : RdB w v L) : Calls Try.prog 8 #[v] w fun e w' => e = .returned (.bool true) ∧ Below w.heap.size w w' := by
  by_cases hl : L.length ≤ 1048576
  rotate_left
  · have hbig : decide ((1048576 : Int) < (L.length : Int)) = true := by rw [decide_eq_true_eq]; omega
    go_enter Try.func8, Try.ntmps8
    go_wp2_with fail
    refine (bigB_any v L _ h0).mono ?_
    rintro e wq ⟨rfl, rfl⟩
    rw [hbig]
    go_wp2
    go_ret
    exact ⟨rfl, Below.refl _ _⟩
  have hbig : decide ((1048576 : Int) < (L.length : Int)) = false := by rw [decide_eq_false_iff_not]; omega
  go_enter Try.func8, Try.ntmps8
  go_wp2_with fail
  refine (bigB_any v L _ h0).mono ?_
  rintro e wq ⟨rfl, rfl⟩
  rw [hbig]
  go_wp2_with fail
  refine (drawCat_any v L _ h0 hl).mono ?_
  rintro e w1 ⟨l, A, c, rfl, hd, ow, b1⟩
  have rl := ow.rd
  have hsz := drcat_sz hd
  have hl6 := hd.len
  go_wp2_with fail
  refine (drawTune_any v L _ (h0.bl b1) hl).mono ?_
  rintro e w2 ⟨m, Am, cm, rfl, hm11, ht, _, owm, b2⟩
  have HC : Hid (CatsL l m) := cats_law hd ht
  replace rl := rl.bl b2
  have rm : RdN w2 (.slice Am m.length cm) m := Rd.of_own owm
  have bel := bl_to b1 b2
  clear ow owm b1 b2 h0 hd ht
  obtain ⟨p1, pl, cx, p2, fx, d1, dl, fi, ni, d2, fz, sl⟩ := HC.out
  have hX1 : (l ++ [(zebT, m)]).length = l.length + 1 := by simp
  have hX2 : szE (l ++ [(zebT, m)]) = szE l + (zebT.size + m.length) := by rw [szE_append]; simp [szE]
  have hz5 : zebT.size = 5 := rfl
  have pl2 : putL (l ++ [(zebT, m)]) (zebT, m) = l ++ [(zebT, m)] := by rw [putL, p2]; rfl
  have dl2 : drpL l zebT = l := by rw [drpL, d2]; rfl
  obtain ⟨X, hX⟩ : ∃ X, l ++ [(zebT, m)] = X := ⟨_, rfl⟩
  rw [hX] at pl cx p2 fx d1 dl hX1 hX2 pl2
  have bal := bl_alloc (Below.refl _ w2) (.cells #[.string ⟨#[122, 101, 98, 114, 97]⟩, .slice Am m.length cm] 41)
  have cp : Calls Try.prog 23 #[.slice A l.length c, .agg #[.string ⟨#[122, 101, 98, 114, 97]⟩, .slice Am m.length cm]] (w2.alloc (.cells #[.string ⟨#[122, 101, 98, 114, 97]⟩, .slice Am m.length cm] 41)) (NewEB X true (w2.alloc (.cells #[.string ⟨#[122, 101, 98, 114, 97]⟩, .slice Am m.length cm] 41))) := by
    have := putI_any _ zebT _ m l _ (rl.bl bal) (rm.bl bal) (by omega)
    rw [p1, pl] at this
    exact this
  have cq := fun W v (h : RdE W v X) (h2 : RdN W (.slice Am m.length cm) m) => putI_any v zebT (.slice Am m.length cm) m X W h h2 (by omega)
  have cf := fun W v (h : RdE W v X) => findI_any v zebT X W h (by omega)
  have cd := fun W v (h : RdE W v X) => dropI_any v zebT X W h (by omega)
  have co := fun W v (h : RdE W v X) => catalogI_ok v X W h (by omega)
  rw [p2, pl2] at cq
  rw [fx] at cf
  rw [d1, dl] at cd
  rw [cx] at co
  have CQ := Lib.hid cq
  have CF := Lib.hid cf
  have CD := Lib.hid cd
  have CO := Lib.hid co
  have cfl := fun W v s (h : RdE W v l) => findI_any v s l W h (by omega)
  have CFL := Lib.hid cfl
  have cdl := fun W v (h : RdE W v l) => dropI_any v zebT l W h (by omega)
  rw [dl2, d2] at cdl
  have CDL := Lib.hid cdl
  have g1 : ((X.length : Int) != (l.length : Int) + 1) = false := by rw [hX1]; simp
  have g2 : ¬ (X.length : Int) ≤ (l.length : Int) := by omega
  have g3 : IntKind.i64.wrap ((l.length : Int) + 1) = (l.length : Int) + 1 := IntWalk.i64_in _ (by omega)
  have HFI := Lib.hid fi
  have HNI := Lib.hid ni
  have HFZ := Lib.hid fz
  have HSL := Lib.hid sl
  have HSZ := Lib.hid hsz
  clear cq cf cd co cfl cdl p1 pl cx p2 fx d1 dl fi ni d2 fz sl hX hX1 hX2 hz5 pl2 dl2 HC
  go_wp2_with fail
  refine cp.mono ?_
  rintro e w3 ⟨A3, c3, rfl, ow3, b3⟩
  have e0 : w3.cell? ⟨w2.heap.size, 0, none⟩ = some (.string ⟨#[122, 101, 98, 114, 97]⟩) := (b3.cell (p := ⟨w2.heap.size, 0, none⟩) (by simp)).trans (by simp [go_sem])
  have e1 : w3.cell? ⟨w2.heap.size, 1, none⟩ = some (.slice Am m.length cm) := (b3.cell (p := ⟨w2.heap.size, 1, none⟩) (by simp)).trans (by simp [go_sem])
  have rx := ow3.rd
  replace rl := (rl.bl bal).bl b3
  replace rm := (rm.bl bal).bl b3
  replace bel := bl_to (bl_alloc bel _) b3
  have cq := CQ.out w3 _ rx rm
  clear cp ow3 b3 bal CQ
  go_wp2_with fail
  refine cq.mono ?_
  rintro e w4 ⟨A4, c4, rfl, _, b4⟩
  replace rx := rx.bl b4
  replace rl := rl.bl b4
  replace bel := bl_to bel b4
  clear cq b4 e0 e1 rm
  have cf := CF.out w4 _ rx
  go_wp2_with fail
  refine cf.mono ?_
  rintro e w5 ⟨rfl, b5⟩
  replace rx := rx.bl b5
  replace rl := rl.bl b5
  replace bel := bl_to bel b5
  clear cf b5 CF
  have cd := CD.out w5 _ rx
  go_wp2_with fail
  refine cd.mono ?_
  rintro e w6 ⟨Ay, cy, rfl, owy, b6⟩
  have ry := owy.rd
  replace rx := rx.bl b6
  replace rl := rl.bl b6
  replace bel := bl_to bel b6
  clear cd b6 CD owy
  have co := CO.out w6 _ rx
  go_wp2_with fail
  refine co.mono ?_
  rintro e w7 ⟨rfl, b7⟩
  replace ry := ry.bl b7
  replace rl := rl.bl b7
  replace bel := bl_to bel b7
  clear co b7 CO rx g1 g2
  go_wp2
  go_loopw [12] (fun i wr => ∃ k : Nat, k ≤ l.length ∧ i = .int .i64 k ∧ Below w7.heap.size w7 wr) (fun i _ => l.length - (intOf i).toNat)
  case atStart => exact ⟨0, Nat.zero_le _, rfl, Below.refl _ _⟩
  case round =>
    obtain ⟨k, hk, rfl, bw⟩ := hrel
    by_cases hlt : k < l.length
    · have hlt' : (k : Int) < (l.length : Int) := by omega
      have k0 : (0 : Int) ≤ (k : Int) := by omega
      obtain ⟨b, o, vt, rfl, hb, e0, _, _⟩ := (rl.bl bw).at_ hlt
      obtain ⟨by_, oy, vy, rfl, hby, y0, _, _⟩ := (ry.bl bw).at_ hlt
      have cf := fun W (h : Below wr.heap.size wr W) => CFL.out W _ (gE l k).1 ((rl.bl bw).bl h)
      have cn := fun W => nameI_any (gE l k).1 W (by have := szE_at hlt; have := HSZ.out; omega)
      rw [HFI.out k hlt] at cf
      rw [HNI.out k hlt] at cn
      generalize (gE l k).1 = s at *
      have QF := Lib.hid cf
      have QN := Lib.hid cn
      have Q0 := cell_regrown e0
      have Q1 := cell_regrown y0
      clear cf cn e0 y0 rl ry CFL CDL
      go_wp2
      (refine wp_region_quiet_below (by kernel_rfl) (by kernel_rfl) ?_; (repeat (first | go_big_quiet_skip | (go_big_quiet_want; go_big_quiet_op; (first | go_big_quiet_on | (apply Exists.intro; refine ⟨fun _ => ?_, ?_⟩; (focus (first | (go_at_call 15; exact Calls.regrown_of (QF.out _ (below_regrown _ _ _))) | (go_at_call 34; exact rg_same (QN.out _)) | fail)); go_big_quiet_on))))); refine wpQuiet_nil ?_; (intro wq hwq; have bq := rg_below hwq; clear hwq))
      go_wp2
      go_roundw
      case rel => exact ⟨k + 1, by omega, by go_num, bw.trans (bq.mono bw.size)⟩
      case measure => simp [intOf]; omega
    · have hke : k = l.length := by omega
      have hlt' : ¬ (k : Int) < (l.length : Int) := by omega
      replace rl := rl.bl bw
      replace bel := bl_to bel bw
      clear ry bw hke
      have cs := samesI_any _ l wr rl (by have := HSZ.out; omega)
      obtain ⟨F, hF⟩ : ∃ F, sameF l = F := ⟨_, rfl⟩
      rw [hF] at cs
      have HF := Lib.hid hF
      clear hF
      go_wp2_with fail
      refine cs.mono ?_
      rintro e w8 ⟨AF, cF, rfl, _, b8⟩
      replace rl := rl.bl b8
      replace bel := bl_to bel b8
      clear b8 cs hlt hlt' hk
      go_wp2
      go_loopw [14, 15] (fun p i wr => ∃ k : Nat, k ≤ l.length ∧ i = .int .i64 k ∧ p = .int .i64 ((allP l k).length : Nat) ∧ Below w8.heap.size w8 wr) (fun _ i _ => l.length - (intOf i).toNat)
      case atStart => exact ⟨0, Nat.zero_le _, rfl, rfl, Below.refl _ _⟩
      case round =>
        obtain ⟨k, hk, rfl, rfl, bw⟩ := hrel
        have hpa := allP_le (l := l) (by omega) hk
        obtain ⟨P, hP⟩ : ∃ P, (allP l k).length = P := ⟨_, rfl⟩
        rw [hP] at hpa
        rw [hP]
        have HP := Lib.hid hP
        clear hP
        by_cases hlt : k < l.length
        · have hlt' : (k : Int) < (l.length : Int) := by omega
          have hw : IntKind.i64.wrap ((k : Int) + 1) = (k : Int) + 1 := IntWalk.i64_in _ (by omega)
          have hr0 : (rowP l k (k + 1)).length = 0 := by rw [rowP_none l k (k + 1) (Nat.le_refl _)]; rfl
          have HR0 := Lib.hid hr0
          clear hr0
          go_wp2
          go_loopw [14, 16] (fun p j wx => ∃ i : Nat, k + 1 ≤ i ∧ i ≤ l.length ∧ j = .int .i64 i ∧ p = .int .i64 ((P + (rowP l k i).length : Nat) : Int) ∧ Below w8.heap.size w8 wx) (fun _ j _ => l.length - (intOf j).toNat)
          case atStart => exact ⟨k + 1, Nat.le_refl _, by omega, by go_num, by rw [HR0.out, Nat.add_zero], bw⟩
          case round =>
            clear HR0 hw
            obtain ⟨i, hi1, hi2, rfl, rfl, bx⟩ := hrel
            have hrl := rowP_len l k i
            obtain ⟨S, hS⟩ : ∃ S, P + (rowP l k i).length = S := ⟨_, rfl⟩
            have hSb : S ≤ 1000 := by omega
            rw [hS]
            have HS := Lib.hid hS
            clear hS hrl
            by_cases hit : i < l.length
            · have hit' : (i : Int) < (l.length : Int) := by omega
              have i0 : (0 : Int) ≤ (i : Int) := by omega
              have k0 : (0 : Int) ≤ (k : Int) := by omega
              have hst := rowP_step (l := l) (i := k) (j := i) (by omega)
              obtain ⟨b, o, va, rfl, hb, _, e1, ra⟩ := (rl.bl bx).at_ hlt
              obtain ⟨b', o', vb, hA, _, _, f1, rb⟩ := (rl.bl bx).at_ hit
              obtain ⟨rfl, rfl⟩ : b = b' ∧ o = o' := by simpa using hA
              obtain ⟨Aa, ca, rfl, _, _⟩ := ra.form
              obtain ⟨Ab, cb, rfl, _, _⟩ := rb.form
              have z1 := szE_at hlt
              have z2 := szE_at hit
              have z3 := HSZ.out
              have cs := fun W (h : Below wr.heap.size wr W) => sameS_any _ _ _ _ W (ra.bl h) (rb.bl h) (by omega) (by omega)
              generalize (gE l k).2.length = la at *
              generalize (gE l i).2.length = lb at *
              cases hq : sameB (gE l k).2 (gE l i).2
              · rw [hq] at cs hst
                have QS := Lib.hid cs
                have QB := Lib.hid (btoi_any false)
                have HST := Lib.hid hst
                have Q0 := cell_regrown e1
                have Q1 := cell_regrown f1
                have hwS : IntKind.i64.wrap (S : Int) = (S : Int) := IntWalk.i64_in _ (by omega)
                clear cs hst e1 f1 ra rb rl hq hA z1 z2 z3
                go_wp2
                (refine wp_region_quiet_below (by kernel_rfl) (by kernel_rfl) ?_; (repeat (first | go_big_quiet_skip | (go_big_quiet_want; go_big_quiet_op; (first | go_big_quiet_on | (apply Exists.intro; refine ⟨fun _ => ?_, ?_⟩; (focus (first | (go_at_call 36; exact Calls.regrown_of (QS.out _ (below_regrown _ _ _))) | (go_at_call 35; exact rg_same (QB.out _)) | fail)); go_big_quiet_on))))); refine wpQuiet_nil ?_; (intro wq hwq; have bq := rg_below hwq; clear hwq))
                go_wp2
                go_roundw
                case rel => exact ⟨i + 1, by omega, by omega, by go_num, by have h1 := HST.out; have h2 := HS.out; simp at h1; congr 1; omega, bx.trans (bq.mono bx.size)⟩
                case measure => simp [intOf]; omega
              · rw [hq] at cs hst
                have QS := Lib.hid cs
                have QB := Lib.hid (btoi_any true)
                have HST := Lib.hid hst
                have Q0 := cell_regrown e1
                have Q1 := cell_regrown f1
                have hwS : IntKind.i64.wrap ((S : Int) + 1) = (S : Int) + 1 := IntWalk.i64_in _ (by omega)
                clear cs hst e1 f1 ra rb rl hq hA z1 z2 z3
                go_wp2
                (refine wp_region_quiet_below (by kernel_rfl) (by kernel_rfl) ?_; (repeat (first | go_big_quiet_skip | (go_big_quiet_want; go_big_quiet_op; (first | go_big_quiet_on | (apply Exists.intro; refine ⟨fun _ => ?_, ?_⟩; (focus (first | (go_at_call 36; exact Calls.regrown_of (QS.out _ (below_regrown _ _ _))) | (go_at_call 35; exact rg_same (QB.out _)) | fail)); go_big_quiet_on))))); refine wpQuiet_nil ?_; (intro wq hwq; have bq := rg_below hwq; clear hwq))
                go_wp2
                go_roundw
                case rel => exact ⟨i + 1, by omega, by omega, by go_num, by have h1 := HST.out; have h2 := HS.out; simp at h1; congr 1; omega, bx.trans (bq.mono bx.size)⟩
                case measure => simp [intOf]; omega
            · have hie : i = l.length := by omega
              have hit' : ¬ (i : Int) < (l.length : Int) := by omega
              have hfin : S = (allP l (k + 1)).length := by rw [allP, List.length_append, HP.out, ← hie]; exact HS.out.symm
              have HFN := Lib.hid hfin
              clear hie hfin
              go_wp2
              go_roundw
              case rel => exact ⟨k + 1, by omega, by go_num, by rw [← HFN.out], bx⟩
              case measure => simp [intOf]; omega
        · have hke : k = l.length := by omega
          have hlt' : ¬ (k : Int) < (l.length : Int) := by omega
          have hPF : F.length = P := by rw [← HF.out, HSL.out, ← hke]; exact HP.out
          replace rl := rl.bl bw
          replace bel := bl_to bel bw
          have gP : ((F.length : Int) == (P : Int)) = true := by rw [hPF]; simp
          have gP2 : (F.length : Int) = (P : Int) := by rw [hPF]
          have cd := CDL.out wr _ rl
          have cf := fun W (h : RdE W (.slice A l.length c) l) => CFL.out W _ zebT h
          rw [HFZ.out] at cf
          have CF2 := Lib.hid cf
          have cn := fun W => nameI_any ⟨#[90, 101, 98, 114, 97]⟩ W (by show 5 ≤ 1048576; omega)
          rw [Zeb_no] at cn
          have CN := Lib.hid cn
          clear hke hPF cf cn bw CDL CFL
          go_wp2_with fail
          refine cd.mono ?_
          rintro e w9 ⟨A9, c9, rfl, _, b9⟩
          replace rl := rl.bl b9
          replace bel := bl_to bel b9
          have cf := CF2.out w9 rl
          clear b9 cd CF2
          go_wp2_with fail
          refine cf.mono ?_
          rintro e w10 ⟨rfl, b10⟩
          clear cf
          go_wp2_with fail
          refine (CN.out _).mono ?_
          rintro e w11 ⟨rfl, rfl⟩
          go_wp2
          go_ret
          exact ⟨rfl, bl_to bel b10⟩
end Go.Proofs.Ytighmoedkknkoaa
