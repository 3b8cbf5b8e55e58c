/- FnNotations: the law returns true at every input; no condition but the library's tables and cells. -/
import Derived.Test.YthgllpocljeegaaGreatDoorDrawCyl2
import Derived.Test.YthgllpocljeegaaGreatDoorNotes0
import Derived.Test.YthgllpocljeegaaGreatDoorReadTuneI
import Derived.Test.YthgllpocljeegaaGreatDoorReadGridI
import Derived.Deep.DeepCutAuto
import Derived.BigQuiet
namespace Go.Proofs.YthgllpocljeegaaGreatDoor
open Go.RowKit Go.Sort

theorem btoi_any (b : Bool) (w : World) : Calls Tryz.prog 13 #[.bool b] w fun e w' => e = .returned (.int .i64 (if b then 1 else 0)) ∧ w = w' := by
  cases b
  · go_enter Tryz.func13, Tryz.ntmps13
    go_wp2
    go_ret
    exact ⟨rfl, rfl⟩
  · go_enter Tryz.func13, Tryz.ntmps13
    go_wp2
    go_ret
    exact ⟨rfl, rfl⟩
/-- block B holds a cylinder -/
structure CB (B : Nat) (W : World) (v : Value) (l : List (Int × Int)) (n r : Int) : Prop where
  c0 : W.cell? ⟨B, 0, none⟩ = some (.int .i64 n)
  c1 : W.cell? ⟨B, 1, none⟩ = some (.int .i64 r)
  c2 : W.cell? ⟨B, 2, none⟩ = some v
  lt : B < W.heap.size
  rd : RdP W v l
theorem CB.bl {B : Nat} {W W' : World} {v : Value} {l : List (Int × Int)} {n r : Int} (h : CB B W v l n r) (b : Below W.heap.size W W') : CB B W' v l n r :=
  ⟨(b.cell (p := ⟨B, 0, none⟩) h.lt).trans h.c0, (b.cell (p := ⟨B, 1, none⟩) h.lt).trans h.c1, (b.cell (p := ⟨B, 2, none⟩) h.lt).trans h.c2, Nat.lt_of_lt_of_le h.lt b.size, Rd.bl h.rd b⟩
theorem CB.new {W : World} {v : Value} {l : List (Int × Int)} {n r : Int} (h : RdP W v l) : CB W.heap.size (W.alloc (.cells #[.int .i64 n, .int .i64 r, v] 31)) v l n r :=
  ⟨by simp [go_sem], by simp [go_sem], by simp [go_sem], by simp, Rd.bl h (bl_alloc (Below.refl _ _) _)⟩
theorem ttF_size {m : List (Int × Int)} (h : m.length ≤ 11) : (ttF m).size ≤ 242 := by
  unfold ttF
  split
  · have := ttN_size m m.length; omega
  · show 0 ≤ 242; omega
set_option maxHeartbeats 12800000 in
set_option maxRecDepth 100000 in
theorem notes_walk (v : Value) (L : List Int) (w : World) (h0 : RdB w v L) (env : Env w) : Calls Tryz.prog 3 #[v] w fun e w' => e = .returned (.bool true) ∧ Below w.heap.size w w' := by
  by_cases hl : L.length ≤ 1048576
  rotate_left
  · have hbig : decide ((1048576 : Int) < (L.length : Int)) = true := by rw [decide_eq_true_eq]; omega
    go_enter Tryz.func3, Tryz.ntmps3
    go_wp2_with fail
    refine (bigB_any v L _ h0).mono ?_
    rintro e wq ⟨rfl, rfl⟩
    rw [hbig]
    go_wp2
    go_ret
    exact ⟨rfl, Below.refl _ _⟩
  have hbig : decide ((1048576 : Int) < (L.length : Int)) = false := by rw [decide_eq_false_iff_not]; omega
  go_enter Tryz.func3, Tryz.ntmps3
  go_wp2_with fail
  refine (bigB_any v L _ h0).mono ?_
  rintro e wq ⟨rfl, rfl⟩
  rw [hbig]
  go_wp2_with fail
  refine (drawTune_any v L _ h0 hl).mono ?_
  rintro e w1 ⟨m, A, c, rfl, hm11, ht, _, owm, bel⟩
  have rm : RdN w1 (.slice A m.length c) m := Rd.of_own owm
  have tr := tt_read ht
  have tb := tt_bad ht
  have tz := ttF_size hm11
  have ct := ttI_any _ m w1 rm (by omega) (env.tab.bl bel)
  obtain ⟨T, hT⟩ : ∃ T, ttF m = T := ⟨_, rfl⟩
  rw [hT] at ct tr tb tz
  have hT2 : (T ++ ⟨#[32, 120]⟩ : ByteArray).data.toList = T.data.toList ++ [32, 120] := by simp
  have hTz : (T ++ ⟨#[32, 120]⟩ : ByteArray).size ≤ 1048576 := by rw [ByteArray.size_append]; show T.size + 2 ≤ _; omega
  rw [← hT2] at tb
  have HTM := Lib.hid ht
  have TB := Lib.hid tb
  have TR := Lib.hid tr
  have ENV := Lib.hid env
  have H0 := Lib.hid h0
  have HL := Lib.hid hl
  clear owm hT hT2 ht tb tr env h0 hl hbig
  go_wp2_with fail
  refine ct.mono ?_
  rintro e w2 ⟨rfl, b2⟩
  replace rm := Rd.bl rm b2
  replace bel := bl_to bel b2
  have cr := rtI_any T w2 (by omega) (ENV.out.bl bel)
  rw [TR.out.1, TR.out.2] at cr
  clear ct b2
  go_wp2_with fail
  refine cr.mono ?_
  rintro e w3 ⟨A3, c3, rfl, ow3, b3⟩
  have r3 : RdN w3 (.slice A3 m.length c3) m := Rd.of_own ow3
  replace rm := Rd.bl rm b3
  replace bel := bl_to bel b3
  have cr := rtI_any (T ++ ⟨#[32, 120]⟩) w3 hTz (ENV.out.bl bel)
  rw [TB.out.1, TB.out.2] at cr
  clear ow3 b3
  go_wp2_with fail
  refine cr.mono ?_
  rintro e w4 ⟨A4, c4, rfl, _, b4⟩
  replace rm := Rd.bl rm b4
  replace r3 := Rd.bl r3 b4
  replace bel := bl_to bel b4
  clear b4 cr TB TR hTz tz
  have cd := drawCyl_any v L w4 (H0.out.bl bel) HL.out
  go_wp2_with fail
  refine cd.mono ?_
  rintro e w5 ⟨n, r, l, Ac, cc, rfl, ⟨n4, n24⟩, ⟨r1, r8⟩, hl9, hd, owp, b5⟩
  obtain ⟨S, rfl⟩ := Int.eq_ofNat_of_zero_le (show 0 ≤ n by omega)
  obtain ⟨R, rfl⟩ := Int.eq_ofNat_of_zero_le (show 0 ≤ r by omega)
  have HN : Hid (NotesL S R l) := notes_law (drp_cyl hd n4 n24 r1 r8 hl9)
  have rp : RdP w5 (.slice Ac l.length cc) l := Rd.of_own owp
  replace rm := Rd.bl rm b5
  replace r3 := Rd.bl r3 b5
  replace bel := bl_to bel b5
  clear cd b5 owp hd
  have bx : CB w5.heap.size _ _ l (S : Int) (R : Int) := CB.new rp
  have bal := bl_alloc (Below.refl _ w5) (.cells #[.int .i64 (S : Int), .int .i64 (R : Int), .slice Ac l.length cc] 31)
  replace rm := Rd.bl rm bal
  replace r3 := Rd.bl r3 bal
  replace bel := bl_to bel bal
  obtain ⟨B, hB⟩ : ∃ B, B = w5.heap.size := ⟨_, rfl⟩
  rw [← hB] at bx
  have ⟨c0, c1, c2, blt, rd⟩ := bx
  have cg := gridI_any (S : Int) (R : Int) _ l _ rd (by omega)
  have HB := Lib.hid hB
  clear rp bal hB
  go_wp2_with fail
  rw [← HB.out]
  go_wp2_with fail
  refine cg.mono ?_
  rintro e w6 ⟨Ag, cgc, rfl, owg, b6⟩
  obtain ⟨G, hG⟩ : ∃ G, gridF (S : Int) (R : Int) l = G := ⟨_, rfl⟩
  obtain ⟨gl, gb, gs, gt, gll, gsz, gmk⟩ := HN.out
  rw [hG] at owg gl gb gs gt gll gsz gmk
  rw [hG]
  have rg : RdS w6 (.slice Ag G.length cgc) G := Rd.of_own owg
  replace rm := Rd.bl rm b6
  replace r3 := Rd.bl r3 b6
  replace bx := bx.bl b6
  replace bel := bl_to bel b6
  have cr := rgI_any _ G w6 rg (by omega)
  rw [gb, gs, gt, gll] at cr
  have GSZ := Lib.hid gsz
  have GMK := Lib.hid gmk
  have GL := Lib.hid gl
  clear cg owg b6 hG gl gb gs gt gll gsz gmk c0 c1 c2 blt rd HN
  go_wp2_with fail
  refine cr.mono ?_
  rintro e w7 ⟨A7, c7, rfl, ow7, b7⟩
  have r7 : RdP w7 (.slice A7 l.length c7) l := Rd.of_own ow7
  have by_ : CB w7.heap.size _ _ l (S : Int) (R : Int) := CB.new r7
  have bal := bl_alloc (Below.refl _ w7) (.cells #[.int .i64 (S : Int), .int .i64 (R : Int), .slice A7 l.length c7] 31)
  replace rm := Rd.bl (Rd.bl rm b7) bal
  replace r3 := Rd.bl (Rd.bl r3 b7) bal
  replace rg := Rd.bl (Rd.bl rg b7) bal
  replace bx := (bx.bl b7).bl bal
  replace bel := bl_to (bl_to bel b7) bal
  obtain ⟨D, hD⟩ : ∃ D, D = w7.heap.size := ⟨_, rfl⟩
  rw [← hD] at by_
  have HD := Lib.hid hD
  clear cr ow7 b7 r7 bal hD
  have ⟨c0, c1, c2, blt, rd⟩ := bx
  have ⟨d0, d1, d2, dlt, rdd⟩ := by_
  have gg : ((G.length : Int) != (R : Int)) = false := by rw [GL.out]; simp
  go_wp2_with fail
  rw [← HD.out]
  go_wp2
  generalize hW : w7.alloc (.cells #[.int .i64 (S : Int), .int .i64 (R : Int), .slice A7 l.length c7] 31) = w8 at *
  clear hW c0 c1 c2 blt rd d0 d1 d2 dlt rdd gg HB HD
  go_loopw [13] (fun i wr => ∃ k : Nat, k ≤ m.length ∧ i = .int .i64 k ∧ Below w8.heap.size w8 wr) (fun i _ => m.length - (intOf i).toNat)
  case atStart => exact ⟨0, Nat.zero_le _, rfl, Below.refl _ _⟩
  case round =>
    obtain ⟨k, hk, rfl, bw⟩ := hrel
    by_cases hlt : k < m.length
    · have hlt' : (k : Int) < (m.length : Int) := by omega
      obtain ⟨b1, o1, rfl, hb1, e0, e1⟩ := RdN.at_ (Rd.bl rm bw) hlt
      obtain ⟨b2, o2, rfl, hb2, f0, f1⟩ := RdN.at_ (Rd.bl r3 bw) hlt
      obtain ⟨q0, q1, _⟩ := ntK_rn HTM.out hlt
      have qa := congrArg Prod.fst q1
      have qb := congrArg Prod.snd q1
      dsimp only at qa qb
      have nz := ntT_size (gN m k).1 (gN m k).2
      have cn := ntI_any (gN m k).1 (gN m k).2 wr (ENV.out.bl (bl_to bel bw)).tab
      have cr := fun W (h : Below wr.heap.size wr W) => rnI_any (ntK m k) W (by unfold ntK; omega) (ENV.out.bl (bl_to (bl_to bel bw) h))
      rw [q0, qa, qb] at cr
      obtain ⟨N, hN⟩ : ∃ N, ntT (gN m k).1 (gN m k).2 = N := ⟨_, rfl⟩
      rw [hN] at cn
      rw [show ntK m k = N from hN] at cr
      have CR := Lib.hid cr
      clear cr q0 q1 qa qb nz hN rm r3 rg bx by_
      generalize (gN m k).1 = x at *
      generalize (gN m k).2 = y at *
      go_wp2_with fail
      refine cn.mono ?_
      rintro e w9 ⟨rfl, b9⟩
      have cr := CR.out w9 b9
      clear cn CR
      go_wp2_with fail
      refine cr.mono ?_
      rintro e w10 ⟨rfl, b10⟩
      have b11 := bl_alloc (bl_to b9 b10) (.cells #[.int .i64 x, .int .i64 y] 38)
      have E0 := (b11.cell (p := ⟨b1, o1 + k * 2, none⟩) hb1).trans e0
      have E1 := (b11.cell (p := ⟨b1, o1 + k * 2 + 1, none⟩) hb1).trans e1
      have F0 := (b11.cell (p := ⟨b2, o2 + k * 2, none⟩) hb2).trans f0
      have F1 := (b11.cell (p := ⟨b2, o2 + k * 2 + 1, none⟩) hb2).trans f1
      have G0 : (w10.alloc (.cells #[.int .i64 x, .int .i64 y] 38)).cell? ⟨w10.heap.size, 0, none⟩ = some (.int .i64 x) := by simp [go_sem]
      have G1 : (w10.alloc (.cells #[.int .i64 x, .int .i64 y] 38)).cell? ⟨w10.heap.size, 1, none⟩ = some (.int .i64 y) := by simp [go_sem]
      clear e0 e1 f0 f1 cr b9 b10 hb1 hb2
      go_upto_region 16 with (fail)
      generalize hwz : w10.alloc (.cells #[.int .i64 x, .int .i64 y] 38) = wz at *
      generalize w10.heap.size = Z at *
      clear hwz
      go_big_quiet (fail)
      go_wp2
      go_roundw
      case rel => exact ⟨k + 1, by omega, by go_num, bl_drewN (bw.trans (b11.mono bw.size)) _⟩
      case measure => simp [intOf]; omega
    · have hke : k = m.length := by omega
      have hlt' : ¬ (k : Int) < (m.length : Int) := by omega
      replace rg := Rd.bl rg bw
      replace bx := bx.bl bw
      replace by_ := by_.bl bw
      replace bel := bl_to bel bw
      have hR : R ≤ 8 := by omega
      have hS : S ≤ 24 := by omega
      clear rm r3 hke n4 n24 r1 r8 hm11 bw
      go_wp2
      go_loopw [16, 17] (fun a t wx => ∃ k : Nat, k ≤ G.length ∧ t = .int .i64 k ∧ a = .int .i64 ((iP S G k).length : Nat) ∧ wx = wr) (fun _ t _ => G.length - (intOf t).toNat)
      case atStart => exact ⟨0, Nat.zero_le _, rfl, rfl, rfl⟩
      case round =>
        clear hlt hlt' hk
        obtain ⟨k, hk, rfl, rfl, rfl⟩ := hrel
        have hip := iP_len S G k
        have hkS : k * S ≤ 8 * 24 := Nat.mul_le_mul (by have := GL.out; omega) hS
        have hk8 : k ≤ 8 := by have := GL.out; omega
        obtain ⟨P, hP⟩ : ∃ P, (iP S G k).length = P := ⟨_, rfl⟩
        rw [hP] at hip
        rw [hP]
        have HP := Lib.hid hP
        clear hP
        by_cases hlt : k < G.length
        · have hlt' : (k : Int) < (G.length : Int) := by omega
          have k0 : (0 : Int) ≤ (k : Int) := by omega
          have HK := Lib.hid hlt
          obtain ⟨b, o, rfl, _, e1⟩ := RdS.at_ rg hlt
          have hsz := GSZ.out k (by have := GL.out; omega)
          have HST := Lib.hid (fun j : Nat => (rfl : iP S G (k + 1) = iP S G k ++ rowP (gS G k) k S))
          obtain ⟨s, hs⟩ : ∃ s, gS G k = s := ⟨_, rfl⟩
          rw [hs] at e1 hsz
          have HS := Lib.hid hs
          clear hs rg bx by_
          subst hsz
          go_wp2
          go_loop [16, 18] (fun a t => ∃ j : Nat, j ≤ s.size ∧ t = .int .i64 j ∧ a = .int .i64 ((P + (rowP s k j).length : Nat) : Int)) (fun _ t => s.size - (intOf t).toNat)
          case atStart => exact ⟨0, Nat.zero_le _, rfl, rfl⟩
          case round =>
            obtain ⟨j, hj, rfl, rfl⟩ := hrel
            have hrl := rowP_len s k j
            obtain ⟨Q, hQ⟩ : ∃ Q, P + (rowP s k j).length = Q := ⟨_, rfl⟩
            have hQb : Q ≤ 1000 := by omega
            rw [hQ]
            have HQ := Lib.hid hQ
            clear hQ hrl
            by_cases hit : j < s.size
            · have hit' : (j : Int) < (s.size : Int) := by omega
              have j0 : (0 : Int) ≤ (j : Int) := by omega
              have hby := byS_eq hit
              by_cases hx : (s[j].toNat : Int) = 120
              · have hxb : ((s[j].toNat : Int) == 120) = true := by simpa using hx
                have hst := congrArg List.length (rowP_yes (t := k) (hby.trans hx))
                rw [List.length_append, List.length_singleton] at hst
                have HST := Lib.hid hst
                have hwS : IntKind.i64.wrap ((Q : Int) + 1) = (Q : Int) + 1 := IntWalk.i64_in _ (by omega)
                clear hst hby
                go_wp2_with fail
                refine (btoi_any true _).mono ?_
                rintro e wq ⟨rfl, rfl⟩
                go_wp2
                go_round
                case rel => exact ⟨j + 1, by omega, by go_num, by have h1 := HST.out; have h2 := HQ.out; simp; omega⟩
                case measure => simp [intOf]; omega
              · have hxb : ((s[j].toNat : Int) == 120) = false := by simpa using hx
                have hst := congrArg List.length (rowP_no (t := k) (fun e => hx (hby.symm.trans e)))
                have HST := Lib.hid hst
                have hwS : IntKind.i64.wrap (Q : Int) = (Q : Int) := IntWalk.i64_in _ (by omega)
                clear hst hby
                go_wp2_with fail
                refine (btoi_any false _).mono ?_
                rintro e wq ⟨rfl, rfl⟩
                go_wp2
                go_round
                case rel => exact ⟨j + 1, by omega, by go_num, by have h1 := HST.out; have h2 := HQ.out; simp; omega⟩
                case measure => simp [intOf]; omega
            · have hit' : ¬ (j : Int) < (s.size : Int) := by omega
              have hje : j = s.size := by omega
              have hfin : (iP s.size G (k + 1)).length = Q := by rw [iP, List.length_append, HP.out, HS.out, ← hje]; exact HQ.out
              have HFN := Lib.hid hfin
              clear hje hfin
              go_wp2
              go_roundw
              case rel => exact ⟨k + 1, by have := HK.out; omega, by go_num, by rw [HFN.out], by first | trivial | rfl⟩
              case measure => have := HK.out; simp [intOf]; omega
        · have hlt' : ¬ (k : Int) < (G.length : Int) := by omega
          have hPl : P = l.length := by
            have hkR : k = R := by have := GL.out; omega
            rw [← GMK.out, ← hkR]
            exact HP.out.symm
          subst hPl
          have ⟨c0, c1, c2, blt, rd⟩ := bx
          have ⟨d0, d1, d2, dlt, rdd⟩ := by_
          clear hlt hk hip hkS rg GSZ GMK HP c0 c1 d0 d1
          go_wp2
          go_loopw [19] (fun i wx => ∃ (k nq : Nat), k ≤ l.length ∧ i = .int .i64 k ∧ wx = wr.drewN nq) (fun i _ => l.length - (intOf i).toNat)
          case atStart => exact ⟨0, 0, Nat.zero_le _, rfl, rfl⟩
          case round =>
            clear hlt'
            obtain ⟨k, nq, hk, rfl, rfl⟩ := hrel
            have c2 : (wr.drewN nq).cell? ⟨B, 2, none⟩ = _ := c2
            have d2 : (wr.drewN nq).cell? ⟨D, 2, none⟩ = _ := d2
            by_cases hlt : k < l.length
            · have hlt' : (k : Int) < (l.length : Int) := by omega
              have k0 : (0 : Int) ≤ (k : Int) := by omega
              obtain ⟨b1, o1, rfl, _, e0, e1⟩ := RdP.at_ rd hlt
              obtain ⟨b2, o2, rfl, _, f0, f1⟩ := RdP.at_ rdd hlt
              have e0 : (wr.drewN nq).cell? ⟨b1, o1 + k * 2, none⟩ = _ := e0
              have e1 : (wr.drewN nq).cell? ⟨b1, o1 + k * 2 + 1, none⟩ = _ := e1
              have f0 : (wr.drewN nq).cell? ⟨b2, o2 + k * 2, none⟩ = _ := f0
              have f1 : (wr.drewN nq).cell? ⟨b2, o2 + k * 2 + 1, none⟩ = _ := f1
              generalize (gP l k).1 = x at *
              generalize (gP l k).2 = y at *
              clear bx by_ rd rdd
              generalize hwz : wr.drewN nq = wz at *
              have HWZ := Lib.hid hwz
              clear hwz
              go_wp2
              go_big_quiet (fail)
              go_wp2
              go_roundw
              case rel => exact ⟨k + 1, _, by omega, by go_num, by rw [← HWZ.out, World.drewN_drewN]⟩
              case measure => simp [intOf]; omega
            · have hlt' : ¬ (k : Int) < (l.length : Int) := by omega
              have bel2 := bl_drewN bel nq
              have cn := ntI_any 12 7 (wr.drewN nq) (ENV.out.bl bel2).tab
              rw [nt127] at cn
              go_wp2_with fail
              refine cn.mono ?_
              rintro e w9 ⟨rfl, b9⟩
              go_wp2
              go_ret
              exact ⟨rfl, bl_to bel2 b9⟩
end Go.Proofs.YthgllpocljeegaaGreatDoor
