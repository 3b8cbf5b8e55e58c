/- FnStrips: the law returns true at every input; no condition. -/
import Derived.Test.YtbcmidencifcoaaDrawStrip
import Derived.Test.YtbcmidencifcoaaStrips1
import Derived.Test.YtbcmidencifcoaaTurnI
import Derived.Test.YtbcmidencifcoaaGlueI
import Derived.Test.YtbcmidencifcoaaCut
import Derived.Test.YtbcmidencifcoaaSofI
import Derived.Test.YtbcmidencifcoaaStrip
import Derived.Deep.DeepCutAuto
import Derived.Deep.RegionHeld3
import Derived.Test.YtbcmidencifcoaaQB
namespace Go.Proofs.Ytbcmidencifcoaa
open Go.RowKit Go.Sort

/-- block B holds a strip: n steps, holes l (in the slice v) -/
structure SB (B : Nat) (W : World) (n : Int) (v : Value) (l : List (Int × Int)) : Prop where
  c0 : W.cell? ⟨B, 0, none⟩ = some (.int .i64 n)
  c1 : W.cell? ⟨B, 1, none⟩ = some v
  lt : B < W.heap.size
  rd : RdN W v l
theorem SB.bl {B : Nat} {W W' : World} {v : Value} {l : List (Int × Int)} {n : Int} (h : SB B W n v l) (b : Below W.heap.size W W') : SB B W' n v l :=
  ⟨(b.cell (p := ⟨B, 0, none⟩) h.lt).trans h.c0, (b.cell (p := ⟨B, 1, none⟩) h.lt).trans h.c1, Nat.lt_of_lt_of_le h.lt b.size, h.rd.bl b⟩
theorem SB.new {W : World} {v : Value} {l : List (Int × Int)} {n : Int} (h : RdN W v l) : SB W.heap.size (W.alloc (.cells #[.int .i64 n, v] 34)) n v l :=
  ⟨by simp [go_sem], by simp [go_sem], by simp, h.bl (bl_alloc (Below.refl _ _) _)⟩
theorem RdN.bl {w W : World} {v : Value} {l : List (Int × Int)} (h : RdN w v l) (b : Below w.heap.size w W) : RdN W v l := Rd.bl h b
set_option maxHeartbeats 12800000 in
set_option maxRecDepth 100000 in
theorem strips_walk (v : Value) (L : List Int) (w : World) (h0 : RdB w v L) (hb : ∀ x ∈ L, 0 ≤ x ∧ x ≤ 255) : Calls Try.prog 14 #[v] w fun e w' => e = .returned (.bool true) ∧ Below w.heap.size w w' := by
  by_cases hl : L.length ≤ 1048576
  rotate_left
  · have hbig : decide ((1048576 : Int) < (L.length : Int)) = true := by rw [decide_eq_true_eq]; omega
    go_enter Try.func14, Try.ntmps14
    go_wp2_with fail
    refine (bigB_any v L _ h0).mono ?_
    rintro e wq ⟨rfl, rfl⟩
    rw [hbig]
    go_wp2
    go_ret
    exact ⟨rfl, Below.refl _ _⟩
  have hbig : decide ((1048576 : Int) < (L.length : Int)) = false := by rw [decide_eq_false_iff_not]; omega
  go_enter Try.func14, Try.ntmps14
  go_wp2_with fail
  refine (bigB_any v L _ h0).mono ?_
  rintro e wq ⟨rfl, rfl⟩
  rw [hbig]
  go_wp2_with fail
  refine (drawStrip_any v L _ h0 hl).mono ?_
  rintro e w1 ⟨n, l, A, c, rfl, hd, ow, b1⟩
  have l11 := hd.2.1
  have hn := hd.1
  have hll : l.length ≤ 1048576 := by omega
  obtain ⟨x0, y0⟩ := atF_bd hb 0
  obtain ⟨a, ha, a9⟩ : ∃ a : Nat, (atF L 0).tmod (n - 1) = (a : Int) ∧ (a : Int) < n - 1 := by
    obtain ⟨a, ha⟩ := Int.eq_ofNat_of_zero_le (Int.emod_nonneg (atF L 0) (show n - 1 ≠ 0 by omega))
    have := Int.emod_lt_of_pos (atF L 0) (show (0 : Int) < n - 1 by omega)
    exact ⟨a, by rw [Int.tmod_eq_emod_of_nonneg x0]; exact ha, by omega⟩
  have bx := SB.new (n := n) (Rd.of_own ow : RdN w1 (.slice A l.length c) l)
  have bel := bl_alloc b1 (.cells #[.int .i64 n, .slice A l.length c] 34)
  have at0 : ∀ q, Calls Try.prog 35 #[v, .int .i64 0] ((w1.alloc (.cells #[.int .i64 n, .slice A l.length c] 34)).drewN q) fun e w' => e = .returned (.int .i64 (atF L 0)) ∧ w' = (w1.alloc (.cells #[.int .i64 n, .slice A l.length c] 34)).drewN q := fun q =>
    (at_det v L 0 _ (h0.bl (bl_drewN bel q)) hl hb (by omega) (by omega)).mono (fun _ _ h => ⟨h.1, h.2.symm⟩)
  have HW : Hid (StripsL n (1 + (a : Int)) l) := strips_law hd (by omega)
  generalize atF L 0 = z0 at *
  have AT0 := Lib.hid at0
  have HD := Lib.hid hd
  have nw : IntKind.i64.wrap (n - 1) = n - 1 := IntWalk.i64_in _ (by omega)
  have nz : ¬ n - 1 = 0 := by omega
  have nb : (n - 1 == 0) = false := by rw [beq_eq_false_iff_ne]; omega
  have mw : IntKind.i64.wrap (1 + (a : Int)) = 1 + (a : Int) := IntWalk.i64_in _ (by omega)
  have ⟨c0, c1, blt, rd⟩ := bx
  clear ow b1 hd h0 at0 hbig
  go_upto_region 4 with (fail)
  go_big_quiet ((go_at_call 35; exact Calls.quiet_of_same (AT0.out _)))
  replace bx := bx.bl (bl_drewN (Below.refl _ _) nq)
  replace bel := bl_drewN bel nq
  generalize hB : w1.heap.size = B at *
  clear AT0 c0 c1 blt rd nz nb nw hB
  generalize (w1.alloc (.cells #[.int .i64 n, .slice A l.length c] 34)).drewN nq = w2 at *
  obtain ⟨ok, cb, gb, gl, fa, fb, tl, tt, tok, f0, ft, sb, s0⟩ := HW.out
  have e1 : cutAn n l (1 + (a : Int)) = 1 + (a : Int) := by simp [cutAn, cb]
  have e2 : cutBn n l (1 + (a : Int)) = n - (1 + (a : Int)) := by simp [cutBn, cb]
  have e3 : cutAl n l (1 + (a : Int)) = cuA l (1 + (a : Int)) l.length := by simp [cutAl, cb]
  have e4 : cutBl n l (1 + (a : Int)) = cuB l (1 + (a : Int)) l.length := by simp [cutBl, cb]
  have cc := cutI_any n (1 + (a : Int)) _ l w2 bx.rd hll
  rw [e1, e2, e3, e4, cb] at cc
  have hcl := cu_len l (1 + (a : Int)) l.length
  have gn : gluN (1 + (a : Int)) (cuA l (1 + (a : Int)) l.length) (n - (1 + (a : Int))) (cuB l (1 + (a : Int)) l.length) = n := by rw [gluN, gb, if_pos rfl]; omega
  have cg := fun W va vb h1 h2 => gluI_any (1 + (a : Int)) (n - (1 + (a : Int))) va vb (cuA l (1 + (a : Int)) l.length) (cuB l (1 + (a : Int)) l.length) W h1 h2 (by omega) (by omega)
  rw [gb, gl, gn] at cg
  generalize cuA l (1 + (a : Int)) l.length = PA at *
  generalize cuB l (1 + (a : Int)) l.length = PB at *
  have CG := Lib.hid cg
  have HOK := Lib.hid ok
  have FA := Lib.hid fa
  have FB := Lib.hid fb
  have TL := Lib.hid tl
  have TT := Lib.hid tt
  have TOK := Lib.hid tok
  have F0 := Lib.hid f0
  have FT := Lib.hid ft
  have SOB := Lib.hid sb
  have S0 := Lib.hid s0
  have HCL := Lib.hid hcl
  have la : PA.length ≤ 11 := by omega
  have lb : PB.length ≤ 11 := by omega
  have ⟨c0, c1, blt, rd⟩ := bx
  clear HW ok cb gb gl fa fb tl tt tok f0 ft sb s0 e1 e2 e3 e4 hcl gn cg
  go_wp2_with fail
  refine cc.mono ?_
  rintro e w3 ⟨Aa, ca, Ab, cb, rfl, owa, owb, _, b3⟩
  have ra : RdN w3 (.slice Aa PA.length ca) PA := Rd.of_own owa
  have rb : RdN w3 (.slice Ab PB.length cb) PB := Rd.of_own owb
  replace bx := bx.bl b3
  replace bel := bl_to bel b3
  clear cc owa owb b3 c0 c1 blt rd
  have b5 := bl_alloc (bl_alloc (Below.refl w3.heap.size w3) (.cells #[.int .i64 (1 + (a : Int)), .slice Aa PA.length ca] 34)) (.cells #[.int .i64 (n - (1 + (a : Int))), .slice Ab PB.length cb] 34)
  have ba : SB w3.heap.size ((w3.alloc (.cells #[.int .i64 (1 + (a : Int)), .slice Aa PA.length ca] 34)).alloc (.cells #[.int .i64 (n - (1 + (a : Int))), .slice Ab PB.length cb] 34)) (1 + (a : Int)) (.slice Aa PA.length ca) PA := ⟨by simp [go_sem], by simp [go_sem], by simp; omega, ra.bl b5⟩
  have bb : SB (w3.heap.size + 1) ((w3.alloc (.cells #[.int .i64 (1 + (a : Int)), .slice Aa PA.length ca] 34)).alloc (.cells #[.int .i64 (n - (1 + (a : Int))), .slice Ab PB.length cb] 34)) (n - (1 + (a : Int))) (.slice Ab PB.length cb) PB := ⟨by simp [go_sem], by simp [go_sem], by simp, rb.bl b5⟩
  replace bx := bx.bl b5
  replace bel := bl_to bel b5
  clear b5 ra rb
  go_upto_region 6 with (fail)
  generalize hBa : w3.heap.size = Ba at *
  generalize (w3.alloc (.cells #[.int .i64 (1 + (a : Int)), .slice Aa PA.length ca] 34)).alloc (.cells #[.int .i64 (n - (1 + (a : Int))), .slice Ab PB.length cb] 34) = w4 at *
  have ⟨a0, a1, alt, ar⟩ := ba
  have ⟨d0, d1, dlt, dr⟩ := bb
  go_wp2_with fail
  refine (CG.out _ _ _ ar dr).mono ?_
  rintro e w5 ⟨Ag, cg, rfl, owg, b5⟩
  have rg : RdN w5 (.slice Ag l.length cg) l := Rd.of_own owg
  have bg := SB.new (n := n) rg
  replace bx := (bx.bl b5).bl (bl_alloc (Below.refl _ _) (.cells #[.int .i64 n, .slice Ag l.length cg] 34))
  replace ba := (ba.bl b5).bl (bl_alloc (Below.refl _ _) (.cells #[.int .i64 n, .slice Ag l.length cg] 34))
  replace bb := (bb.bl b5).bl (bl_alloc (Below.refl _ _) (.cells #[.int .i64 n, .slice Ag l.length cg] 34))
  replace bel := bl_alloc (bl_to bel b5) (.cells #[.int .i64 n, .slice Ag l.length cg] 34)
  clear b5 owg rg a0 a1 alt ar d0 d1 dlt dr CG
  go_upto_region 7 with (fail)
  generalize hBg : w5.heap.size = Bg at *
  generalize w5.alloc (.cells #[.int .i64 n, .slice Ag l.length cg] 34) = w6 at *
  go_cut [81] (fun s wx => s = .bool false ∧ Below w6.heap.size w6 wx)
  case first =>
    have c1 := fun W (h : RdN W (.slice A l.length c) l) => hinI_any n (.slice A l.length c) l 0 (1 + (a : Int)) W h hll
    rw [FA.out] at c1
    have c2 := fun W (h : RdN W (.slice A l.length c) l) => hinI_any n (.slice A l.length c) l (1 + (a : Int)) n W h hll
    rw [FB.out] at c2
    have C1 := Lib.hid c1
    have C2 := Lib.hid c2
    have q0 : w6.cell? ⟨B, 0, none⟩ = some (.int .i64 n) := bx.c0
    have q1 : w6.cell? ⟨B, 1, none⟩ = some (.slice A l.length c) := bx.c1
    have q2 : w6.cell? ⟨Bg, 0, none⟩ = some (.int .i64 n) := bg.c0
    have q3 : w6.cell? ⟨Bg, 1, none⟩ = some (.slice Ag l.length cg) := bg.c1
    have q4 : w6.cell? ⟨Ba, 1, none⟩ = some (.slice Aa PA.length ca) := ba.c1
    have q5 : w6.cell? ⟨Ba + 1, 1, none⟩ = some (.slice Ab PB.length cb) := bb.c1
    have blt := bx.lt
    have glt := bg.lt
    have alt := ba.lt
    have dlt := bb.lt
    have rd := bx.rd
    clear c1 c2 FA FB TL TT TOK F0 FT SOB S0 HCL bx ba bb bg
    go_region_held3 (fun w' => w'.cell? ⟨B, 0, none⟩ = some (.int .i64 n) ∧ w'.cell? ⟨B, 1, none⟩ = some (.slice A l.length c) ∧ w'.cell? ⟨Bg, 0, none⟩ = some (.int .i64 n) ∧ w'.cell? ⟨Bg, 1, none⟩ = some (.slice Ag l.length cg) ∧ w'.cell? ⟨Ba, 1, none⟩ = some (.slice Aa PA.length ca) ∧ w'.cell? ⟨Ba + 1, 1, none⟩ = some (.slice Ab PB.length cb))
      (first | exact ⟨v0, v1, v2, v3, v4, v5⟩ | exact ⟨u0, u1, u2, u3, u4, u5⟩ | go_keep)
      (first
        | (have tok := bA; go_at_call 28; refine (C2.out _ (rd.bl (by (repeat' (first | (with_reducible exact Below.refl _ _) | (with_reducible refine bl_alloc ?_ _) | (with_reducible refine bl_drewN ?_ _) | (with_reducible refine bl_drew ?_) | (with_reducible assumption) | (with_reducible refine bl_to ?_ (by assumption)) | (with_reducible refine Below.trans ?_ (by assumption)) | (with_reducible refine Below.trans ?_ (Below.mono (by assumption) ?_)) | (with_reducible refine bl_set ?_ ?_ _) | (simp; done) | (simp; omega) | omega))))).mono ?_; rintro e wB ⟨rfl, bB⟩; have v0 := (bB.cell (p := ⟨B, 0, none⟩) m0).trans u0; have v1 := (bB.cell (p := ⟨B, 1, none⟩) m1).trans u1; have v2 := (bB.cell (p := ⟨Bg, 0, none⟩) m2).trans u2; have v3 := (bB.cell (p := ⟨Bg, 1, none⟩) m3).trans u3; have v4 := (bB.cell (p := ⟨Ba, 1, none⟩) m4).trans u4; have v5 := (bB.cell (p := ⟨Ba + 1, 1, none⟩) m5).trans u5; clear tok)
        | (go_at_call 28; refine (C1.out _ (rd.bl (by (repeat' (first | (with_reducible exact Below.refl _ _) | (with_reducible refine bl_alloc ?_ _) | (with_reducible refine bl_drewN ?_ _) | (with_reducible refine bl_drew ?_) | (with_reducible assumption) | (with_reducible refine bl_to ?_ (by assumption)) | (with_reducible refine Below.trans ?_ (by assumption)) | (with_reducible refine Below.trans ?_ (Below.mono (by assumption) ?_)) | (with_reducible refine bl_set ?_ ?_ _) | (simp; done) | (simp; omega) | omega))))).mono ?_; rintro e wA ⟨rfl, bA⟩; have m0 := Nat.lt_of_lt_of_le blt bA.size; have u0 := (bA.cell (p := ⟨B, 0, none⟩) blt).trans (show _ = _ from q0); have m1 := Nat.lt_of_lt_of_le blt bA.size; have u1 := (bA.cell (p := ⟨B, 1, none⟩) blt).trans (show _ = _ from q1); have m2 := Nat.lt_of_lt_of_le glt bA.size; have u2 := (bA.cell (p := ⟨Bg, 0, none⟩) glt).trans (show _ = _ from q2); have m3 := Nat.lt_of_lt_of_le glt bA.size; have u3 := (bA.cell (p := ⟨Bg, 1, none⟩) glt).trans (show _ = _ from q3); have m4 := Nat.lt_of_lt_of_le alt bA.size; have u4 := (bA.cell (p := ⟨Ba, 1, none⟩) alt).trans (show _ = _ from q4); have m5 := Nat.lt_of_lt_of_le dlt bA.size; have u5 := (bA.cell (p := ⟨Ba + 1, 1, none⟩) dlt).trans (show _ = _ from q5)))
    all_goals (go_wp2; go_meet; exact ⟨by first | rfl | (simp; omega), by (repeat' (first | (with_reducible exact Below.refl _ _) | (with_reducible refine bl_alloc ?_ _) | (with_reducible refine bl_drewN ?_ _) | (with_reducible refine bl_drew ?_) | (with_reducible assumption) | (with_reducible refine bl_to ?_ (by assumption)) | (with_reducible refine Below.trans ?_ (by assumption)) | (with_reducible refine Below.trans ?_ (Below.mono (by assumption) ?_)) | (with_reducible refine bl_set ?_ ?_ _) | (simp; done) | (simp; omega) | omega))⟩)
  case rest =>
    obtain ⟨rfl, bq⟩ := hcut
    obtain ⟨w7, rfl⟩ : ∃ x : World, x = wc := ⟨_, rfl⟩
    replace bx := bx.bl bq
    replace bg := bg.bl bq
    replace bel := bl_to bel bq
    clear bq ba bb FA FB HCL
    have ⟨c0, c1, blt, rd⟩ := bx
    have ⟨g0, g1, glt, gr⟩ := bg
    go_wp2
    go_loopw [10] (fun i wr => ∃ k nq : Nat, k ≤ l.length ∧ i = .int .i64 k ∧ wr = w7.drewN nq) (fun i _ => l.length - (intOf i).toNat)
    case atStart => exact ⟨0, 0, Nat.zero_le _, rfl, rfl⟩
    case round =>
      obtain ⟨k, nq, hk, rfl, rfl⟩ := hrel
      by_cases hlt : k < l.length
      · have hlt' : (k : Int) < (l.length : Int) := by omega
        have k0 : (0 : Int) ≤ (k : Int) := by omega
        obtain ⟨g, o, rfl, _, e0, e1⟩ := RdN.at_ rd hlt
        obtain ⟨q, p, rfl, _, d0, d1⟩ := RdN.at_ gr hlt
        have e0 : (w7.drewN nq).cell? ⟨g, o + k * 2, none⟩ = _ := e0
        have e1 : (w7.drewN nq).cell? ⟨g, o + k * 2 + 1, none⟩ = _ := e1
        have d0 : (w7.drewN nq).cell? ⟨q, p + k * 2, none⟩ = _ := d0
        have d1 : (w7.drewN nq).cell? ⟨q, p + k * 2 + 1, none⟩ = _ := d1
        have c1 : (w7.drewN nq).cell? ⟨B, 1, none⟩ = _ := c1
        have g1 : (w7.drewN nq).cell? ⟨Bg, 1, none⟩ = _ := g1
        clear rd gr bx bg
        generalize hwz : w7.drewN nq = wz at *
        have HWZ := Lib.hid hwz
        clear hwz
        go_wp2
        go_big_quiet (fail)
        go_wp2
        go_roundw
        case rel => exact ⟨k + 1, _, by omega, by go_num, by rw [← HWZ.out, World.drewN_drewN]⟩
        case measure => simp [intOf]; omega
      · obtain rfl : k = l.length := by omega
        have hlt' : ¬ (l.length : Int) < (l.length : Int) := by omega
        have bel8 := bl_drewN bel nq
        have bx8 := bx.bl (bl_drewN (Below.refl _ _) nq)
        clear bx bg bel c0 c1 blt rd g0 g1 glt gr hlt hlt'
        generalize w7.drewN nq = w8 at *
        have ⟨c0, c1, blt, rd⟩ := bx8
        have ct := turnStripI_any n _ l w8 rd hll
        have cu := fun W v h => turnStripI_any n v (turL n l) W h (by rw [TL.out]; exact hll)
        rw [TT.out] at cu
        have TLT : (turL n l).length ≤ 11 := by rw [TL.out]; exact l11
        generalize turL n l = T at *
        have CU := Lib.hid cu
        clear cu
        go_wp2_with fail
        refine ct.mono ?_
        rintro e w9 ⟨At, ct', rfl, owt, b9⟩
        have rt : RdN w9 (.slice At T.length ct') T := Rd.of_own owt
        have bt := SB.new (n := n) rt
        replace bx8 := (bx8.bl b9).bl (bl_alloc (Below.refl _ _) (.cells #[.int .i64 n, .slice At T.length ct'] 34))
        replace bel8 := bl_alloc (bl_to bel8 b9) (.cells #[.int .i64 n, .slice At T.length ct'] 34)
        clear ct owt b9 rt c0 c1 blt rd
        go_upto_region 15 with (fail)
        generalize hBt : w9.heap.size = Bt at *
        generalize w9.alloc (.cells #[.int .i64 n, .slice At T.length ct'] 34) = w10 at *
        have ⟨t0, t1, tlt, tr⟩ := bt
        go_wp2_with fail
        refine (CU.out _ _ tr).mono ?_
        rintro e w11 ⟨Au, cu, rfl, owu, b11⟩
        have ru : RdN w11 (.slice Au l.length cu) l := Rd.of_own owu
        have bu := SB.new (n := n) ru
        replace bx8 := (bx8.bl b11).bl (bl_alloc (Below.refl _ _) (.cells #[.int .i64 n, .slice Au l.length cu] 34))
        replace bt := (bt.bl b11).bl (bl_alloc (Below.refl _ _) (.cells #[.int .i64 n, .slice Au l.length cu] 34))
        replace bel8 := bl_alloc (bl_to bel8 b11) (.cells #[.int .i64 n, .slice Au l.length cu] 34)
        clear owu b11 ru t0 t1 tlt tr CU
        go_upto_region 16 with (fail)
        generalize hBu : w11.heap.size = Bu at *
        generalize w11.alloc (.cells #[.int .i64 n, .slice Au l.length cu] 34) = w12 at *
        have ⟨c0, c1, blt, rd⟩ := bx8
        have ⟨t0, t1, tlt, tr⟩ := bt
        have ⟨u0, u1, ult, ur⟩ := bu
        go_wp2
        go_loopw [13] (fun i wr => ∃ k nq : Nat, k ≤ l.length ∧ i = .int .i64 k ∧ wr = w12.drewN nq) (fun i _ => l.length - (intOf i).toNat)
        case atStart => exact ⟨0, 0, Nat.zero_le _, rfl, rfl⟩
        case round =>
          obtain ⟨k, nq, hk, rfl, rfl⟩ := hrel
          by_cases hlt : k < l.length
          · have hlt' : (k : Int) < (l.length : Int) := by omega
            have k0 : (0 : Int) ≤ (k : Int) := by omega
            obtain ⟨g, o, rfl, _, e0, e1⟩ := RdN.at_ rd hlt
            obtain ⟨q, p, rfl, _, d0, d1⟩ := RdN.at_ ur hlt
            have e0 : (w12.drewN nq).cell? ⟨g, o + k * 2, none⟩ = _ := e0
            have e1 : (w12.drewN nq).cell? ⟨g, o + k * 2 + 1, none⟩ = _ := e1
            have d0 : (w12.drewN nq).cell? ⟨q, p + k * 2, none⟩ = _ := d0
            have d1 : (w12.drewN nq).cell? ⟨q, p + k * 2 + 1, none⟩ = _ := d1
            have c1 : (w12.drewN nq).cell? ⟨B, 1, none⟩ = _ := c1
            have u1 : (w12.drewN nq).cell? ⟨Bu, 1, none⟩ = _ := u1
            clear rd ur tr bx8 bt bu
            generalize hwz : w12.drewN nq = wz at *
            have HWZ := Lib.hid hwz
            clear hwz
            go_wp2
            go_big_quiet (fail)
            go_wp2
            go_roundw
            case rel => exact ⟨k + 1, _, by omega, by go_num, by rw [← HWZ.out, World.drewN_drewN]⟩
            case measure => simp [intOf]; omega
          · obtain rfl : k = l.length := by omega
            have hlt' : ¬ (l.length : Int) < (l.length : Int) := by omega
            have bel13 := bl_drewN bel8 nq
            have bx13 := bx8.bl (bl_drewN (Below.refl _ _) nq)
            have bt13 := bt.bl (bl_drewN (Below.refl _ _) nq)
            clear bx8 bt bu bel8 c0 c1 blt rd t0 t1 tlt tr u0 u1 ult ur hlt hlt'
            generalize w12.drewN nq = w13 at *
            have ⟨c0, c1, blt, rd⟩ := bx13
            have cs := sofI_any _ l 3 4 w13 rd hll
            rw [SOB.out] at cs
            go_wp2_with fail
            refine cs.mono ?_
            rintro e w14 ⟨As, qs, rfl, ows, b14⟩
            have hS0 := S0.out
            have hXl : (sofFl l 3 4).length ≤ 11 := by
              by_cases h : 0 < l.length
              · rw [(hS0 h).2.2.2]; exact l11
              · have hz := SOB.out
                rw [show decide (0 < l.length) = false by simpa using h] at hz
                simp [sofFl, hz]
            have rs : RdN w14 (.slice As (sofFl l 3 4).length qs) (sofFl l 3 4) := Rd.of_own ows
            have bs := SB.new (n := sofFn l 3 4) rs
            generalize sofFl l 3 4 = X at *
            generalize sofFn l 3 4 = xn at *
            have S1 := Lib.hid hS0
            replace bx13 := (bx13.bl b14).bl (bl_alloc (Below.refl _ _) (.cells #[.int .i64 xn, .slice As X.length qs] 34))
            replace bt13 := (bt13.bl b14).bl (bl_alloc (Below.refl _ _) (.cells #[.int .i64 xn, .slice As X.length qs] 34))
            replace bel13 := bl_alloc (bl_to bel13 b14) (.cells #[.int .i64 xn, .slice As X.length qs] 34)
            clear cs ows b14 rs c0 c1 blt rd hS0 S0
            go_upto_region 24 with (fail)
            generalize hBs : w14.heap.size = Bs at *
            generalize w14.alloc (.cells #[.int .i64 xn, .slice As X.length qs] 34) = w15 at *
            go_cut [15, 175] (fun _ s wx => s = .bool false ∧ Below w15.heap.size w15 wx)
            case first =>
              have ⟨c0, c1, blt, rd⟩ := bx13
              by_cases h0 : 0 < l.length
              · obtain ⟨s1, s2, s3, s4⟩ := S1.out h0
                have hdt : decide (0 < l.length) = true := by simpa using h0
                have hi0 : (0 : Int) < (l.length : Int) := by omega
                have hX : 0 < X.length := by omega
                have hX0 : (0 : Int) < (X.length : Int) := by omega
                have hlast : 0 ≤ lastF l ∧ lastF l ≤ 1000 := by
                  obtain ⟨_, _, d3, d4⟩ := HD.out
                  have y1 := (okN_bd (tuneB_iff d3).2 (show l.length - 1 < l.length by omega)).1
                  have y0 := (okN_bd (tuneB_iff d3).2 h0).1
                  have ym := okN_mono (tuneB_iff d3).2 (show 0 ≤ l.length - 1 by omega) (show l.length - 1 < l.length by omega)
                  rw [lastF, if_pos d3, if_neg (by omega)]
                  omega
                have cl := fun W (h : RdN W (.slice A l.length c) l) => lastS_any (.slice A l.length c) l W h hll
                have csm := fun W (h1 : RdN W (.slice As X.length qs) X) (h2 : RdN W (.slice A l.length c) l) => sameS_any (.slice As X.length qs) (.slice A l.length c) X l W h1 h2 (by omega) hll
                rw [s3] at csm
                obtain ⟨g, o, rfl, hg, e0, _⟩ := RdN.at_ bs.rd hX
                rw [Nat.zero_mul, Nat.add_zero, s2] at e0
                obtain ⟨z, hz⟩ : ∃ z, lastF l = z := ⟨_, rfl⟩
                rw [hz] at cl hlast s1
                obtain rfl : xn = z + 8 := s1
                have lw : IntKind.i64.wrap (z + 8) = z + 8 := IntWalk.i64_in _ (by omega)
                have CL := Lib.hid cl
                have CSM := Lib.hid csm
                have S4 := Lib.hid s4
                have g0 := cell_regrown c1
                have g1 := cell_regrown bs.c0
                have g2 := cell_regrown bs.c1
                have g3 := cell_regrown e0
                have xr := bs.rd
                rw [hdt]
                clear cl csm s2 s3 s4 hz hX e0 bs bt13 bx13 S1 F0 FT TOK TL HOK HD SOB c0 c1
                (refine wp_region_quiet_below (by kernel_rfl) (by kernel_rfl) ?_; (repeat (first | go_big_quiet_skip | (go_big_quiet_want; go_big_quiet_op; (first | go_big_quiet_on | (apply Exists.intro; refine ⟨fun _ => ?_, ?_⟩; (focus (first | (go_at_call 50; exact Calls.regrown_of (CL.out _ (rd.bl (below_regrown _ _ _)))) | (go_at_call 51; exact Calls.regrown_of (CSM.out _ (xr.bl (below_regrown _ _ _)) (rd.bl (below_regrown _ _ _)))) | fail)); go_big_quiet_on))))); refine wpQuiet_nil ?_; (intro wq hwq; have bq := rg_below hwq; clear hwq))
                go_wp2; go_meet; exact ⟨by first | rfl | (simp; omega), by (repeat' (first | (with_reducible exact Below.refl _ _) | (with_reducible refine bl_alloc ?_ _) | (with_reducible refine bl_drewN ?_ _) | (with_reducible refine bl_drew ?_) | (with_reducible assumption) | (with_reducible refine bl_to ?_ (by assumption)) | (with_reducible refine Below.trans ?_ (by assumption)) | (with_reducible refine Below.trans ?_ (Below.mono (by assumption) ?_)) | (with_reducible refine bl_set ?_ ?_ _) | (simp; done) | (simp; omega) | omega))⟩
              · have hdf : decide (0 < l.length) = false := by simpa using h0
                have hi0 : ¬ (0 : Int) < (l.length : Int) := by omega
                have g0 := cell_regrown c1
                clear bs bt13 S1 F0 FT TOK TL HOK HD SOB
                rw [hdf]
                (refine wp_region_quiet_below (by kernel_rfl) (by kernel_rfl) ?_; (repeat (first | go_big_quiet_skip | (go_big_quiet_want; go_big_quiet_op; (first | go_big_quiet_on | (apply Exists.intro; refine ⟨fun _ => ?_, ?_⟩; (focus (first | fail | fail)); go_big_quiet_on))))); refine wpQuiet_nil ?_; (intro wq hwq; have bq := rg_below hwq; clear hwq))
                go_wp2; go_meet; exact ⟨by first | rfl | (simp; omega), by (repeat' (first | (with_reducible exact Below.refl _ _) | (with_reducible refine bl_alloc ?_ _) | (with_reducible refine bl_drewN ?_ _) | (with_reducible refine bl_drew ?_) | (with_reducible assumption) | (with_reducible refine bl_to ?_ (by assumption)) | (with_reducible refine Below.trans ?_ (by assumption)) | (with_reducible refine Below.trans ?_ (Below.mono (by assumption) ?_)) | (with_reducible refine bl_set ?_ ?_ _) | (simp; done) | (simp; omega) | omega))⟩
            case rest =>
              obtain ⟨rfl, bq⟩ := hcut
              obtain ⟨w16, rfl⟩ : ∃ x : World, x = wc := ⟨_, rfl⟩
              replace bx13 := bx13.bl bq
              replace bt13 := bt13.bl bq
              replace bel13 := bl_to bel13 bq
              have c1 := fun W (h : RdN W (.slice A l.length c) l) => hinI_any n (.slice A l.length c) l 0 n W h hll
              rw [F0.out] at c1
              have c2 := fun W (h : RdN W (.slice At T.length ct') T) => hinI_any n (.slice At T.length ct') T 0 (1 + (a : Int)) W h (by omega)
              rw [FT.out] at c2
              have c3 := fun W (h : RdN W (.slice A l.length c) l) => hinI_any n (.slice A l.length c) l (n - (1 + (a : Int))) n W h hll
              have c4 := fun W (h : RdN W (.slice A l.length c) l) => stripI_ok n (.slice A l.length c) l W h hll
              rw [HOK.out] at c4
              generalize hinF n l (n - (1 + (a : Int))) n = hz at *
              have nw : IntKind.i64.wrap (n - (1 + (a : Int))) = n - (1 + (a : Int)) := IntWalk.i64_in _ (by omega)
              have C1 := Lib.hid c1
              have C2 := Lib.hid c2
              have C3 := Lib.hid c3
              have C4 := Lib.hid c4
              have g0 := cell_regrown bx13.c0
              have g1 := cell_regrown bx13.c1
              have g2 := cell_regrown bt13.c0
              have g3 := cell_regrown bt13.c1
              have rd := bx13.rd
              have rt := bt13.rd
              clear c1 c2 c3 c4 bs bx13 bt13 bq S1 F0 FT TOK TL HOK HD SOB
              go_wp2
              (refine wp_region_quiet_below (by kernel_rfl) (by kernel_rfl) ?_; (repeat (first | go_big_quiet_skip | (go_big_quiet_want; go_big_quiet_op; (first | go_big_quiet_on | (apply Exists.intro; refine ⟨fun _ => ?_, ?_⟩; (focus (first | (go_at_call 28; with_reducible exact Calls.regrown_of (C1.out _ (rd.bl (below_regrown _ _ _)))) | (go_at_call 28; with_reducible exact Calls.regrown_of (C2.out _ (rt.bl (below_regrown _ _ _)))) | (go_at_call 28; with_reducible exact Calls.regrown_of (C3.out _ (rd.bl (below_regrown _ _ _)))) | (go_at_call 23; with_reducible exact Calls.regrown_of (C4.out _ (rd.bl (below_regrown _ _ _)))) | fail)); go_big_quiet_on))))); refine wpQuiet_nil ?_; (intro wq hwq; have bq := rg_below hwq; clear hwq))
              go_wp2; go_ret; exact ⟨by first | rfl | simp, by (repeat' (first | (with_reducible exact Below.refl _ _) | (with_reducible refine bl_alloc ?_ _) | (with_reducible refine bl_drewN ?_ _) | (with_reducible refine bl_drew ?_) | (with_reducible assumption) | (with_reducible refine bl_to ?_ (by assumption)) | (with_reducible refine Below.trans ?_ (by assumption)) | (with_reducible refine Below.trans ?_ (Below.mono (by assumption) ?_)) | (with_reducible refine bl_set ?_ ?_ _) | (simp; done) | (simp; omega) | omega))⟩
end Go.Proofs.Ytbcmidencifcoaa
