/- FnDiscs: the law returns true at every input; no condition. -/
import Derived.Test.YtoijjjaodfincaaDrawDisc
import Derived.Test.YtoijjjaodfincaaSame
import Derived.Deep.DeepCutAuto
import Derived.Deep.RegionHeld3
namespace Go.Proofs.Ytoijjjaodfincaa
open Go.RowKit

/-- block B holds a disc: slots l (in the slice v), r rings -/
structure DB (B : Nat) (W : World) (v : Value) (l : List Int) (r : Nat) : Prop where
  c0 : W.cell? ⟨B, 0, none⟩ = some (.int .i64 (r : Int))
  c1 : W.cell? ⟨B, 1, none⟩ = some v
  lt : B < W.heap.size
  rd : RdI W v l
theorem DB.bl {B : Nat} {W W' : World} {v : Value} {l : List Int} {r : Nat} (h : DB B W v l r) (b : Below W.heap.size W W') : DB B W' v l r :=
  ⟨(b.cell (p := ⟨B, 0, none⟩) h.lt).trans h.c0, (b.cell (p := ⟨B, 1, none⟩) h.lt).trans h.c1, Nat.lt_of_lt_of_le h.lt b.size, h.rd.bl b⟩
theorem DB.new {W : World} {v : Value} {l : List Int} {r : Nat} (h : RdI W v l) : DB W.heap.size (W.alloc (.cells #[.int .i64 (r : Int), v] 27)) v l r :=
  ⟨by simp [go_sem], by simp [go_sem], by simp, h.bl (bl_alloc (Below.refl _ _) _)⟩
theorem field_disc (A : Option Addr) (m c : Nat) (r : Int) (W : World) : (Instr.field 27 (.agg #[.int .i64 r, .slice A m c]) 1).run Try.prog W = .ok (.slice A m c) W := by kernel_rfl
theorem keep6 {W0 W W' : World} {B C D : Nat} {a0 a1 b0 b1 d0 d1 : Value}
    (h : (Below W0.heap.size W0 W ∧ B < W0.heap.size ∧ C < W0.heap.size ∧ D < W0.heap.size) ∧ (W.cell? ⟨B, 0, none⟩ = some a0 ∧ W.cell? ⟨B, 1, none⟩ = some a1 ∧ W.cell? ⟨C, 0, none⟩ = some b0 ∧ W.cell? ⟨C, 1, none⟩ = some b1 ∧ W.cell? ⟨D, 0, none⟩ = some d0 ∧ W.cell? ⟨D, 1, none⟩ = some d1))
    (b : Below W.heap.size W W') : (Below W0.heap.size W0 W' ∧ B < W0.heap.size ∧ C < W0.heap.size ∧ D < W0.heap.size) ∧ (W'.cell? ⟨B, 0, none⟩ = some a0 ∧ W'.cell? ⟨B, 1, none⟩ = some a1 ∧ W'.cell? ⟨C, 0, none⟩ = some b0 ∧ W'.cell? ⟨C, 1, none⟩ = some b1 ∧ W'.cell? ⟨D, 0, none⟩ = some d0 ∧ W'.cell? ⟨D, 1, none⟩ = some d1) := by
  obtain ⟨⟨h0, hB, hC, hD⟩, e0, e1, e2, e3, e4, e5⟩ := h
  have s := h0.size
  exact ⟨⟨bl_to h0 b, hB, hC, hD⟩, (b.cell (p := ⟨B, 0, none⟩) (Nat.lt_of_lt_of_le hB s)).trans e0, (b.cell (p := ⟨B, 1, none⟩) (Nat.lt_of_lt_of_le hB s)).trans e1, (b.cell (p := ⟨C, 0, none⟩) (Nat.lt_of_lt_of_le hC s)).trans e2, (b.cell (p := ⟨C, 1, none⟩) (Nat.lt_of_lt_of_le hC s)).trans e3, (b.cell (p := ⟨D, 0, none⟩) (Nat.lt_of_lt_of_le hD s)).trans e4, (b.cell (p := ⟨D, 1, none⟩) (Nat.lt_of_lt_of_le hD s)).trans e5⟩
set_option maxHeartbeats 12800000 in
set_option maxRecDepth 100000 in
theorem discs_walk (v : Value) (L : List Int) (w : World) (h0 : RdB w v L) (hb : ∀ x ∈ L, 0 ≤ x ∧ x ≤ 255) : Calls Try.prog 12 #[v] w fun e w' => e = .returned (.bool true) ∧ Below w.heap.size w w' := by
  by_cases hl : L.length ≤ 1048576
  rotate_left
  · have hbig : decide ((1048576 : Int) < (L.length : Int)) = true := by rw [decide_eq_true_eq]; omega
    go_enter Try.func12, Try.ntmps12
    go_wp2_with fail
    refine (bigB_any v L _ h0).mono ?_
    rintro e wq ⟨rfl, rfl⟩
    rw [hbig]
    go_wp2
    go_ret
    exact ⟨rfl, Below.refl _ _⟩
  have hbig : decide ((1048576 : Int) < (L.length : Int)) = false := by rw [decide_eq_false_iff_not]; omega
  obtain ⟨x0, y0⟩ := atF_bd hb 0
  have at0 : ∀ W, Below w.heap.size w W → Hid (Calls Try.prog 48 #[v, .int .i64 0] W fun e w' => e = .returned (.int .i64 (atF L 0)) ∧ W = w') := fun W hW => at_det v L 0 W (h0.bl hW) hl hb (by omega) (by omega)
  obtain ⟨z, hz⟩ := Int.eq_ofNat_of_zero_le x0
  rw [hz] at at0 y0
  have AT0 := Lib.hid at0
  clear at0 hz x0
  go_enter Try.func12, Try.ntmps12
  go_wp2_with fail
  refine (bigB_any v L _ h0).mono ?_
  rintro e wq ⟨rfl, rfl⟩
  rw [hbig]
  go_wp2_with fail
  refine (drawDisc_any v L _ h0 hl).mono ?_
  rintro e w1 ⟨r, l, A, c, rfl, ⟨l4, l17⟩, ⟨r1, r8⟩, hd, ow, b1⟩
  have hll : l.length ≤ 1048576 := by omega
  have bx := DB.new (r := r) (Rd.of_own ow : RdI w1 (.slice A l.length c) l)
  have bel := bl_alloc b1 (.cells #[.int .i64 (r : Int), .slice A l.length c] 27)
  obtain ⟨B, hB⟩ : ∃ B, B = w1.heap.size := ⟨_, rfl⟩
  have HW : Hid (DiscsL r l (z : Int)) := discs_law r1 r8 l4 l17 hd (by omega) (by omega)
  rw [← hB] at bx
  have HB := Lib.hid hB
  clear ow b1 hd h0 hb hB
  obtain ⟨ok, cn0, cbn, e1, tl, fl, ta, fa, ff, ct, cf, s1, s2, td⟩ := HW.out
  have ⟨c0, c1, blt, rd⟩ := bx
  have cn := countI_any (r : Int) _ l _ rd hll
  have cc := fun W h => codI_any (r : Int) (.slice A l.length c) l W h hll
  have CC := Lib.hid cc
  have HCT := Lib.hid ct
  have HCF := Lib.hid cf
  obtain ⟨n, hn⟩ : ∃ n, countF (r : Int) l = n := ⟨_, rfl⟩
  rw [hn] at cn cn0 cbn e1
  have HN := Lib.hid hn
  have HTL := Lib.hid tl
  have HFL := Lib.hid fl
  have HTA := Lib.hid ta
  have HFA := Lib.hid fa
  have HFF := Lib.hid ff
  have HS1 := Lib.hid s1
  have HS2 := Lib.hid s2
  have HTD := Lib.hid td
  clear cc hn ok tl fl ta fa ff ct cf s1 s2 td HW
  go_wp2_with fail
  rw [← HB.out]
  refine cn.mono ?_
  rintro e w2 ⟨rfl, b2⟩
  replace bx := bx.bl b2
  replace bel := bl_to bel b2
  clear b2 cn c0 c1 blt rd
  have ⟨c0, c1, blt, rd⟩ := bx
  cases hcb : codB (r : Int) l
  · have n100 : ¬ n ≤ 100 := by rw [hcb] at cbn; simpa using cbn.symm
    have n100d : decide (n ≤ 100) = false := by rw [decide_eq_false_iff_not]; exact n100
    have hcS : codS (r : Int) l = 0 := by simp [codS, hcb]
    have hcR : codR (r : Int) l = 0 := by simp [codR, hcb]
    have hcL : codL (r : Int) l = [] := by simp [codL, hcb]
    have cq := CC.out w2 rd
    rw [hcb, hcS, hcR, hcL] at cq
    clear cbn e1 CC hcb hcS hcR hcL
    go_wp2_with fail
    refine cq.mono ?_
    rintro e w3 ⟨A3, c3, rfl, _, b3⟩
    replace bx := bx.bl b3
    replace bel := bl_alloc (bl_to bel b3) (.cells #[.int .i64 0, .int .i64 0, .slice A3 ([] : List (Int × Int)).length c3] 61)
    have bal := bl_alloc (Below.refl _ w3) (.cells #[.int .i64 0, .int .i64 0, .slice A3 ([] : List (Int × Int)).length c3] 61)
    clear b3 cq c0 c1 blt rd
    have ⟨c0, c1, blt, rd⟩ := bx
    go_wp2_with fail
    refine (AT0.out _ bel).out.mono ?_
    rintro e wq ⟨rfl, rfl⟩
    clear AT0
    go_wp2_with fail
    refine (turnI_any (r : Int) _ l (z : Int) _ (rd.bl bal) hll).mono ?_
    rintro e wT ⟨AT, cT, rfl, owT, bT⟩
    obtain ⟨T, hT⟩ : ∃ T, turnF (r : Int) l (z : Int) = T := ⟨_, rfl⟩
    have HT := Lib.hid hT
    have tl := HTL.out
    have ta := HTA.out
    have ct := HCT.out
    have td := HTD.out
    rw [hT] at owT tl ta ct td
    rw [hT]
    have HTL2 := Lib.hid tl
    have HTA2 := Lib.hid ta
    have HCT2 := Lib.hid ct
    have HTD2 := Lib.hid td
    have bt := DB.new (r := r) (Rd.of_own owT : RdI wT (.slice AT T.length cT) T)
    replace bx := (bx.bl bal).bl bT
    have ba2 := bl_alloc (Below.refl _ wT) (.cells #[.int .i64 (r : Int), .slice AT T.length cT] 27)
    replace bel := bl_alloc (bl_to bel bT) (.cells #[.int .i64 (r : Int), .slice AT T.length cT] 27)
    clear hT tl ta ct td HTL HTA HCT HTD owT bT c0 c1 blt rd bal
    have ⟨c0, c1, blt, rd⟩ := bx
    go_wp2_with fail
    refine (flipI_any (r : Int) _ l _ (rd.bl ba2) hll).mono ?_
    rintro e wF ⟨AF, cF, rfl, owF, bF⟩
    obtain ⟨F, hF⟩ : ∃ F, flipF (r : Int) l = F := ⟨_, rfl⟩
    have fl := HFL.out
    have fa := HFA.out
    have cf := HCF.out
    have ff := HFF.out
    rw [hF] at owF fl fa cf ff
    rw [hF]
    have HFL2 := Lib.hid fl
    have HFA2 := Lib.hid fa
    have HCF2 := Lib.hid cf
    have HFF2 := Lib.hid ff
    have bf := DB.new (r := r) (Rd.of_own owF : RdI wF (.slice AF F.length cF) F)
    replace bt := bt.bl bF
    replace bx := (bx.bl ba2).bl bF
    have ba3 := bl_alloc (Below.refl _ wF) (.cells #[.int .i64 (r : Int), .slice AF F.length cF] 27)
    replace bel := bl_alloc (bl_to bel bF) (.cells #[.int .i64 (r : Int), .slice AF F.length cF] 27)
    clear hF fl fa cf ff HFL HFA HCF HFF owF bF c0 c1 blt rd ba2
    have ⟨c0, c1, blt, rd⟩ := bx
    have ⟨t0, t1, tlt, tr⟩ := bt
    have gT : ((T.length : Int) != (l.length : Int)) = false := by rw [HTL2.out]; simp
    have gF : ((F.length : Int) != (l.length : Int)) = false := by rw [HFL2.out]; simp
    go_upto_region 18 with (fail)
    clear c0 c1 blt rd t0 t1 tlt tr
    replace bx := bx.bl ba3
    replace bt := bt.bl ba3
    generalize hw7 : wF.alloc (.cells #[.int .i64 (r : Int), .slice AF F.length cF] 27) = w7 at *
    generalize hQ1 : wF.heap.size = Bf at *
    generalize hQ2 : wT.heap.size = Bt at *
    clear hw7 hQ1 hQ2
    have ⟨c0, c1, blt, rd⟩ := bx
    have ⟨t0, t1, tlt, tr⟩ := bt
    have ⟨f0, f1, flt, fr⟩ := bf
    go_wp2
    clear gT gF
    go_loopw [13, 14] (fun m a wr => ∃ k nq : Nat, k ≤ l.length ∧ a = .int .i64 k ∧ m = .int .i64 (mostN r l k) ∧ wr = w7.drewN nq) (fun _ a _ => l.length - (intOf a).toNat)
    case atStart => exact ⟨0, 0, Nat.zero_le _, rfl, rfl, rfl⟩
    case round =>
      obtain ⟨k, nq, hk, rfl, rfl, rfl⟩ := hrel
      have mb := mostN_bd r l k
      have HM : Hid (mostN r l (k + 1) = max (mostN r l k) (popN (gi l k) r)) := rfl
      obtain ⟨M, hM⟩ : ∃ M, mostN r l k = M := ⟨_, rfl⟩
      rw [hM] at HM mb
      rw [hM]
      have HMk := Lib.hid hM
      clear hM
      by_cases hlt : k < l.length
      · have hlt' : (k : Int) < (l.length : Int) := by omega
        obtain ⟨J1, hJ1⟩ : ∃ J : Nat, J = (k + z) % l.length := ⟨_, rfl⟩
        obtain ⟨J2, hJ2⟩ : ∃ J : Nat, J = (l.length - k) % l.length := ⟨_, rfl⟩
        have j1 : J1 < l.length := by rw [hJ1]; exact Nat.mod_lt _ (by omega)
        have j2 : J2 < l.length := by rw [hJ2]; exact Nat.mod_lt _ (by omega)
        have x1 := HTA2.out k hlt
        have x2 := HFA2.out k hlt
        rw [Int.toNat_natCast, ← hJ1] at x1
        rw [← hJ2] at x2
        have q1 : ((k : Int) + (z : Int)) % (l.length : Int) = (J1 : Int) := by rw [hJ1]; simp
        have q2 : ((l.length : Int) - (k : Int)) % (l.length : Int) = (J2 : Int) := by rw [hJ2, show (l.length : Int) - (k : Int) = ((l.length - k : Nat) : Int) by omega]; simp
        have q1t : Int.tmod ((k : Int) + (z : Int)) (l.length : Int) = (J1 : Int) := by rw [Int.tmod_eq_emod_of_nonneg (by omega)]; exact q1
        have q2t : Int.tmod ((l.length : Int) - (k : Int)) (l.length : Int) = (J2 : Int) := by rw [Int.tmod_eq_emod_of_nonneg (by omega)]; exact q2
        have y1 : IntKind.i64.wrap ((k : Int) + (z : Int)) = (k : Int) + (z : Int) := IntWalk.i64_in _ (by omega)
        have y2 : IntKind.i64.wrap ((l.length : Int) - (k : Int)) = (l.length : Int) - (k : Int) := IntWalk.i64_in _ (by omega)
        have j1T : (J1 : Int) < (T.length : Int) := by have := HTL2.out; omega
        have j2F : (J2 : Int) < (F.length : Int) := by have := HFL2.out; omega
        have j1N : J1 < T.length := by omega
        have j2N : J2 < F.length := by omega
        have l0 : ¬ (l.length : Int) = 0 := by omega
        obtain ⟨g, o, rfl, _, p0⟩ := rd.look (by omega)
        obtain ⟨g1, o1, rfl, _, p1⟩ := tr.look (by omega)
        obtain ⟨g2, o2, rfl, _, p2⟩ := fr.look (by omega)
        have p0 := p0 k _ (cI_get hlt)
        have p1 := p1 J1 _ (cI_get j1N)
        have p2 := p2 J2 _ (cI_get j2N)
        rw [x1] at p1
        rw [x2] at p2
        obtain ⟨X, hX⟩ : ∃ X, gi l k = X := ⟨_, rfl⟩
        rw [hX] at p0 p1 p2 HM
        have p0 : (w7.drewN nq).cell? ⟨g, o + k, none⟩ = _ := p0
        have p1 : (w7.drewN nq).cell? ⟨g1, o1 + J1, none⟩ = _ := p1
        have p2 : (w7.drewN nq).cell? ⟨g2, o2 + J2, none⟩ = _ := p2
        have c0 : (w7.drewN nq).cell? ⟨B, 0, none⟩ = _ := c0
        have c1 : (w7.drewN nq).cell? ⟨B, 1, none⟩ = _ := c1
        have t1 : (w7.drewN nq).cell? ⟨Bt, 1, none⟩ = _ := t1
        have f1 : (w7.drewN nq).cell? ⟨Bf, 1, none⟩ = _ := f1
        have HJ := Lib.hid (And.intro hJ1 hJ2)
        clear bx bt bf rd tr fr x1 x2 hX hJ1 hJ2 t0 f0
        generalize hwz : w7.drewN nq = wz at *
        have HWZ := Lib.hid hwz
        clear hwz
        go_wp2
        go_big_quiet (fail)
        go_wp2
        clear p1 p2 t1 f1 q1 q2 q1t q2t y1 y2 j1T j2F
        go_loop [15, 16] (fun kk rr => ∃ j : Nat, j ≤ r ∧ rr = .int .i64 j ∧ kk = .int .i64 (popN X j)) (fun _ rr => r - (intOf rr).toNat)
        case atStart => exact ⟨0, Nat.zero_le _, rfl, rfl⟩
        case round =>
          obtain ⟨j, hj, rfl, rfl⟩ := hrel
          obtain ⟨p1, p2⟩ := popN_bd X j
          obtain ⟨b1, b2⟩ := bitI_bd X j
          have hs := Lib.hid (show popN X (j + 1) = popN X j + bitI X j from rfl)
          unfold bitI at b1 b2
          by_cases hjr : j < r
          · have hjr' : (j : Int) < (r : Int) := by omega
            go_wp2
            go_round
            case rel => exact ⟨j + 1, by omega, by go_num, by rw [hs.out]; rfl⟩
            case measure => simp [intOf]; omega
          · have hjr' : ¬ (j : Int) < (r : Int) := by omega
            have hje : j = r := by omega
            have HE := Lib.hid hje
            clear hje hs
            go_wp2
            go_roundw
            case rel => exact ⟨k + 1, _, by omega, by go_num, by rw [HM.out, HE.out]; congr 1; split <;> omega, by rw [← HWZ.out, World.drewN_drewN]⟩
            case measure => simp [intOf]; omega
      · obtain rfl : k = l.length := by omega
        have hlt' : ¬ (l.length : Int) < (l.length : Int) := by omega
        have bel8 := bl_drewN bel nq
        have bx8 := bx.bl (bl_drewN (Below.refl _ _) nq)
        have bt8 := bt.bl (bl_drewN (Below.refl _ _) nq)
        have bf8 := bf.bl (bl_drewN (Below.refl _ _) nq)
        clear bx bt bf bel c0 c1 blt rd t0 t1 tlt tr f0 f1 flt fr hlt ba3
        generalize w7.drewN nq = w8 at *
        have ⟨c0, c1, blt, rd⟩ := bx8
        have ⟨t0, t1, tlt, tr⟩ := bt8
        have ⟨f0, f1, flt, fr⟩ := bf8
        have hTl : T.length ≤ 1048576 := by have := HTL2.out; omega
        have hFl : F.length ≤ 1048576 := by have := HFL2.out; omega
        have kf := fun W (h : Below w8.heap.size w8 W) => flipI_any (r : Int) (.slice AF F.length cF) F W (fr.bl h) hFl
        have kt := fun W (h : Below w8.heap.size w8 W) => countI_any (r : Int) (.slice AT T.length cT) T W (tr.bl h) hTl
        have kg := fun W (h : Below w8.heap.size w8 W) => countI_any (r : Int) (.slice AF F.length cF) F W (fr.bl h) hFl
        have k1 := fun W (h : Below w8.heap.size w8 W) => safeI_any (r : Int) (.slice A l.length c) l M W (rd.bl h) hll
        have k2 := fun W (h : Below w8.heap.size w8 W) => safeI_any (r : Int) (.slice A l.length c) l (M - 1) W (rd.bl h) hll
        have ko := fun W (h : Below w8.heap.size w8 W) => discI_ok (r : Int) (.slice AT T.length cT) T W (tr.bl h) hTl
        have s1 := HS1.out
        have s2 := HS2.out
        rw [HMk.out] at s1 s2
        rw [HFF2.out] at kf
        rw [HCT2.out, HN.out] at kt
        rw [HCF2.out, HN.out] at kg
        rw [s1] at k1
        rw [s2] at k2
        rw [HTD2.out] at ko
        have KF := Lib.hid kf
        have KT := Lib.hid kt
        have KG := Lib.hid kg
        have K1 := Lib.hid k1
        have K2 := Lib.hid k2
        have KO := Lib.hid ko
        have RD := Lib.hid rd
        have hm1 : IntKind.i64.wrap (M - 1) = M - 1 := IntWalk.i64_in _ (by omega)
        clear kf kt kg k1 k2 ko s1 s2 rd tr fr bx8 bt8 bf8 HS1 HS2 HMk HM HTA2 HFA2 HFF2 HCT2 HCF2 HTD2 HN HT
        have s0 : (Below w8.heap.size w8 w8.drew ∧ B < w8.heap.size ∧ Bt < w8.heap.size ∧ Bf < w8.heap.size) ∧ ((w8.drew).cell? ⟨B, 0, none⟩ = some (.int .i64 (r : Int)) ∧ (w8.drew).cell? ⟨B, 1, none⟩ = some (.slice A l.length c) ∧ (w8.drew).cell? ⟨Bt, 0, none⟩ = some (.int .i64 (r : Int)) ∧ (w8.drew).cell? ⟨Bt, 1, none⟩ = some (.slice AT T.length cT) ∧ (w8.drew).cell? ⟨Bf, 0, none⟩ = some (.int .i64 (r : Int)) ∧ (w8.drew).cell? ⟨Bf, 1, none⟩ = some (.slice AF F.length cF)) :=
          ⟨⟨bl_drew (Below.refl _ _), blt, tlt, flt⟩, c0, c1, t0, t1, f0, f1⟩
        clear c0 c1 t0 t1 f0 f1
        go_upto_region 30 with (fail)
        go_region_held3 (fun w' => w'.cell? ⟨B, 0, none⟩ = some (.int .i64 (r : Int)) ∧ w'.cell? ⟨B, 1, none⟩ = some (.slice A l.length c) ∧ w'.cell? ⟨Bt, 0, none⟩ = some (.int .i64 (r : Int)) ∧ w'.cell? ⟨Bt, 1, none⟩ = some (.slice AT T.length cT) ∧ w'.cell? ⟨Bf, 0, none⟩ = some (.int .i64 (r : Int)) ∧ w'.cell? ⟨Bf, 1, none⟩ = some (.slice AF F.length cF))
          (first | exact sG.2 | exact sF.2 | exact sE.2 | exact sD.2 | exact sC.2 | exact sB.2 | exact sA.2 | exact s0.2)
          (first
            | (go_at_call 26; refine (KF.out _ s0.1.1).mono ?_; rintro e wA ⟨A9, c9, rfl, ow9, bA⟩; have sA := keep6 s0 bA; have hfd := fun W : World => field_disc A9 l.length c9 (r : Int) W; have r9 : RdI wA (.slice A9 l.length c9) l := Rd.of_own ow9; clear ow9)
            | (go_at_call 52; refine (sameL_any _ _ l _ r9 (RD.out.bl sA.1.1) hll).mono ?_; rintro e wB ⟨rfl, bB⟩; have sB := keep6 sA bB)
            | (have tok := sC; go_at_call 30; refine (KG.out _ sC.1.1).mono ?_; rintro e wD ⟨rfl, bD⟩; have sD := keep6 sC bD; clear tok)
            | (go_at_call 30; refine (KT.out _ sB.1.1).mono ?_; rintro e wC ⟨rfl, bC⟩; have sC := keep6 sB bC)
            | (have tok := sE; go_at_call 28; refine (K2.out _ sE.1.1).mono ?_; rintro e wF2 ⟨rfl, bF2⟩; have sF := keep6 sE bF2; clear tok)
            | (go_at_call 28; refine (K1.out _ sD.1.1).mono ?_; rintro e wE ⟨rfl, bE⟩; have sE := keep6 sD bE)
            | (go_at_call 19; refine (KO.out _ sF.1.1).mono ?_; rintro e wG ⟨rfl, bG⟩; have sG := keep6 sF bG))
        all_goals (go_wp2_with fail; go_ret; exact ⟨rfl, bl_to bel8 sG.1.1⟩)
  · have n100 : n ≤ 100 := by rw [hcb] at cbn; simpa using cbn.symm
    have n100d : decide (n ≤ 100) = true := by rw [decide_eq_true_eq]; exact n100
    obtain ⟨q1, q2, q3, q4, q5, q6⟩ := e1 hcb
    have cq := CC.out w2 rd
    rw [hcb, q1, q2] at cq
    rw [q1, q2] at q3 q4 q5
    have hpl := codL_len (r : Int) l
    generalize codL (r : Int) l = P at *
    have cd := fun W v h => dofI_any (l.length : Int) (r : Int) v P W h hpl
    rw [q3, q4, q5] at cd
    have CD := Lib.hid cd
    have HQ := Lib.hid q6
    have g6 : ((P.length : Int) != n) = false := by rw [q6]; simp
    have HP := Lib.hid hpl
    clear cbn e1 CC hcb q1 q2 q3 q4 q5 q6 cd hpl
    go_wp2_with fail
    refine cq.mono ?_
    rintro e w3 ⟨A3, c3, rfl, ow3, b3⟩
    have d2 : (w3.alloc (.cells #[.int .i64 (l.length : Int), .int .i64 (r : Int), .slice A3 P.length c3] 61)).cell? ⟨w3.heap.size, 2, none⟩ = some (.slice A3 P.length c3) := by simp [go_sem]
    have dl : w3.heap.size < (w3.alloc (.cells #[.int .i64 (l.length : Int), .int .i64 (r : Int), .slice A3 P.length c3] 61)).heap.size := by simp
    have rp := (Rd.of_own ow3).bl (bl_alloc (Below.refl _ _) (.cells #[.int .i64 (l.length : Int), .int .i64 (r : Int), .slice A3 P.length c3] 61))
    replace bx := (bx.bl b3).bl (bl_alloc (Below.refl _ _) (.cells #[.int .i64 (l.length : Int), .int .i64 (r : Int), .slice A3 P.length c3] 61))
    replace bel := bl_alloc (bl_to bel b3) (.cells #[.int .i64 (l.length : Int), .int .i64 (r : Int), .slice A3 P.length c3] 61)
    have cq := (CD.out _ _ rp)
    clear b3 c0 c1 blt rd ow3 CD rp
    go_wp2_with fail
    refine cq.mono ?_
    rintro e w4 ⟨A4, c4, rfl, ow4, b4⟩
    have r4 : RdI w4 (.slice A4 l.length c4) l := Rd.of_own ow4
    have d2' := ((b4.cell (p := ⟨w3.heap.size, 2, none⟩) dl).trans d2)
    have dl4 := Nat.lt_of_lt_of_le dl b4.size
    replace bx := bx.bl b4
    replace bel := bl_alloc (bl_to bel b4) (.cells #[.int .i64 (r : Int), .slice A4 l.length c4] 27)
    have bal := bl_alloc (Below.refl _ w4) (.cells #[.int .i64 (r : Int), .slice A4 l.length c4] 27)
    obtain ⟨Cb, hCb⟩ : ∃ C, C = w3.heap.size := ⟨_, rfl⟩
    have HCb := Lib.hid hCb
    rw [← hCb] at d2' dl4
    clear b4 cq ow4 d2 dl hCb
    have ⟨c0, c1, blt, rd⟩ := bx
    go_wp2_with fail
    rw [← HCb.out]
    go_wp2_with fail
    refine (sameL_any _ _ l _ (r4.bl bal) (rd.bl bal) hll).mono ?_
    rintro e w6 ⟨rfl, b6⟩
    have v0 : w6.cell? ⟨w4.heap.size, 0, none⟩ = some (.int .i64 (r : Int)) := (b6.cell (p := ⟨w4.heap.size, 0, none⟩) (by simp)).trans (by simp [go_sem])
    have v2 := (b6.cell (p := ⟨Cb, 2, none⟩) (Nat.lt_of_lt_of_le dl4 bal.size)).trans ((bal.cell (p := ⟨Cb, 2, none⟩) dl4).trans d2')
    replace bx := (bx.bl bal).bl b6
    replace bel := bl_to bel b6
    obtain ⟨w3, rfl⟩ : ∃ x : World, x = w6 := ⟨_, rfl⟩
    clear b6 c0 c1 blt rd bal r4
    have bal := Below.refl w3.heap.size w3
    have ⟨c0, c1, blt, rd⟩ := bx
    go_wp2_with fail
    refine (AT0.out _ bel).out.mono ?_
    rintro e wq ⟨rfl, rfl⟩
    clear AT0
    go_wp2_with fail
    refine (turnI_any (r : Int) _ l (z : Int) _ (rd.bl bal) hll).mono ?_
    rintro e wT ⟨AT, cT, rfl, owT, bT⟩
    obtain ⟨T, hT⟩ : ∃ T, turnF (r : Int) l (z : Int) = T := ⟨_, rfl⟩
    have HT := Lib.hid hT
    have tl := HTL.out
    have ta := HTA.out
    have ct := HCT.out
    have td := HTD.out
    rw [hT] at owT tl ta ct td
    rw [hT]
    have HTL2 := Lib.hid tl
    have HTA2 := Lib.hid ta
    have HCT2 := Lib.hid ct
    have HTD2 := Lib.hid td
    have bt := DB.new (r := r) (Rd.of_own owT : RdI wT (.slice AT T.length cT) T)
    replace bx := (bx.bl bal).bl bT
    have ba2 := bl_alloc (Below.refl _ wT) (.cells #[.int .i64 (r : Int), .slice AT T.length cT] 27)
    replace bel := bl_alloc (bl_to bel bT) (.cells #[.int .i64 (r : Int), .slice AT T.length cT] 27)
    clear hT tl ta ct td HTL HTA HCT HTD owT bT c0 c1 blt rd bal
    have ⟨c0, c1, blt, rd⟩ := bx
    go_wp2_with fail
    refine (flipI_any (r : Int) _ l _ (rd.bl ba2) hll).mono ?_
    rintro e wF ⟨AF, cF, rfl, owF, bF⟩
    obtain ⟨F, hF⟩ : ∃ F, flipF (r : Int) l = F := ⟨_, rfl⟩
    have fl := HFL.out
    have fa := HFA.out
    have cf := HCF.out
    have ff := HFF.out
    rw [hF] at owF fl fa cf ff
    rw [hF]
    have HFL2 := Lib.hid fl
    have HFA2 := Lib.hid fa
    have HCF2 := Lib.hid cf
    have HFF2 := Lib.hid ff
    have bf := DB.new (r := r) (Rd.of_own owF : RdI wF (.slice AF F.length cF) F)
    replace bt := bt.bl bF
    replace bx := (bx.bl ba2).bl bF
    have ba3 := bl_alloc (Below.refl _ wF) (.cells #[.int .i64 (r : Int), .slice AF F.length cF] 27)
    replace bel := bl_alloc (bl_to bel bF) (.cells #[.int .i64 (r : Int), .slice AF F.length cF] 27)
    clear hF fl fa cf ff HFL HFA HCF HFF owF bF c0 c1 blt rd ba2
    have ⟨c0, c1, blt, rd⟩ := bx
    have ⟨t0, t1, tlt, tr⟩ := bt
    have gT : ((T.length : Int) != (l.length : Int)) = false := by rw [HTL2.out]; simp
    have gF : ((F.length : Int) != (l.length : Int)) = false := by rw [HFL2.out]; simp
    go_upto_region 18 with (fail)
    clear c0 c1 blt rd t0 t1 tlt tr
    replace bx := bx.bl ba3
    replace bt := bt.bl ba3
    generalize hw7 : wF.alloc (.cells #[.int .i64 (r : Int), .slice AF F.length cF] 27) = w7 at *
    generalize hQ1 : wF.heap.size = Bf at *
    generalize hQ2 : wT.heap.size = Bt at *
    clear hw7 hQ1 hQ2
    have ⟨c0, c1, blt, rd⟩ := bx
    have ⟨t0, t1, tlt, tr⟩ := bt
    have ⟨f0, f1, flt, fr⟩ := bf
    go_wp2
    clear gT gF
    go_loopw [13, 14] (fun m a wr => ∃ k nq : Nat, k ≤ l.length ∧ a = .int .i64 k ∧ m = .int .i64 (mostN r l k) ∧ wr = w7.drewN nq) (fun _ a _ => l.length - (intOf a).toNat)
    case atStart => exact ⟨0, 0, Nat.zero_le _, rfl, rfl, rfl⟩
    case round =>
      obtain ⟨k, nq, hk, rfl, rfl, rfl⟩ := hrel
      have mb := mostN_bd r l k
      have HM : Hid (mostN r l (k + 1) = max (mostN r l k) (popN (gi l k) r)) := rfl
      obtain ⟨M, hM⟩ : ∃ M, mostN r l k = M := ⟨_, rfl⟩
      rw [hM] at HM mb
      rw [hM]
      have HMk := Lib.hid hM
      clear hM
      by_cases hlt : k < l.length
      · have hlt' : (k : Int) < (l.length : Int) := by omega
        obtain ⟨J1, hJ1⟩ : ∃ J : Nat, J = (k + z) % l.length := ⟨_, rfl⟩
        obtain ⟨J2, hJ2⟩ : ∃ J : Nat, J = (l.length - k) % l.length := ⟨_, rfl⟩
        have j1 : J1 < l.length := by rw [hJ1]; exact Nat.mod_lt _ (by omega)
        have j2 : J2 < l.length := by rw [hJ2]; exact Nat.mod_lt _ (by omega)
        have x1 := HTA2.out k hlt
        have x2 := HFA2.out k hlt
        rw [Int.toNat_natCast, ← hJ1] at x1
        rw [← hJ2] at x2
        have q1 : ((k : Int) + (z : Int)) % (l.length : Int) = (J1 : Int) := by rw [hJ1]; simp
        have q2 : ((l.length : Int) - (k : Int)) % (l.length : Int) = (J2 : Int) := by rw [hJ2, show (l.length : Int) - (k : Int) = ((l.length - k : Nat) : Int) by omega]; simp
        have q1t : Int.tmod ((k : Int) + (z : Int)) (l.length : Int) = (J1 : Int) := by rw [Int.tmod_eq_emod_of_nonneg (by omega)]; exact q1
        have q2t : Int.tmod ((l.length : Int) - (k : Int)) (l.length : Int) = (J2 : Int) := by rw [Int.tmod_eq_emod_of_nonneg (by omega)]; exact q2
        have y1 : IntKind.i64.wrap ((k : Int) + (z : Int)) = (k : Int) + (z : Int) := IntWalk.i64_in _ (by omega)
        have y2 : IntKind.i64.wrap ((l.length : Int) - (k : Int)) = (l.length : Int) - (k : Int) := IntWalk.i64_in _ (by omega)
        have j1T : (J1 : Int) < (T.length : Int) := by have := HTL2.out; omega
        have j2F : (J2 : Int) < (F.length : Int) := by have := HFL2.out; omega
        have j1N : J1 < T.length := by omega
        have j2N : J2 < F.length := by omega
        have l0 : ¬ (l.length : Int) = 0 := by omega
        obtain ⟨g, o, rfl, _, p0⟩ := rd.look (by omega)
        obtain ⟨g1, o1, rfl, _, p1⟩ := tr.look (by omega)
        obtain ⟨g2, o2, rfl, _, p2⟩ := fr.look (by omega)
        have p0 := p0 k _ (cI_get hlt)
        have p1 := p1 J1 _ (cI_get j1N)
        have p2 := p2 J2 _ (cI_get j2N)
        rw [x1] at p1
        rw [x2] at p2
        obtain ⟨X, hX⟩ : ∃ X, gi l k = X := ⟨_, rfl⟩
        rw [hX] at p0 p1 p2 HM
        have p0 : (w7.drewN nq).cell? ⟨g, o + k, none⟩ = _ := p0
        have p1 : (w7.drewN nq).cell? ⟨g1, o1 + J1, none⟩ = _ := p1
        have p2 : (w7.drewN nq).cell? ⟨g2, o2 + J2, none⟩ = _ := p2
        have c0 : (w7.drewN nq).cell? ⟨B, 0, none⟩ = _ := c0
        have c1 : (w7.drewN nq).cell? ⟨B, 1, none⟩ = _ := c1
        have t1 : (w7.drewN nq).cell? ⟨Bt, 1, none⟩ = _ := t1
        have f1 : (w7.drewN nq).cell? ⟨Bf, 1, none⟩ = _ := f1
        have HJ := Lib.hid (And.intro hJ1 hJ2)
        clear bx bt bf rd tr fr x1 x2 hX hJ1 hJ2 t0 f0
        generalize hwz : w7.drewN nq = wz at *
        have HWZ := Lib.hid hwz
        clear hwz
        go_wp2
        go_big_quiet (fail)
        go_wp2
        clear p1 p2 t1 f1 q1 q2 q1t q2t y1 y2 j1T j2F
        go_loop [15, 16] (fun kk rr => ∃ j : Nat, j ≤ r ∧ rr = .int .i64 j ∧ kk = .int .i64 (popN X j)) (fun _ rr => r - (intOf rr).toNat)
        case atStart => exact ⟨0, Nat.zero_le _, rfl, rfl⟩
        case round =>
          obtain ⟨j, hj, rfl, rfl⟩ := hrel
          obtain ⟨p1, p2⟩ := popN_bd X j
          obtain ⟨b1, b2⟩ := bitI_bd X j
          have hs := Lib.hid (show popN X (j + 1) = popN X j + bitI X j from rfl)
          unfold bitI at b1 b2
          by_cases hjr : j < r
          · have hjr' : (j : Int) < (r : Int) := by omega
            go_wp2
            go_round
            case rel => exact ⟨j + 1, by omega, by go_num, by rw [hs.out]; rfl⟩
            case measure => simp [intOf]; omega
          · have hjr' : ¬ (j : Int) < (r : Int) := by omega
            have hje : j = r := by omega
            have HE := Lib.hid hje
            clear hje hs
            go_wp2
            go_roundw
            case rel => exact ⟨k + 1, _, by omega, by go_num, by rw [HM.out, HE.out]; congr 1; split <;> omega, by rw [← HWZ.out, World.drewN_drewN]⟩
            case measure => simp [intOf]; omega
      · obtain rfl : k = l.length := by omega
        have hlt' : ¬ (l.length : Int) < (l.length : Int) := by omega
        have bel8 := bl_drewN bel nq
        have bx8 := bx.bl (bl_drewN (Below.refl _ _) nq)
        have bt8 := bt.bl (bl_drewN (Below.refl _ _) nq)
        have bf8 := bf.bl (bl_drewN (Below.refl _ _) nq)
        clear bx bt bf bel c0 c1 blt rd t0 t1 tlt tr f0 f1 flt fr hlt ba3
        generalize w7.drewN nq = w8 at *
        have ⟨c0, c1, blt, rd⟩ := bx8
        have ⟨t0, t1, tlt, tr⟩ := bt8
        have ⟨f0, f1, flt, fr⟩ := bf8
        have hTl : T.length ≤ 1048576 := by have := HTL2.out; omega
        have hFl : F.length ≤ 1048576 := by have := HFL2.out; omega
        have kf := fun W (h : Below w8.heap.size w8 W) => flipI_any (r : Int) (.slice AF F.length cF) F W (fr.bl h) hFl
        have kt := fun W (h : Below w8.heap.size w8 W) => countI_any (r : Int) (.slice AT T.length cT) T W (tr.bl h) hTl
        have kg := fun W (h : Below w8.heap.size w8 W) => countI_any (r : Int) (.slice AF F.length cF) F W (fr.bl h) hFl
        have k1 := fun W (h : Below w8.heap.size w8 W) => safeI_any (r : Int) (.slice A l.length c) l M W (rd.bl h) hll
        have k2 := fun W (h : Below w8.heap.size w8 W) => safeI_any (r : Int) (.slice A l.length c) l (M - 1) W (rd.bl h) hll
        have ko := fun W (h : Below w8.heap.size w8 W) => discI_ok (r : Int) (.slice AT T.length cT) T W (tr.bl h) hTl
        have s1 := HS1.out
        have s2 := HS2.out
        rw [HMk.out] at s1 s2
        rw [HFF2.out] at kf
        rw [HCT2.out, HN.out] at kt
        rw [HCF2.out, HN.out] at kg
        rw [s1] at k1
        rw [s2] at k2
        rw [HTD2.out] at ko
        have KF := Lib.hid kf
        have KT := Lib.hid kt
        have KG := Lib.hid kg
        have K1 := Lib.hid k1
        have K2 := Lib.hid k2
        have KO := Lib.hid ko
        have RD := Lib.hid rd
        have hm1 : IntKind.i64.wrap (M - 1) = M - 1 := IntWalk.i64_in _ (by omega)
        clear kf kt kg k1 k2 ko s1 s2 rd tr fr bx8 bt8 bf8 HS1 HS2 HMk HM HTA2 HFA2 HFF2 HCT2 HCF2 HTD2 HN HT
        have s0 : (Below w8.heap.size w8 w8.drew ∧ B < w8.heap.size ∧ Bt < w8.heap.size ∧ Bf < w8.heap.size) ∧ ((w8.drew).cell? ⟨B, 0, none⟩ = some (.int .i64 (r : Int)) ∧ (w8.drew).cell? ⟨B, 1, none⟩ = some (.slice A l.length c) ∧ (w8.drew).cell? ⟨Bt, 0, none⟩ = some (.int .i64 (r : Int)) ∧ (w8.drew).cell? ⟨Bt, 1, none⟩ = some (.slice AT T.length cT) ∧ (w8.drew).cell? ⟨Bf, 0, none⟩ = some (.int .i64 (r : Int)) ∧ (w8.drew).cell? ⟨Bf, 1, none⟩ = some (.slice AF F.length cF)) :=
          ⟨⟨bl_drew (Below.refl _ _), blt, tlt, flt⟩, c0, c1, t0, t1, f0, f1⟩
        clear c0 c1 t0 t1 f0 f1
        go_upto_region 30 with (fail)
        go_region_held3 (fun w' => w'.cell? ⟨B, 0, none⟩ = some (.int .i64 (r : Int)) ∧ w'.cell? ⟨B, 1, none⟩ = some (.slice A l.length c) ∧ w'.cell? ⟨Bt, 0, none⟩ = some (.int .i64 (r : Int)) ∧ w'.cell? ⟨Bt, 1, none⟩ = some (.slice AT T.length cT) ∧ w'.cell? ⟨Bf, 0, none⟩ = some (.int .i64 (r : Int)) ∧ w'.cell? ⟨Bf, 1, none⟩ = some (.slice AF F.length cF))
          (first | exact sG.2 | exact sF.2 | exact sE.2 | exact sD.2 | exact sC.2 | exact sB.2 | exact sA.2 | exact s0.2)
          (first
            | (go_at_call 26; refine (KF.out _ s0.1.1).mono ?_; rintro e wA ⟨A9, c9, rfl, ow9, bA⟩; have sA := keep6 s0 bA; have hfd := fun W : World => field_disc A9 l.length c9 (r : Int) W; have r9 : RdI wA (.slice A9 l.length c9) l := Rd.of_own ow9; clear ow9)
            | (go_at_call 52; refine (sameL_any _ _ l _ r9 (RD.out.bl sA.1.1) hll).mono ?_; rintro e wB ⟨rfl, bB⟩; have sB := keep6 sA bB)
            | (have tok := sC; go_at_call 30; refine (KG.out _ sC.1.1).mono ?_; rintro e wD ⟨rfl, bD⟩; have sD := keep6 sC bD; clear tok)
            | (go_at_call 30; refine (KT.out _ sB.1.1).mono ?_; rintro e wC ⟨rfl, bC⟩; have sC := keep6 sB bC)
            | (have tok := sE; go_at_call 28; refine (K2.out _ sE.1.1).mono ?_; rintro e wF2 ⟨rfl, bF2⟩; have sF := keep6 sE bF2; clear tok)
            | (go_at_call 28; refine (K1.out _ sD.1.1).mono ?_; rintro e wE ⟨rfl, bE⟩; have sE := keep6 sD bE)
            | (go_at_call 19; refine (KO.out _ sF.1.1).mono ?_; rintro e wG ⟨rfl, bG⟩; have sG := keep6 sF bG))
        all_goals (go_wp2_with fail; go_ret; exact ⟨rfl, bl_to bel8 sG.1.1⟩)
end Go.Proofs.Ytoijjjaodfincaa
