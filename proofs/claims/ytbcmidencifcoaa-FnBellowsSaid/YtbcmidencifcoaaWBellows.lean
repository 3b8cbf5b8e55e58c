/- FnBellows: the law returns true at every input; no condition. -/
import Derived.Test.YtbcmidencifcoaaDrawTune
import Derived.Test.YtbcmidencifcoaaBellow0
import Derived.Test.YtbcmidencifcoaaBell2
import Derived.Test.YtbcmidencifcoaaAir
import Derived.Deep.DeepCutAuto
namespace Go.Proofs.Ytbcmidencifcoaa
open Go.RowKit

theorem airF_in {r p n : Int} (h1 : 3 ≤ r) (h2 : r ≤ 22) (h3 : 0 ≤ p) (h4 : p ≤ 7) (h5 : 0 ≤ n) (h6 : n ≤ 9) : airF 5 (r + 5) p n = max 0 (min (5 + p) (r + 5) - 3 * n) := by
  rw [airF, if_pos]
  simp only [Bool.and_eq_true, inB_iff]
  omega
set_option maxHeartbeats 12800000 in
set_option maxRecDepth 100000 in
theorem bellows_law (v : Value) (L : List Int) (w : World) (h0 : RdB w v L) (hb : ∀ x ∈ L, 0 ≤ x ∧ x ≤ 255) : Calls Try.prog 9 #[v] w fun e w' => e = .returned (.bool true) ∧ Below w.heap.size w w' := by
  by_cases hl : L.length ≤ 1048576
  rotate_left
  · have hbig : decide ((1048576 : Int) < (L.length : Int)) = true := by rw [decide_eq_true_eq]; omega
    go_enter Try.func9, Try.ntmps9
    go_wp2_with fail
    refine (bigB_any v L _ h0).mono ?_
    rintro e wq ⟨rfl, rfl⟩
    rw [hbig]
    go_wp2
    go_ret
    exact ⟨rfl, Below.refl _ _⟩
  have hbig : decide ((1048576 : Int) < (L.length : Int)) = false := by rw [decide_eq_false_iff_not]; omega
  obtain ⟨x0, y0⟩ := atF_bd hb 0
  obtain ⟨x1, y1⟩ := atF_bd hb 1
  obtain ⟨x2, y2⟩ := atF_bd hb 2
  have am : ∀ (x m : Int), 0 ≤ x → 0 < m → ∃ a : Nat, x.tmod m = (a : Int) ∧ (a : Int) < m := fun x m hx hm => by
    obtain ⟨a, ha⟩ := Int.eq_ofNat_of_zero_le (Int.emod_nonneg x (show m ≠ 0 by omega))
    have := Int.emod_lt_of_pos x hm
    exact ⟨a, by rw [Int.tmod_eq_emod_of_nonneg hx]; exact ha, by omega⟩
  obtain ⟨a, ha, a9⟩ := am (atF L 0) 20 x0 (by omega)
  obtain ⟨b, hbm, b9⟩ := am (atF L 1) 8 x1 (by omega)
  obtain ⟨n, hn, n9⟩ := am (atF L 2) 10 x2 (by omega)
  clear am
  have at0 : ∀ W, Below w.heap.size w W → Hid (Calls Try.prog 35 #[v, .int .i64 0] W fun e w' => e = .returned (.int .i64 (atF L 0)) ∧ W = w') := fun W hW => at_det v L 0 W (h0.bl hW) hl hb (by omega) (by omega)
  have at1 : ∀ W, Below w.heap.size w W → Hid (Calls Try.prog 35 #[v, .int .i64 1] W fun e w' => e = .returned (.int .i64 (atF L 1)) ∧ W = w') := fun W hW => at_det v L 1 W (h0.bl hW) hl hb (by omega) (by omega)
  have at2 : ∀ W, Below w.heap.size w W → Hid (Calls Try.prog 35 #[v, .int .i64 2] W fun e w' => e = .returned (.int .i64 (atF L 2)) ∧ W = w') := fun W hW => at_det v L 2 W (h0.bl hW) hl hb (by omega) (by omega)
  generalize atF L 0 = z0 at *
  generalize atF L 1 = z1 at *
  generalize atF L 2 = z2 at *
  have AT0 := Lib.hid at0
  have AT1 := Lib.hid at1
  have AT2 := Lib.hid at2
  clear at0 at1 at2
  go_enter Try.func9, Try.ntmps9
  go_wp2_with fail
  refine (bigB_any v L _ h0).mono ?_
  rintro e wq ⟨rfl, rfl⟩
  rw [hbig]
  go_wp2_with fail
  refine (drawTune_any v L _ h0 hl).mono ?_
  rintro e w1 ⟨l, A, c, rfl, l11, ho, hdr, ow1, b1⟩
  have hll : l.length ≤ 1048576 := by omega
  have h1 : RdN w1 (.slice A l.length c) l := Rd.of_own ow1
  clear ow1 hdr hbig h0
  go_wp2_with fail
  refine (AT0.out _ b1).out.mono ?_
  rintro e wq ⟨rfl, rfl⟩
  go_wp2_with fail
  refine (AT1.out _ b1).out.mono ?_
  rintro e wq ⟨rfl, rfl⟩
  clear AT0 AT1
  have wr : IntKind.i64.wrap (3 + (a : Int)) = 3 + (a : Int) := IntWalk.i64_in _ (by omega)
  have HB : Hid (Bel l (3 + (a : Int)) (b : Int)) := bel_any ho (by omega) (by omega) (by omega) (by omega)
  go_wp2_with fail
  refine (fsI_any _ l _ _ _ h1 hll).mono ?_
  rintro e w2 ⟨rfl, b2⟩
  have h2 := h1.bl b2
  have bel2 := bl_to b1 b2
  clear h1 b1 b2
  go_wp2_with fail
  refine (lrI_any _ l _ _ h2 hll).mono ?_
  rintro e w3 ⟨rfl, b3⟩
  have h3 := h2.bl b3
  have bel3 := bl_to bel2 b3
  clear h2 bel2 b3
  go_wp2_with fail
  refine (lpI_any _ l _ _ h3 hll).mono ?_
  rintro e w4 ⟨rfl, b4⟩
  have h4 := h3.bl b4
  have bel4 := bl_to bel3 b4
  clear h3 bel3 b4
  have m1 := (lrF_bd ho (show (0 : Int) ≤ (b : Int) by omega) (show (b : Int) ≤ 100 by omega))
  have q1 := (lpF_bd ho (show (1 : Int) ≤ 3 + (a : Int) by omega) (show 3 + (a : Int) ≤ 1000 by omega))
  have fl := fsF_lo l (3 + (a : Int)) (b : Int)
  have B1 := HB.out.f1
  have B2 := HB.out.f2
  have B3 := HB.out.r1
  have B4 := HB.out.p1
  have B5 := HB.out.e1
  have B6 := HB.out.e2
  generalize fsF l (3 + (a : Int)) (b : Int) = f at *
  generalize hm : lrF l (b : Int) = m at *
  generalize hq : lpF l (3 + (a : Int)) = q at *
  have m2 : -1 ≤ m ∧ m ≤ 1000 := by rcases m1 with m1 | m1 <;> omega
  have q2 : -1 ≤ q ∧ q ≤ 100 := by rcases q1 with q1 | q1 <;> omega
  have HB1 := Lib.hid B1
  have HB2 := Lib.hid B2
  have HB3 := Lib.hid B3
  have HB4 := Lib.hid B4
  have HB5 := Lib.hid B5
  have HB6 := Lib.hid B6
  have HO := Lib.hid ho
  clear B1 B2 B3 B4 B5 B6 m1 q1 HB ho hm hq
  go_upto_region 9 with (fail)
  go_cut [57] (fun s wx => s = .bool false ∧ Below w4.heap.size w4 wx)
  case first =>
    by_cases hf0 : 0 ≤ f
    · have hn0 := HB1.out hf0
      have hg := HB2.out hf0
      have hgl := fsF_lo l (3 + (a : Int)) ((b : Int) + 1)
      generalize hN : natF l f = N at *
      generalize hg0 : fsF l (3 + (a : Int)) ((b : Int) + 1) = g at *
      have nn : ((N.length : Int) == 0) = false := by rw [beq_eq_false_iff_ne]; omega
      have nd : decide ((N.length : Int) = 0) = false := by rw [decide_eq_false_iff_not]; omega
      have ne : ¬ N.length = 0 := by omega
      have bw : IntKind.i64.wrap ((b : Int) + 1) = (b : Int) + 1 := IntWalk.i64_in _ (by omega)
      have c1 := fun W (h : Below w4.heap.size w4 W) => natS_any _ l f W (h4.bl h) hll
      rw [hN] at c1
      have c2 := fun W (h : Below w4.heap.size w4 W) => fsI_any _ l (3 + (a : Int)) ((b : Int) + 1) W (h4.bl h) hll
      rw [hg0] at c2
      have C1 := Lib.hid c1
      have C2 := Lib.hid c2
      clear c1 c2 hN hg0 HB1 HB2 HB3 HB4 HB5 HB6 h4
      go_wp2_with fail
      refine (C1.out _ (Below.refl _ _)).mono ?_
      rintro e w5 ⟨A5, c5, rfl, _, b5⟩
      by_cases hg1 : 0 ≤ g
      · have hgf : ¬ g < f := by omega
        go_wp2_with fail
        refine (C2.out _ b5).mono ?_
        rintro e w6 ⟨rfl, b6⟩
        have b56 := b5.trans (b6.mono b5.size)
        go_wp2_with fail
        refine (C2.out _ b56).mono ?_
        rintro e w7 ⟨rfl, b7⟩
        have b67 := b56.trans (b7.mono b56.size)
        go_wp2
        go_meet
        exact ⟨by first | rfl | (simp; omega), b67⟩
      · have hg2 : g < 0 := by omega
        go_wp2_with fail
        refine (C2.out _ b5).mono ?_
        rintro e w6 ⟨rfl, b6⟩
        have b56 := b5.trans (b6.mono b5.size)
        go_wp2
        go_meet
        exact ⟨by first | rfl | (simp; omega), b56⟩
    · have hf1 : f < 0 := by omega
      go_wp2
      go_meet
      exact ⟨by first | rfl | (simp; omega), Below.refl _ _⟩
  case rest =>
    obtain ⟨rfl, bb⟩ := hcut
    obtain ⟨w5, rfl⟩ : ∃ x : World, x = wc := ⟨_, rfl⟩
    have h5 := h4.bl bb
    have bel5 := bl_to bel4 bb
    clear h4 bel4 bb
    go_upto_region 11 with (fail)
    go_cut [82] (fun s wx => s = .bool false ∧ Below w5.heap.size w5 wx)
    case first =>
      by_cases hf0 : 0 ≤ m
      · have hr := HB3.out hf0
        obtain ⟨r1, r2, r3, r4⟩ := hr
        have r5 : ¬ m < 1 := by omega
        have c1 := fun W (h : Below w5.heap.size w5 W) => fsI_any _ l m (b : Int) W (h5.bl h) hll
        rw [r3] at c1
        have C1 := Lib.hid c1
        have C2 := fun W (h : Below w5.heap.size w5 W) => Lib.hid (fsI_any _ l (m - 1) (b : Int) W (h5.bl h) hll)
        have C2 := Lib.hid C2
        have mw : IntKind.i64.wrap (m - 1) = m - 1 := IntWalk.i64_in _ (by omega)
        have hgl : -1 ≤ fsF l (m - 1) (b : Int) := (fsF_lo l (m - 1) (b : Int)).1
        have R4 := Lib.hid r4
        clear c1 r3 r4 HB1 HB2 HB3 HB4 HB5 HB6 h5
        by_cases h1 : 1 < m
        · have hg := R4.out h1
          have hg2 : ¬ fsF l (m - 1) (b : Int) < 0 := by omega
          go_wp2_with fail
          refine (C1.out _ (Below.refl _ _)).mono ?_
          rintro e w6 ⟨rfl, b6⟩
          go_wp2_with fail
          refine (C2.out _ b6).out.mono ?_
          rintro e w7 ⟨rfl, b7⟩
          have b67 := b6.trans (b7.mono b6.size)
          go_wp2
          go_meet
          exact ⟨by first | rfl | (simp; omega), b67⟩
        · have h1' : m ≤ 1 := by omega
          go_wp2_with fail
          refine (C1.out _ (Below.refl _ _)).mono ?_
          rintro e w6 ⟨rfl, b6⟩
          go_wp2
          go_meet
          exact ⟨by first | rfl | (simp; omega), b6⟩
      · have hf1 : m < 0 := by omega
        go_wp2
        go_meet
        exact ⟨by first | rfl | (simp; omega), Below.refl _ _⟩
    case rest =>
      obtain ⟨rfl, bb⟩ := hcut
      obtain ⟨w6, rfl⟩ : ∃ x : World, x = wc := ⟨_, rfl⟩
      have h6 := h5.bl bb
      have bel6 := bl_to bel5 bb
      clear h5 bel5 bb
      go_upto_region 13 with (fail)
      go_cut [103] (fun s wx => s = .bool false ∧ Below w6.heap.size w6 wx)
      case first =>
        by_cases hf0 : 0 ≤ q
        · have hr := HB4.out hf0
          obtain ⟨r2, r3, r4⟩ := hr
          have c1 := fun W (h : Below w6.heap.size w6 W) => fsI_any _ l (3 + (a : Int)) q W (h6.bl h) hll
          rw [r3] at c1
          have C1 := Lib.hid c1
          have C2 := fun W (h : Below w6.heap.size w6 W) => Lib.hid (fsI_any _ l (3 + (a : Int)) (q - 1) W (h6.bl h) hll)
          have C2 := Lib.hid C2
          have mw : IntKind.i64.wrap (q - 1) = q - 1 := IntWalk.i64_in _ (by omega)
          have hgl : -1 ≤ fsF l (3 + (a : Int)) (q - 1) := (fsF_lo l (3 + (a : Int)) (q - 1)).1
          have R4 := Lib.hid r4
          clear c1 r3 r4 HB1 HB2 HB3 HB4 HB5 HB6 h6
          by_cases h1 : 0 < q
          · have hg := R4.out h1
            have hg2 : ¬ fsF l (3 + (a : Int)) (q - 1) < 0 := by omega
            go_wp2_with fail
            refine (C1.out _ (Below.refl _ _)).mono ?_
            rintro e w6 ⟨rfl, b6⟩
            go_wp2_with fail
            refine (C2.out _ b6).out.mono ?_
            rintro e w7 ⟨rfl, b7⟩
            have b67 := b6.trans (b7.mono b6.size)
            go_wp2
            go_meet
            exact ⟨by first | rfl | (simp; omega), b67⟩
          · have h1' : q ≤ 0 := by omega
            go_wp2_with fail
            refine (C1.out _ (Below.refl _ _)).mono ?_
            rintro e w6 ⟨rfl, b6⟩
            go_wp2
            go_meet
            exact ⟨by first | rfl | (simp; omega), b6⟩
        · have hf1 : q < 0 := by omega
          go_wp2
          go_meet
          exact ⟨by first | rfl | (simp; omega), Below.refl _ _⟩
      case rest =>
        obtain ⟨rfl, bb⟩ := hcut
        obtain ⟨w7, rfl⟩ : ∃ x : World, x = wc := ⟨_, rfl⟩
        have h7 := h6.bl bb
        have bel7 := bl_to bel6 bb
        clear h6 bel6 bb
        go_upto_region 15 with (fail)
        go_cut [125] (fun s wx => s = .bool false ∧ wx = w7)
        case first =>
          by_cases hf0 : f < 0
          · have e5 := HB5.out.1 hf0
            have e6 := HB6.out.1 hf0
            obtain ⟨e1, e2⟩ := e5
            obtain ⟨e3, e4⟩ := e6
            go_wp2
            go_meet
            exact ⟨by first | rfl | (simp; omega), rfl⟩
          · have e5 : ¬ (0 ≤ q ∧ q ≤ (b : Int)) := fun h => hf0 (HB5.out.2 h)
            have e6 : ¬ (0 ≤ m ∧ m ≤ 3 + (a : Int)) := fun h => hf0 (HB6.out.2 h)
            have hf1 : 0 ≤ f := by omega
            by_cases g1 : 0 ≤ q
            · have g2 : (b : Int) < q := by omega
              by_cases g3 : 0 ≤ m
              · have g4 : 3 + (a : Int) < m := by omega
                clear e5 e6
                go_wp2
                go_meet
                exact ⟨by first | rfl | (simp; omega), rfl⟩
              · have g4 : m < 0 := by omega
                clear e5 e6
                go_wp2
                go_meet
                exact ⟨by first | rfl | (simp; omega), rfl⟩
            · have g2 : q < 0 := by omega
              by_cases g3 : 0 ≤ m
              · have g4 : 3 + (a : Int) < m := by omega
                clear e5 e6
                go_wp2
                go_meet
                exact ⟨by first | rfl | (simp; omega), rfl⟩
              · have g4 : m < 0 := by omega
                clear e5 e6
                go_wp2
                go_meet
                exact ⟨by first | rfl | (simp; omega), rfl⟩
        case rest =>
          obtain ⟨rfl, hw⟩ := hcut
          obtain ⟨w8, rfl⟩ : ∃ x : World, x = wc := ⟨_, rfl⟩
          subst hw
          clear HB1 HB2 HB3 HB4 HB5 HB6
          go_wp2_with fail
          refine (AT2.out _ bel7).out.mono ?_
          rintro e wq ⟨rfl, rfl⟩
          have w1 : IntKind.i64.wrap (3 + (a : Int) + 5) = 3 + (a : Int) + 5 := IntWalk.i64_in _ (by omega)
          have hair := airF_in (r := 3 + (a : Int)) (p := (b : Int)) (n := (n : Int)) (by omega) (by omega) (by omega) (by omega) (by omega) (by omega)
          have cair := fun W => airI_any 5 (3 + (a : Int) + 5) (b : Int) (n : Int) W
          rw [hair] at cair
          have CA := Lib.hid cair
          have hu : usedF l = 3 * (l.length : Int) := by simp [usedF, HO.out]
          have cu := usedI_any _ l w8 h7 hll
          rw [hu] at cu
          have cn : ∀ W, Hid (Calls Try.prog 26 #[.slice none 0 0, .int .i64 (3 + (a : Int)), .int .i64 (b : Int)] W fun e w' => e = .returned (.int .i64 (-1)) ∧ Below W.heap.size W w') := fun W => by
            have := fsI_any (.slice none 0 0) [] (3 + (a : Int)) (b : Int) W (Rd.nil _ _) (by simp)
            rw [fsF_empty rfl] at this
            exact this
          have CN := Lib.hid cn
          clear cn cair hair hu h7
          by_cases k1 : 3 + (a : Int) + 5 ≤ 5 + (b : Int)
          · by_cases k2 : 0 < 3 + (a : Int) + 5 - 3 * (n : Int)
            · go_wp2_with fail
              refine (CA.out _).mono ?_
              rintro e wq ⟨rfl, rfl⟩
              rw [show max 0 (min (5 + (b : Int)) (3 + (a : Int) + 5) - 3 * (n : Int)) = 3 + (a : Int) + 5 - 3 * (n : Int) by omega]
              go_wp2_with fail
              refine cu.mono ?_
              rintro e w9 ⟨rfl, b9⟩
              go_wp2_with fail
              refine (CN.out _).out.mono ?_
              rintro e w10 ⟨rfl, b10⟩
              go_wp2
              go_ret
              exact ⟨rfl, bl_to (bl_to bel7 b9) b10⟩
            · go_wp2_with fail
              refine (CA.out _).mono ?_
              rintro e wq ⟨rfl, rfl⟩
              rw [show max 0 (min (5 + (b : Int)) (3 + (a : Int) + 5) - 3 * (n : Int)) = 0 by omega]
              go_wp2_with fail
              refine cu.mono ?_
              rintro e w9 ⟨rfl, b9⟩
              go_wp2_with fail
              refine (CN.out _).out.mono ?_
              rintro e w10 ⟨rfl, b10⟩
              go_wp2
              go_ret
              exact ⟨rfl, bl_to (bl_to bel7 b9) b10⟩
          · by_cases k2 : 0 < 5 + (b : Int) - 3 * (n : Int)
            · go_wp2_with fail
              refine (CA.out _).mono ?_
              rintro e wq ⟨rfl, rfl⟩
              rw [show max 0 (min (5 + (b : Int)) (3 + (a : Int) + 5) - 3 * (n : Int)) = 5 + (b : Int) - 3 * (n : Int) by omega]
              go_wp2_with fail
              refine cu.mono ?_
              rintro e w9 ⟨rfl, b9⟩
              go_wp2_with fail
              refine (CN.out _).out.mono ?_
              rintro e w10 ⟨rfl, b10⟩
              go_wp2
              go_ret
              exact ⟨rfl, bl_to (bl_to bel7 b9) b10⟩
            · go_wp2_with fail
              refine (CA.out _).mono ?_
              rintro e wq ⟨rfl, rfl⟩
              rw [show max 0 (min (5 + (b : Int)) (3 + (a : Int) + 5) - 3 * (n : Int)) = 0 by omega]
              go_wp2_with fail
              refine cu.mono ?_
              rintro e w9 ⟨rfl, b9⟩
              go_wp2_with fail
              refine (CN.out _).out.mono ?_
              rintro e w10 ⟨rfl, b10⟩
              go_wp2
              go_ret
              exact ⟨rfl, bl_to (bl_to bel7 b9) b10⟩
end Go.Proofs.Ytbcmidencifcoaa
