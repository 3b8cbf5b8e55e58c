/- SameTune of the program, SameEntries of the program and of the reference return the same; sizes up to 2^20. -/
import Derived.Test.YtighmoedkknkoaaCatalog
import Derived.Test.YtighmoedkknkoaaPairs
import Derived.Test.YtighmoedkknkoaaSlEntry
import Derived.Test.YtighmoedkknkoaaCopyEntry
import Derived.Test.YtighmoedkknkoaaSame2
import Derived.Deep.DeepCutAuto
import Derived.Deep.RegionHeld3
namespace Go.Proofs.Ytighmoedkknkoaa
open Go.RowKit Go.Sort

set_option maxHeartbeats 1600000 in
set_option maxRecDepth 100000 in
theorem sameI_any (va vb : Value) (a b : List (Int × Int)) (w : World) (ha : RdN w va a) (hb : RdN w vb b) (hla : a.length ≤ 1048576) (hlb : b.length ≤ 1048576) :
    Calls Try.prog 49 #[va, vb] w fun e w' => e = .returned (.bool (sameB a b)) ∧ Below w.heap.size w w' := by
  obtain ⟨Aa, ca, rfl, _, _⟩ := ha.form
  obtain ⟨Ab, cb, rfl, _, _⟩ := hb.form
  cases h1 : tuneB a
  · have hF : sameB a b = false := by simp [sameB, h1]
    rw [hF]
    go_enter Try.func49, Try.ntmps49
    have c1 := tuneI_ok _ a w ha hla
    rw [h1] at c1
    go_wp2_with fail
    refine c1.mono ?_
    rintro e w1 ⟨rfl, b1⟩
    go_wp2
    go_ret
    exact ⟨rfl, b1⟩
  cases h2 : tuneB b
  · have hF : sameB a b = false := by simp [sameB, h2]
    rw [hF]
    go_enter Try.func49, Try.ntmps49
    have c1 := tuneI_ok _ a w ha hla
    rw [h1] at c1
    go_wp2_with fail
    refine c1.mono ?_
    rintro e w1 ⟨rfl, b1⟩
    have c2 := tuneI_ok _ b w1 (hb.bl b1) hlb
    rw [h2] at c2
    go_wp2_with fail
    refine c2.mono ?_
    rintro e w2 ⟨rfl, b2⟩
    go_wp2
    go_ret
    exact ⟨rfl, bl_to b1 b2⟩
  have c1 := tuneI_ok _ a w ha hla
  rw [h1] at c1
  have c2 := fun W (h : RdN W (.slice Ab b.length cb) b) => tuneI_ok _ b W h hlb
  rw [h2] at c2
  by_cases he : a.length = b.length
  rotate_left
  · have hF : sameB a b = false := by simp [sameB, he]
    rw [hF]
    have hi : ¬ (a.length : Int) = (b.length : Int) := by omega
    have hd : ((a.length : Int) == (b.length : Int)) = false := by rw [beq_eq_false_iff_ne]; omega
    clear he
    go_enter Try.func49, Try.ntmps49
    go_wp2_with fail
    refine c1.mono ?_
    rintro e w1 ⟨rfl, b1⟩
    go_wp2_with fail
    refine (c2 _ (hb.bl b1)).mono ?_
    rintro e w2 ⟨rfl, b2⟩
    go_wp2
    go_ret
    exact ⟨rfl, bl_to b1 b2⟩
  have hF : sameB a b = smN a b a.length := by simp [sameB, h1, h2, he]
  rw [hF]
  have hi : (a.length : Int) = (b.length : Int) := by omega
  have hd : ((a.length : Int) == (b.length : Int)) = true := by rw [beq_iff_eq]; omega
  obtain ⟨ta, oa⟩ := tuneB_iff h1
  obtain ⟨tb, ob⟩ := tuneB_iff h2
  have HE := Lib.hid he
  clear he hF
  go_enter Try.func49, Try.ntmps49
  go_wp2_with fail
  refine c1.mono ?_
  rintro e w1 ⟨rfl, b1⟩
  go_wp2_with fail
  refine (c2 _ (hb.bl b1)).mono ?_
  rintro e w2 ⟨rfl, b2⟩
  have bel := bl_to b1 b2
  have ra := ha.bl bel
  have rb := hb.bl bel
  clear c1 c2 b1 b2 ha hb
  go_wp2
  clear hi hd
  go_loopw [24] (fun i wr => ∃ k : Nat, k ≤ a.length ∧ i = .int .i64 k ∧ smN a b k = true ∧ Below w.heap.size w wr ∧ Below w2.heap.size w2 wr) (fun i _ => a.length - (intOf i).toNat)
  case atStart => exact ⟨0, Nat.zero_le _, rfl, rfl, bel, Below.refl _ _⟩
  case round =>
    obtain ⟨k, hk, rfl, hs, belr, bel2⟩ := hrel
    have HS := Lib.hid hs
    clear hs bel
    by_cases hlt : k < a.length
    · have hlt' : (k : Int) < (a.length : Int) := by omega
      have hltb : k < b.length := by have := HE.out; omega
      have hltb' : (k : Int) < (b.length : Int) := by omega
      have z1 : (0 : Int) < (a.length : Int) := by omega
      have z2 : (0 : Int) < (b.length : Int) := by omega
      have k2 : (0 : Int) ≤ (k : Int) := by omega
      obtain ⟨g, o, rfl, hg, e0, e1⟩ := RdN.at_ (ra.bl bel2) hlt
      obtain ⟨g', o', hgo, _, e2, e3⟩ := RdN.at_ (ra.bl bel2) (k := 0) (by omega)
      obtain ⟨rfl, rfl⟩ : g = g' ∧ o = o' := by simpa using hgo
      obtain ⟨q, p, rfl, hq, d0, d1⟩ := RdN.at_ (rb.bl bel2) hltb
      obtain ⟨q', p', hqp, _, d2, d3⟩ := RdN.at_ (rb.bl bel2) (k := 0) (by omega)
      obtain ⟨rfl, rfl⟩ : q = q' ∧ p = p' := by simpa using hqp
      have ba := okN_bd oa hlt
      have ba0 := okN_bd oa (k := 0) (by omega)
      have bb := okN_bd ob hltb
      have bb0 := okN_bd ob (k := 0) (by omega)
      rw [Nat.zero_mul, Nat.add_zero] at e2 e3 d2 d3
      have bal := bl_alloc (Below.refl _ wr) (.cells #[.int .i64 (gN a k).1, .int .i64 (gN a k).2] 73)
      have x0 : (wr.alloc (.cells #[.int .i64 (gN a k).1, .int .i64 (gN a k).2] 73)).cell? ⟨wr.heap.size, 0, none⟩ = some (.int .i64 (gN a k).1) := by simp [go_sem]
      have x1 : (wr.alloc (.cells #[.int .i64 (gN a k).1, .int .i64 (gN a k).2] 73)).cell? ⟨wr.heap.size, 1, none⟩ = some (.int .i64 (gN a k).2) := by simp [go_sem]
      have y2 := (bal.cell (p := ⟨g, o, none⟩) hg).trans e2
      have y3 := (bal.cell (p := ⟨g, o + 1, none⟩) hg).trans e3
      have v0 := (bal.cell (p := ⟨q, p + k * 2, none⟩) hq).trans d0
      have v1 := (bal.cell (p := ⟨q, p + k * 2 + 1, none⟩) hq).trans d1
      have v2 := (bal.cell (p := ⟨q, p, none⟩) hq).trans d2
      have v3 := (bal.cell (p := ⟨q, p + 1, none⟩) hq).trans d3
      have belA := bl_to belr bal
      have belB := bl_to bel2 bal
      go_upto_region 6 with (fail)
      clear hgo hqp e0 e1 e2 e3 d0 d1 d2 d3 ra rb bal belr bel2 hg hq
      generalize wr.alloc (.cells #[.int .i64 (gN a k).1, .int .i64 (gN a k).2] 73) = w3 at *
      generalize wr.heap.size = B at *
      have w1 : IntKind.i64.wrap ((gN b k).1 - (gN a k).1) = (gN b k).1 - (gN a k).1 := IntWalk.i64_in _ (by omega)
      have w2' : IntKind.i64.wrap ((gN b k).2 - (gN a k).2) = (gN b k).2 - (gN a k).2 := IntWalk.i64_in _ (by omega)
      have w3' : IntKind.i64.wrap ((gN b 0).1 - (gN a 0).1) = (gN b 0).1 - (gN a 0).1 := IntWalk.i64_in _ (by omega)
      have w4 : IntKind.i64.wrap ((gN b 0).2 - (gN a 0).2) = (gN b 0).2 - (gN a 0).2 := IntWalk.i64_in _ (by omega)
      by_cases f1 : (gN b k).1 - (gN a k).1 = (gN b 0).1 - (gN a 0).1
      · by_cases f2 : (gN b k).2 - (gN a k).2 = (gN b 0).2 - (gN a 0).2
        · have hN : Hid (smN a b (k + 1) = true) := by show _ = _; rw [smN, HS.out, smB]; simp; omega
          have g1 : ((gN b k).1 - (gN a k).1 == (gN b 0).1 - (gN a 0).1) = true := by rw [beq_iff_eq]; exact f1
          have g2 : ((gN b k).2 - (gN a k).2 == (gN b 0).2 - (gN a 0).2) = true := by rw [beq_iff_eq]; exact f2
          clear ba ba0 bb bb0
          go_big_quiet (fail)
          go_wp2
          go_roundw
          case rel => exact ⟨k + 1, by omega, by go_num, hN.out, bl_drewN belA _, bl_drewN belB _⟩
          case measure => simp [intOf]; omega
        · have hN : Hid (smN a b a.length = false) := smN_no hlt (by simp [smB]; omega)
          have g1 : ((gN b k).1 - (gN a k).1 == (gN b 0).1 - (gN a 0).1) = true := by rw [beq_iff_eq]; exact f1
          clear ba ba0 bb bb0
          go_big_quiet (fail)
          go_wp2
          go_ret
          exact ⟨ret_bool hN.out.symm, bl_drewN belA _⟩
      · have hN : Hid (smN a b a.length = false) := smN_no hlt (by simp [smB]; omega)
        have g1 : ((gN b k).1 - (gN a k).1 == (gN b 0).1 - (gN a 0).1) = false := by rw [beq_eq_false_iff_ne]; exact f1
        have g2 : ((gN b k).1 - (gN a k).1 != (gN b 0).1 - (gN a 0).1) = true := by rw [bne_iff_ne]; exact f1
        have g3 : decide ((gN b k).1 - (gN a k).1 = (gN b 0).1 - (gN a 0).1) = false := by rw [decide_eq_false_iff_not]; exact f1
        clear ba ba0 bb bb0
        go_big_quiet (fail)
        go_wp2
        go_ret
        exact ⟨ret_bool hN.out.symm, bl_drewN belA _⟩
    · obtain rfl : k = a.length := by omega
      have hlb2 : ¬ (a.length : Int) < (b.length : Int) := by have := HE.out; omega
      have hld2 : decide (a.length < b.length) = false := by have := HE.out; simp; omega
      go_wp2
      go_ret
      exact ⟨ret_bool HS.out.symm, belr⟩

/-- the pairs of entry i, with those ahead of j -/
def rowP (l : List En) (i : Nat) : Nat → List Pr
  | 0 => []
  | j + 1 => rowP l i j ++ if decide (i < j) && sameB (gE l i).2 (gE l j).2 then [((gE l i).1, (gE l j).1)] else []
/-- the pairs of the first i entries -/
def allP (l : List En) : Nat → List Pr
  | 0 => []
  | i + 1 => allP l i ++ rowP l i l.length
def sameF (l : List En) : List Pr := if catB l then allP l l.length else []
theorem rowP_len (l : List En) (i j : Nat) : (rowP l i j).length ≤ j := by
  induction j with
  | zero => simp [rowP]
  | succ j ih => rw [rowP, List.length_append]; split <;> simp <;> omega
theorem allP_len (l : List En) (i : Nat) : (allP l i).length ≤ i * l.length := by
  induction i with
  | zero => simp [allP]
  | succ i ih => rw [allP, List.length_append, Nat.succ_mul]; have := rowP_len l i l.length; omega
theorem rowP_none (l : List En) (i j : Nat) (h : j ≤ i + 1) : rowP l i j = [] := by
  induction j with
  | zero => rfl
  | succ j ih => rw [rowP, ih (by omega), show decide (i < j) = false by simp; omega]; rfl
theorem catB_len {l : List En} (h : catB l = true) : l.length ≤ 20 := (by simpa [catB] using h : _ ∧ _).1
theorem sameF_len (l : List En) : (sameF l).length ≤ 400 := by
  unfold sameF
  cases h : catB l with
  | false => simp
  | true =>
    have h1 := allP_len l l.length
    have h2 := catB_len h
    have : l.length * l.length ≤ 20 * 20 := Nat.mul_le_mul h2 h2
    simp only [if_true]
    omega
theorem allP_le {l : List En} (h : l.length ≤ 20) {i : Nat} (hi : i ≤ l.length) : (allP l i).length ≤ 400 := by
  have h1 := allP_len l i
  have : i * l.length ≤ 20 * 20 := Nat.mul_le_mul (by omega) h
  omega
/-- new pairs -/
def NewP (ps : List Pr) (w : World) (en : Ending) (w' : World) : Prop :=
  ∃ A c, en = .returned (.slice A ps.length c) ∧ OwnP w.heap.size w'.heap.size w' (.slice A ps.length c) ps ∧ Below w.heap.size w w'
theorem OwnP.nil (lo hi : Nat) (w : World) : OwnP lo hi w (.slice none 0 0) [] :=
  ⟨0, [], ⟨World.ownsRow_nil _ _ _ _, rfl, fun k h => by simp at h, fun k h => by simp at h, fun b e => by simp [Value.ownBlock] at e, fun i j h => by simp at h⟩⟩
theorem OwnP.new0 {lo : Nat} {w : World} (h : lo ≤ w.heap.size) : OwnP lo (w.heap.size + 1) (w.alloc (.cells #[] 64)) (.slice (some ⟨w.heap.size, 0, none⟩) 0 0) [] :=
  ⟨w.heap.size, [], ⟨own_new0 h rfl, rfl, fun k h => by simp at h, fun k h => by simp at h, fun b e => by simp [Value.ownBlock] at e; omega, fun i j h => by simp at h⟩⟩
/-- the pair's own row, and the block that names it -/
theorem own_pair {lo : Nat} {w : World} (h : lo ≤ w.heap.size) (x y : ByteArray) : (w.alloc (.cells #[.string x, .string y] 9)).ownsRow lo 9 1 (.slice (some ⟨w.heap.size, 0, none⟩) 2 2) 2 (cS [x, y]) :=
  World.ownsRow_lit w #[.string x, .string y] 2 h (by unfold maxLen; omega) rfl

/-- pairs that the last j add -/
theorem rowP_hit {l : List En} {i j : Nat} (hij : i < j) (h : sameB (gE l i).2 (gE l j).2 = true) : rowP l i (j + 1) = rowP l i j ++ [((gE l i).1, (gE l j).1)] := by rw [rowP, h]; simp [hij]
theorem rowP_miss {l : List En} {i j : Nat} (h : sameB (gE l i).2 (gE l j).2 = false) : rowP l i (j + 1) = rowP l i j := by rw [rowP, h]; simp

set_option maxHeartbeats 6400000 in
set_option maxRecDepth 100000 in
theorem samesS_any (v : Value) (l : List En) (w : World) (h1 : RdE w v l) (hl : l.length + szE l ≤ 1048576) :
    Calls Try.prog 26 #[v] w (NewP (sameF l) w) := by
  obtain ⟨A1, c1, rfl, _, hm⟩ := h1.form
  unfold maxLen at hm
  have cc := fun W h => catalogS_ok (.slice A1 l.length c1) l W h (by omega)
  have n0 := OwnP.new0 (w := w) (Nat.le_refl _)
  have b0 := bl_alloc (Below.refl _ w) (.cells #[] 64)
  obtain ⟨F, hF⟩ : ∃ F, sameF l = F := ⟨_, rfl⟩
  rw [hF]
  cases hc : catB l
  · have hf : F = [] := by rw [← hF, sameF, hc]; rfl
    rw [hc] at cc
    have CC := Lib.hid cc
    subst hf
    clear cc hc hF
    by_cases h0 : 0 < l.length
    · have h0' : (0 : Int) < (l.length : Int) := by omega
      have h0d : decide (0 < l.length) = true := by simpa using h0
      go_enter Try.func26, Try.ntmps26
      go_wp2
      go_loopw [3, 4] (fun q i wr => q = .slice (some ⟨w.heap.size, 0, none⟩) 0 0 ∧ i = .int .i64 0 ∧ wr = w.alloc (.cells #[] 64)) (fun _ i _ => 0)
      case atStart => exact ⟨rfl, rfl, rfl⟩
      case round =>
        obtain ⟨rfl, rfl, rfl⟩ := hrel
        go_wp2_with (go_at_call 10; refine (CC.out _ (h1.bl b0)).mono ?_; rintro e w1 ⟨rfl, b1⟩)
        go_ret
        exact ⟨_, _, rfl, (n0.bl b1).hig (Nat.le_refl _), bl_to b0 b1⟩
    · have h0' : ¬ (0 : Int) < (l.length : Int) := by omega
      have h0d : decide (0 < l.length) = false := by simpa using h0
      go_enter Try.func26, Try.ntmps26
      go_wp2
      go_loopw [3, 4] (fun q i wr => q = .slice (some ⟨w.heap.size, 0, none⟩) 0 0 ∧ i = .int .i64 0 ∧ wr = w.alloc (.cells #[] 64)) (fun _ i _ => 0)
      case atStart => exact ⟨rfl, rfl, rfl⟩
      case round =>
        obtain ⟨rfl, rfl, rfl⟩ := hrel
        go_wp2
        go_ret
        exact ⟨_, _, rfl, n0.hig (by simp), b0⟩
  have h20 := catB_len hc
  have HFF : Hid (allP l l.length = F) := by show _ = _; rw [← hF, sameF, hc]; rfl
  rw [hc] at cc
  have CC := Lib.hid cc
  clear cc hc hF
  go_enter Try.func26, Try.ntmps26
  go_wp2
  go_loopw [3, 4] (fun q i wr => ∃ k : Nat, k ≤ l.length ∧ i = .int .i64 k ∧ OwnP w.heap.size wr.heap.size wr q (allP l k) ∧ Below w.heap.size w wr) (fun _ i _ => l.length - (intOf i).toNat)
  case atStart => exact ⟨0, Nat.zero_le _, rfl, n0.hig (by simp), b0⟩
  case round =>
    clear n0 b0
    obtain ⟨i, hi, rfl, ow, bel⟩ := hrel
    obtain ⟨P, hP⟩ : ∃ P, allP l i = P := ⟨_, rfl⟩
    have hPl := allP_le h20 hi
    rw [hP] at ow hPl
    obtain ⟨A3, c3, hq3⟩ := ow.form
    subst hq3
    by_cases hlt : i < l.length
    · have hlt' : (i : Int) < (l.length : Int) := by omega
      have hld : decide (i < l.length) = true := by simpa using hlt
      have HP := Lib.hid hP
      clear hP
      go_wp2_with (go_at_call 10; refine (CC.out _ (h1.bl bel)).mono ?_; rintro e w1 ⟨rfl, b1⟩)
      have ow1 := (ow.bl b1).hig (Nat.le_refl _)
      have bel1 := bl_to bel b1
      clear ow bel b1
      go_loopw [3, 5] (fun q j wr => ∃ k : Nat, k ≤ l.length ∧ i + 1 ≤ k ∧ j = .int .i64 k ∧ OwnP w.heap.size wr.heap.size wr q (P ++ rowP l i k) ∧ Below w.heap.size w wr) (fun _ j _ => l.length - (intOf j).toNat)
      case atStart => exact ⟨i + 1, by omega, Nat.le_refl _, by go_num, by rw [rowP_none l i _ (Nat.le_refl _), List.append_nil]; exact ow1, bel1⟩
      case round =>
        clear ow1 bel1
        obtain ⟨k, hk, hik, rfl, ow, bel⟩ := hrel
        obtain ⟨R, hR⟩ : ∃ R, P ++ rowP l i k = R := ⟨_, rfl⟩
        have hRl : R.length ≤ 500 := by rw [← hR, List.length_append]; have := rowP_len l i k; omega
        rw [hR] at ow
        obtain ⟨A4, c4, hq4⟩ := ow.form
        subst hq4
        by_cases hlk : k < l.length
        · have hlk' : (k : Int) < (l.length : Int) := by omega
          have i0 : (0 : Int) ≤ (i : Int) := by omega
          have k0 : (0 : Int) ≤ (k : Int) := by omega
          obtain ⟨b, o, v1, rfl, hb, e0, e1, r1⟩ := RdE.at_ h1 hlt
          obtain ⟨b', o', v2, hbo, _, d0, d1, r2⟩ := RdE.at_ h1 hlk
          obtain ⟨rfl, rfl⟩ : b = b' ∧ o = o' := by simpa using hbo
          replace e0 := (bel.cell (p := ⟨b, o + i * 2, none⟩) hb).trans e0
          replace e1 := (bel.cell (p := ⟨b, o + i * 2 + 1, none⟩) hb).trans e1
          replace d0 := (bel.cell (p := ⟨b, o + k * 2, none⟩) hb).trans d0
          replace d1 := (bel.cell (p := ⟨b, o + k * 2 + 1, none⟩) hb).trans d1
          replace r1 := r1.bl bel
          replace r2 := r2.bl bel
          have hbr : b < wr.heap.size := Nat.lt_of_lt_of_le hb bel.size
          have a1 := szE_at hlt
          have a2 := szE_at hlk
          have cs := fun W h h2 => sameS_any v1 v2 (gE l i).2 (gE l k).2 W h h2 (by omega) (by omega)
          have g0 := cell_regrown e1
          have g1 := cell_regrown d1
          cases hs : sameB (gE l i).2 (gE l k).2
          · rw [hs] at cs
            have CS := Lib.hid cs
            have HR : Hid (P ++ rowP l i (k + 1) = R) := by show _ = _; rw [rowP_miss hs, hR]
            clear cs hs hbo hR e0 e1 d0 d1 hb
            go_wp2
            (refine wp_region_quiet_below (by kernel_rfl) (by kernel_rfl) ?_; (repeat (first | go_big_quiet_skip | (go_big_quiet_want; go_big_quiet_op; (first | go_big_quiet_on | (apply Exists.intro; refine ⟨fun _ => ?_, ?_⟩; (focus (first | (go_at_call 36; exact Calls.regrown_of (CS.out _ (r1.bl (below_regrown _ _ _)) (r2.bl (below_regrown _ _ _)))) | fail)); go_big_quiet_on))))); refine wpQuiet_nil ?_; (intro wq hwq; have bq := rg_below hwq; clear hwq))
            have owq := (ow.bl bq).hig (Nat.le_refl _)
            have belq := bl_to bel bq
            clear ow bel bq g0 g1 r1 r2
            go_wp2
            go_roundw
            case rel => exact ⟨k + 1, by omega, by omega, by go_num, by rw [HR.out]; exact owq, belq⟩
            case measure => simp [intOf]; omega
          · rw [hs] at cs
            have CS := Lib.hid cs
            obtain ⟨x, hx⟩ : ∃ x, (gE l i).1 = x := ⟨_, rfl⟩
            obtain ⟨y, hy⟩ : ∃ y, (gE l k).1 = y := ⟨_, rfl⟩
            obtain ⟨R2, hR2⟩ : ∃ R2, R ++ [(x, y)] = R2 := ⟨_, rfl⟩
            have HR : Hid (P ++ rowP l i (k + 1) = R2) := by show _ = _; rw [rowP_hit (by omega) hs, ← List.append_assoc, hR, hx, hy, hR2]
            have HR2 := Lib.hid hR2
            rw [hx] at e0
            rw [hy] at d0
            clear cs hs hbo hR hR2 hx hy a1 a2
            go_wp2
            (refine wp_region_quiet_below (by kernel_rfl) (by kernel_rfl) ?_; (repeat (first | go_big_quiet_skip | (go_big_quiet_want; go_big_quiet_op; (first | go_big_quiet_on | (apply Exists.intro; refine ⟨fun _ => ?_, ?_⟩; (focus (first | (go_at_call 36; exact Calls.regrown_of (CS.out _ (r1.bl (below_regrown _ _ _)) (r2.bl (below_regrown _ _ _)))) | fail)); go_big_quiet_on))))); refine wpQuiet_nil ?_; (intro wq hwq; have bq := rg_below hwq; clear hwq))
            have owq := (ow.bl bq).hig (hi' := wq.heap.size) (Nat.le_refl _)
            have belq := bl_to bel bq
            have f0 := (bq.cell (p := ⟨b, o + i * 2, none⟩) hbr).trans e0
            have f1 := (bq.cell (p := ⟨b, o + k * 2, none⟩) hbr).trans d0
            have hbq : b < wq.heap.size := Nat.lt_of_lt_of_le hbr bq.size
            have szq := belq.size
            clear ow bel bq g0 g1 r1 r2 e0 e1 d0 d1
            go_upto_region 9 with (fail)
            go_region_held3 (fun w' => w'.cell? ⟨b, o + i * 2, none⟩ = some (.string x) ∧ w'.cell? ⟨b, o + k * 2, none⟩ = some (.string y))
              (first | exact ⟨u0, u1⟩ | go_keep)
              (first | (refine step_is_append (.tmp 36) (.tmp 48) _ rfl ?_; refine step_app_P _ (by rfl) _ _ (by rfl) w.heap.size wq.heap.size _ R (by rfl) (owq.bl (by (repeat' (first | (with_reducible exact Below.refl _ _) | (with_reducible refine bl_alloc ?_ _) | (with_reducible refine bl_drewN ?_ _) | (with_reducible refine bl_drew ?_) | (with_reducible assumption) | (with_reducible refine bl_to ?_ (by assumption)) | (with_reducible refine Below.trans ?_ (by assumption)) | (with_reducible refine Below.trans ?_ (Below.mono (by assumption) ?_)) | (with_reducible refine bl_set ?_ ?_ _) | (simp; done) | (simp; omega) | omega)))) (wq.heap.size + 1) wq.heap.size (x, y) (by rfl) (by simp [go_sem]) (by first | exact (own_pair (w := wq.drew) szq x y).alloc _ | exact (own_pair (w := wq) szq x y).alloc _) (Nat.le_refl _) szq (by omega) (by first | exact szq | (simp; omega)) R2 HR2.out ?_; intro A5 c5 w5 o5 p5 _ _; have u0 := (p5.cell (B := b) (by simp; omega) (.inl hb) (o + i * 2)).trans ((show Below wq.heap.size wq _ by (repeat' (first | (with_reducible exact Below.refl _ _) | (with_reducible refine bl_alloc ?_ _) | (with_reducible refine bl_drewN ?_ _) | (with_reducible refine bl_drew ?_) | (with_reducible assumption) | (with_reducible refine bl_to ?_ (by assumption)) | (with_reducible refine Below.trans ?_ (by assumption)) | (with_reducible refine Below.trans ?_ (Below.mono (by assumption) ?_)) | (with_reducible refine bl_set ?_ ?_ _) | (simp; done) | (simp; omega) | omega))).cell (p := ⟨b, o + i * 2, none⟩) hbq |>.trans f0); have u1 := (p5.cell (B := b) (by simp; omega) (.inl hb) (o + k * 2)).trans ((show Below wq.heap.size wq _ by (repeat' (first | (with_reducible exact Below.refl _ _) | (with_reducible refine bl_alloc ?_ _) | (with_reducible refine bl_drewN ?_ _) | (with_reducible refine bl_drew ?_) | (with_reducible assumption) | (with_reducible refine bl_to ?_ (by assumption)) | (with_reducible refine Below.trans ?_ (by assumption)) | (with_reducible refine Below.trans ?_ (Below.mono (by assumption) ?_)) | (with_reducible refine bl_set ?_ ?_ _) | (simp; done) | (simp; omega) | omega))).cell (p := ⟨b, o + k * 2, none⟩) hbq |>.trans f1)))
            all_goals
              have bel5 : Below w.heap.size w w5 := bl_apart (w := w) (by (repeat' (first | (with_reducible exact Below.refl _ _) | (with_reducible refine bl_alloc ?_ _) | (with_reducible refine bl_drewN ?_ _) | (with_reducible refine bl_drew ?_) | (with_reducible assumption) | (with_reducible refine bl_to ?_ (by assumption)) | (with_reducible refine Below.trans ?_ (by assumption)) | (with_reducible refine Below.trans ?_ (Below.mono (by assumption) ?_)) | (with_reducible refine bl_set ?_ ?_ _) | (simp; done) | (simp; omega) | omega))) p5 (Nat.le_refl _)
              go_wp2
              go_roundw
              case rel => exact ⟨k + 1, by omega, by omega, by go_num, by rw [HR.out]; exact o5, bel5⟩
              case measure => simp [intOf]; omega
        · obtain rfl : k = l.length := by omega
          have hlk' : ¬ (l.length : Int) < (l.length : Int) := by omega
          have HR : Hid (allP l (i + 1) = R) := by show _ = _; rw [allP, HP.out, hR]
          clear hR
          go_wp2
          go_roundw
          case rel => exact ⟨i + 1, by omega, by go_num, by rw [HR.out]; exact ow, bel⟩
          case measure => simp [intOf]; omega
    · obtain rfl : i = l.length := by omega
      have hlt' : ¬ (l.length : Int) < (l.length : Int) := by omega
      have hld : decide (l.length < l.length) = false := by simp
      rw [HFF.out] at hP
      subst hP
      go_wp2
      go_ret
      exact ⟨_, _, rfl, ow, bel⟩
end Go.Proofs.Ytighmoedkknkoaa
