/- SameTune of the reference; lengths up to 2^20. -/
import Derived.Test.YtighmoedkknkoaaTune
namespace Go.Proofs.Ytighmoedkknkoaa
open Go.RowKit

/-- note k of a lies to a's first as note k of b to b's first -/
def smB (a b : List (Int × Int)) (k : Nat) : Bool := decide ((gN a k).1 - (gN a 0).1 = (gN b k).1 - (gN b 0).1 ∧ (gN a k).2 - (gN a 0).2 = (gN b k).2 - (gN b 0).2)
/-- .. for the first k notes -/
def smN (a b : List (Int × Int)) : Nat → Bool
  | 0 => true
  | k + 1 => smN a b k && smB a b k
theorem smN_at {a b : List (Int × Int)} {n k : Nat} (h : smN a b n = true) (hk : k < n) : smB a b k = true := by
  induction n with
  | zero => omega
  | succ n ih =>
    rw [smN, Bool.and_eq_true] at h
    by_cases e : k = n
    · rw [e]; exact h.2
    · exact ih h.1 (by omega)
theorem smN_no {a b : List (Int × Int)} {n k : Nat} (hk : k < n) (h : smB a b k = false) : smN a b n = false := by
  cases ho : smN a b n with
  | false => rfl
  | true => rw [smN_at ho hk] at h; cases h
theorem smN_all {a b : List (Int × Int)} {n : Nat} (h : ∀ k, k < n → smB a b k = true) : smN a b n = true := by
  induction n with
  | zero => rfl
  | succ n ih => rw [smN, ih (fun k hk => h k (by omega)), h n (by omega)]; rfl
def sameB (a b : List (Int × Int)) : Bool := tuneB a && tuneB b && decide (a.length = b.length) && smN a b a.length
theorem smB_zero (a b : List (Int × Int)) : smB a b 0 = true := by simp [smB]
set_option maxHeartbeats 1600000 in
set_option maxRecDepth 100000 in
theorem sameS_any (va vb : Value) (a b : List (Int × Int)) (w : World) (ha : RdN w va a) (hb : RdN w vb b) (hla : a.length ≤ 1048576) (hlb : b.length ≤ 1048576) :
    Calls Try.prog 36 #[va, vb] w fun e w' => e = .returned (.bool (sameB a b)) ∧ Below w.heap.size w w' := by
  obtain ⟨Aa, ca, rfl, _, _⟩ := ha.form
  obtain ⟨Ab, cb, rfl, _, _⟩ := hb.form
  cases h1 : tuneB a
  · have hF : sameB a b = false := by simp [sameB, h1]
    rw [hF]
    go_enter Try.func36, Try.ntmps36
    have c1 := tuneS_ok _ a w ha hla
    rw [h1] at c1
    go_wp2_with fail
    refine c1.mono ?_
    rintro e w1 ⟨rfl, b1⟩
    go_wp2
    go_ret
    exact ⟨rfl, b1⟩
  cases h2 : tuneB b
  · have hF : sameB a b = false := by simp [sameB, h2]
    rw [hF]
    go_enter Try.func36, Try.ntmps36
    have c1 := tuneS_ok _ a w ha hla
    rw [h1] at c1
    go_wp2_with fail
    refine c1.mono ?_
    rintro e w1 ⟨rfl, b1⟩
    have c2 := tuneS_ok _ b w1 (hb.bl b1) hlb
    rw [h2] at c2
    go_wp2_with fail
    refine c2.mono ?_
    rintro e w2 ⟨rfl, b2⟩
    go_wp2
    go_ret
    exact ⟨rfl, bl_to b1 b2⟩
  have c1 := tuneS_ok _ a w ha hla
  rw [h1] at c1
  have c2 := fun W (h : RdN W (.slice Ab b.length cb) b) => tuneS_ok _ b W h hlb
  rw [h2] at c2
  by_cases he : a.length = b.length
  rotate_left
  · have hF : sameB a b = false := by simp [sameB, he]
    rw [hF]
    have hi : ¬ (a.length : Int) = (b.length : Int) := by omega
    have hd : ((a.length : Int) == (b.length : Int)) = false := by rw [beq_eq_false_iff_ne]; omega
    clear he
    go_enter Try.func36, Try.ntmps36
    go_wp2_with fail
    refine c1.mono ?_
    rintro e w1 ⟨rfl, b1⟩
    go_wp2_with fail
    refine (c2 _ (hb.bl b1)).mono ?_
    rintro e w2 ⟨rfl, b2⟩
    go_wp2
    go_ret
    exact ⟨rfl, bl_to b1 b2⟩
  have hF : sameB a b = smN a b a.length := by simp [sameB, h1, h2, he]
  rw [hF]
  have hi : (a.length : Int) = (b.length : Int) := by omega
  have hd : ((a.length : Int) == (b.length : Int)) = true := by rw [beq_iff_eq]; omega
  obtain ⟨ta, oa⟩ := tuneB_iff h1
  obtain ⟨tb, ob⟩ := tuneB_iff h2
  have HE := Lib.hid he
  clear he hF
  go_enter Try.func36, Try.ntmps36
  go_wp2_with fail
  refine c1.mono ?_
  rintro e w1 ⟨rfl, b1⟩
  go_wp2_with fail
  refine (c2 _ (hb.bl b1)).mono ?_
  rintro e w2 ⟨rfl, b2⟩
  have bel := bl_to b1 b2
  have ra := ha.bl bel
  have rb := hb.bl bel
  have HI := Lib.hid hi
  clear c1 c2 b1 b2 ha hb
  go_wp2
  clear hi hd
  go_loopw [5] (fun i wr => ∃ k nq : Nat, i = .int .i64 ((k : Int) + 1) ∧ smN a b (k + 1) = true ∧ (k + 1 ≤ a.length ∨ a.length = 0 ∧ k = 0) ∧ wr = w2.drewN nq) (fun i _ => a.length - (intOf i).toNat)
  case atStart => exact ⟨0, 0, rfl, by simp [smN, smB_zero], by omega, rfl⟩
  case round =>
    obtain ⟨k, nq, rfl, hs, hk, rfl⟩ := hrel
    have HS := Lib.hid hs
    clear hs
    by_cases hlt : k + 1 < a.length
    · have hlt' : (k : Int) + 1 < (a.length : Int) := by omega
      have hltb : k + 1 < b.length := by have := HE.out; omega
      have hltb' : (k : Int) + 1 < (b.length : Int) := by omega
      have k2 : (0 : Int) ≤ (k : Int) + 1 := by omega
      have k3 : ((k : Int) + 1).toNat = k + 1 := by omega
      have z1 : (0 : Int) < (a.length : Int) := by omega
      have z2 : (0 : Int) < (b.length : Int) := by omega
      obtain ⟨g, o, rfl, _, e0, e1⟩ := RdN.at_ ra hlt
      obtain ⟨g', o', hgo, _, e2, e3⟩ := RdN.at_ ra (k := 0) (by omega)
      obtain ⟨rfl, rfl⟩ : g = g' ∧ o = o' := by simpa using hgo
      obtain ⟨q, p, rfl, _, d0, d1⟩ := RdN.at_ rb hltb
      obtain ⟨q', p', hqp, _, d2, d3⟩ := RdN.at_ rb (k := 0) (by omega)
      obtain ⟨rfl, rfl⟩ : q = q' ∧ p = p' := by simpa using hqp
      have ba := okN_bd oa hlt
      have ba0 := okN_bd oa (k := 0) (by omega)
      have bb := okN_bd ob hltb
      have bb0 := okN_bd ob (k := 0) (by omega)
      have w1 : IntKind.i64.wrap ((gN a (k + 1)).1 - (gN a 0).1) = (gN a (k + 1)).1 - (gN a 0).1 := IntWalk.i64_in _ (by omega)
      have w2' : IntKind.i64.wrap ((gN a (k + 1)).2 - (gN a 0).2) = (gN a (k + 1)).2 - (gN a 0).2 := IntWalk.i64_in _ (by omega)
      have w3 : IntKind.i64.wrap ((gN b (k + 1)).1 - (gN b 0).1) = (gN b (k + 1)).1 - (gN b 0).1 := IntWalk.i64_in _ (by omega)
      have w4 : IntKind.i64.wrap ((gN b (k + 1)).2 - (gN b 0).2) = (gN b (k + 1)).2 - (gN b 0).2 := IntWalk.i64_in _ (by omega)
      rw [Nat.zero_mul, Nat.add_zero] at e2 e3 d2 d3
      have e0 : (w2.drewN nq).cell? ⟨g, o + (k + 1) * 2, none⟩ = _ := e0
      have e1 : (w2.drewN nq).cell? ⟨g, o + (k + 1) * 2 + 1, none⟩ = _ := e1
      have e2 : (w2.drewN nq).cell? ⟨g, o, none⟩ = _ := e2
      have e3 : (w2.drewN nq).cell? ⟨g, o + 1, none⟩ = _ := e3
      have d0 : (w2.drewN nq).cell? ⟨q, p + (k + 1) * 2, none⟩ = _ := d0
      have d1 : (w2.drewN nq).cell? ⟨q, p + (k + 1) * 2 + 1, none⟩ = _ := d1
      have d2 : (w2.drewN nq).cell? ⟨q, p, none⟩ = _ := d2
      have d3 : (w2.drewN nq).cell? ⟨q, p + 1, none⟩ = _ := d3
      have bel' := bl_drewN bel nq
      by_cases f1 : (gN a (k + 1)).1 - (gN a 0).1 = (gN b (k + 1)).1 - (gN b 0).1
      · by_cases f2 : (gN a (k + 1)).2 - (gN a 0).2 = (gN b (k + 1)).2 - (gN b 0).2
        · have hN : Hid (smN a b (k + 1 + 1) = true) := by show _ = _; rw [smN, HS.out, smB]; simp [f1, f2]
          clear ra rb hgo hqp ba ba0 bb bb0 bel
          generalize hwz : w2.drewN nq = wz at *
          have HWZ := Lib.hid hwz
          clear hwz
          have g1 : ((gN a (k + 1)).1 - (gN a 0).1 == (gN b (k + 1)).1 - (gN b 0).1) = true := by rw [beq_iff_eq]; exact f1
          have g2 : ((gN a (k + 1)).2 - (gN a 0).2 == (gN b (k + 1)).2 - (gN b 0).2) = true := by rw [beq_iff_eq]; exact f2
          go_wp2
          go_big_quiet (fail)
          go_wp2
          go_roundw
          case rel => exact ⟨k + 1, _, by go_num, hN.out, by omega, by rw [← HWZ.out, World.drewN_drewN]⟩
          case measure => simp [intOf]; omega
        · have hN : Hid (smN a b a.length = false) := smN_no hlt (by simp [smB, f2])
          clear ra rb hgo hqp ba ba0 bb bb0 bel
          generalize w2.drewN nq = wz at *
          go_wp2
          go_big_quiet (fail)
          go_wp2
          go_ret
          exact ⟨ret_bool hN.out.symm, bl_drewN bel' _⟩
      · have hN : Hid (smN a b a.length = false) := smN_no hlt (by simp [smB, f1])
        have g1 : ((gN a (k + 1)).1 - (gN a 0).1 == (gN b (k + 1)).1 - (gN b 0).1) = false := by rw [beq_eq_false_iff_ne]; exact f1
        have g2 : ((gN a (k + 1)).1 - (gN a 0).1 != (gN b (k + 1)).1 - (gN b 0).1) = true := by rw [bne_iff_ne]; exact f1
        have g3 : decide ((gN a (k + 1)).1 - (gN a 0).1 = (gN b (k + 1)).1 - (gN b 0).1) = false := by rw [decide_eq_false_iff_not]; exact f1
        clear ra rb hgo hqp ba ba0 bb bb0 bel
        generalize w2.drewN nq = wz at *
        go_wp2
        go_big_quiet (fail)
        go_wp2
        go_ret
        exact ⟨ret_bool hN.out.symm, bl_drewN bel' _⟩
    · have hlt' : ¬ (k : Int) + 1 < (a.length : Int) := by omega
      have hN : Hid (smN a b a.length = true) := smN_all fun j hj => smN_at HS.out (by omega)
      go_wp2
      go_ret
      exact ⟨ret_bool hN.out.symm, bl_drewN bel _⟩
end Go.Proofs.Ytighmoedkknkoaa
