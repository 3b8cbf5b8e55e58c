/- FnWears: the law returns true at every input; no condition. -/
import Derived.Test.YtoijjjaodfincaaDrawWear2
import Derived.Test.YtoijjjaodfincaaSame
import Derived.Deep.DeepCutAuto
namespace Go.Proofs.Ytoijjjaodfincaa
open Go.RowKit

/-- block B holds a wear: heights l (in the slice v), worn n -/
structure WB (B : Nat) (W : World) (v : Value) (l : List Int) (n : Int) : Prop where
  c0 : W.cell? ⟨B, 0, none⟩ = some v
  c1 : W.cell? ⟨B, 1, none⟩ = some (.int .i64 n)
  lt : B < W.heap.size
  rd : RdI W v l
theorem WB.bl {B : Nat} {W W' : World} {v : Value} {l : List Int} {n : Int} (h : WB B W v l n) (b : Below W.heap.size W W') : WB B W' v l n :=
  ⟨(b.cell (p := ⟨B, 0, none⟩) h.lt).trans h.c0, (b.cell (p := ⟨B, 1, none⟩) h.lt).trans h.c1, Nat.lt_of_lt_of_le h.lt b.size, h.rd.bl b⟩
theorem WB.new {W : World} {v : Value} {l : List Int} {n : Int} (h : RdI W v l) : WB W.heap.size (W.alloc (.cells #[v, .int .i64 n] 41)) v l n :=
  ⟨by simp [go_sem], by simp [go_sem], by simp, h.bl (bl_alloc (Below.refl _ _) _)⟩
theorem field_wear (A : Option Addr) (m c : Nat) (n : Int) (W : World) : (Instr.field 41 (.agg #[.slice A m c, .int .i64 n]) 0).run Try.prog W = .ok (.slice A m c) W := by kernel_rfl
/-- the pins of the law -/
def pinsW : Nat → List (Int × Int)
  | 0 => []
  | k + 1 => pinsW k ++ [(0, (k : Int))]
theorem pinsW_len (k : Nat) : (pinsW k).length = k := by
  induction k with
  | zero => rfl
  | succ k ih => rw [pinsW, List.length_append, ih]; rfl
theorem pinsW_get {n k : Nat} (h : k < n) : gP (pinsW n) k = (0, (k : Int)) := by
  induction n with
  | zero => omega
  | succ n ih =>
    by_cases e : k = n
    · subst e
      simp [pinsW, gP, pinsW_len]
    · have := ih (by omega)
      unfold gP at *
      rw [pinsW, List.getD_eq_getElem?_getD, List.getElem?_append_left (by rw [pinsW_len]; omega), ← List.getD_eq_getElem?_getD]
      exact this
theorem pinsW_ok {n : Nat} (h : n ≤ 7) : cylB 10 1 (pinsW n) = true := by
  simp only [cylB, Bool.and_eq_true, decide_eq_true_eq]
  refine ⟨⟨⟨inB_yes (by omega) (by omega), inB_yes (by omega) (by omega)⟩, by rw [pinsW_len]; omega⟩, okP_all fun k hk => ?_⟩
  rw [pinsW_len] at hk
  simp only [spB, Bool.and_eq_true, Bool.or_eq_true, decide_eq_true_eq, pinsW_get hk, pinB_iff]
  refine ⟨by omega, ?_⟩
  by_cases h0 : k = 0
  · exact .inl h0
  · refine .inr ?_
    rw [pinsW_get (show k - 1 < n by omega)]
    simp only [ltP, decide_eq_true_eq]
    omega
set_option maxHeartbeats 12800000 in
set_option maxRecDepth 100000 in
theorem wears_law (v : Value) (L : List Int) (w : World) (h0 : RdB w v L) (hb : ∀ x ∈ L, 0 ≤ x ∧ x ≤ 255) : Calls Try.prog 11 #[v] w fun e w' => e = .returned (.bool true) ∧ Below w.heap.size w w' := by
  by_cases hl : L.length ≤ 1048576
  rotate_left
  · have hbig : decide ((1048576 : Int) < (L.length : Int)) = true := by rw [decide_eq_true_eq]; omega
    go_enter Try.func11, Try.ntmps11
    go_wp2_with fail
    refine (bigB_any v L _ h0).mono ?_
    rintro e wq ⟨rfl, rfl⟩
    rw [hbig]
    go_wp2
    go_ret
    exact ⟨rfl, Below.refl _ _⟩
  have hbig : decide ((1048576 : Int) < (L.length : Int)) = false := by rw [decide_eq_false_iff_not]; omega
  obtain ⟨x0, y0⟩ := atF_bd hb 0
  obtain ⟨a, ha, a9⟩ : ∃ a : Nat, (atF L 0).tmod 40 = (a : Int) ∧ (a : Int) < 40 := by
    obtain ⟨a, ha⟩ := Int.eq_ofNat_of_zero_le (Int.emod_nonneg (atF L 0) (show (40 : Int) ≠ 0 by omega))
    have := Int.emod_lt_of_pos (atF L 0) (show (0 : Int) < 40 by omega)
    exact ⟨a, by rw [Int.tmod_eq_emod_of_nonneg x0]; exact ha, by omega⟩
  have at0 : ∀ W, Below w.heap.size w W → Hid (Calls Try.prog 48 #[v, .int .i64 0] W fun e w' => e = .returned (.int .i64 (atF L 0)) ∧ W = w') := fun W hW => at_det v L 0 W (h0.bl hW) hl hb (by omega) (by omega)
  generalize atF L 0 = z0 at *
  have AT0 := Lib.hid at0
  clear at0
  go_enter Try.func11, Try.ntmps11
  go_wp2_with fail
  refine (bigB_any v L _ h0).mono ?_
  rintro e wq ⟨rfl, rfl⟩
  rw [hbig]
  go_wp2_with fail
  refine (drawWear_any v L _ h0 hl).mono ?_
  rintro e w1 ⟨n, l, A, c, rfl, ⟨l0, l7⟩, ⟨n1, n6⟩, hd, ow, b1⟩
  have hll : l.length ≤ 1048576 := by omega
  have bx := WB.new (n := n) (Rd.of_own ow : RdI w1 (.slice A l.length c) l)
  have bel := bl_alloc b1 (.cells #[.slice A l.length c, .int .i64 n] 41)
  obtain ⟨B, hB⟩ : ∃ B, B = w1.heap.size := ⟨_, rfl⟩
  have HW : Hid (WearL n (1 + (a : Int)) l) := wear_law n1 n6 (by omega) (by omega) l7 l0 hd
  have HD := Lib.hid hd
  clear ow b1 hd h0
  go_wp2_with fail
  refine (AT0.out _ bel).out.mono ?_
  rintro e wq ⟨rfl, rfl⟩
  clear AT0
  obtain ⟨ok, e1, tb, e2, e3, e4, e5, e6, e7⟩ := HW.out
  have hS : (silF n l (1 + (a : Int))).length ≤ l.length := silF_len _ _ _
  have wos : (wosN (pinsW l.length) l (1 + (a : Int)) l.length).length + (silF n l (1 + (a : Int))).length = l.length := by
    rw [show silF n l (1 + (a : Int)) = silN l (1 + (a : Int)) l.length by simp [silF, ok, inB_yes (show (0 : Int) ≤ 1 + (a : Int) by omega) (show 1 + (a : Int) ≤ 1000 by omega)]]
    exact wos_sil _ _ _ _
  have ct := turnsI_any n _ l (1 + (a : Int)) _ bx.rd hll
  obtain ⟨t, ht⟩ : ∃ t, turnsF n l (1 + (a : Int)) = t := ⟨_, rfl⟩
  rw [ht] at ct tb e1 e2
  have mw : IntKind.i64.wrap (1 + (a : Int)) = 1 + (a : Int) := IntWalk.i64_in _ (by omega)
  go_wp2_with fail
  refine ct.mono ?_
  rintro e w2 ⟨rfl, b2⟩
  replace bx := bx.bl b2
  replace bel := bl_to bel b2
  clear b2 ct
  have ⟨c0, c1, blt, rd⟩ := bx
  go_wp2_with fail
  refine (silI_any n _ l (1 + (a : Int)) _ rd hll).mono ?_
  rintro e w3 ⟨As, cs, rfl, ows, b3⟩
  replace bx := bx.bl b3
  replace bel := bl_to bel b3
  clear b3 c0 c1 blt rd
  obtain ⟨s, hs⟩ : ∃ s, silF n l (1 + (a : Int)) = s := ⟨_, rfl⟩
  rw [hs] at ows e1 e3 e5 hS wos
  rw [hs]
  have rs : RdI w3 (.slice As s.length cs) s := Rd.of_own ows
  have HS := Lib.hid hS
  have H1 := Lib.hid e1
  have H2 := Lib.hid e2
  have H3 := Lib.hid e3
  have H4 := Lib.hid e4
  have H5 := Lib.hid e5
  have H6 := Lib.hid e6
  have H7 := Lib.hid e7
  have HO := Lib.hid ok
  have HX := Lib.hid wos
  have HSF := Lib.hid hs
  clear ok e1 e2 e3 e4 e5 e6 e7 hS wos ows HW ht hs
  go_upto_region 7 with (fail)
  go_cut [34] (fun s wx => s = .bool false ∧ wx = w3)
  case first =>
    by_cases ht : t = -1
    · have hp := H1.out.1 ht
      have hpi : (0 : Int) < (s.length : Int) := by omega
      have hti : (t == -1) = true := by simp [ht]
      clear ht
      go_wp2
      go_meet
      exact ⟨by first | rfl | (simp; omega), rfl⟩
    · have hp : ¬ 0 < s.length := fun h => ht (H1.out.2 h)
      have hpi : ¬ (0 : Int) < (s.length : Int) := by omega
      have hti : (t == -1) = false := by simp [ht]
      go_wp2
      go_meet
      exact ⟨by first | rfl | (simp; omega), rfl⟩
  case rest =>
    obtain ⟨rfl, hw⟩ := hcut
    obtain ⟨w3, rfl⟩ : ∃ x : World, x = wc := ⟨_, rfl⟩
    subst hw
    go_upto_region 9 with (fail)
    go_cut [59] (fun s wx => s = .bool false ∧ Below w3.heap.size w3 wx)
    case first =>
      have ⟨c0, c1, blt, rd⟩ := bx
      by_cases ht : 0 ≤ t
      · obtain ⟨f1, f2⟩ := H2.out ht
        have ca := fun W (h : Below w3.heap.size w3 W) => Lib.hid (afterI_any n _ l t W (rd.bl h) hll)
        have cb := fun W (h : Below w3.heap.size w3 W) => Lib.hid (afterI_any n _ l (t + 1) W (rd.bl h) hll)
        have q1l : (aftF n l t).length ≤ 7 := by rw [aftF_len]; exact l7
        have q2l : (aftF n l (t + 1)).length ≤ 7 := by rw [aftF_len]; exact l7
        generalize aftF n l t = q1 at *
        generalize aftF n l (t + 1) = q2 at *
        have CA := Lib.hid ca
        have CB := Lib.hid cb
        have cc := fun W v (h : RdI W v q1) => Lib.hid (silI_any n v q1 (1 + (a : Int)) W h (by omega))
        have cd := fun W v (h : RdI W v q2) => Lib.hid (silI_any n v q2 (1 + (a : Int)) W h (by omega))
        generalize silF n q1 (1 + (a : Int)) = s1 at *
        generalize silF n q2 (1 + (a : Int)) = s2 at *
        have CC := Lib.hid cc
        have CD := Lib.hid cd
        have F2 := Lib.hid f2
        have g1 : ((s1.length : Int) != 0) = false := by rw [f1]; rfl
        have tw : IntKind.i64.wrap (t + 1) = t + 1 := IntWalk.i64_in _ (by omega)
        clear ca cb cc cd f2 H1 H2 H3 H4 H5 H6 H7 HO HX HSF
        go_wp2_with fail
        refine (CA.out _ (Below.refl _ _)).out.mono ?_
        rintro e w4 ⟨A4, c4, rfl, ow4, b4⟩
        go_wp2_with fail
        refine (CC.out _ _ (Rd.of_own ow4)).out.mono ?_
        rintro e w5 ⟨A5, c5, rfl, ow5, b5⟩
        have b35 := b4.trans (b5.mono b4.size)
        have ⟨c0, c1, blt, rd⟩ := (bx.bl b35)
        by_cases t9 : t < 1000
        · have hs2 := F2.out t9
          have g2 : (0 : Int) < (s2.length : Int) := by omega
          have g3 : ((s2.length : Int) == 0) = false := by rw [beq_eq_false_iff_ne]; omega
          have g4 : ¬ s2.length = 0 := by omega
          clear ow4 ow5
          go_wp2_with fail
          refine (CB.out _ b35).out.mono ?_
          rintro e w6 ⟨A6, c6, rfl, ow6, b6⟩
          go_wp2_with fail
          refine (CD.out _ _ (Rd.of_own ow6)).out.mono ?_
          rintro e w7 ⟨A7, c7, rfl, ow7, b7⟩
          have b37 := (b35.trans (b6.mono b35.size)).trans (b7.mono (Nat.le_trans b35.size b6.size))
          clear ow6 ow7
          go_wp2
          go_meet
          exact ⟨by first | rfl | (simp; omega), b37⟩
        · clear ow4 ow5
          go_wp2
          go_meet
          exact ⟨by first | rfl | (simp; omega), b35⟩
      · have ht2 : t < 0 := by omega
        go_wp2
        go_meet
        exact ⟨by first | rfl | (simp; omega), Below.refl _ _⟩
    case rest =>
      obtain ⟨rfl, bb⟩ := hcut
      obtain ⟨w4, rfl⟩ : ∃ x : World, x = wc := ⟨_, rfl⟩
      replace bx := bx.bl bb
      replace rs := rs.bl bb
      replace bel := bl_to bel bb
      clear bb H1 H2
      have ⟨c0, c1, blt, rd⟩ := bx
      have cr := renI_any n _ l (1 + (a : Int)) 100 w4 rd hll
      have rl : (renF n l (1 + (a : Int)) 100).length = l.length := renF_len _ _ _ _
      rw [H3.out] at cr
      have h4 := H4.out
      have h6 := H6.out
      generalize renF n l (1 + (a : Int)) 100 = r at *
      clear H3 H4 H6
      go_wp2_with fail
      refine cr.mono ?_
      rintro e w5 ⟨Ar, qr, rfl, owr, b5⟩
      replace bx := (bx.bl b5).bl (bl_alloc (Below.refl _ _) (.cells #[.slice Ar r.length qr, .int .i64 n] 41))
      replace rs := (rs.bl b5).bl (bl_alloc (Below.refl _ _) (.cells #[.slice Ar r.length qr, .int .i64 n] 41))
      replace bel := bl_alloc (bl_to bel b5) (.cells #[.slice Ar r.length qr, .int .i64 n] 41)
      have br := WB.new (n := n) (Rd.of_own owr : RdI w5 (.slice Ar r.length qr) r)
      have RL := Lib.hid rl
      have g1 : ((r.length : Int) != (l.length : Int)) = false := by rw [rl]; simp
      have cs := fun W (h : RdI W (.slice Ar r.length qr) r) => Lib.hid (silI_any n _ r (1 + (a : Int)) W h (by omega))
      generalize silF n r (1 + (a : Int)) = s1 at *
      have CS := Lib.hid cs
      have g2 : ((s1.length : Int) != 0) = false := by rw [h4]; rfl
      have H6 := Lib.hid h6
      clear b5 owr c0 c1 blt rd cr cs h4 h6 rl
      have ⟨c0, c1, blt, rd⟩ := bx
      have ⟨d0, d1, dlt, rr⟩ := br
      go_wp2_with fail
      refine (CS.out _ rr).out.mono ?_
      rintro e w6 ⟨A6, c6, rfl, ow6, b6⟩
      replace bx := bx.bl b6
      replace br := br.bl b6
      replace rs := rs.bl b6
      replace bel := bl_to bel b6
      have rs6 := rs.form
      have HS7 : s.length ≤ 7 := by have := HS.out; omega
      generalize hR : w5.heap.size = R at *
      clear hR CS b6 ow6 c0 c1 blt rd d0 d1 dlt rr g1
      have ⟨c0, c1, blt, rd⟩ := bx
      have ⟨d0, d1, dlt, rr⟩ := br
      go_wp2
      clear g2
      go_loopw [9] (fun i wr => ∃ k nq : Nat, k ≤ l.length ∧ i = .int .i64 k ∧ wr = w6.drewN nq) (fun i _ => l.length - (intOf i).toNat)
      case atStart => exact ⟨0, 0, Nat.zero_le _, rfl, rfl⟩
      case round =>
        obtain ⟨k, nq, hk, rfl, rfl⟩ := hrel
        by_cases hlt : k < l.length
        · have hlt' : (k : Int) < (l.length : Int) := by omega
          have k0 : (0 : Int) ≤ (k : Int) := by omega
          have hrk : k < r.length := by have := RL.out; omega
          have hrk' : (k : Int) < (r.length : Int) := by omega
          obtain ⟨g, o, rfl, _, q1⟩ := rd.look (by omega)
          obtain ⟨g2, o2, rfl, _, q2⟩ := rr.look (by omega)
          have e1 : (w6.drewN nq).cell? ⟨g, o + k, none⟩ = some (.int .i64 (gi l k)) := q1 k _ (cI_get hlt)
          have e2 : (w6.drewN nq).cell? ⟨g2, o2 + k, none⟩ = some (.int .i64 (gi r k)) := q2 k _ (cI_get hrk)
          have hh : ∀ q, Calls Try.prog 51 #[.slice As s.length cs, .int .i64 (k : Int)] ((w6.drewN nq).drewN q) fun e w' => e = .returned (.bool (decide (gi l k < 1 + (a : Int)))) ∧ w' = (w6.drewN nq).drewN q := fun q => by
            have := hasI_any _ s (k : Int) ((w6.drewN nq).drewN q) ((rs.bl (bl_drewN (Below.refl _ _) nq)).bl (bl_drewN (Below.refl _ _) q)) (by omega)
            rw [H5.out k hlt] at this
            exact this.mono (fun _ _ h => ⟨h.1, h.2.symm⟩)
          have c0 : (w6.drewN nq).cell? ⟨w1.heap.size, 0, none⟩ = _ := c0
          have d0 : (w6.drewN nq).cell? ⟨R, 0, none⟩ = _ := d0
          have hp : ¬ gi l k < 1 + (a : Int) → gi r k = gi l k := fun h => H6.out k hlt (by first | exact h | omega)
          have HH := Lib.hid hh
          clear q1 q2 hh rd rr bx br
          generalize hwz : w6.drewN nq = wz at *
          have HWZ := Lib.hid hwz
          clear hwz
          by_cases hc : gi l k < 1 + (a : Int)
          · have hcd : decide (gi l k < 1 + (a : Int)) = true := by simpa using hc
            rw [hcd] at HH
            clear hp
            go_wp2
            go_big_quiet ((go_at_call 51; exact Calls.quiet_of_same (HH.out _)))
            go_wp2
            go_roundw
            case rel => exact ⟨k + 1, _, by omega, by go_num, by rw [← HWZ.out, World.drewN_drewN]⟩
            case measure => simp [intOf]; omega
          · have hcd : decide (gi l k < 1 + (a : Int)) = false := by simpa using hc
            rw [hcd] at HH
            have hp := hp hc
            go_wp2
            go_big_quiet ((go_at_call 51; exact Calls.quiet_of_same (HH.out _)))
            go_wp2
            go_roundw
            case rel => exact ⟨k + 1, _, by omega, by go_num, by rw [← HWZ.out, World.drewN_drewN]⟩
            case measure => simp [intOf]; omega
        · obtain rfl : k = l.length := by omega
          have hlt' : ¬ (l.length : Int) < (l.length : Int) := by omega
          have bel7 := bl_drewN bel nq
          have bx7 := bx.bl (bl_drewN (Below.refl _ _) nq)
          have rs7 : RdI (w6.drewN nq) (.slice As s.length cs) s := rs.bl (bl_drewN (Below.refl _ _) nq)
          have h7 := H7.out
          clear bx br rs bel c0 c1 blt rd d0 d1 dlt rr H5 H6 H7 HS hlt hlt'
          generalize w6.drewN nq = w7 at *
          have ⟨c0, c1, blt, rd⟩ := bx7
          have ca := afterI_any n _ l 2 w7 rd hll
          have q2l : (aftF n l 2).length ≤ 7 := by rw [aftF_len]; exact l7
          have q5l : (aftF n l 5).length ≤ 7 := by rw [aftF_len]; exact l7
          have c5 := fun W (h : RdI W (.slice A l.length c) l) => Lib.hid (afterI_any n _ l 5 W h hll)
          generalize aftF n l 2 = q2 at *
          generalize aftF n l 5 = q5 at *
          have C5 := Lib.hid c5
          have H7 := Lib.hid h7
          clear c5 h7
          go_wp2_with fail
          refine ca.mono ?_
          rintro e w8 ⟨A8, c8, rfl, ow8, b8⟩
          replace bx7 := bx7.bl b8
          replace bel7 := bl_to bel7 b8
          replace rs7 := rs7.bl b8
          have cb := afterI_any n _ q2 3 w8 (Rd.of_own ow8) (by omega)
          rw [H7.out] at cb
          clear ca b8 c0 c1 blt rd ow8
          go_wp2_with fail
          refine cb.mono ?_
          rintro e w9 ⟨A9, c9, rfl, ow9, b9⟩
          replace bx7 := bx7.bl b9
          replace bel7 := bl_to bel7 b9
          replace rs7 := rs7.bl b9
          have r9 : RdI w9 (.slice A9 q5.length c9) q5 := Rd.of_own ow9
          clear cb b9 ow9 H7
          have ⟨c0, c1, blt, rd⟩ := bx7
          go_upto_region 20 with (fail)
          go_cut [132] (fun s wx => s = .bool false ∧ Below w9.heap.size w9 wx)
          case first =>
            go_region_with (first
              | (go_at_call 50; refine (C5.out _ (rd.bl (by (repeat' (first | (with_reducible exact Below.refl _ _) | (with_reducible refine bl_alloc ?_ _) | (with_reducible refine bl_drewN ?_ _) | (with_reducible refine bl_drew ?_) | (with_reducible assumption) | (with_reducible refine bl_to ?_ (by assumption)) | (with_reducible refine Below.trans ?_ (by assumption)) | (with_reducible refine Below.trans ?_ (Below.mono (by assumption) ?_)) | (with_reducible refine bl_set ?_ ?_ _) | (simp; done) | (simp; omega) | omega))))).out.mono ?_; rintro e w11 ⟨A11, c11, rfl, ow11, b11⟩; have hfd := fun W : World => field_wear A11 q5.length c11 n W; have y0 : w11.cell? ⟨w9.heap.size, 0, none⟩ = some (.slice A9 q5.length c9) := (b11.cell (p := ⟨w9.heap.size, 0, none⟩) (by (first | omega | (simp; done) | (simp; omega)))).trans (by simp [go_sem]))
              | (go_at_call 52; refine (sameL_any _ _ q5 _ (r9.bl (by (repeat' (first | (with_reducible exact Below.refl _ _) | (with_reducible refine bl_alloc ?_ _) | (with_reducible refine bl_drewN ?_ _) | (with_reducible refine bl_drew ?_) | (with_reducible assumption) | (with_reducible refine bl_to ?_ (by assumption)) | (with_reducible refine Below.trans ?_ (by assumption)) | (with_reducible refine Below.trans ?_ (Below.mono (by assumption) ?_)) | (with_reducible refine bl_set ?_ ?_ _) | (simp; done) | (simp; omega) | omega)))) (Rd.of_own ow11) (by omega)).mono ?_; rintro e w12 ⟨rfl, b12⟩))
            all_goals (go_wp2_with fail; go_meet; exact ⟨rfl, by (repeat' (first | (with_reducible exact Below.refl _ _) | (with_reducible refine bl_alloc ?_ _) | (with_reducible refine bl_drewN ?_ _) | (with_reducible refine bl_drew ?_) | (with_reducible assumption) | (with_reducible refine bl_to ?_ (by assumption)) | (with_reducible refine Below.trans ?_ (by assumption)) | (with_reducible refine Below.trans ?_ (Below.mono (by assumption) ?_)) | (with_reducible refine bl_set ?_ ?_ _) | (simp; done) | (simp; omega) | omega))⟩)
          case rest =>
            obtain ⟨rfl, bb⟩ := hcut
            obtain ⟨w10, rfl⟩ : ∃ x : World, x = wc := ⟨_, rfl⟩
            replace bx7 := bx7.bl bb
            replace bel7 := bl_to bel7 bb
            replace rs7 := rs7.bl bb
            clear bb c0 c1 blt rd r9 C5
            have st0 : CylinderSt (w10.alloc (.cells #[.int .i64 10, .int .i64 1, .slice none 0 0] 61)) w10.heap.size (w10.alloc (.cells #[.int .i64 10, .int .i64 1, .slice none 0 0] 61)) 10 1 (.slice none 0 0) [] := CylinderSt.mk0 rfl
            go_wp2
            go_loopw [12] (fun i wr => ∃ (k : Nat) (vp : Value), k ≤ l.length ∧ i = .int .i64 k ∧ CylinderSt (w10.alloc (.cells #[.int .i64 10, .int .i64 1, .slice none 0 0] 61)) w10.heap.size wr 10 1 vp (pinsW k)) (fun i _ => l.length - (intOf i).toNat)
            case atStart => exact ⟨0, _, Nat.zero_le _, rfl, st0⟩
            case round =>
              clear st0
              obtain ⟨k, vp, hk, rfl, st⟩ := hrel
              have bw : Below w10.heap.size w10 wr := (bl_alloc (Below.refl _ _) _).trans st.bel
              have bxr := bx7.bl bw
              have ⟨c0, c1, blt, rd⟩ := bxr
              have pl := pinsW_len k
              have st' := st
              obtain ⟨sb, dl, d0, d1, dv, fv, sow⟩ := st
              by_cases hlt : k < l.length
              · have hlt' : (k : Int) < (l.length : Int) := by omega
                have PL : (pinsW k).length ≤ 7 := by omega
                have aa : Hid (pinsW (k + 1) = pinsW k ++ [(0, (k : Int))]) := rfl
                obtain ⟨Ap, cp, rfl⟩ := own_form sow
                generalize hP : pinsW k = P at *
                have HPk := Lib.hid hP
                clear hP pl rd bxr
                go_wp2_with (at_builtin; refine wpList_app_P _ rfl _ _ rfl (w10.heap.size + 1) _ P rfl (sow.alloc _) _ 0 (k : Int) rfl ?_ ?_ (by omega) (by (first | omega | (simp; done) | (simp; omega))) ?_; rotate_left 2; intro v2 w11 ow3 bel3 gr3 at3; obtain ⟨A2, m2, c2, rfl⟩ := own_form3w ow3; have b11 : Below (w10.heap.size + 1) wr w11 := Below.trans (Below.alloc (Below.refl _ wr) (by omega) _) bel3; have q0 := (b11.cell (p := ⟨w10.heap.size, 2, none⟩) (Nat.lt_succ_self _)).trans dv; have q1 := (b11.frozen (p := ⟨w10.heap.size, 2, none⟩) (Nat.lt_succ_self _)).trans fv)
                · have st2 := CylinderSt.app st' (0, (k : Int)) b11 ow3
                  go_roundw
                  case rel => exact ⟨k + 1, _, by omega, by go_num, by rw [aa.out]; exact st2⟩
                  case measure => simp [intOf]; omega
                all_goals (simp [go_sem]; done)
              · obtain rfl : k = l.length := by omega
                have hlt' : ¬ (l.length : Int) < (l.length : Int) := by omega
                obtain ⟨Ap, cp, rfl⟩ := own_form sow
                have PL := pinsW_len l.length
                have hok : wosB 10 1 (pinsW l.length) n l (1 + (a : Int)) = true := by simp [wosB, pinsW_ok l7, HO.out, PL, inB_yes (show (0 : Int) ≤ 1 + (a : Int) by omega) (show 1 + (a : Int) ≤ 1000 by omega)]
                have hS : wosS 10 1 (pinsW l.length) n l (1 + (a : Int)) = 10 := by simp [wosS, hok]
                have hT : wosT 10 1 (pinsW l.length) n l (1 + (a : Int)) = 1 := by simp [wosT, hok]
                have hL : wosL 10 1 (pinsW l.length) n l (1 + (a : Int)) = wosN (pinsW l.length) l (1 + (a : Int)) l.length := by simp [wosL, hok, PL]
                have hx := HX.out
                have rp : RdP wr (.slice Ap (pinsW l.length).length cp) (pinsW l.length) := Rd.of_own sow
                have cw := wosI_any 10 1 n (1 + (a : Int)) _ _ _ l wr rp rd (by omega) hll
                rw [hS, hT, hL, hok] at cw
                have cz := fun W (h : RdI W (.slice A l.length c) l) => wearI_ok n (.slice A l.length c) l W h hll
                rw [HO.out] at cz
                have CZ := Lib.hid cz
                generalize wosN (pinsW l.length) l (1 + (a : Int)) l.length = X at *
                clear hok hS hT hL cz HO HX HSF rp rd st' sow sb
                generalize pinsW l.length = P at *
                have g0 : IntKind.i64.wrap ((P.length : Int) - (s.length : Int)) = (P.length : Int) - (s.length : Int) := IntWalk.i64_in _ (by omega)
                have g1 : ((X.length : Int) == (P.length : Int) - (s.length : Int)) = true := by rw [beq_iff_eq]; omega
                have g2 : (X.length : Int) = (P.length : Int) - (s.length : Int) := by omega
                have HP := Lib.hid PL
                have HX2 := Lib.hid hx
                clear PL hx g2 pl
                go_wp2_with fail
                refine cw.mono ?_
                rintro e w12 ⟨Ax, cx, rfl, owx, b12⟩
                have dv12 := (b12.cell (p := ⟨w10.heap.size, 2, none⟩) dl).trans dv
                have dl12 := Nat.lt_of_lt_of_le dl b12.size
                have bx12 := bxr.bl b12
                have bel12 : Below w.heap.size w w12 := bl_to (bl_to bel7 bw) b12
                clear cw dv d0 d1 fv c0 c1 blt owx b12 bxr dl
                have ⟨c0, c1, blt, rd⟩ := bx12
                go_wp2_with fail
                refine (CZ.out _ (rd.bl (by (repeat' (first | (with_reducible exact Below.refl _ _) | (with_reducible refine bl_alloc ?_ _) | (with_reducible refine bl_drewN ?_ _) | (with_reducible refine bl_drew ?_) | (with_reducible assumption) | (with_reducible refine bl_to ?_ (by assumption)) | (with_reducible refine Below.trans ?_ (by assumption)) | (with_reducible refine Below.trans ?_ (Below.mono (by assumption) ?_)) | (with_reducible refine bl_set ?_ ?_ _) | (simp; done) | (simp; omega) | omega))))).mono ?_
                rintro e w13 ⟨rfl, b13⟩
                go_wp2
                go_ret
                exact ⟨rfl, by (repeat' (first | (with_reducible exact Below.refl _ _) | (with_reducible refine bl_alloc ?_ _) | (with_reducible refine bl_drewN ?_ _) | (with_reducible refine bl_drew ?_) | (with_reducible assumption) | (with_reducible refine bl_to ?_ (by assumption)) | (with_reducible refine Below.trans ?_ (by assumption)) | (with_reducible refine Below.trans ?_ (Below.mono (by assumption) ?_)) | (with_reducible refine bl_set ?_ ?_ _) | (simp; done) | (simp; omega) | omega))⟩
end Go.Proofs.Ytoijjjaodfincaa
