/- FnPrices: the law returns true at every input; no condition. -/
import Derived.Test.YtggalfjaenoaeaaPrices
import Derived.Deep.DeepCutAuto
import Derived.Deep.RegionHeld3
namespace Go.Proofs.Ytggalfjaenoaeaa
open Go.RowKit

set_option maxHeartbeats 6400000 in
set_option maxRecDepth 100000 in
theorem prices_law (v : Value) (L : List Int) (w : World) (h0 : RdB w v L) (hb : ∀ x ∈ L, 0 ≤ x ∧ x ≤ 255) : Calls Try.prog 14 #[v] w fun e w' => e = .returned (.bool true) ∧ Below w.heap.size w w' := by
  by_cases hl : L.length ≤ 1048576
  · have hbig : decide ((1048576 : Int) < (L.length : Int)) = false := by simp; omega
    go_enter Try.func14, Try.ntmps14
    go_wp2_with fail
    refine (bigB_any v L _ h0).mono ?_
    rintro e wq ⟨rfl, rfl⟩
    rw [hbig]
    go_wp2_with fail
    refine (drawOffer_any v L _ h0 hl).mono ?_
    rintro e w1 ⟨a, b, d, ha, hbb, hd, rfl, bb⟩
    have ho := offB_iff.2 ⟨ha, hbb, hd⟩
    have pb := price_bd ho
    obtain ⟨kk, ff, zz⟩ := bcell bb
    have sz1 : w.heap.size ≤ w1.heap.size := bb.size
    have bel : Below w.heap.size w w1 := bl_to (by (repeat' (first | (with_reducible exact Below.refl _ _) | (with_reducible refine bl_alloc ?_ _) | (with_reducible refine bl_drewN ?_ _) | (with_reducible refine bl_drew ?_) | (with_reducible assumption) | (with_reducible refine bl_to ?_ (by assumption)) | (with_reducible refine Below.trans ?_ (by assumption)) | (with_reducible refine Below.trans ?_ (Below.mono (by assumption) ?_)) | (with_reducible refine bl_set ?_ ?_ _) | (simp; done) | (simp; omega) | omega))) bb
    clear kk ff zz bb
    go_wp2_with fail
    refine (priceI_any a b d _).mono ?_
    rintro e w2 ⟨rfl, bb⟩
    obtain ⟨kk, ff, zz⟩ := bcell bb
    have bx_o_0 : w2.cell? ⟨w1.heap.size, 0, none⟩ = some (.int .i64 a) := (kk _ _ (by (first | omega | (simp; done) | (simp; omega)))).trans (by simp [go_sem])
    have bx_o_1 : w2.cell? ⟨w1.heap.size, 1, none⟩ = some (.int .i64 b) := (kk _ _ (by (first | omega | (simp; done) | (simp; omega)))).trans (by simp [go_sem])
    have bx_o_2 : w2.cell? ⟨w1.heap.size, 2, none⟩ = some (.int .i64 d) := (kk _ _ (by (first | omega | (simp; done) | (simp; omega)))).trans (by simp [go_sem])
    have yb_o : w1.heap.size < w2.heap.size := zz _ (by (first | omega | (simp; done) | (simp; omega)))
    have sz2 : w1.heap.size + 1 ≤ w2.heap.size := by have := bb.size; simp only [World.size_alloc] at this; omega
    replace bel : Below w.heap.size w w2 := bl_to (by (repeat' (first | (with_reducible exact Below.refl _ _) | (with_reducible refine bl_alloc ?_ _) | (with_reducible refine bl_drewN ?_ _) | (with_reducible refine bl_drew ?_) | (with_reducible assumption) | (with_reducible refine bl_to ?_ (by assumption)) | (with_reducible refine Below.trans ?_ (by assumption)) | (with_reducible refine Below.trans ?_ (Below.mono (by assumption) ?_)) | (with_reducible refine bl_set ?_ ?_ _) | (simp; done) | (simp; omega) | omega))) bb
    clear kk ff zz bb
    go_wp2_with fail
    refine (at_any v L 0 _ (h0.bl bel) hl hb (by omega) (by omega)).mono ?_
    rintro e wq ⟨x0, lo0, up0, rfl, rfl⟩
    have n0 : 0 ≤ x0 % 101 ∧ x0 % 101 ≤ 100 := by omega
    have mb := mul_bd (priceF a b d) (x0 % 101) (by omega) (by omega) n0.1 n0.2
    have db := disc_bd (p := (priceF a b d)) (n := (x0 % 101)) (by omega) (by omega) n0.1 n0.2
    go_wp2_with fail
    refine (discI_any (priceF a b d) (x0 % 101) _).mono ?_
    rintro e wq ⟨rfl, rfl⟩
    go_wp2_with fail
    refine (at_any v L 1 _ (h0.bl bel) hl hb (by omega) (by omega)).mono ?_
    rintro e wq ⟨x1, lo1, up1, rfl, rfl⟩
    obtain ⟨bn, hbn, bn1, bn2, bn3⟩ := best_bd (p := (priceF a b d)) (m := (x1 * 20)) (by omega) (by omega) (by omega)
    go_wp2_with fail
    refine (bestI_any (priceF a b d) (x1 * 20) _).mono ?_
    rintro e wq ⟨rfl, rfl⟩
    rw [hbn]
    go_wp2_with fail
    refine (cheapI_any a b d (x1 * 20) _).mono ?_
    rintro e w3 ⟨rfl, bb⟩
    obtain ⟨kk, ff, zz⟩ := bcell bb
    replace bx_o_0 := (kk _ 0 yb_o).trans bx_o_0
    replace bx_o_1 := (kk _ 1 yb_o).trans bx_o_1
    replace bx_o_2 := (kk _ 2 yb_o).trans bx_o_2
    replace yb_o : w1.heap.size < w3.heap.size := zz _ (by (first | omega | (simp; done) | (simp; omega)))
    have sz3 : w2.heap.size ≤ w3.heap.size := bb.size
    replace bel : Below w.heap.size w w3 := bl_to (by (repeat' (first | (with_reducible exact Below.refl _ _) | (with_reducible refine bl_alloc ?_ _) | (with_reducible refine bl_drewN ?_ _) | (with_reducible refine bl_drew ?_) | (with_reducible assumption) | (with_reducible refine bl_to ?_ (by assumption)) | (with_reducible refine Below.trans ?_ (by assumption)) | (with_reducible refine Below.trans ?_ (Below.mono (by assumption) ?_)) | (with_reducible refine bl_set ?_ ?_ _) | (simp; done) | (simp; omega) | omega))) bb
    clear kk ff zz bb
    have e88 : 88 * (priceF a b d) * (x0 % 101) = 88 * ((priceF a b d) * (x0 % 101)) := Int.mul_assoc _ _ _
    have e100 : 100 * discF (priceF a b d) (x0 % 101) ≤ 100 * ((priceF a b d) * (x0 % 101)) := by omega
    go_upto_region 10 with (fail)
    go_cut [84] (fun s wx => s = .bool false ∧ w3 = wx)
    case first =>
      by_cases h100 : bn < 100
      · have h3 := bn3 h100
        go_wp2_with (go_at_call 23; refine (discI_any _ _ _).mono ?_; rintro e w' ⟨rfl, rfl⟩)
        go_meet
        refine ⟨congrArg Value.bool ?_, rfl⟩
        simp only [Bool.or_eq_false_iff, decide_eq_false_iff_not]
        clear hbn hb h0 bx_o_0 bx_o_1 bx_o_2 yb_o bel
        generalize priceF a b d * (x0 % 101) = y at *
        repeat' constructor
        all_goals omega
      · go_wp2_with (go_at_call 23; refine (discI_any _ _ _).mono ?_; rintro e w' ⟨rfl, rfl⟩)
        go_meet
        refine ⟨congrArg Value.bool ?_, rfl⟩
        simp only [Bool.or_eq_false_iff, decide_eq_false_iff_not]
        clear hbn hb h0 bx_o_0 bx_o_1 bx_o_2 yb_o bel
        generalize priceF a b d * (x0 % 101) = y at *
        repeat' constructor
        all_goals omega
    case rest =>
      obtain ⟨rfl, rfl⟩ := hcut
      clear e88 e100 db mb n0 hbn bn1 bn2 bn3
      have hcs := ch_spec (m := x1 * 20) ho
      generalize chF a b d (x1 * 20) = c at *
      have l19 := mfl_19 pb.1 (show priceF a b d ≤ 10000 by omega)
      have l1 := mfl_1 pb.1 (show priceF a b d ≤ 10000 by omega)
      have d4 := disc_4 (show 0 ≤ priceF a b d by omega) (show priceF a b d ≤ 10000 by omega)
      have lall : ∀ x ∈ mflF (priceF a b d), (1 ≤ x ∧ x ≤ 99) ∧ (discF (priceF a b d) 20 < discF (priceF a b d) x ∨ discF (priceF a b d) 5 < discF (priceF a b d) x) := fun x hx => mfl_each (by omega) (by omega) hx
      have llen : (mflF (priceF a b d)).length ≤ 1048576 := by
        unfold mflF
        split
        · have := mflN_len (priceF a b d) 100; omega
        · simp
      have L19 := Lib.hid l19
      have L1 := Lib.hid l1
      have D4 := Lib.hid d4
      have LALL := Lib.hid lall
      clear l19 l1 d4 hb lall
      have key : ∃ q : Prop, q := ⟨True, trivial⟩
      go_upto_if 86 with (fail)
      go_cut [2] (fun s wx => s = .bool false ∧ Below w3.heap.size w3 wx)
      case first =>
        rcases hcs with ⟨c0, c3, cm, cn⟩ | ⟨rfl, cm⟩
        rotate_left
        · go_wp2_with (go_at_call 25; refine (priceI_any a b 0 _).mono ?_; rintro e w5 ⟨rfl, b5⟩; obtain ⟨k5, f5, z5⟩ := bcell b5)
          go_meet
          exact ⟨rfl, by (repeat' (first | (with_reducible exact Below.refl _ _) | (with_reducible refine bl_alloc ?_ _) | (with_reducible refine bl_drewN ?_ _) | (with_reducible refine bl_drew ?_) | (with_reducible assumption) | (with_reducible refine bl_to ?_ (by assumption)) | (with_reducible refine Below.trans ?_ (by assumption)) | (with_reducible refine Below.trans ?_ (Below.mono (by assumption) ?_)) | (with_reducible refine bl_set ?_ ?_ _) | (simp; done) | (simp; omega) | omega))⟩
        by_cases c4 : c < 3
        · have cn := cn c4
          go_wp2_with (first | (have tok := f4; (go_at_call 25; refine (priceI_any _ _ _ _).mono ?_; rintro e w5 ⟨rfl, b5⟩; obtain ⟨k5, f5, z5⟩ := bcell b5); clear tok) | (go_at_call 25; refine (priceI_any _ _ _ _).mono ?_; rintro e w4 ⟨rfl, b4⟩; obtain ⟨k4, f4, z4⟩ := bcell b4))
          go_meet
          exact ⟨rfl, by (repeat' (first | (with_reducible exact Below.refl _ _) | (with_reducible refine bl_alloc ?_ _) | (with_reducible refine bl_drewN ?_ _) | (with_reducible refine bl_drew ?_) | (with_reducible assumption) | (with_reducible refine bl_to ?_ (by assumption)) | (with_reducible refine Below.trans ?_ (by assumption)) | (with_reducible refine Below.trans ?_ (Below.mono (by assumption) ?_)) | (with_reducible refine bl_set ?_ ?_ _) | (simp; done) | (simp; omega) | omega))⟩
        · clear cn
          go_wp2_with (go_at_call 25; refine (priceI_any a b c _).mono ?_; rintro e w5 ⟨rfl, b5⟩; obtain ⟨k5, f5, z5⟩ := bcell b5)
          go_meet
          exact ⟨rfl, by (repeat' (first | (with_reducible exact Below.refl _ _) | (with_reducible refine bl_alloc ?_ _) | (with_reducible refine bl_drewN ?_ _) | (with_reducible refine bl_drew ?_) | (with_reducible assumption) | (with_reducible refine bl_to ?_ (by assumption)) | (with_reducible refine Below.trans ?_ (by assumption)) | (with_reducible refine Below.trans ?_ (Below.mono (by assumption) ?_)) | (with_reducible refine bl_set ?_ ?_ _) | (simp; done) | (simp; omega) | omega))⟩
      case rest =>
        obtain ⟨rfl, b35⟩ := hcut
        obtain ⟨w5, rfl⟩ : ∃ x : World, x = wc := ⟨_, rfl⟩
        clear hcs
        have y0 := (b35.cell (p := ⟨w1.heap.size, 0, none⟩) yb_o).trans bx_o_0
        have y1 := (b35.cell (p := ⟨w1.heap.size, 1, none⟩) yb_o).trans bx_o_1
        have y2 := (b35.cell (p := ⟨w1.heap.size, 2, none⟩) yb_o).trans bx_o_2
        have yb5 := Nat.lt_of_lt_of_le yb_o b35.size
        have bel5 : Below w.heap.size w w5 := bl_to bel b35
        clear b35 bx_o_0 bx_o_1 bx_o_2 bel yb_o key
        go_wp2_with fail
        refine (moreI_any _ _).mono ?_
        rintro e w6 ⟨A6, c6, rfl, ow6, b6⟩
        generalize hP : priceF a b d = P at *
        generalize hM : mflF P = m at *
        have z0 := (b6.cell (p := ⟨w1.heap.size, 0, none⟩) yb5).trans y0
        have z1 := (b6.cell (p := ⟨w1.heap.size, 1, none⟩) yb5).trans y1
        have z2 := (b6.cell (p := ⟨w1.heap.size, 2, none⟩) yb5).trans y2
        have yb6 := Nat.lt_of_lt_of_le yb5 b6.size
        have bel6 : Below w.heap.size w w6 := bl_to bel5 b6
        have HP := Lib.hid hP
        have HM := Lib.hid hM
        clear hP hM y0 y1 y2 b6 bel5
        have Z := Lib.hid (And.intro z0 (And.intro z1 z2))
        clear z0 z1 z2
        go_wp2
        go_loopw [14] (fun i wr => ∃ k : Nat, k ≤ m.length ∧ i = .int .i64 k ∧ Below w6.heap.size w6 wr) (fun i _ => m.length - (intOf i).toNat)
        case atStart => exact ⟨0, Nat.zero_le _, rfl, Below.refl _ _⟩
        case round =>
          obtain ⟨k, hk, rfl, bb⟩ := hrel
          have owr := own_bl ow6 bb
          by_cases hlt : k < m.length
          · have hlt' : (k : Int) < (m.length : Int) := by omega
            have hx := LALL.out (gi m k) (gi_mem hlt)
            obtain ⟨⟨hx1, hx2⟩, hx3⟩ := hx
            have hx1' : ¬ gi m k < 1 := by omega
            have hx2' : ¬ 99 < gi m k := by omega
            have hxa : ¬ gi m k ≤ 0 := by omega
            have hxb : decide (gi m k < 1) = false := by simp; omega
            have hxc : decide (gi m k ≤ 0) = false := by simp; omega
            have hxd : decide (99 < gi m k) = false := by simp; omega
            obtain ⟨g, o, rfl, hg, rd⟩ := (Rd.of_own owr).look (by omega)
            have e1 := rd k _ (cI_get hlt)
            clear rd ow6 owr
            by_cases h20 : discF P 20 < discF P (gi m k)
            · have h20' : ¬ discF P (gi m k) ≤ discF P 20 := by omega
              have h20b : decide (discF P (gi m k) ≤ discF P 20) = false := by simp; omega
              clear hx3
              go_wp2
              go_quiet ((first | (go_at_call 23; exact Calls.quiet_of_same ((discI_any _ _ _).mono (fun _ _ h => ⟨h.1, h.2.symm⟩)))))
              go_wp2
              go_roundw
              case rel => exact ⟨k + 1, by omega, by go_num, by (repeat' (first | (with_reducible exact Below.refl _ _) | (with_reducible refine bl_alloc ?_ _) | (with_reducible refine bl_drewN ?_ _) | (with_reducible refine bl_drew ?_) | (with_reducible assumption) | (with_reducible refine bl_to ?_ (by assumption)) | (with_reducible refine Below.trans ?_ (by assumption)) | (with_reducible refine Below.trans ?_ (Below.mono (by assumption) ?_)) | (with_reducible refine bl_set ?_ ?_ _) | (simp; done) | (simp; omega) | omega))⟩
              case measure => simp [intOf]; omega
            · have h20' : discF P (gi m k) ≤ discF P 20 := by omega
              have h20b : decide (discF P (gi m k) ≤ discF P 20) = true := by simp; omega
              have h5 : ¬ discF P (gi m k) ≤ discF P 5 := by omega
              have h5b : decide (discF P (gi m k) ≤ discF P 5) = false := by simp; omega
              clear hx3
              go_wp2
              go_quiet ((first | (go_at_call 23; exact Calls.quiet_of_same ((discI_any _ _ _).mono (fun _ _ h => ⟨h.1, h.2.symm⟩)))))
              go_wp2
              go_roundw
              case rel => exact ⟨k + 1, by omega, by go_num, by (repeat' (first | (with_reducible exact Below.refl _ _) | (with_reducible refine bl_alloc ?_ _) | (with_reducible refine bl_drewN ?_ _) | (with_reducible refine bl_drew ?_) | (with_reducible assumption) | (with_reducible refine bl_to ?_ (by assumption)) | (with_reducible refine Below.trans ?_ (by assumption)) | (with_reducible refine Below.trans ?_ (Below.mono (by assumption) ?_)) | (with_reducible refine bl_set ?_ ?_ _) | (simp; done) | (simp; omega) | omega))⟩
              case measure => simp [intOf]; omega
          · have hlt' : ¬ (k : Int) < (m.length : Int) := by omega
            obtain ⟨z0, z1, z2⟩ := Z.out
            have x0' := (bb.cell (p := ⟨w1.heap.size, 0, none⟩) yb6).trans z0
            have x1' := (bb.cell (p := ⟨w1.heap.size, 1, none⟩) yb6).trans z1
            have x2' := (bb.cell (p := ⟨w1.heap.size, 2, none⟩) yb6).trans z2
            have l19 := L19.out
            have l1 := L1.out
            have m19 : (19 : Int) ∈ m := by simpa using l19
            have m1 : ¬ (1 : Int) ∈ m := by simpa using l1
            have d19 : decide ((19 : Int) ∈ m) = true := by simpa using m19
            have d1 : decide ((1 : Int) ∈ m) = false := by simpa using m1
            have d4 := D4.out
            have d4' : (discF P 4 == 4 * P) = true := by rw [d4]; simp
            clear z0 z1 z2 Z
            go_wp2_with (first | (go_at_call 19; refine (offI_any _ _ _ _).mono ?_; rintro e w7 ⟨rfl, b7⟩; obtain ⟨k7, f7, z7⟩ := bcell b7) | (go_at_call 48; refine (hasI_any _ m _ _ (Rd.of_own (own_bl owr b7)) llen).mono ?_; rintro e wq ⟨rfl, rfl⟩) | (go_at_call 23; refine (discI_any _ _ _).mono ?_; rintro e w' ⟨rfl, rfl⟩))
            go_ret
            exact ⟨rfl, bl_to (bl_to bel6 bb) b7⟩
  · have hbig : decide ((1048576 : Int) < (L.length : Int)) = true := by simp; omega
    go_enter Try.func14, Try.ntmps14
    go_wp2_with fail
    refine (bigB_any v L _ h0).mono ?_
    rintro e wq ⟨rfl, rfl⟩
    rw [hbig]
    go_wp2
    go_ret
    exact ⟨rfl, by (repeat' (first | (with_reducible exact Below.refl _ _) | (with_reducible refine bl_alloc ?_ _) | (with_reducible refine bl_drewN ?_ _) | (with_reducible refine bl_drew ?_) | (with_reducible assumption) | (with_reducible refine bl_to ?_ (by assumption)) | (with_reducible refine Below.trans ?_ (by assumption)) | (with_reducible refine Below.trans ?_ (Below.mono (by assumption) ?_)) | (with_reducible refine bl_set ?_ ?_ _) | (simp; done) | (simp; omega) | omega))⟩
end Go.Proofs.Ytggalfjaenoaeaa
