/- FirstSilence of the program and of the reference; lengths up to 2^20. -/
import Derived.Test.YtbcmidencifcoaaNotesAt
namespace Go.Proofs.Ytbcmidencifcoaa
open Go.RowKit

theorem fsB_no1 {l : List (Int × Int)} {r p : Int} (h : tuneB l = false) : fsF l r p = -1 := by simp [fsF, fsB, h]
theorem fsB_no2 {l : List (Int × Int)} {r p : Int} (h : inB r 1 1000 = false) : fsF l r p = -1 := by simp [fsF, fsB, h]
theorem fsB_no3 {l : List (Int × Int)} {r p : Int} (h : inB p 0 100 = false) : fsF l r p = -1 := by simp [fsF, fsB, h]
theorem min_ite (a b : Int) : min a b = if b < a then b else a := by split <;> omega

set_option maxHeartbeats 1600000 in
theorem fsI_any (v : Value) (l : List (Int × Int)) (r p : Int) (w : World) (h1 : RdN w v l) (hl : l.length ≤ 1048576) :
    Calls Try.prog 26 #[v, .int .i64 r, .int .i64 p] w fun e w' => e = .returned (.int .i64 (fsF l r p)) ∧ Below w.heap.size w w' := by
  obtain ⟨A0, c0, rfl, _, hm⟩ := h1.form
  unfold maxLen at hm
  cases ho : tuneB l
  · rw [fsB_no1 ho]
    go_enter Try.func26, Try.ntmps26
    go_wp2_with (go_at_call 54; refine (tuneI_ok _ l _ h1 hl).mono ?_; rintro e w1 ⟨rfl, b1⟩; obtain ⟨k1, f1, z1⟩ := bcell b1)
    go_ret
    exact ⟨rfl, b1⟩
  by_cases h0 : l.length = 0
  · rw [fsF_empty h0]
    have hb : ((l.length : Int) == 0) = true := by rw [h0]; rfl
    clear h0
    go_enter Try.func26, Try.ntmps26
    go_wp2_with (go_at_call 54; refine (tuneI_ok _ l _ h1 hl).mono ?_; rintro e w1 ⟨rfl, b1⟩; obtain ⟨k1, f1, z1⟩ := bcell b1)
    go_ret
    exact ⟨rfl, b1⟩
  have hb0 : ((l.length : Int) == 0) = false := by rw [beq_eq_false_iff_ne]; omega
  cases hr : inB r 1 1000
  · rw [fsB_no2 hr]
    clear h0
    go_enter Try.func26, Try.ntmps26
    go_wp2_with (first | (go_at_call 54; refine (tuneI_ok _ l _ h1 hl).mono ?_; rintro e w1 ⟨rfl, b1⟩; obtain ⟨k1, f1, z1⟩ := bcell b1) | (go_at_call 57; refine (within_any _ _ _ _).mono ?_; rintro e w' ⟨rfl, rfl⟩))
    go_ret
    exact ⟨rfl, b1⟩
  cases hp : inB p 0 100
  · rw [fsB_no3 hp]
    clear h0
    go_enter Try.func26, Try.ntmps26
    go_wp2_with (first | (go_at_call 54; refine (tuneI_ok _ l _ h1 hl).mono ?_; rintro e w1 ⟨rfl, b1⟩; obtain ⟨k1, f1, z1⟩ := bcell b1) | (go_at_call 57; refine (within_any _ _ _ _).mono ?_; rintro e w' ⟨rfl, rfl⟩))
    go_ret
    exact ⟨rfl, b1⟩
  have hF : fsF l r p = fsG l r p (spanN l) (gN l 0).1 r := by simp [fsF, fsB, ho, hr, hp]; intro h; exact absurd h (by intro e; simp [e] at h0)
  rw [hF]
  clear hF
  have lp : 0 < l.length := by omega
  obtain ⟨r1, r2⟩ := inB_iff.1 hr
  obtain ⟨p1, p2⟩ := inB_iff.1 hp
  have tl := (tuneB_iff ho).1
  have t0 := (okN_bd (tuneB_iff ho).2 lp).1
  have tn := (okN_bd (tuneB_iff ho).2 (show l.length - 1 < l.length by omega)).1
  have tm := okN_mono (tuneB_iff ho).2 (show 0 ≤ l.length - 1 by omega) (show l.length - 1 < l.length by omega)
  have hs : (spanN l : Int) = (gN l (l.length - 1)).1 - (gN l 0).1 + 1 := by unfold spanN; omega
  have HS := Lib.hid hs
  have nle := fun t => Lib.hid (natF_len l t)
  obtain ⟨b, o, rfl, hb, e0, e1⟩ := RdN.at_ h1 lp
  obtain ⟨b', o', hbo, _, d0, d1⟩ := RdN.at_ h1 (k := l.length - 1) (by omega)
  obtain ⟨rfl, rfl⟩ : b = b' ∧ o = o' := by simpa using hbo
  have kt : ((l.length : Int) - 1).toNat = l.length - 1 := by omega
  have k0 : (0 : Int) ≤ (l.length : Int) - 1 := by omega
  have k1 : (l.length : Int) - 1 < (l.length : Int) := by omega
  simp only [Nat.zero_mul, Nat.add_zero] at e0
  clear hbo hs h0 e1 d1
  go_enter Try.func26, Try.ntmps26
  go_wp2_with (first | ((go_at_call 54; refine (tuneI_ok _ l _ h1 hl).mono ?_; rintro e w1 ⟨rfl, b1⟩; obtain ⟨k1, f1, z1⟩ := bcell b1); have e0' := (b1.cell (p := ⟨b, o, none⟩) hb).trans e0) | (go_at_call 57; refine (within_any _ _ _ _).mono ?_; rintro e w' ⟨rfl, rfl⟩))
  clear k1 f1 z1 e0'
  have E0 := Lib.hid e0
  clear e0
  go_loopw [7, 8] (fun a t wr => ∃ (k : Nat) (x y : Int), k ≤ spanN l ∧ t = .int .i64 y ∧ y = (gN l 0).1 + k ∧ a = .int .i64 x ∧ (0 ≤ x ∧ x ≤ r) ∧ fsG l r p (spanN l - k) y x = fsG l r p (spanN l) (gN l 0).1 r ∧ Below w.heap.size w wr) (fun _ t _ => ((gN l (l.length - 1)).1 + 1 - intOf t).toNat)
  case atStart => exact ⟨0, r, (gN l 0).1, Nat.zero_le _, rfl, by simp, rfl, by omega, rfl, b1⟩
  case round =>
    obtain ⟨k, x, y, hk, rfl, hy, rfl, ⟨x0, x1⟩, hg, bel⟩ := hrel
    have HG := Lib.hid hg
    have y0 : 0 ≤ y := by omega
    have HY := Lib.hid hy
    clear hg hy
    have dn := (bel.cell (p := ⟨b, o + (l.length - 1) * 2, none⟩) hb).trans d0
    by_cases hlt : y ≤ (gN l (l.length - 1)).1
    · have hk1 : spanN l - k = (spanN l - (k + 1)) + 1 := by have := HS.out; have := HY.out; omega
      have K1 := Lib.hid hk1
      clear hk1
      have hc := (nle y).out
      have y1 : y ≤ 1000 := by omega
      by_cases hmn : r < x + p
      · have hmi := Lib.hid (show min (x + p) r = r by omega)
        by_cases hs : r < 3 * ((natF l y).length : Int)
        · have hh := Lib.hid (show fsG l r p (spanN l - k) y x = y by rw [K1.out, fsG_hit (by rw [hmi.out]; exact hs)])
          go_wp2_with (go_at_call 59; refine (natI_any _ l _ _ (h1.bl bel) hl).mono ?_; rintro e w1 ⟨A1, c1, rfl, ow1, b1⟩; obtain ⟨k1, f1, z1⟩ := bcell b1)
          go_ret
          exact ⟨ret_int (by rw [← HG.out]; exact hh.out.symm), bl_to bel b1⟩
        · have hh := Lib.hid (show fsG l r p (spanN l - (k + 1)) (y + 1) (r - 3 * ((natF l y).length : Int)) = fsG l r p (spanN l - k) y x by rw [K1.out, fsG_miss (by rw [hmi.out]; exact hs), hmi.out])
          go_wp2_with (go_at_call 59; refine (natI_any _ l _ _ (h1.bl bel) hl).mono ?_; rintro e w1 ⟨A1, c1, rfl, ow1, b1⟩; obtain ⟨k1, f1, z1⟩ := bcell b1)
          go_roundw
          case rel => exact ⟨k + 1, _, y + 1, by have := K1.out; omega, rfl, by have := HY.out; omega, rfl, by omega, by rw [hh.out]; exact HG.out, bl_to bel b1⟩
          case measure => simp [intOf]; omega
      · have hmi := Lib.hid (show min (x + p) r = x + p by omega)
        by_cases hs : x + p < 3 * ((natF l y).length : Int)
        · have hh := Lib.hid (show fsG l r p (spanN l - k) y x = y by rw [K1.out, fsG_hit (by rw [hmi.out]; exact hs)])
          go_wp2_with (go_at_call 59; refine (natI_any _ l _ _ (h1.bl bel) hl).mono ?_; rintro e w1 ⟨A1, c1, rfl, ow1, b1⟩; obtain ⟨k1, f1, z1⟩ := bcell b1)
          go_ret
          exact ⟨ret_int (by rw [← HG.out]; exact hh.out.symm), bl_to bel b1⟩
        · have hh := Lib.hid (show fsG l r p (spanN l - (k + 1)) (y + 1) (x + p - 3 * ((natF l y).length : Int)) = fsG l r p (spanN l - k) y x by rw [K1.out, fsG_miss (by rw [hmi.out]; exact hs), hmi.out])
          go_wp2_with (go_at_call 59; refine (natI_any _ l _ _ (h1.bl bel) hl).mono ?_; rintro e w1 ⟨A1, c1, rfl, ow1, b1⟩; obtain ⟨k1, f1, z1⟩ := bcell b1)
          go_roundw
          case rel => exact ⟨k + 1, _, y + 1, by have := K1.out; omega, rfl, by have := HY.out; omega, rfl, by omega, by rw [hh.out]; exact HG.out, bl_to bel b1⟩
          case measure => simp [intOf]; omega
    · have hh := Lib.hid (show fsG l r p (spanN l - k) y x = -1 by rw [show spanN l - k = 0 by have := HS.out; have := HY.out; omega]; rfl)
      go_wp2
      go_ret
      exact ⟨ret_int (by rw [← HG.out]; exact hh.out.symm), bel⟩
theorem l28_any (v : Value) (l : List (Int × Int)) (r p : Int) (w : World) (h1 : RdN w v l) (hl : l.length ≤ 1048576) :
    Calls Try.prog 58 #[v, .int .i64 r, .int .i64 p] w fun e w' => e = .returned (.bool (tuneB l && inB r 1 1000 && inB p 0 100)) ∧ Below w.heap.size w w' := by
  cases ho : tuneB l
  rotate_left
  cases hr : inB r 1 1000
  rotate_left
  cases hp : inB p 0 100
  all_goals
    go_enter Try.func58, Try.ntmps58
    go_wp2_with (first | (go_at_call 52; refine (tuneS_ok _ l _ h1 hl).mono ?_; rintro e w1 ⟨rfl, b1⟩; obtain ⟨k1, f1, z1⟩ := bcell b1) | (go_at_call 56; refine (l01In_any _ _ _ _).mono ?_; rintro e w' ⟨rfl, rfl⟩))
    go_ret
    exact ⟨ret_bool (by simp), b1⟩
set_option maxHeartbeats 1600000 in
theorem fsS_any (v : Value) (l : List (Int × Int)) (r p : Int) (w : World) (h1 : RdN w v l) (hl : l.length ≤ 1048576) :
    Calls Try.prog 25 #[v, .int .i64 r, .int .i64 p] w fun e w' => e = .returned (.int .i64 (fsF l r p)) ∧ Below w.heap.size w w' := by
  obtain ⟨A0, c0, rfl, _, hm⟩ := h1.form
  unfold maxLen at hm
  cases hk : (tuneB l && inB r 1 1000 && inB p 0 100)
  · have hF : fsF l r p = -1 := by
      rw [fsF, if_neg]
      intro h
      obtain ⟨h1, _, h2, h3⟩ := fsB_iff h
      simp [h1, inB_yes h2.1 h2.2, inB_yes h3.1 h3.2] at hk
    rw [hF]
    clear hF
    go_enter Try.func25, Try.ntmps25
    go_wp2_with (go_at_call 58; refine (l28_any _ l _ _ _ h1 hl).mono ?_; rintro e w1 ⟨rfl, b1⟩; obtain ⟨k1, f1, z1⟩ := bcell b1)
    go_ret
    exact ⟨rfl, b1⟩
  have hk' := hk
  simp only [Bool.and_eq_true] at hk'
  obtain ⟨⟨ho, hr⟩, hp⟩ := hk'
  by_cases h0 : l.length = 0
  · rw [fsF_empty h0]
    have hb : ((l.length : Int) == 0) = true := by rw [h0]; rfl
    clear h0
    go_enter Try.func25, Try.ntmps25
    go_wp2_with (go_at_call 58; refine (l28_any _ l _ _ _ h1 hl).mono ?_; rintro e w1 ⟨rfl, b1⟩; obtain ⟨k1, f1, z1⟩ := bcell b1)
    go_ret
    exact ⟨rfl, b1⟩
  have hb0 : ((l.length : Int) == 0) = false := by rw [beq_eq_false_iff_ne]; omega
  have hF : fsF l r p = fsG l r p (spanN l) (gN l 0).1 r := by simp [fsF, fsB, ho, hr, hp]; intro h; exact absurd h (by intro e; simp [e] at h0)
  rw [hF]
  clear hF
  have lp : 0 < l.length := by omega
  obtain ⟨r1, r2⟩ := inB_iff.1 hr
  obtain ⟨p1, p2⟩ := inB_iff.1 hp
  have tl := (tuneB_iff ho).1
  have t0 := (okN_bd (tuneB_iff ho).2 lp).1
  have tn := (okN_bd (tuneB_iff ho).2 (show l.length - 1 < l.length by omega)).1
  have tm := okN_mono (tuneB_iff ho).2 (show 0 ≤ l.length - 1 by omega) (show l.length - 1 < l.length by omega)
  have hs : (spanN l : Int) = (gN l (l.length - 1)).1 - (gN l 0).1 + 1 := by unfold spanN; omega
  have HS := Lib.hid hs
  have nle := fun t => Lib.hid (natF_len l t)
  obtain ⟨b, o, rfl, hb, e0, e1⟩ := RdN.at_ h1 lp
  obtain ⟨b', o', hbo, _, d0, d1⟩ := RdN.at_ h1 (k := l.length - 1) (by omega)
  obtain ⟨rfl, rfl⟩ : b = b' ∧ o = o' := by simpa using hbo
  have kt : ((l.length : Int) - 1).toNat = l.length - 1 := by omega
  have k0 : (0 : Int) ≤ (l.length : Int) - 1 := by omega
  have k1 : (l.length : Int) - 1 < (l.length : Int) := by omega
  simp only [Nat.zero_mul, Nat.add_zero] at e0
  clear hbo hs h0 e1 d1
  go_enter Try.func25, Try.ntmps25
  go_wp2_with (first | ((go_at_call 58; refine (l28_any _ l _ _ _ h1 hl).mono ?_; rintro e w1 ⟨rfl, b1⟩; obtain ⟨k1, f1, z1⟩ := bcell b1); have e0' := (b1.cell (p := ⟨b, o, none⟩) hb).trans e0))
  clear k1 f1 z1 e0'
  have E0 := Lib.hid e0
  clear e0
  go_loopw [7, 8] (fun a t wr => ∃ (k : Nat) (x y : Int), k ≤ spanN l ∧ t = .int .i64 y ∧ y = (gN l 0).1 + k ∧ a = .int .i64 x ∧ (0 ≤ x ∧ x ≤ r) ∧ fsG l r p (spanN l - k) y x = fsG l r p (spanN l) (gN l 0).1 r ∧ Below w.heap.size w wr) (fun _ t _ => ((gN l (l.length - 1)).1 + 1 - intOf t).toNat)
  case atStart => exact ⟨0, r, (gN l 0).1, Nat.zero_le _, rfl, by simp, rfl, by omega, rfl, b1⟩
  case round =>
    obtain ⟨k, x, y, hk, rfl, hy, rfl, ⟨x0, x1⟩, hg, bel⟩ := hrel
    have HG := Lib.hid hg
    have y0 : 0 ≤ y := by omega
    have HY := Lib.hid hy
    clear hg hy
    have dn := (bel.cell (p := ⟨b, o + (l.length - 1) * 2, none⟩) hb).trans d0
    by_cases hlt : y ≤ (gN l (l.length - 1)).1
    · have hk1 : spanN l - k = (spanN l - (k + 1)) + 1 := by have := HS.out; have := HY.out; omega
      have K1 := Lib.hid hk1
      clear hk1
      have hc := (nle y).out
      have y1 : y ≤ 1000 := by omega
      by_cases hmn : ¬ x + p < r
      · have hmi := Lib.hid (show min (x + p) r = r by omega)
        by_cases hs : r < 3 * ((natF l y).length : Int)
        · have hh := Lib.hid (show fsG l r p (spanN l - k) y x = y by rw [K1.out, fsG_hit (by rw [hmi.out]; exact hs)])
          go_wp2_with (go_at_call 36; refine (natS_any _ l _ _ (h1.bl bel) hl).mono ?_; rintro e w1 ⟨A1, c1, rfl, ow1, b1⟩; obtain ⟨k1, f1, z1⟩ := bcell b1)
          go_ret
          exact ⟨ret_int (by rw [← HG.out]; exact hh.out.symm), bl_to bel b1⟩
        · have hh := Lib.hid (show fsG l r p (spanN l - (k + 1)) (y + 1) (r - 3 * ((natF l y).length : Int)) = fsG l r p (spanN l - k) y x by rw [K1.out, fsG_miss (by rw [hmi.out]; exact hs), hmi.out])
          go_wp2_with (go_at_call 36; refine (natS_any _ l _ _ (h1.bl bel) hl).mono ?_; rintro e w1 ⟨A1, c1, rfl, ow1, b1⟩; obtain ⟨k1, f1, z1⟩ := bcell b1)
          go_roundw
          case rel => exact ⟨k + 1, _, y + 1, by have := K1.out; omega, rfl, by have := HY.out; omega, rfl, by omega, by rw [hh.out]; exact HG.out, bl_to bel b1⟩
          case measure => simp [intOf]; omega
      · have hmi := Lib.hid (show min (x + p) r = x + p by omega)
        by_cases hs : x + p < 3 * ((natF l y).length : Int)
        · have hh := Lib.hid (show fsG l r p (spanN l - k) y x = y by rw [K1.out, fsG_hit (by rw [hmi.out]; exact hs)])
          go_wp2_with (go_at_call 36; refine (natS_any _ l _ _ (h1.bl bel) hl).mono ?_; rintro e w1 ⟨A1, c1, rfl, ow1, b1⟩; obtain ⟨k1, f1, z1⟩ := bcell b1)
          go_ret
          exact ⟨ret_int (by rw [← HG.out]; exact hh.out.symm), bl_to bel b1⟩
        · have hh := Lib.hid (show fsG l r p (spanN l - (k + 1)) (y + 1) (x + p - 3 * ((natF l y).length : Int)) = fsG l r p (spanN l - k) y x by rw [K1.out, fsG_miss (by rw [hmi.out]; exact hs), hmi.out])
          go_wp2_with (go_at_call 36; refine (natS_any _ l _ _ (h1.bl bel) hl).mono ?_; rintro e w1 ⟨A1, c1, rfl, ow1, b1⟩; obtain ⟨k1, f1, z1⟩ := bcell b1)
          go_roundw
          case rel => exact ⟨k + 1, _, y + 1, by have := K1.out; omega, rfl, by have := HY.out; omega, rfl, by omega, by rw [hh.out]; exact HG.out, bl_to bel b1⟩
          case measure => simp [intOf]; omega
    · have hh := Lib.hid (show fsG l r p (spanN l - k) y x = -1 by rw [show spanN l - k = 0 by have := HS.out; have := HY.out; omega]; rfl)
      go_wp2
      go_ret
      exact ⟨ret_int (by rw [← HG.out]; exact hh.out.symm), bel⟩
end Go.Proofs.Ytbcmidencifcoaa
