/- LeastPump and LeastRoom of the program and of the reference; lengths up to 2^20. -/
import Derived.Test.YtbcmidencifcoaaBell
namespace Go.Proofs.Ytbcmidencifcoaa
open Go.RowKit

theorem lpF_hit {l : List (Int × Int)} {r : Int} {k : Nat} (ho : tuneB l = true) (hr : inB r 1 1000 = true) (hk : k ≤ 100) (h : ∀ j : Nat, j < k → silB l r (j : Int) = false) (hs : silB l r (k : Int) = true) : lpF l r = k := by
  have e : lsF (fun k => silB l r (k : Int)) 101 = k := lsF_eq (by omega) h (fun _ => hs)
  rw [lpF, ho, hr, e]
  simp
  omega
theorem lpF_none {l : List (Int × Int)} {r : Int} (ho : tuneB l = true) (hr : inB r 1 1000 = true) (h : ∀ j : Nat, j < 101 → silB l r (j : Int) = false) : lpF l r = -1 := by
  have e : lsF (fun k => silB l r (k : Int)) 101 = 101 := lsF_eq (by omega) h (fun h => by omega)
  rw [lpF, ho, hr, e]
  simp
theorem lrF_hit {l : List (Int × Int)} {p : Int} {k : Nat} (ho : tuneB l = true) (hr : inB p 0 100 = true) (hk : k < 1000) (h : ∀ j : Nat, j < k → silB l (j + 1 : Int) p = false) (hs : silB l (k + 1 : Int) p = true) : lrF l p = k + 1 := by
  have e : lsF (fun k => silB l (k + 1 : Int) p) 1000 = k := lsF_eq (by omega) h (fun _ => hs)
  rw [lrF, ho, hr, e]
  simp
  omega
theorem lrF_none {l : List (Int × Int)} {p : Int} (ho : tuneB l = true) (hr : inB p 0 100 = true) (h : ∀ j : Nat, j < 1000 → silB l (j + 1 : Int) p = false) : lrF l p = -1 := by
  have e : lsF (fun k => silB l (k + 1 : Int) p) 1000 = 1000 := lsF_eq (by omega) h (fun h => by omega)
  rw [lrF, ho, hr, e]
  simp
theorem silB_yes {l : List (Int × Int)} {r p : Int} (h : silB l r p = true) : fsF l r p < 0 := by simpa [silB] using h
theorem silB_not {l : List (Int × Int)} {r p : Int} (h : silB l r p = false) : ¬ fsF l r p < 0 := by simpa [silB] using h

set_option maxHeartbeats 1600000 in
set_option maxRecDepth 100000 in
theorem lpI_any (v : Value) (l : List (Int × Int)) (r : Int) (w : World) (h1 : RdN w v l) (hl : l.length ≤ 1048576) :
    Calls Try.prog 32 #[v, .int .i64 r] w fun e w' => e = .returned (.int .i64 (lpF l r)) ∧ Below w.heap.size w w' := by
  cases ho : tuneB l
  · have hF : lpF l r = -1 := by simp [lpF, ho]
    rw [hF]
    go_enter Try.func32, Try.ntmps32
    go_wp2_with (go_at_call 54; refine (tuneI_ok _ l _ h1 hl).mono ?_; rintro e w1 ⟨rfl, b1⟩; obtain ⟨k1, f1, z1⟩ := bcell b1)
    go_ret
    exact ⟨rfl, b1⟩
  cases hr : inB r 1 1000
  · have hF : lpF l r = -1 := by simp [lpF, hr]
    rw [hF]
    go_enter Try.func32, Try.ntmps32
    go_wp2_with (first | (go_at_call 54; refine (tuneI_ok _ l _ h1 hl).mono ?_; rintro e w1 ⟨rfl, b1⟩; obtain ⟨k1, f1, z1⟩ := bcell b1) | (go_at_call 57; refine (within_any _ _ _ _).mono ?_; rintro e w' ⟨rfl, rfl⟩))
    go_ret
    exact ⟨rfl, b1⟩
  go_enter Try.func32, Try.ntmps32
  go_wp2_with (first | (go_at_call 54; refine (tuneI_ok _ l _ h1 hl).mono ?_; rintro e w1 ⟨rfl, b1⟩; obtain ⟨k1, f1, z1⟩ := bcell b1) | (go_at_call 57; refine (within_any _ _ _ _).mono ?_; rintro e w' ⟨rfl, rfl⟩))
  clear k1 f1 z1
  go_loopw [5] (fun i wr => ∃ k : Nat, k ≤ 101 ∧ i = .int .i64 k ∧ (∀ j : Nat, j < k → silB l r (j : Int) = false) ∧ Below w.heap.size w wr) (fun i _ => (101 - intOf i).toNat)
  case atStart => exact ⟨0, by omega, rfl, fun j h => by omega, b1⟩
  case round =>
    obtain ⟨k, hk, rfl, ha, bel⟩ := hrel
    have HA := Lib.hid ha
    clear ha
    by_cases hlt : k ≤ 100
    · have hlt' : (k : Int) ≤ 100 := by omega
      cases hs : silB l r (k : Int)
      · have hn := silB_not hs
        go_wp2_with (go_at_call 26; refine (fsI_any _ l _ _ _ (h1.bl bel) hl).mono ?_; rintro e w2 ⟨rfl, b2⟩; obtain ⟨k2, f2, z2⟩ := bcell b2)
        go_roundw
        case rel => exact ⟨k + 1, by omega, by go_num, fun j hj => by by_cases e : j = k; (· rw [e]; exact hs); (· exact HA.out j (by omega)), bl_to bel b2⟩
        case measure => simp [intOf]; omega
      · have hn := silB_yes hs
        have hh := Lib.hid (lpF_hit ho hr hlt HA.out hs)
        go_wp2_with (go_at_call 26; refine (fsI_any _ l _ _ _ (h1.bl bel) hl).mono ?_; rintro e w2 ⟨rfl, b2⟩; obtain ⟨k2, f2, z2⟩ := bcell b2)
        go_ret
        exact ⟨ret_int hh.out.symm, bl_to bel b2⟩
    · obtain rfl : k = 101 := by omega
      have hh := Lib.hid (lpF_none ho hr HA.out)
      go_wp2
      go_ret
      exact ⟨ret_int hh.out.symm, bel⟩

set_option maxHeartbeats 1600000 in
set_option maxRecDepth 100000 in
theorem lpS_any (v : Value) (l : List (Int × Int)) (r : Int) (w : World) (h1 : RdN w v l) (hl : l.length ≤ 1048576) :
    Calls Try.prog 31 #[v, .int .i64 r] w fun e w' => e = .returned (.int .i64 (lpF l r)) ∧ Below w.heap.size w w' := by
  cases hk : (tuneB l && inB r 1 1000 && inB 0 0 100)
  · have hF : lpF l r = -1 := by
      have : (tuneB l && inB r 1 1000) = false := by simpa [inB_yes (show (0 : Int) ≤ 0 by omega) (show (0 : Int) ≤ 100 by omega)] using hk
      simp only [lpF, this]
      rfl
    rw [hF]
    go_enter Try.func31, Try.ntmps31
    go_wp2_with (go_at_call 58; refine (l28_any _ l _ _ _ h1 hl).mono ?_; rintro e w1 ⟨rfl, b1⟩; obtain ⟨k1, f1, z1⟩ := bcell b1)
    go_ret
    exact ⟨rfl, b1⟩
  have hk' := hk
  simp only [Bool.and_eq_true] at hk'
  obtain ⟨⟨ho, hr⟩, _⟩ := hk'
  obtain ⟨r1, r2⟩ := inB_iff.1 hr
  go_enter Try.func31, Try.ntmps31
  go_wp2_with (go_at_call 58; refine (l28_any _ l _ _ _ h1 hl).mono ?_; rintro e w1 ⟨rfl, b1⟩; obtain ⟨k1, f1, z1⟩ := bcell b1)
  clear k1 f1 z1
  go_loopw [5, 6] (fun x y wr => ∃ a b : Nat, a ≤ b ∧ b ≤ 101 ∧ x = .int .i64 a ∧ y = .int .i64 b ∧ (∀ j : Nat, j < a → silB l r (j : Int) = false) ∧ (b < 101 → silB l r (b : Int) = true) ∧ Below w.heap.size w wr) (fun x y _ => (intOf y - intOf x).toNat)
  case atStart => exact ⟨0, 101, by omega, by omega, rfl, rfl, fun j h => by omega, fun h => by omega, b1⟩
  case round =>
    obtain ⟨a, b, hab, hb, rfl, rfl, ha, hbs, bel⟩ := hrel
    have HA := Lib.hid ha
    have HB := Lib.hid hbs
    clear ha hbs
    by_cases hlt : a < b
    · have hlt' : (a : Int) < (b : Int) := by omega
      obtain ⟨m, hm, m1, m2⟩ : ∃ m : Nat, ((a : Int) + (b : Int)) / 2 = (m : Int) ∧ a ≤ m ∧ m < b := ⟨(a + b) / 2, by omega, by omega, by omega⟩
      have hme : ((m : Int) == 101) = false := by rw [beq_eq_false_iff_ne]; omega
      cases hs : silB l r (m : Int)
      · have hn := silB_not hs
        go_wp2_with (go_at_call 25; refine (fsS_any _ l _ _ _ (h1.bl bel) hl).mono ?_; rintro e w2 ⟨rfl, b2⟩; obtain ⟨k2, f2, z2⟩ := bcell b2)
        go_roundw
        case rel => exact ⟨m + 1, b, by omega, by omega, by go_num, rfl, fun j hj => silB_pump r1 r2 (show m ≤ 100 by omega) (show j ≤ m by omega) hs, HB.out, bl_to bel b2⟩
        case measure => simp [intOf]; omega
      · have hn := silB_yes hs
        go_wp2_with (go_at_call 25; refine (fsS_any _ l _ _ _ (h1.bl bel) hl).mono ?_; rintro e w2 ⟨rfl, b2⟩; obtain ⟨k2, f2, z2⟩ := bcell b2)
        go_roundw
        case rel => exact ⟨a, m, by omega, by omega, rfl, rfl, HA.out, fun _ => hs, bl_to bel b2⟩
        case measure => simp [intOf]; omega
    · obtain rfl : a = b := by omega
      by_cases he : a = 101
      · have hh := Lib.hid (lpF_none ho hr (fun j hj => HA.out j (by omega)))
        have he' : ((a : Int) == 101) = true := by rw [he]; rfl
        clear he
        go_wp2
        go_ret
        exact ⟨ret_int hh.out.symm, bel⟩
      · have hh := Lib.hid (lpF_hit ho hr (show a ≤ 100 by omega) HA.out (HB.out (by omega)))
        have he' : ((a : Int) == 101) = false := by rw [beq_eq_false_iff_ne]; omega
        clear he
        go_wp2
        go_ret
        exact ⟨ret_int hh.out.symm, bel⟩

set_option maxHeartbeats 1600000 in
set_option maxRecDepth 100000 in
theorem lrI_any (v : Value) (l : List (Int × Int)) (p : Int) (w : World) (h1 : RdN w v l) (hl : l.length ≤ 1048576) :
    Calls Try.prog 30 #[v, .int .i64 p] w fun e w' => e = .returned (.int .i64 (lrF l p)) ∧ Below w.heap.size w w' := by
  cases ho : tuneB l
  · have hF : lrF l p = -1 := by simp [lrF, ho]
    rw [hF]
    go_enter Try.func30, Try.ntmps30
    go_wp2_with (go_at_call 54; refine (tuneI_ok _ l _ h1 hl).mono ?_; rintro e w1 ⟨rfl, b1⟩; obtain ⟨k1, f1, z1⟩ := bcell b1)
    go_ret
    exact ⟨rfl, b1⟩
  cases hr : inB p 0 100
  · have hF : lrF l p = -1 := by simp [lrF, hr]
    rw [hF]
    go_enter Try.func30, Try.ntmps30
    go_wp2_with (first | (go_at_call 54; refine (tuneI_ok _ l _ h1 hl).mono ?_; rintro e w1 ⟨rfl, b1⟩; obtain ⟨k1, f1, z1⟩ := bcell b1) | (go_at_call 57; refine (within_any _ _ _ _).mono ?_; rintro e w' ⟨rfl, rfl⟩))
    go_ret
    exact ⟨rfl, b1⟩
  go_enter Try.func30, Try.ntmps30
  go_wp2_with (first | (go_at_call 54; refine (tuneI_ok _ l _ h1 hl).mono ?_; rintro e w1 ⟨rfl, b1⟩; obtain ⟨k1, f1, z1⟩ := bcell b1) | (go_at_call 57; refine (within_any _ _ _ _).mono ?_; rintro e w' ⟨rfl, rfl⟩))
  clear k1 f1 z1
  go_loopw [5] (fun i wr => ∃ k : Nat, k ≤ 1000 ∧ i = .int .i64 (k + 1 : Int) ∧ (∀ j : Nat, j < k → silB l (j + 1 : Int) p = false) ∧ Below w.heap.size w wr) (fun i _ => (1001 - intOf i).toNat)
  case atStart => exact ⟨0, by omega, rfl, fun j h => by omega, b1⟩
  case round =>
    obtain ⟨k, hk, rfl, ha, bel⟩ := hrel
    have HA := Lib.hid ha
    clear ha
    by_cases hlt : k < 1000
    · have hlt' : (k : Int) + 1 ≤ 1000 := by omega
      cases hs : silB l (k + 1 : Int) p
      · have hn := silB_not hs
        go_wp2_with (go_at_call 26; refine (fsI_any _ l _ _ _ (h1.bl bel) hl).mono ?_; rintro e w2 ⟨rfl, b2⟩; obtain ⟨k2, f2, z2⟩ := bcell b2)
        go_roundw
        case rel => exact ⟨k + 1, by omega, by go_num, fun j hj => by by_cases e : j = k; (· rw [e]; exact hs); (· exact HA.out j (by omega)), bl_to bel b2⟩
        case measure => simp [intOf]; omega
      · have hn := silB_yes hs
        have hh := Lib.hid (lrF_hit ho hr hlt HA.out hs)
        go_wp2_with (go_at_call 26; refine (fsI_any _ l _ _ _ (h1.bl bel) hl).mono ?_; rintro e w2 ⟨rfl, b2⟩; obtain ⟨k2, f2, z2⟩ := bcell b2)
        go_ret
        exact ⟨ret_int hh.out.symm, bl_to bel b2⟩
    · obtain rfl : k = 1000 := by omega
      have hh := Lib.hid (lrF_none ho hr HA.out)
      go_wp2
      go_ret
      exact ⟨ret_int hh.out.symm, bel⟩

set_option maxHeartbeats 1600000 in
set_option maxRecDepth 100000 in
theorem lrS_any (v : Value) (l : List (Int × Int)) (p : Int) (w : World) (h1 : RdN w v l) (hl : l.length ≤ 1048576) :
    Calls Try.prog 29 #[v, .int .i64 p] w fun e w' => e = .returned (.int .i64 (lrF l p)) ∧ Below w.heap.size w w' := by
  cases hk : (tuneB l && inB 1 1 1000 && inB p 0 100)
  · have hF : lrF l p = -1 := by
      have : (tuneB l && inB p 0 100) = false := by simpa [inB_yes (show (1 : Int) ≤ 1 by omega) (show (1 : Int) ≤ 1000 by omega)] using hk
      simp only [lrF, this]
      rfl
    rw [hF]
    go_enter Try.func29, Try.ntmps29
    go_wp2_with (go_at_call 58; refine (l28_any _ l _ _ _ h1 hl).mono ?_; rintro e w1 ⟨rfl, b1⟩; obtain ⟨k1, f1, z1⟩ := bcell b1)
    go_ret
    exact ⟨rfl, b1⟩
  have hk' := hk
  simp only [Bool.and_eq_true] at hk'
  obtain ⟨⟨ho, _⟩, hr⟩ := hk'
  obtain ⟨r1, r2⟩ := inB_iff.1 hr
  cases hs0 : silB l ((999 : Nat) + 1 : Int) p
  · have hn := silB_not hs0
    have hn' : ¬ fsF l 1000 p < 0 := hn
    have hn2 : 0 ≤ fsF l 1000 p := by omega
    have hh := Lib.hid (lrF_none ho hr (fun j hj => silB_room r1 r2 (show 999 < 1000 by omega) (show j ≤ 999 by omega) hs0))
    clear hn
    go_enter Try.func29, Try.ntmps29
    go_wp2_with (first | (go_at_call 58; refine (l28_any _ l _ _ _ h1 hl).mono ?_; rintro e w1 ⟨rfl, b1⟩; obtain ⟨k1, f1, z1⟩ := bcell b1) | (go_at_call 25; refine (fsS_any _ l _ _ _ (h1.bl b1) hl).mono ?_; rintro e w2 ⟨rfl, b2⟩; obtain ⟨k2, f2, z2⟩ := bcell b2))
    go_ret
    exact ⟨ret_int hh.out.symm, by (repeat' (first | (with_reducible exact Below.refl _ _) | (with_reducible refine bl_alloc ?_ _) | (with_reducible refine bl_drewN ?_ _) | (with_reducible refine bl_drew ?_) | (with_reducible assumption) | (with_reducible refine bl_to ?_ (by assumption)) | (with_reducible refine Below.trans ?_ (by assumption)) | (with_reducible refine Below.trans ?_ (Below.mono (by assumption) ?_)) | (with_reducible refine bl_set ?_ ?_ _) | (simp; done) | (simp; omega) | omega))⟩
  have hn := silB_yes hs0
  have hn' : fsF l 1000 p < 0 := hn
  have hn2 : ¬ 0 ≤ fsF l 1000 p := by omega
  clear hn
  go_enter Try.func29, Try.ntmps29
  go_wp2_with (first | (go_at_call 58; refine (l28_any _ l _ _ _ h1 hl).mono ?_; rintro e w1 ⟨rfl, b1⟩; obtain ⟨k1, f1, z1⟩ := bcell b1) | (go_at_call 25; refine (fsS_any _ l _ _ _ (h1.bl b1) hl).mono ?_; rintro e w2 ⟨rfl, b2⟩; obtain ⟨k2, f2, z2⟩ := bcell b2))
  have b3 : Below w.heap.size w w2 := by (repeat' (first | (with_reducible exact Below.refl _ _) | (with_reducible refine bl_alloc ?_ _) | (with_reducible refine bl_drewN ?_ _) | (with_reducible refine bl_drew ?_) | (with_reducible assumption) | (with_reducible refine bl_to ?_ (by assumption)) | (with_reducible refine Below.trans ?_ (by assumption)) | (with_reducible refine Below.trans ?_ (Below.mono (by assumption) ?_)) | (with_reducible refine bl_set ?_ ?_ _) | (simp; done) | (simp; omega) | omega))
  clear k1 f1 z1 k2 f2 z2
  go_loopw [5, 6] (fun x y wr => ∃ a b : Nat, a ≤ b ∧ b ≤ 999 ∧ x = .int .i64 (a + 1 : Int) ∧ y = .int .i64 (b + 1 : Int) ∧ (∀ j : Nat, j < a → silB l (j + 1 : Int) p = false) ∧ silB l (b + 1 : Int) p = true ∧ Below w.heap.size w wr) (fun x y _ => (intOf y - intOf x).toNat)
  case atStart => exact ⟨0, 999, by omega, by omega, rfl, rfl, fun j h => by omega, hs0, b3⟩
  case round =>
    obtain ⟨a, b, hab, hb, rfl, rfl, ha, hbs, bel⟩ := hrel
    have HA := Lib.hid ha
    have HB := Lib.hid hbs
    clear ha hbs
    by_cases hlt : a < b
    · have hlt' : (a : Int) + 1 < (b : Int) + 1 := by omega
      obtain ⟨m, hm, m1, m2⟩ : ∃ m : Nat, ((a : Int) + 1 + ((b : Int) + 1)) / 2 = (m : Int) + 1 ∧ a ≤ m ∧ m < b := ⟨(a + b) / 2, by omega, by omega, by omega⟩
      cases hs : silB l (m + 1 : Int) p
      · have hn := silB_not hs
        go_wp2_with (go_at_call 25; refine (fsS_any _ l _ _ _ (h1.bl bel) hl).mono ?_; rintro e w2 ⟨rfl, b2⟩; obtain ⟨k2, f2, z2⟩ := bcell b2)
        go_roundw
        case rel => exact ⟨m + 1, b, by omega, by omega, by go_num, rfl, fun j hj => silB_room r1 r2 (show m < 1000 by omega) (show j ≤ m by omega) hs, HB.out, bl_to bel b2⟩
        case measure => simp [intOf]; omega
      · have hn := silB_yes hs
        go_wp2_with (go_at_call 25; refine (fsS_any _ l _ _ _ (h1.bl bel) hl).mono ?_; rintro e w2 ⟨rfl, b2⟩; obtain ⟨k2, f2, z2⟩ := bcell b2)
        go_roundw
        case rel => exact ⟨a, m, by omega, by omega, rfl, rfl, HA.out, hs, bl_to bel b2⟩
        case measure => simp [intOf]; omega
    · obtain rfl : a = b := by omega
      have hh := Lib.hid (lrF_hit ho hr (show a < 1000 by omega) HA.out HB.out)
      go_wp2
      go_ret
      exact ⟨ret_int hh.out.symm, bel⟩
end Go.Proofs.Ytbcmidencifcoaa
