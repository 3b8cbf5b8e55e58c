/- Offers: OfferOk, PriceOf of the program and of the reference return the same; no condition. -/
import Derived.Test.YtggalfjaenoaeaaBase
import Derived.BigQuiet
import Derived.Handy
namespace Go.Proofs.Ytggalfjaenoaeaa
open Go.RowKit

def offB (t p d : Int) : Bool := inB t 1 24 && inB p 0 100 && inB d 0 3

set_option maxHeartbeats 400000 in
theorem offI_any (t p d : Int) (w : World) : Calls Try.prog 19 #[.agg #[.int .i64 t, .int .i64 p, .int .i64 d]] w fun e w' => e = .returned (.bool (offB t p d)) ∧ Below w.heap.size w w' := by
  cases h1 : inB t 1 24
  rotate_left
  cases h2 : inB p 0 100
  rotate_left
  all_goals
    go_enter Try.func19, Try.ntmps19
    go_wp2_with (go_at_call 50; refine (within_any _ _ _ _).mono ?_; rintro e w' ⟨rfl, rfl⟩)
    go_ret
    exact ⟨ret_bool (by simp [offB, *]), by (repeat' (first | (with_reducible exact Below.refl _ _) | (with_reducible refine bl_alloc ?_ _) | (with_reducible refine bl_drewN ?_ _) | (with_reducible refine bl_drew ?_) | (with_reducible assumption) | (with_reducible refine bl_to ?_ (by assumption)) | (with_reducible refine Below.trans ?_ (by assumption)) | (with_reducible refine Below.trans ?_ (Below.mono (by assumption) ?_)) | (with_reducible refine bl_set ?_ ?_ _) | (simp; done) | (simp; omega) | omega))⟩

set_option maxHeartbeats 400000 in
theorem offS_any (t p d : Int) (w : World) : Calls Try.prog 17 #[.agg #[.int .i64 t, .int .i64 p, .int .i64 d]] w fun e w' => e = .returned (.bool (offB t p d)) ∧ Below w.heap.size w w' := by
  cases h1 : inB t 1 24
  rotate_left
  cases h2 : inB p 0 100
  rotate_left
  all_goals
    go_enter Try.func17, Try.ntmps17
    go_wp2_with (go_at_call 49; refine (l01In_any _ _ _ _).mono ?_; rintro e w' ⟨rfl, rfl⟩)
    go_ret
    exact ⟨ret_bool (by simp [offB, *]), by (repeat' (first | (with_reducible exact Below.refl _ _) | (with_reducible refine bl_alloc ?_ _) | (with_reducible refine bl_drewN ?_ _) | (with_reducible refine bl_drew ?_) | (with_reducible assumption) | (with_reducible refine bl_to ?_ (by assumption)) | (with_reducible refine Below.trans ?_ (by assumption)) | (with_reducible refine Below.trans ?_ (Below.mono (by assumption) ?_)) | (with_reducible refine bl_set ?_ ?_ _) | (simp; done) | (simp; omega) | omega))⟩

theorem toOffer_any (t p d : Int) (w : World) : Calls Try.prog 18 #[.agg #[.int .i64 t, .int .i64 p, .int .i64 d]] w fun e w' => e = .returned (.agg #[.int .i64 t, .int .i64 p, .int .i64 d]) ∧ Below w.heap.size w w' := by
  go_enter Try.func18, Try.ntmps18
  go_wp2
  exact bodyPost_ret (v := .agg #[.int .i64 t, .int .i64 p, .int .i64 d]) (by simp [results, Try.results18, go_sem]) rfl ⟨rfl, by (repeat' (first | (with_reducible exact Below.refl _ _) | (with_reducible refine bl_alloc ?_ _) | (with_reducible refine bl_drewN ?_ _) | (with_reducible refine bl_drew ?_) | (with_reducible assumption) | (with_reducible refine bl_to ?_ (by assumption)) | (with_reducible refine Below.trans ?_ (by assumption)) | (with_reducible refine Below.trans ?_ (Below.mono (by assumption) ?_)) | (with_reducible refine bl_set ?_ ?_ _) | (simp; done) | (simp; omega) | omega))⟩

theorem offB_iff {t p d : Int} : offB t p d = true ↔ (1 ≤ t ∧ t ≤ 24) ∧ (0 ≤ p ∧ p ≤ 100) ∧ (0 ≤ d ∧ d ≤ 3) := by
  simp [offB, inB_iff, and_assoc]

def woodF (d : Int) : Int := if d = 1 then 5 else if d = 2 then 12 else if d = 3 then 30 else 0
def priceF (t p d : Int) : Int := if offB t p d then 20 + 3 * t + (p + 3) / 4 + woodF d else -1

theorem priceS_any (t p d : Int) (w : World) : Calls Try.prog 24 #[.agg #[.int .i64 t, .int .i64 p, .int .i64 d]] w fun e w' => e = .returned (.int .i64 (priceF t p d)) ∧ Below w.heap.size w w' := by
  cases h : offB t p d
  · go_enter Try.func24, Try.ntmps24
    go_wp2_with (go_at_call 17; refine (offS_any _ _ _ _).mono ?_; rintro e w1 ⟨rfl, hb⟩)
    go_ret
    exact ⟨ret_int (by simp [priceF, h]), by (repeat' (first | (with_reducible exact Below.refl _ _) | (with_reducible refine bl_alloc ?_ _) | (with_reducible refine bl_drewN ?_ _) | (with_reducible refine bl_drew ?_) | (with_reducible assumption) | (with_reducible refine bl_to ?_ (by assumption)) | (with_reducible refine Below.trans ?_ (by assumption)) | (with_reducible refine Below.trans ?_ (Below.mono (by assumption) ?_)) | (with_reducible refine bl_set ?_ ?_ _) | (simp; done) | (simp; omega) | omega))⟩
  · obtain ⟨⟨h1, h2⟩, ⟨h3, h4⟩, h5, h6⟩ := offB_iff.1 h
    obtain rfl | rfl | rfl | rfl : d = 0 ∨ d = 1 ∨ d = 2 ∨ d = 3 := by omega
    all_goals
      go_enter Try.func24, Try.ntmps24
      go_wp2_with (go_at_call 17; refine (offS_any _ _ _ _).mono ?_; rintro e w1 ⟨rfl, hb⟩; obtain ⟨hc, hf⟩ := bcell hb)
      go_ret
      exact ⟨ret_int (by simp [priceF, h, woodF]), by (repeat' (first | (with_reducible exact Below.refl _ _) | (with_reducible refine bl_alloc ?_ _) | (with_reducible refine bl_drewN ?_ _) | (with_reducible refine bl_drew ?_) | (with_reducible assumption) | (with_reducible refine bl_to ?_ (by assumption)) | (with_reducible refine Below.trans ?_ (by assumption)) | (with_reducible refine Below.trans ?_ (Below.mono (by assumption) ?_)) | (with_reducible refine bl_set ?_ ?_ _) | (simp; done) | (simp; omega) | omega))⟩

theorem priceI_any (t p d : Int) (w : World) : Calls Try.prog 25 #[.agg #[.int .i64 t, .int .i64 p, .int .i64 d]] w fun e w' => e = .returned (.int .i64 (priceF t p d)) ∧ Below w.heap.size w w' := by
  cases h : offB t p d
  · go_enter Try.func25, Try.ntmps25
    go_wp2_with (go_at_call 19; refine (offI_any _ _ _ _).mono ?_; rintro e w1 ⟨rfl, b1⟩; obtain ⟨k1, f1, z1⟩ := bcell b1)
    go_ret
    exact ⟨ret_int (by simp [priceF, h]), by (repeat' (first | (with_reducible exact Below.refl _ _) | (with_reducible refine bl_alloc ?_ _) | (with_reducible refine bl_drewN ?_ _) | (with_reducible refine bl_drew ?_) | (with_reducible assumption) | (with_reducible refine bl_to ?_ (by assumption)) | (with_reducible refine Below.trans ?_ (by assumption)) | (with_reducible refine Below.trans ?_ (Below.mono (by assumption) ?_)) | (with_reducible refine bl_set ?_ ?_ _) | (simp; done) | (simp; omega) | omega))⟩
  · obtain ⟨⟨h1, h2⟩, ⟨h3, h4⟩, h5, h6⟩ := offB_iff.1 h
    obtain rfl | rfl | rfl | rfl : d = 0 ∨ d = 1 ∨ d = 2 ∨ d = 3 := by omega
    all_goals
      go_enter Try.func25, Try.ntmps25
      go_wp2_with (go_at_call 19; refine (offI_any _ _ _ _).mono ?_; rintro e w1 ⟨rfl, b1⟩; obtain ⟨k1, f1, z1⟩ := bcell b1)
      go_quiet (fail)
      go_wp2
      go_ret
      refine ⟨ret_int (by simp [priceF, h, woodF]), ?_⟩
      (repeat' (first | (with_reducible exact Below.refl _ _) | (with_reducible refine bl_alloc ?_ _) | (with_reducible refine bl_drewN ?_ _) | (with_reducible refine bl_drew ?_) | (with_reducible assumption) | (with_reducible refine bl_to ?_ (by assumption)) | (with_reducible refine Below.trans ?_ (by assumption)) | (with_reducible refine Below.trans ?_ (Below.mono (by assumption) ?_)) | (with_reducible refine bl_set ?_ ?_ _) | (simp; done) | (simp; omega) | omega))

theorem offerOk_law (t p d : Int) (w : World) : Calls Try.prog 4 #[.agg #[.int .i64 t, .int .i64 p, .int .i64 d]] w fun e w' => e = .returned (.bool true) ∧ Below w.heap.size w w' := by
  go_enter Try.func4, Try.ntmps4
  go_wp2_with (first | (go_at_call 18; refine (toOffer_any _ _ _ _).mono ?_; rintro e w1 ⟨rfl, b1⟩; obtain ⟨k1, f1, z1⟩ := bcell b1) | (go_at_call 17; refine (offS_any _ _ _ _).mono ?_; rintro e w1 ⟨rfl, b1⟩; obtain ⟨k1, f1, z1⟩ := bcell b1) | (go_at_call 19; refine (offI_any _ _ _ _).mono ?_; rintro e w1 ⟨rfl, b1⟩; obtain ⟨k1, f1, z1⟩ := bcell b1))
  go_ret
  exact ⟨rfl, by (repeat' (first | (with_reducible exact Below.refl _ _) | (with_reducible refine bl_alloc ?_ _) | (with_reducible refine bl_drewN ?_ _) | (with_reducible refine bl_drew ?_) | (with_reducible assumption) | (with_reducible refine bl_to ?_ (by assumption)) | (with_reducible refine Below.trans ?_ (by assumption)) | (with_reducible refine Below.trans ?_ (Below.mono (by assumption) ?_)) | (with_reducible refine bl_set ?_ ?_ _) | (simp; done) | (simp; omega) | omega))⟩

theorem priceOf_law (t p d : Int) (w : World) : Calls Try.prog 7 #[.agg #[.int .i64 t, .int .i64 p, .int .i64 d]] w fun e w' => e = .returned (.bool true) ∧ Below w.heap.size w w' := by
  go_enter Try.func7, Try.ntmps7
  go_wp2_with (first | (go_at_call 18; refine (toOffer_any _ _ _ _).mono ?_; rintro e w1 ⟨rfl, b1⟩; obtain ⟨k1, f1, z1⟩ := bcell b1) | (go_at_call 24; refine (priceS_any _ _ _ _).mono ?_; rintro e w1 ⟨rfl, b1⟩; obtain ⟨k1, f1, z1⟩ := bcell b1) | (go_at_call 25; refine (priceI_any _ _ _ _).mono ?_; rintro e w1 ⟨rfl, b1⟩; obtain ⟨k1, f1, z1⟩ := bcell b1))
  go_ret
  exact ⟨rfl, by (repeat' (first | (with_reducible exact Below.refl _ _) | (with_reducible refine bl_alloc ?_ _) | (with_reducible refine bl_drewN ?_ _) | (with_reducible refine bl_drew ?_) | (with_reducible assumption) | (with_reducible refine bl_to ?_ (by assumption)) | (with_reducible refine Below.trans ?_ (by assumption)) | (with_reducible refine Below.trans ?_ (Below.mono (by assumption) ?_)) | (with_reducible refine bl_set ?_ ?_ _) | (simp; done) | (simp; omega) | omega))⟩

def chF (t p d m : Int) : Int := if offB t p d then (if priceF t p 3 ≤ m then 3 else if priceF t p 2 ≤ m then 2 else if priceF t p 1 ≤ m then 1 else if priceF t p 0 ≤ m then 0 else -1) else -1
theorem priceF_lo {t p d e : Int} (h : offB t p e = true) (h0 : 0 ≤ d) (h3 : d ≤ 3) : 23 ≤ priceF t p d := by
  obtain ⟨⟨h1, h2⟩, ⟨h3, h4⟩, h5, h6⟩ := offB_iff.1 h
  have : offB t p d = true := offB_iff.2 ⟨⟨h1, h2⟩, ⟨h3, h4⟩, by omega, by omega⟩
  unfold priceF
  rw [if_pos this]
  have : 0 ≤ woodF d := by unfold woodF; (repeat' split) <;> omega
  omega
theorem chF_neg {t p d m : Int} (h : offB t p d = true) (hm : m < 0) : chF t p d m = -1 := by
  have a0 := priceF_lo (d := 0) h (by omega) (by omega)
  have a1 := priceF_lo (d := 1) h (by omega) (by omega)
  have a2 := priceF_lo (d := 2) h (by omega) (by omega)
  have a3 := priceF_lo (d := 3) h (by omega) (by omega)
  unfold chF
  rw [if_pos h, if_neg (by omega), if_neg (by omega), if_neg (by omega), if_neg (by omega)]
theorem chF_at {t p d m : Int} {k : Int} (h : offB t p d = true) (h0 : 0 ≤ k) (h3 : k ≤ 3) (hab : ∀ j, k < j → j ≤ 3 → m < priceF t p j) (hk : priceF t p k ≤ m) : chF t p d m = k := by
  unfold chF
  rw [if_pos h]
  obtain rfl | rfl | rfl | rfl : k = 0 ∨ k = 1 ∨ k = 2 ∨ k = 3 := by omega
  · have a1 := hab 1 (by omega) (by omega)
    have a2 := hab 2 (by omega) (by omega)
    have a3 := hab 3 (by omega) (by omega)
    rw [if_neg (by omega), if_neg (by omega), if_neg (by omega), if_pos hk]
  · have a2 := hab 2 (by omega) (by omega)
    have a3 := hab 3 (by omega) (by omega)
    rw [if_neg (by omega), if_neg (by omega), if_pos hk]
  · have a3 := hab 3 (by omega) (by omega)
    rw [if_neg (by omega), if_pos hk]
  · rw [if_pos hk]
theorem chF_none {t p d m : Int} (hab : ∀ j, -1 < j → j ≤ 3 → m < priceF t p j) : chF t p d m = -1 := by
  have a0 := hab 0 (by omega) (by omega)
  have a1 := hab 1 (by omega) (by omega)
  have a2 := hab 2 (by omega) (by omega)
  have a3 := hab 3 (by omega) (by omega)
  unfold chF
  split
  · rw [if_neg (by omega), if_neg (by omega), if_neg (by omega), if_neg (by omega)]
  · rfl

set_option maxHeartbeats 400000 in
theorem cheapS_any (t p d m : Int) (w : World) : Calls Try.prog 28 #[.agg #[.int .i64 t, .int .i64 p, .int .i64 d], .int .i64 m] w fun e w' => e = .returned (.int .i64 (chF t p d m)) ∧ Below w.heap.size w w' := by
  cases h : offB t p d
  · go_enter Try.func28, Try.ntmps28
    go_wp2_with (go_at_call 17; refine (offS_any _ _ _ _).mono ?_; rintro e w1 ⟨rfl, b1⟩; obtain ⟨k1, f1, z1⟩ := bcell b1)
    go_ret
    exact ⟨ret_int (by simp [chF, h]), by (repeat' (first | (with_reducible exact Below.refl _ _) | (with_reducible refine bl_alloc ?_ _) | (with_reducible refine bl_drewN ?_ _) | (with_reducible refine bl_drew ?_) | (with_reducible assumption) | (with_reducible refine bl_to ?_ (by assumption)) | (with_reducible refine Below.trans ?_ (by assumption)) | (with_reducible refine Below.trans ?_ (Below.mono (by assumption) ?_)) | (with_reducible refine bl_set ?_ ?_ _) | (simp; done) | (simp; omega) | omega))⟩
  · go_enter Try.func28, Try.ntmps28
    go_wp2_with (go_at_call 17; refine (offS_any _ _ _ _).mono ?_; rintro e w1 ⟨rfl, b1⟩; obtain ⟨k1, f1, z1⟩ := bcell b1)
    go_loopw [5] (fun c wr => ∃ k : Int, -1 ≤ k ∧ k ≤ 3 ∧ c = .int .i64 k ∧ (∀ j, k < j → j ≤ 3 → m < priceF t p j) ∧ Below w1.heap.size w1 wr) (fun c _ => (intOf c + 1).toNat)
    case atStart => exact ⟨3, by omega, by omega, rfl, fun j h1 h2 => absurd h1 (by omega), Below.refl _ _⟩
    case round =>
      obtain ⟨k, hk0, hk3, rfl, hab, bel⟩ := hrel
      obtain ⟨c2, f2, z2⟩ := bcell bel
      have HAB := Lib.hid hab
      clear hab
      by_cases hk : 0 ≤ k
      · by_cases hc : priceF t p k ≤ m
        · go_wp2_with (go_at_call 24; refine (priceS_any _ _ _ _).mono ?_; rintro e w3 ⟨rfl, b3⟩; obtain ⟨k3, f3, z3⟩ := bcell b3)
          go_ret
          exact ⟨ret_int (chF_at h hk hk3 HAB.out hc).symm, by (repeat' (first | (with_reducible exact Below.refl _ _) | (with_reducible refine bl_alloc ?_ _) | (with_reducible refine bl_drewN ?_ _) | (with_reducible refine bl_drew ?_) | (with_reducible assumption) | (with_reducible refine bl_to ?_ (by assumption)) | (with_reducible refine Below.trans ?_ (by assumption)) | (with_reducible refine Below.trans ?_ (Below.mono (by assumption) ?_)) | (with_reducible refine bl_set ?_ ?_ _) | (simp; done) | (simp; omega) | omega))⟩
        · go_wp2_with (go_at_call 24; refine (priceS_any _ _ _ _).mono ?_; rintro e w3 ⟨rfl, b3⟩; obtain ⟨k3, f3, z3⟩ := bcell b3)
          go_roundw
          case rel => 
            refine ⟨k - 1, by omega, by omega, rfl, fun j h1 h2 => ?_, by (repeat' (first | (with_reducible exact Below.refl _ _) | (with_reducible refine bl_alloc ?_ _) | (with_reducible refine bl_drewN ?_ _) | (with_reducible refine bl_drew ?_) | (with_reducible assumption) | (with_reducible refine bl_to ?_ (by assumption)) | (with_reducible refine Below.trans ?_ (by assumption)) | (with_reducible refine Below.trans ?_ (Below.mono (by assumption) ?_)) | (with_reducible refine bl_set ?_ ?_ _) | (simp; done) | (simp; omega) | omega))⟩
            by_cases e : j = k
            · subst e; omega
            · exact HAB.out j (by omega) h2
          case measure => simp [intOf]; omega
      · have e : k = -1 := by omega
        subst e
        go_wp2
        go_ret
        exact ⟨ret_int (chF_none HAB.out).symm, by (repeat' (first | (with_reducible exact Below.refl _ _) | (with_reducible refine bl_alloc ?_ _) | (with_reducible refine bl_drewN ?_ _) | (with_reducible refine bl_drew ?_) | (with_reducible assumption) | (with_reducible refine bl_to ?_ (by assumption)) | (with_reducible refine Below.trans ?_ (by assumption)) | (with_reducible refine Below.trans ?_ (Below.mono (by assumption) ?_)) | (with_reducible refine bl_set ?_ ?_ _) | (simp; done) | (simp; omega) | omega))⟩

set_option maxHeartbeats 400000 in
theorem cheapI_any (t p d m : Int) (w : World) : Calls Try.prog 29 #[.agg #[.int .i64 t, .int .i64 p, .int .i64 d], .int .i64 m] w fun e w' => e = .returned (.int .i64 (chF t p d m)) ∧ Below w.heap.size w w' := by
  cases h : offB t p d
  · go_enter Try.func29, Try.ntmps29
    go_wp2_with (go_at_call 19; refine (offI_any _ _ _ _).mono ?_; rintro e w1 ⟨rfl, b1⟩; obtain ⟨k1, f1, z1⟩ := bcell b1)
    go_ret
    exact ⟨ret_int (by simp [chF, h]), by (repeat' (first | (with_reducible exact Below.refl _ _) | (with_reducible refine bl_alloc ?_ _) | (with_reducible refine bl_drewN ?_ _) | (with_reducible refine bl_drew ?_) | (with_reducible assumption) | (with_reducible refine bl_to ?_ (by assumption)) | (with_reducible refine Below.trans ?_ (by assumption)) | (with_reducible refine Below.trans ?_ (Below.mono (by assumption) ?_)) | (with_reducible refine bl_set ?_ ?_ _) | (simp; done) | (simp; omega) | omega))⟩
  · by_cases hm : 0 ≤ m
    rotate_left
    · have hd : m < 0 := by omega
      go_enter Try.func29, Try.ntmps29
      go_wp2_with (go_at_call 19; refine (offI_any _ _ _ _).mono ?_; rintro e w1 ⟨rfl, b1⟩; obtain ⟨k1, f1, z1⟩ := bcell b1)
      go_ret
      exact ⟨ret_int (chF_neg h hd).symm, by (repeat' (first | (with_reducible exact Below.refl _ _) | (with_reducible refine bl_alloc ?_ _) | (with_reducible refine bl_drewN ?_ _) | (with_reducible refine bl_drew ?_) | (with_reducible assumption) | (with_reducible refine bl_to ?_ (by assumption)) | (with_reducible refine Below.trans ?_ (by assumption)) | (with_reducible refine Below.trans ?_ (Below.mono (by assumption) ?_)) | (with_reducible refine bl_set ?_ ?_ _) | (simp; done) | (simp; omega) | omega))⟩
    · go_enter Try.func29, Try.ntmps29
      go_wp2_with (go_at_call 19; refine (offI_any _ _ _ _).mono ?_; rintro e w1 ⟨rfl, b1⟩; obtain ⟨k1, f1, z1⟩ := bcell b1)
      go_loopw [5] (fun c wr => ∃ k : Int, -1 ≤ k ∧ k ≤ 3 ∧ c = .int .i64 k ∧ (∀ j, k < j → j ≤ 3 → m < priceF t p j) ∧ Below w1.heap.size w1 wr) (fun c _ => (intOf c + 1).toNat)
      case atStart => exact ⟨3, by omega, by omega, rfl, fun j h1 h2 => absurd h1 (by omega), Below.refl _ _⟩
      case round =>
        obtain ⟨k, hk0, hk3, rfl, hab, bel⟩ := hrel
        obtain ⟨c2, f2, z2⟩ := bcell bel
        have HAB := Lib.hid hab
        clear hab
        by_cases hk : 0 ≤ k
        · by_cases hc : priceF t p k ≤ m
          · go_wp2_with (go_at_call 25; refine (priceI_any _ _ _ _).mono ?_; rintro e w3 ⟨rfl, b3⟩; obtain ⟨k3, f3, z3⟩ := bcell b3)
            go_ret
            exact ⟨ret_int (chF_at h hk hk3 HAB.out hc).symm, by (repeat' (first | (with_reducible exact Below.refl _ _) | (with_reducible refine bl_alloc ?_ _) | (with_reducible refine bl_drewN ?_ _) | (with_reducible refine bl_drew ?_) | (with_reducible assumption) | (with_reducible refine bl_to ?_ (by assumption)) | (with_reducible refine Below.trans ?_ (by assumption)) | (with_reducible refine Below.trans ?_ (Below.mono (by assumption) ?_)) | (with_reducible refine bl_set ?_ ?_ _) | (simp; done) | (simp; omega) | omega))⟩
          · go_wp2_with (go_at_call 25; refine (priceI_any _ _ _ _).mono ?_; rintro e w3 ⟨rfl, b3⟩; obtain ⟨k3, f3, z3⟩ := bcell b3)
            go_roundw
            case rel => 
              refine ⟨k - 1, by omega, by omega, rfl, fun j h1 h2 => ?_, by (repeat' (first | (with_reducible exact Below.refl _ _) | (with_reducible refine bl_alloc ?_ _) | (with_reducible refine bl_drewN ?_ _) | (with_reducible refine bl_drew ?_) | (with_reducible assumption) | (with_reducible refine bl_to ?_ (by assumption)) | (with_reducible refine Below.trans ?_ (by assumption)) | (with_reducible refine Below.trans ?_ (Below.mono (by assumption) ?_)) | (with_reducible refine bl_set ?_ ?_ _) | (simp; done) | (simp; omega) | omega))⟩
              by_cases e : j = k
              · subst e; omega
              · exact HAB.out j (by omega) h2
            case measure => simp [intOf]; omega
        · have e : k = -1 := by omega
          subst e
          go_wp2
          go_ret
          exact ⟨ret_int (chF_none HAB.out).symm, by (repeat' (first | (with_reducible exact Below.refl _ _) | (with_reducible refine bl_alloc ?_ _) | (with_reducible refine bl_drewN ?_ _) | (with_reducible refine bl_drew ?_) | (with_reducible assumption) | (with_reducible refine bl_to ?_ (by assumption)) | (with_reducible refine Below.trans ?_ (by assumption)) | (with_reducible refine Below.trans ?_ (Below.mono (by assumption) ?_)) | (with_reducible refine bl_set ?_ ?_ _) | (simp; done) | (simp; omega) | omega))⟩

theorem cheap_law (t p d m : Int) (w : World) : Calls Try.prog 9 #[.agg #[.int .i64 t, .int .i64 p, .int .i64 d], .int .i64 m] w fun e w' => e = .returned (.bool true) ∧ Below w.heap.size w w' := by
  go_enter Try.func9, Try.ntmps9
  go_wp2_with (first | (go_at_call 18; refine (toOffer_any _ _ _ _).mono ?_; rintro e w1 ⟨rfl, b1⟩; obtain ⟨k1, f1, z1⟩ := bcell b1) | (go_at_call 28; refine (cheapS_any _ _ _ _ _).mono ?_; rintro e w1 ⟨rfl, b1⟩; obtain ⟨k1, f1, z1⟩ := bcell b1) | (go_at_call 29; refine (cheapI_any _ _ _ _ _).mono ?_; rintro e w1 ⟨rfl, b1⟩; obtain ⟨k1, f1, z1⟩ := bcell b1))
  go_ret
  exact ⟨rfl, by (repeat' (first | (with_reducible exact Below.refl _ _) | (with_reducible refine bl_alloc ?_ _) | (with_reducible refine bl_drewN ?_ _) | (with_reducible refine bl_drew ?_) | (with_reducible assumption) | (with_reducible refine bl_to ?_ (by assumption)) | (with_reducible refine Below.trans ?_ (by assumption)) | (with_reducible refine Below.trans ?_ (Below.mono (by assumption) ?_)) | (with_reducible refine bl_set ?_ ?_ _) | (simp; done) | (simp; omega) | omega))⟩

end Go.Proofs.Ytggalfjaenoaeaa
