/- MostGain and GainList of the program and of the reference; lengths up to 2^20. -/
import Derived.Test.YtloienidakomdaaGain
namespace Go.Proofs.Ytloienidakomdaa
open Go.RowKit

set_option maxHeartbeats 1600000 in
set_option maxRecDepth 100000 in
theorem mostI_any (v : Value) (l : List (Int × Int × Int)) (w : World) (h1 : RdJ w v l) (hl : l.length ≤ 1048576) : Calls Try.prog 24 #[v] w fun e w' => e = .returned (.int .i64 (mogF l)) ∧ Below w.heap.size w w' := by
  obtain ⟨A0, c0, rfl, hc, hm⟩ := h1.form
  unfold maxLen at hm
  cases hj : jobsB l
  · have HF : Hid (mogF l = -1) := by show _ = _; simp [mogF, hj]
    go_enter Try.func24, Try.ntmps24
    go_wp2_with (go_at_call 30; refine (jobsI_any _ l _ h1 hl).mono ?_; rintro e w1 ⟨rfl, b1⟩; obtain ⟨k1, f1, z1⟩ := bcell b1)
    go_ret
    exact ⟨ret_int HF.out.symm, b1⟩
  have HF : Hid (mogF l = mostF l) := by show _ = _; simp [mogF, hj]
  have h8 : l.length ≤ 8 := by simp [jobsB] at hj; exact hj.1
  obtain ⟨p1, p2⟩ := pow_le8 h8
  obtain ⟨N, hN⟩ : ∃ N : Nat, 2 ^ l.length = N := ⟨_, rfl⟩
  rw [hN] at p1 p2
  have pw : IntKind.i64.wrap ((2 : Int) ^ l.length) = (N : Int) := by rw [← hN]; rw [show (2 : Int) ^ l.length = ((2 ^ l.length : Nat) : Int) by simp, hN]; exact IntWalk.i64_in _ (by omega)
  have HN := Lib.hid hN
  have HJ := Lib.hid hj
  have n64 : (l.length : Int) ≤ 64 := by omega
  have n0 : (0 : Int) ≤ (l.length : Int) := by omega
  clear hN
  go_enter Try.func24, Try.ntmps24
  go_wp2_with (go_at_call 30; refine (jobsI_any _ l _ h1 hl).mono ?_; rintro e w1 ⟨rfl, b1⟩; obtain ⟨k1, f1, z1⟩ := bcell b1)
  clear k1 f1 z1 hj
  go_loopw [3, 4] (fun m i wr => ∃ s : Nat, s ≤ N ∧ i = .int .i64 s ∧ m = .int .i64 (bst l s).2 ∧ Below w.heap.size w wr) (fun _ i _ => N - (intOf i).toNat)
  case atStart => exact ⟨0, Nat.zero_le _, rfl, rfl, b1⟩
  case round =>
    clear b1
    obtain ⟨s, hs, rfl, rfl, bel⟩ := hrel
    have hbm : Hid ((bst l (s + 1)).2 = max (bst l s).2 (gofF l s)) := bst_max l s
    by_cases hlt : s < N
    · have hlt' : (s : Int) < (N : Int) := by omega
      go_wp2_with (go_at_call 41; refine (gainOf_any _ l s _ (h1.bl bel) HJ.out (by omega)).mono ?_; rintro e w2 ⟨rfl, b2⟩; obtain ⟨k2, f2, z2⟩ := bcell b2)
      go_roundw
      case rel => exact ⟨s + 1, by omega, by go_num, by rw [hbm.out], bl_to bel b2⟩
      case measure => simp [intOf]; omega
    · obtain rfl : s = N := by omega
      have hlt' : ¬ (s : Int) < (s : Int) := by omega
      go_wp2
      go_ret
      exact ⟨ret_int (by rw [HF.out, mostF, HN.out]), bel⟩

def NewIntsB (l : List Int) (b : Bool) (w : World) (en : Ending) (w' : World) : Prop :=
  ∃ A c, en = .returned (.tuple #[.slice A l.length c, .bool b]) ∧ w'.ownsRow w.heap.size 3 1 (.slice A l.length c) l.length (cI l) ∧ Below w.heap.size w w'
set_option maxHeartbeats 1600000 in
set_option maxRecDepth 100000 in
theorem galI_any (v : Value) (l : List (Int × Int × Int)) (w : World) (h1 : RdJ w v l) (hl : l.length ≤ 1048576) : Calls Try.prog 26 #[v] w (NewIntsB (galF l) (jobsB l) w) := by
  obtain ⟨A0, c0, rfl, hc, hm⟩ := h1.form
  unfold maxLen at hm
  cases hj : jobsB l
  · have HF : Hid (galF l = []) := by show _ = _; simp [galF, hj]
    go_enter Try.func26, Try.ntmps26
    go_wp2_with (go_at_call 30; refine (jobsI_any _ l _ h1 hl).mono ?_; rintro e w1 ⟨rfl, b1⟩; obtain ⟨k1, f1, z1⟩ := bcell b1)
    go_ret2
    rw [NewIntsB, HF.out]
    exact ⟨none, 0, rfl, World.ownsRow_nil _ _ _ _, b1⟩
  have HF : Hid (galF l = memS (bestF l) l.length) := by show _ = _; simp [galF, hj]
  have h8 : l.length ≤ 8 := by simp [jobsB] at hj; exact hj.1
  obtain ⟨p1, p2⟩ := pow_le8 h8
  have hbl := best_lt l
  have hb8 : bestF l ≤ 255 := by omega
  have hmg : mogF l = mostF l := by simp [mogF, hj]
  obtain ⟨m, hm'⟩ : ∃ m, mostF l = m := ⟨_, rfl⟩
  have HG : Hid (gofF l (bestF l) = m) := by show _ = _; rw [gof_best, hm']
  have HL : Hid (∀ t, t < bestF l → gofF l t < m) := by
    show ∀ t, _
    intro t ht
    have := (bst_spec l (2 ^ l.length)).2.2.1 t ht
    rw [mostF] at hm'
    omega
  have hmi := mostI_any _ l w h1 hl
  rw [hmg, hm'] at hmi
  have HMI : ∀ W, Below w.heap.size w W → Hid (Calls Try.prog 24 #[.slice A0 l.length c0] W fun e w' => e = .returned (.int .i64 m) ∧ Below W.heap.size W w') := fun W b => by
    have := mostI_any _ l W (h1.bl b) hl
    rw [hmg, hm'] at this
    exact this
  obtain ⟨B, hB⟩ : ∃ B, bestF l = B := ⟨_, rfl⟩
  rw [hB] at hb8 HG HL
  have HB := Lib.hid hB
  have HJ := Lib.hid hj
  clear hbl hmg hm' hmi hB p1 p2 hj
  go_enter Try.func26, Try.ntmps26
  go_wp2_with (first | (go_at_call 30; refine ((show Calls Try.prog 30 _ _ fun e w' => e = .returned (.bool true) ∧ Below w.heap.size w w' from by have := jobsI_any _ l w h1 hl; rw [HJ.out] at this; exact this)).mono ?_; rintro e w1 ⟨rfl, b1⟩; obtain ⟨k1, f1, z1⟩ := bcell b1) | (go_at_call 24; refine ((HMI _ b1).out).mono ?_; rintro e w2 ⟨rfl, b2⟩; obtain ⟨k2, f2, z2⟩ := bcell b2))
  have bel2 := bl_to b1 b2
  clear k1 f1 z1 k2 f2 z2 b1 b2
  go_loopw [5] (fun i wr => ∃ s : Nat, s ≤ B ∧ i = .int .i64 s ∧ Below w.heap.size w wr) (fun i _ => B - (intOf i).toNat)
  case atStart => exact ⟨0, Nat.zero_le _, rfl, bel2⟩
  case round =>
    clear bel2
    obtain ⟨s, hs, rfl, bel⟩ := hrel
    by_cases hlt : s < B
    · have hne : gofF l s ≠ m := by have := HL.out s hlt; omega
      have g1 : (gofF l s != m) = true := by simpa using hne
      have g2 : (gofF l s == m) = false := by simpa using hne
      go_wp2_with (go_at_call 41; refine (gainOf_any _ l s _ (h1.bl bel) HJ.out (by omega)).mono ?_; rintro e w3 ⟨rfl, b3⟩; obtain ⟨k3, f3, z3⟩ := bcell b3)
      go_roundw
      case rel => exact ⟨s + 1, by omega, by go_num, bl_to bel b3⟩
      case measure => simp [intOf]; omega
    · obtain rfl : s = B := by omega
      have hnr : Hid (Calls Try.prog 41 #[.slice A0 l.length c0, .int .i64 (s : Int)] wr fun e w' => e = .returned (.int .i64 m) ∧ Below wr.heap.size wr w') := by
        have := gainOf_any _ l s wr (h1.bl bel) HJ.out (by omega)
        rw [HG.out] at this
        exact this
      have g1 : (m != m) = false := by simp
      go_wp2_with (first | (go_at_call 41; refine (hnr.out).mono ?_; rintro e w3 ⟨rfl, b3⟩; obtain ⟨k3, f3, z3⟩ := bcell b3) | (go_at_call 44; refine (members_any s l.length _ hb8 h8).mono ?_; rintro e w4 ⟨A4, c4, rfl, ow4, b4⟩; obtain ⟨k4, f4, z4⟩ := bcell b4))
      go_ret2
      rw [NewIntsB, HF.out, HB.out]
      exact ⟨A4, c4, rfl, own_lo ow4 (by have := b3.size; have := bel.size; omega), by (repeat' (first | (with_reducible exact Below.refl _ _) | (with_reducible refine bl_alloc ?_ _) | (with_reducible refine bl_drewN ?_ _) | (with_reducible refine bl_drew ?_) | (with_reducible assumption) | (with_reducible refine bl_to ?_ (by assumption)) | (with_reducible refine Below.trans ?_ (by assumption)) | (with_reducible refine Below.trans ?_ (Below.mono (by assumption) ?_)) | (with_reducible refine bl_set ?_ ?_ _) | (simp; done) | (simp; omega) | omega))⟩
end Go.Proofs.Ytloienidakomdaa
