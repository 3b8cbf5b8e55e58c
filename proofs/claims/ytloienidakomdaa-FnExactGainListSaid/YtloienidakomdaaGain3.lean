/- MostGain and GainList of the reference; lengths up to 2^20. -/
import Derived.Test.YtloienidakomdaaGain2
namespace Go.Proofs.Ytloienidakomdaa
open Go.RowKit

theorem gof_step {l : List (Int × Int × Int)} {s : Nat} (h0 : 0 ≤ (bst l s).2) : (bst l (s + 1)) = if (bst l s).2 < gnS l s l.length ∧ aitF (partS l s l.length) = true then (s, gnS l s l.length) else bst l s := by
  rw [bst]
  cases hb : aitF (partS l s l.length)
  · rw [gofF, hb, if_neg (by simp; omega), if_neg (by simp)]
  · rw [gofF, hb, if_pos rfl]
    by_cases h : (bst l s).2 < gnS l s l.length
    · rw [if_pos h, if_pos ⟨h, rfl⟩]
    · rw [if_neg h, if_neg (fun x => h x.1)]
theorem psN_bd {l : List (Int × Int × Int)} (hj : ∀ x ∈ l, 0 ≤ x.2.2 ∧ x.2.2 ≤ 1000) (k : Nat) (hk : k ≤ l.length) : 0 ≤ psN l k ∧ psN l k ≤ 1000 * k := by
  induction k with
  | zero => simp [psN]
  | succ k ih =>
    have := ih (by omega)
    have := hj _ (gJ_mem (show k < l.length by omega))
    rw [psN]
    omega
theorem partS_mem {l : List (Int × Int × Int)} {s k : Nat} (hk : k ≤ l.length) {x : Int × Int × Int} (h : x ∈ partS l s k) : x ∈ l := by
  induction k with
  | zero => simp [partS] at h
  | succ k ih =>
    unfold partS at h
    split at h
    · rw [List.mem_append, List.mem_singleton] at h
      rcases h with h | rfl
      · exact ih (by omega) h
      · exact gJ_mem (by omega)
    · exact ih (by omega) h
theorem gain_bd {l : List (Int × Int × Int)} (hj : jobsB l = true) {x : Int × Int × Int} (h : x ∈ l) : 0 ≤ x.2.2 ∧ x.2.2 ≤ 1000 := by
  obtain ⟨k, hk, e⟩ := List.mem_iff_getElem.1 h
  have := (jobB_bd hj hk).2
  rw [gJ_eq hk, e] at this
  exact this

set_option maxHeartbeats 1600000 in
set_option maxRecDepth 100000 in
theorem galS_any (v : Value) (l : List (Int × Int × Int)) (w : World) (h1 : RdJ w v l) (hl : l.length ≤ 1048576) : Calls Try.prog 25 #[v] w (NewIntsB (galF l) (jobsB l) w) := by
  obtain ⟨A0, c0, rfl, hc, hm⟩ := h1.form
  unfold maxLen at hm
  cases hj : jobsB l
  · have HF : Hid (galF l = []) := by show _ = _; simp [galF, hj]
    go_enter Try.func25, Try.ntmps25
    go_wp2_with (go_at_call 31; refine (jobsS_any _ l _ h1 hl).mono ?_; rintro e w1 ⟨rfl, b1⟩; obtain ⟨k1, f1, z1⟩ := bcell b1)
    go_ret2
    rw [NewIntsB, HF.out]
    exact ⟨_, _, rfl, own_lo (own_new0 (Nat.le_refl _) rfl) b1.size, by (repeat' (first | (with_reducible exact Below.refl _ _) | (with_reducible refine bl_alloc ?_ _) | (with_reducible refine bl_drewN ?_ _) | (with_reducible refine bl_drew ?_) | (with_reducible assumption) | (with_reducible refine bl_to ?_ (by assumption)) | (with_reducible refine Below.trans ?_ (by assumption)) | (with_reducible refine Below.trans ?_ (Below.mono (by assumption) ?_)) | (with_reducible refine bl_set ?_ ?_ _) | (simp; done) | (simp; omega) | omega))⟩
  have HF : Hid (galF l = memS (bestF l) l.length) := by show _ = _; simp [galF, hj]
  have h8 : l.length ≤ 8 := by simp [jobsB] at hj; exact hj.1
  obtain ⟨p1, p2⟩ := pow_le8 h8
  have hbl := best_lt l
  have HB8 : Hid (memS (bestF l) 8 = memS (bestF l) l.length) := memS_high hbl h8
  obtain ⟨N, hN⟩ : ∃ N : Nat, 2 ^ l.length = N := ⟨_, rfl⟩
  rw [hN] at p1 p2 hbl
  have pw : IntKind.i64.wrap ((2 : Int) ^ l.length) = (N : Int) := by rw [← hN]; rw [show (2 : Int) ^ l.length = ((2 ^ l.length : Nat) : Int) by simp, hN]; exact IntWalk.i64_in _ (by omega)
  have HBN : Hid ((bst l N).1 = bestF l) := by show _ = _; rw [bestF, hN]
  have HJ := Lib.hid hj
  have n64 : (l.length : Int) ≤ 64 := by omega
  have n0 : (0 : Int) ≤ (l.length : Int) := by omega
  clear hN
  go_enter Try.func25, Try.ntmps25
  go_wp2_with (go_at_call 31; refine (jobsS_any _ l _ h1 hl).mono ?_; rintro e w1 ⟨rfl, b1⟩; obtain ⟨k1, f1, z1⟩ := bcell b1)
  clear k1 f1 z1 hj
  go_loopw [4, 5, 6] (fun x m i wr => ∃ s : Nat, s ≤ N ∧ i = .int .i64 s ∧ x = .int .i64 ((bst l s).1 : Int) ∧ m = .int .i64 (bst l s).2 ∧ Below w.heap.size w wr) (fun _ _ i _ => N - (intOf i).toNat)
  case atStart => exact ⟨0, Nat.zero_le _, rfl, rfl, rfl, b1⟩
  case round =>
    clear b1
    obtain ⟨s, hs, rfl, rfl, rfl, bel⟩ := hrel
    by_cases hlt : s < N
    · have hlt' : (s : Int) < (N : Int) := by omega
      have b0 := (bst_spec l s).1.1
      have gs := Lib.hid (gof_step (l := l) (s := s) b0)
      have gnb := gnS_bd HJ.out s l.length (Nat.le_refl _)
      have pl := partS_len l s l.length
      have PP := Lib.hid (psN_part l s l.length)
      have PM : Hid (∀ x ∈ partS l s l.length, 0 ≤ x.2.2 ∧ x.2.2 ≤ 1000) := fun x hx => gain_bd HJ.out (partS_mem (Nat.le_refl _) hx)
      go_wp2_with (go_at_call 42; refine (part_any _ l s _ (h1.bl bel) h8 (by omega)).mono ?_; rintro e w2 ⟨A2, c2, rfl, ow2, b2⟩; obtain ⟨k2, f2, z2⟩ := bcell b2)
      have bel2 := bl_to bel b2
      have sz2 := b2.size
      have ait := aitS_any _ (partS l s l.length) w2 (Rd.of_own ow2) (by omega)
      have hrd : RdJ w2 (.slice A2 (partS l s l.length).length c2) (partS l s l.length) := Rd.of_own ow2
      have AIT := Lib.hid ait
      clear k2 f2 z2 b2 ait ow2
      obtain ⟨p, hp⟩ : ∃ p, partS l s l.length = p := ⟨_, rfl⟩
      rw [hp] at gs AIT hrd pl PP PM ⊢
      obtain ⟨G, hG⟩ : ∃ G, gnS l s l.length = G := ⟨_, rfl⟩
      rw [hG] at gs gnb PP
      obtain ⟨m0, hm0⟩ : ∃ m0, (bst l s).2 = m0 := ⟨_, rfl⟩
      obtain ⟨x0, hx0⟩ : ∃ x0, (bst l s).1 = x0 := ⟨_, rfl⟩
      have hbs : bst l s = (x0, m0) := by rw [← hm0, ← hx0]
      rw [hm0] at gs b0 ⊢
      rw [hx0] at ⊢
      rw [hbs] at gs
      clear hp hG hm0 hx0 hbs h1
      go_loop [8, 9] (fun q i => ∃ j : Nat, j ≤ p.length ∧ i = .int .i64 j ∧ q = .int .i64 (psN p j)) (fun _ i => p.length - (intOf i).toNat)
      case atStart => exact ⟨0, Nat.zero_le _, rfl, rfl⟩
      case round =>
        obtain ⟨j, hj, rfl, rfl⟩ := hrel
        by_cases hlj : j < p.length
        · have hlj' : (j : Int) < (p.length : Int) := by omega
          have j0 : (0 : Int) ≤ (j : Int) := by omega
          obtain ⟨g, o, rfl, _, _, _, e2⟩ := RdJ.at_ hrd hlj
          have pb := psN_bd PM.out j (by omega)
          have jb := PM.out _ (gJ_mem hlj)
          have ps : Hid (psN p (j + 1) = psN p j + (gJ p j).2.2) := rfl
          clear hrd
          go_wp2
          go_round
          case rel => exact ⟨j + 1, by omega, by go_num, by rw [ps.out]⟩
          case measure => simp [intOf]; omega
        · obtain rfl : j = p.length := by omega
          have hlj' : ¬ (p.length : Int) < (p.length : Int) := by omega
          rw [PP.out]
          cases hb : aitF p
          · have gs2 : Hid (bst l (s + 1) = (x0, m0)) := by show _ = _; rw [gs.out, if_neg]; rw [hb]; simp
            have AIT2 : Hid (Calls Try.prog 21 #[.slice A2 p.length c2] w2 fun e w' => e = .returned (.bool false) ∧ Below w2.heap.size w2 w') := by
              have := AIT.out; rw [hb] at this; exact this
            clear hb hrd
            by_cases hgm : m0 < G
            · go_wp2_with (go_at_call 21; refine (AIT2.out).mono ?_; rintro e w3 ⟨rfl, b3⟩; obtain ⟨k3, f3, z3⟩ := bcell b3)
              go_roundw
              case rel => exact ⟨s + 1, by omega, by go_num, by rw [gs2.out], by rw [gs2.out], bl_to bel2 b3⟩
              case measure => simp [intOf]; omega
            · have hgm' : ¬ m0 < G := hgm
              go_wp2
              go_roundw
              case rel => exact ⟨s + 1, by omega, by go_num, by rw [gs2.out], by rw [gs2.out], bel2⟩
              case measure => simp [intOf]; omega
          · have AIT2 : Hid (Calls Try.prog 21 #[.slice A2 p.length c2] w2 fun e w' => e = .returned (.bool true) ∧ Below w2.heap.size w2 w') := by
              have := AIT.out; rw [hb] at this; exact this
            by_cases hgm : m0 < G
            · have gs2 : Hid (bst l (s + 1) = (s, G)) := by show _ = _; rw [gs.out, if_pos ⟨hgm, hb⟩]
              clear hb hrd
              go_wp2_with (go_at_call 21; refine (AIT2.out).mono ?_; rintro e w3 ⟨rfl, b3⟩; obtain ⟨k3, f3, z3⟩ := bcell b3)
              go_roundw
              case rel => exact ⟨s + 1, by omega, by go_num, by rw [gs2.out], by rw [gs2.out], bl_to bel2 b3⟩
              case measure => simp [intOf]; omega
            · have gs2 : Hid (bst l (s + 1) = (x0, m0)) := by show _ = _; rw [gs.out, if_neg (fun x => hgm x.1)]
              have hgm' : ¬ m0 < G := hgm
              clear hb hrd
              go_wp2
              go_roundw
              case rel => exact ⟨s + 1, by omega, by go_num, by rw [gs2.out], by rw [gs2.out], bel2⟩
              case measure => simp [intOf]; omega
    · obtain rfl : s = N := by omega
      have hlt' : ¬ (s : Int) < (s : Int) := by omega
      rw [HBN.out]
      go_wp2_with (go_at_call 43; refine (bits9_any (bestF l) _ (by omega)).mono ?_; rintro e w4 ⟨A4, c4, rfl, ow4, b4⟩; obtain ⟨k4, f4, z4⟩ := bcell b4)
      go_ret2
      rw [NewIntsB, HF.out, ← HB8.out]
      exact ⟨A4, c4, rfl, own_lo ow4 bel.size, by (repeat' (first | (with_reducible exact Below.refl _ _) | (with_reducible refine bl_alloc ?_ _) | (with_reducible refine bl_drewN ?_ _) | (with_reducible refine bl_drew ?_) | (with_reducible assumption) | (with_reducible refine bl_to ?_ (by assumption)) | (with_reducible refine Below.trans ?_ (by assumption)) | (with_reducible refine Below.trans ?_ (Below.mono (by assumption) ?_)) | (with_reducible refine bl_set ?_ ?_ _) | (simp; done) | (simp; omega) | omega))⟩

set_option maxHeartbeats 1600000 in
set_option maxRecDepth 100000 in
theorem mostS_any (v : Value) (l : List (Int × Int × Int)) (w : World) (h1 : RdJ w v l) (hl : l.length ≤ 1048576) : Calls Try.prog 23 #[v] w fun e w' => e = .returned (.int .i64 (mogF l)) ∧ Below w.heap.size w w' := by
  obtain ⟨A0, c0, rfl, hc, hm⟩ := h1.form
  unfold maxLen at hm
  have HG := Lib.hid (galS_any _ l w h1 hl)
  cases hj : jobsB l
  · have HF : Hid (mogF l = -1) := by show _ = _; simp [mogF, hj]
    rw [hj] at HG
    go_enter Try.func23, Try.ntmps23
    go_wp2_with (go_at_call 25; refine HG.out.mono ?_; rintro e w1 ⟨A1, c1, rfl, ow1, b1⟩)
    go_ret
    exact ⟨ret_int HF.out.symm, b1⟩
  have HF : Hid (mogF l = mostF l) := by show _ = _; simp [mogF, hj]
  have HM : Hid (galF l = memS (bestF l) l.length) := by show _ = _; simp [galF, hj]
  have HS : Hid (sgN l (galF l) (galF l).length = mostF l) := by show _ = _; rw [HM.out, sgN_mem, gn_best]
  have HI : Hid (∀ x ∈ galF l, 0 ≤ x ∧ x < (l.length : Int)) := fun x hx => memS_mem (HM.out ▸ hx)
  have gl := galF_len l
  have h8 : l.length ≤ 8 := by simp [jobsB] at hj; exact hj.1
  rw [hj] at HG
  have HJ := Lib.hid hj
  clear hj
  go_enter Try.func23, Try.ntmps23
  go_wp2_with (go_at_call 25; refine HG.out.mono ?_; rintro e w1 ⟨A1, c1, rfl, ow1, b1⟩)
  have h2 := h1.bl b1
  obtain ⟨M, hM⟩ : ∃ M, galF l = M := ⟨_, rfl⟩
  rw [hM] at HS HI gl ow1 ⊢
  have hrd : RdI w1 (.slice A1 M.length c1) M := Rd.of_own ow1
  clear HG HM hM ow1 h1
  go_loop [5, 6] (fun q i => ∃ j : Nat, j ≤ M.length ∧ i = .int .i64 j ∧ q = .int .i64 (sgN l M j)) (fun _ i => M.length - (intOf i).toNat)
  case atStart => exact ⟨0, Nat.zero_le _, rfl, rfl⟩
  case round =>
    obtain ⟨j, hj, rfl, rfl⟩ := hrel
    by_cases hlj : j < M.length
    · have hlj' : (j : Int) < (M.length : Int) := by omega
      have j0 : (0 : Int) ≤ (j : Int) := by omega
      obtain ⟨gm, om, rfl, hgm, qm⟩ := hrd.look (by omega)
      have em := qm j _ (cI_get hlj)
      obtain ⟨x0, xn⟩ := HI.out _ (gi_mem hlj)
      obtain ⟨x, hx⟩ := Int.eq_ofNat_of_zero_le x0
      obtain ⟨g, o, rfl, _, _, _, e2⟩ := RdJ.at_ h2 (k := x) (by omega)
      have sb := sgN_bd HJ.out HI.out j (by omega)
      have jb := (jobB_bd HJ.out (k := x) (by omega)).2
      have ss : Hid (sgN l M (j + 1) = sgN l M j + (gJ l x).2.2) := by show _ = _; rw [sgN, hx]; rfl
      rw [hx] at em xn
      have x1 : (x : Int) < (l.length : Int) := xn
      have x2 : (0 : Int) ≤ (x : Int) := by omega
      clear qm h2 hrd x0 hx
      go_wp2
      go_round
      case rel => exact ⟨j + 1, by omega, by go_num, by rw [ss.out]⟩
      case measure => simp [intOf]; omega
    · obtain rfl : j = M.length := by omega
      have hlj' : ¬ (M.length : Int) < (M.length : Int) := by omega
      clear h2 hrd
      go_wp2
      go_ret
      exact ⟨ret_int (by rw [HS.out, HF.out]), b1⟩
end Go.Proofs.Ytloienidakomdaa
