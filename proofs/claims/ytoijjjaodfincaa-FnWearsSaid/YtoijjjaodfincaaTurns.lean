/- TurnsLeft of the program and of the reference; lengths up to 2^20. -/
import Derived.Test.YtoijjjaodfincaaAfter
namespace Go.Proofs.Ytoijjjaodfincaa
open Go.RowKit

/-- the reference's count after k heights -/
def leftN (n m : Int) (l : List Int) : Nat → Int
  | 0 => 1000
  | k + 1 => min (leftN n m l k) ((gi l k - m) / n)
def leftF (n : Int) (l : List Int) (m : Int) : Int := if 0 < m then leftN n m l l.length else 1000
def leftB (n : Int) (l : List Int) (m : Int) : Bool := wearB n l && inB m 0 1000 && decide (l.length ≠ 0) && decide ((silF n l m).length = 0)
def turnsF (n : Int) (l : List Int) (m : Int) : Int := if leftB n l m then leftF n l m else -1

theorem leftN_le (n m : Int) (l : List Int) (k : Nat) : leftN n m l k ≤ 1000 ∧ ∀ j, j < k → leftN n m l k ≤ (gi l j - m) / n := by
  induction k with
  | zero => exact ⟨Int.le_refl _, fun j h => by omega⟩
  | succ k ih =>
    refine ⟨by unfold leftN; omega, fun j h => ?_⟩
    unfold leftN
    by_cases e : j = k
    · subst e; omega
    · have := ih.2 j (by omega); omega
theorem le_leftN {n m : Int} {l : List Int} {k : Nat} {x : Int} (h0 : x ≤ 1000) (h : ∀ j, j < k → x ≤ (gi l j - m) / n) : x ≤ leftN n m l k := by
  induction k with
  | zero => exact h0
  | succ k ih =>
    unfold leftN
    have := ih (fun j hj => h j (by omega))
    have := h k (by omega)
    omega
/-- no height of the first k is below m -/
theorem silN_nil {l : List Int} {m : Int} {k : Nat} : silN l m k = [] ↔ ∀ j, j < k → m ≤ gi l j := by
  induction k with
  | zero => simp [silN]
  | succ k ih =>
    unfold silN
    split
    · rename_i h
      constructor
      · intro e; simp at e
      · intro e; have := e k (by omega); omega
    · rename_i h
      rw [ih]
      constructor
      · intro e j hj
        by_cases hk : j = k
        · subst hk; omega
        · exact e j (by omega)
      · intro e j hj; exact e j (by omega)
theorem aft_wear {n : Int} {l : List Int} (h : wearB n l = true) (t : Int) (ht : 0 ≤ t) : wearB n (aftF n l t) = true := by
  obtain ⟨h1, h2, h3⟩ := wearB_iff h
  unfold aftF
  split
  · have hd : 0 ≤ n * t := Int.mul_nonneg (by omega) ht
    simp only [wearB, Bool.and_eq_true, decide_eq_true_eq]
    refine ⟨⟨by rw [aftN_len]; exact h1, inB_iff.2 h2⟩, ?_⟩
    rw [List.all_eq_true]
    intro x hx
    obtain ⟨j, hj, rfl⟩ := List.getElem_of_mem hx
    rw [aftN_len] at hj
    have hg := List.all_eq_true.1 h3 _ (gi_mem hj)
    have hb := inB_iff.1 hg
    rw [← gi_eq (by rw [aftN_len]; exact hj), aftN_lt l _ hj (Nat.le_refl _)]
    refine inB_iff.2 ?_
    split <;> omega
  · exact h
/-- after t turns no pin is silent: t is not above the reference's count -/
theorem good_iff {n : Int} {l : List Int} {m : Int} (h : leftB n l m = true) {t : Int} (ht : 0 ≤ t) (ht2 : t ≤ 1000) : (silF n (aftF n l t) m).length = 0 ↔ t ≤ leftF n l m := by
  simp only [leftB, Bool.and_eq_true, decide_eq_true_eq] at h
  obtain ⟨⟨⟨hw, hm⟩, h0⟩, hs⟩ := h
  obtain ⟨h1, ⟨n1, n2⟩, h3⟩ := wearB_iff hw
  have ha := aft_wear hw t ht
  have hF : silF n (aftF n l t) m = silN (aftF n l t) m (aftF n l t).length := by simp [silF, ha, hm]
  have hA : aftF n l t = aftN l (n * t) l.length := by simp [aftF, hw, inB_yes ht ht2]
  obtain ⟨m1, m2⟩ := inB_iff.1 hm
  rw [List.length_eq_zero_iff, hF, silN_nil, aftF_len, hA]
  unfold leftF
  constructor
  · intro e
    split
    · rename_i hm0
      refine le_leftN ht2 (fun j hj => ?_)
      have := e j hj
      rw [aftN_lt l _ hj (Nat.le_refl _)] at this
      rw [Int.le_ediv_iff_mul_le (by omega), Int.mul_comm]
      split at this <;> omega
    · exact ht2
  · intro e j hj
    rw [aftN_lt l _ hj (Nat.le_refl _)]
    split at e
    · have h2 := (leftN_le n m l l.length).2 j hj
      have h4 : t ≤ (gi l j - m) / n := by omega
      rw [Int.le_ediv_iff_mul_le (by omega), Int.mul_comm] at h4
      split <;> omega
    · have hg := inB_iff.1 (List.all_eq_true.1 h3 _ (gi_mem hj))
      split <;> omega
theorem left_nonneg {n : Int} {l : List Int} {m : Int} (h : leftB n l m = true) : 0 ≤ leftF n l m ∧ leftF n l m ≤ 1000 := by
  simp only [leftB, Bool.and_eq_true, decide_eq_true_eq] at h
  obtain ⟨⟨⟨hw, hm⟩, h0⟩, hs⟩ := h
  obtain ⟨h1, ⟨n1, n2⟩, h3⟩ := wearB_iff hw
  have hF : silF n l m = silN l m l.length := by simp [silF, hw, hm]
  rw [List.length_eq_zero_iff, hF, silN_nil] at hs
  unfold leftF
  split
  · refine ⟨le_leftN (by omega) (fun j hj => ?_), (leftN_le n m l _).1⟩
    exact Int.ediv_nonneg (by have := hs j hj; omega) (by omega)
  · omega

set_option maxHeartbeats 1600000 in
theorem turnsI_any (n : Int) (v : Value) (l : List Int) (m : Int) (w : World) (h1 : RdI w v l) (hl : l.length ≤ 1048576) :
    Calls Try.prog 34 #[.agg #[v, .int .i64 n], .int .i64 m] w fun e w' => e = .returned (.int .i64 (turnsF n l m)) ∧ Below w.heap.size w w' := by
  obtain ⟨A0, c0, rfl, hc0, hm0⟩ := h1.form
  cases ho : leftB n l m
  · have hF : turnsF n l m = -1 := by simp [turnsF, ho]
    rw [hF]
    clear hF
    cases hw : wearB n l
    · go_enter Try.func34, Try.ntmps34
      go_wp2_with (go_at_call 54; refine (wearI_ok _ _ l _ (h1.bl (by (repeat' (first | (with_reducible exact Below.refl _ _) | (with_reducible refine bl_alloc ?_ _) | (with_reducible refine bl_drewN ?_ _) | (with_reducible refine bl_drew ?_) | (with_reducible assumption) | (with_reducible refine bl_to ?_ (by assumption)) | (with_reducible refine Below.trans ?_ (by assumption)) | (with_reducible refine Below.trans ?_ (Below.mono (by assumption) ?_)) | (with_reducible refine bl_set ?_ ?_ _) | (simp; done) | (simp; omega) | omega)))) hl).mono ?_; rintro e w1 ⟨rfl, b1⟩; obtain ⟨k1, f1, z1⟩ := bcell b1)
      go_ret
      exact ⟨rfl, by (repeat' (first | (with_reducible exact Below.refl _ _) | (with_reducible refine bl_alloc ?_ _) | (with_reducible refine bl_drewN ?_ _) | (with_reducible refine bl_drew ?_) | (with_reducible assumption) | (with_reducible refine bl_to ?_ (by assumption)) | (with_reducible refine Below.trans ?_ (by assumption)) | (with_reducible refine Below.trans ?_ (Below.mono (by assumption) ?_)) | (with_reducible refine bl_set ?_ ?_ _) | (simp; done) | (simp; omega) | omega))⟩
    cases hm : inB m 0 1000
    · go_enter Try.func34, Try.ntmps34
      go_wp2_with (first | (go_at_call 54; refine (wearI_ok _ _ l _ (h1.bl (by (repeat' (first | (with_reducible exact Below.refl _ _) | (with_reducible refine bl_alloc ?_ _) | (with_reducible refine bl_drewN ?_ _) | (with_reducible refine bl_drew ?_) | (with_reducible assumption) | (with_reducible refine bl_to ?_ (by assumption)) | (with_reducible refine Below.trans ?_ (by assumption)) | (with_reducible refine Below.trans ?_ (Below.mono (by assumption) ?_)) | (with_reducible refine bl_set ?_ ?_ _) | (simp; done) | (simp; omega) | omega)))) hl).mono ?_; rintro e w1 ⟨rfl, b1⟩; obtain ⟨k1, f1, z1⟩ := bcell b1) | (go_at_call 68; refine (within_any _ _ _ _).mono ?_; rintro e w' ⟨rfl, rfl⟩))
      go_ret
      exact ⟨rfl, by (repeat' (first | (with_reducible exact Below.refl _ _) | (with_reducible refine bl_alloc ?_ _) | (with_reducible refine bl_drewN ?_ _) | (with_reducible refine bl_drew ?_) | (with_reducible assumption) | (with_reducible refine bl_to ?_ (by assumption)) | (with_reducible refine Below.trans ?_ (by assumption)) | (with_reducible refine Below.trans ?_ (Below.mono (by assumption) ?_)) | (with_reducible refine bl_set ?_ ?_ _) | (simp; done) | (simp; omega) | omega))⟩
    by_cases h0 : l.length = 0
    · have hb : ((l.length : Int) == 0) = true := by rw [h0]; rfl
      have hb2 : decide ((l.length : Int) = 0) = true := by rw [h0]; rfl
      clear ho h0
      go_enter Try.func34, Try.ntmps34
      go_wp2_with (first | ((go_at_call 54; refine (wearI_ok _ _ l _ (h1.bl (by (repeat' (first | (with_reducible exact Below.refl _ _) | (with_reducible refine bl_alloc ?_ _) | (with_reducible refine bl_drewN ?_ _) | (with_reducible refine bl_drew ?_) | (with_reducible assumption) | (with_reducible refine bl_to ?_ (by assumption)) | (with_reducible refine Below.trans ?_ (by assumption)) | (with_reducible refine Below.trans ?_ (Below.mono (by assumption) ?_)) | (with_reducible refine bl_set ?_ ?_ _) | (simp; done) | (simp; omega) | omega)))) hl).mono ?_; rintro e w1 ⟨rfl, b1⟩; obtain ⟨k1, f1, z1⟩ := bcell b1); have u1 : w1.cell? ⟨w.heap.size, 0, none⟩ = some (.slice A0 l.length c0) := (k1 _ _ (by (first | omega | (simp; done) | (simp; omega)))).trans (by simp [go_sem])) | (go_at_call 68; refine (within_any _ _ _ _).mono ?_; rintro e w' ⟨rfl, rfl⟩))
      go_ret
      exact ⟨rfl, by (repeat' (first | (with_reducible exact Below.refl _ _) | (with_reducible refine bl_alloc ?_ _) | (with_reducible refine bl_drewN ?_ _) | (with_reducible refine bl_drew ?_) | (with_reducible assumption) | (with_reducible refine bl_to ?_ (by assumption)) | (with_reducible refine Below.trans ?_ (by assumption)) | (with_reducible refine Below.trans ?_ (Below.mono (by assumption) ?_)) | (with_reducible refine bl_set ?_ ?_ _) | (simp; done) | (simp; omega) | omega))⟩
    · have h0' : ¬ (l.length : Int) = 0 := by omega
      have hs : (0 : Int) < ((silF n l m).length : Int) := by
        have : ¬ (silF n l m).length = 0 := by intro e; simp [leftB, hw, hm, h0, e] at ho
        omega
      go_enter Try.func34, Try.ntmps34
      go_wp2_with (first | ((go_at_call 54; refine (wearI_ok _ _ l _ (h1.bl (by (repeat' (first | (with_reducible exact Below.refl _ _) | (with_reducible refine bl_alloc ?_ _) | (with_reducible refine bl_drewN ?_ _) | (with_reducible refine bl_drew ?_) | (with_reducible assumption) | (with_reducible refine bl_to ?_ (by assumption)) | (with_reducible refine Below.trans ?_ (by assumption)) | (with_reducible refine Below.trans ?_ (Below.mono (by assumption) ?_)) | (with_reducible refine bl_set ?_ ?_ _) | (simp; done) | (simp; omega) | omega)))) hl).mono ?_; rintro e w1 ⟨rfl, b1⟩; obtain ⟨k1, f1, z1⟩ := bcell b1); have u1 : w1.cell? ⟨w.heap.size, 0, none⟩ = some (.slice A0 l.length c0) := (k1 _ _ (by (first | omega | (simp; done) | (simp; omega)))).trans (by simp [go_sem]); have u2 : w1.cell? ⟨w.heap.size, 1, none⟩ = some (.int .i64 n) := (k1 _ _ (by (first | omega | (simp; done) | (simp; omega)))).trans (by simp [go_sem])) | (go_at_call 68; refine (within_any _ _ _ _).mono ?_; rintro e w' ⟨rfl, rfl⟩) | (go_at_call 49; refine (silI_any _ _ l _ _ (h1.bl (by (repeat' (first | (with_reducible exact Below.refl _ _) | (with_reducible refine bl_alloc ?_ _) | (with_reducible refine bl_drewN ?_ _) | (with_reducible refine bl_drew ?_) | (with_reducible assumption) | (with_reducible refine bl_to ?_ (by assumption)) | (with_reducible refine Below.trans ?_ (by assumption)) | (with_reducible refine Below.trans ?_ (Below.mono (by assumption) ?_)) | (with_reducible refine bl_set ?_ ?_ _) | (simp; done) | (simp; omega) | omega)))) hl).mono ?_; rintro e w3 ⟨A3, c3, rfl, ow3, b3⟩; obtain ⟨k3, f3, z3⟩ := bcell b3))
      go_ret
      exact ⟨rfl, by (repeat' (first | (with_reducible exact Below.refl _ _) | (with_reducible refine bl_alloc ?_ _) | (with_reducible refine bl_drewN ?_ _) | (with_reducible refine bl_drew ?_) | (with_reducible assumption) | (with_reducible refine bl_to ?_ (by assumption)) | (with_reducible refine Below.trans ?_ (by assumption)) | (with_reducible refine Below.trans ?_ (Below.mono (by assumption) ?_)) | (with_reducible refine bl_set ?_ ?_ _) | (simp; done) | (simp; omega) | omega))⟩
  · have hF : turnsF n l m = leftF n l m := by simp [turnsF, ho]
    rw [hF]
    clear hF
    have ln := left_nonneg ho
    have HO := ho
    simp only [leftB, Bool.and_eq_true, decide_eq_true_eq] at ho
    obtain ⟨⟨⟨hw, hm⟩, h0⟩, hs⟩ := ho
    have h0' : ((l.length : Int) == 0) = false := by rw [beq_eq_false_iff_ne]; omega
    have hs' : ¬ (0 : Int) < ((silF n l m).length : Int) := by omega
    go_enter Try.func34, Try.ntmps34
    go_wp2_with (first | ((go_at_call 54; refine (wearI_ok _ _ l _ (h1.bl (by (repeat' (first | (with_reducible exact Below.refl _ _) | (with_reducible refine bl_alloc ?_ _) | (with_reducible refine bl_drewN ?_ _) | (with_reducible refine bl_drew ?_) | (with_reducible assumption) | (with_reducible refine bl_to ?_ (by assumption)) | (with_reducible refine Below.trans ?_ (by assumption)) | (with_reducible refine Below.trans ?_ (Below.mono (by assumption) ?_)) | (with_reducible refine bl_set ?_ ?_ _) | (simp; done) | (simp; omega) | omega)))) hl).mono ?_; rintro e w1 ⟨rfl, b1⟩; obtain ⟨k1, f1, z1⟩ := bcell b1); have u1 : w1.cell? ⟨w.heap.size, 0, none⟩ = some (.slice A0 l.length c0) := (k1 _ _ (by (first | omega | (simp; done) | (simp; omega)))).trans (by simp [go_sem]); have u2 : w1.cell? ⟨w.heap.size, 1, none⟩ = some (.int .i64 n) := (k1 _ _ (by (first | omega | (simp; done) | (simp; omega)))).trans (by simp [go_sem])) | (go_at_call 68; refine (within_any _ _ _ _).mono ?_; rintro e w' ⟨rfl, rfl⟩) | (go_at_call 49; refine (silI_any _ _ l _ _ (h1.bl (by (repeat' (first | (with_reducible exact Below.refl _ _) | (with_reducible refine bl_alloc ?_ _) | (with_reducible refine bl_drewN ?_ _) | (with_reducible refine bl_drew ?_) | (with_reducible assumption) | (with_reducible refine bl_to ?_ (by assumption)) | (with_reducible refine Below.trans ?_ (by assumption)) | (with_reducible refine Below.trans ?_ (Below.mono (by assumption) ?_)) | (with_reducible refine bl_set ?_ ?_ _) | (simp; done) | (simp; omega) | omega)))) hl).mono ?_; rintro e w3 ⟨A3, c3, rfl, ow3, b3⟩; obtain ⟨k3, f3, z3⟩ := bcell b3))
    have s1 : w.heap.size < w1.heap.size := z1 _ (by (first | omega | (simp; done) | (simp; omega)))
    have v1 : w3.cell? ⟨w.heap.size, 0, none⟩ = some (.slice A0 l.length c0) := (k3 _ _ (by (first | omega | (simp; done) | (simp; omega)))).trans u1
    have v2 : w3.cell? ⟨w.heap.size, 1, none⟩ = some (.int .i64 n) := (k3 _ _ (by (first | omega | (simp; done) | (simp; omega)))).trans u2
    have s3 : w.heap.size < w3.heap.size := z3 _ (by (first | omega | (simp; done) | (simp; omega)))
    have bel3 : Below w.heap.size w w3 := by (repeat' (first | (with_reducible exact Below.refl _ _) | (with_reducible refine bl_alloc ?_ _) | (with_reducible refine bl_drewN ?_ _) | (with_reducible refine bl_drew ?_) | (with_reducible assumption) | (with_reducible refine bl_to ?_ (by assumption)) | (with_reducible refine Below.trans ?_ (by assumption)) | (with_reducible refine Below.trans ?_ (Below.mono (by assumption) ?_)) | (with_reducible refine bl_set ?_ ?_ _) | (simp; done) | (simp; omega) | omega))
    clear k1 f1 z1 k3 f3 z3 u1 u2 b1 b3 ow3
    go_loopw [5] (fun i wr => ∃ k : Nat, (k : Int) ≤ leftF n l m ∧ i = .int .i64 k ∧ Below w.heap.size w wr ∧ w.heap.size < wr.heap.size ∧ wr.cell? ⟨w.heap.size, 0, none⟩ = some (.slice A0 l.length c0) ∧ wr.cell? ⟨w.heap.size, 1, none⟩ = some (.int .i64 n)) (fun i _ => 1000 - (intOf i).toNat)
    case atStart => exact ⟨0, by omega, rfl, bel3, s3, v1, v2⟩
    case round =>
      clear v1 v2 bel3 s3 hs hs'
      obtain ⟨k, hk, rfl, bel, sz, v1, v2⟩ := hrel
      by_cases hlt : k < 1000
      · have hlt' : (k : Int) < 1000 := by omega
        have gd := good_iff HO (t := (k : Int) + 1) (by omega) (by omega)
        by_cases hg : (k : Int) + 1 ≤ leftF n l m
        · have hz := gd.2 hg
          have hz' : (((silF n (aftF n l ((k : Int) + 1)) m).length : Int) == 0) = true := by rw [hz]; rfl
          clear hz gd
          go_wp2_with (first | (go_at_call 50; refine (afterI_any _ _ l _ _ (h1.bl bel) hl).mono ?_; rintro e w4 ⟨A4, c4, rfl, ow4, b4⟩) | (go_at_call 49; refine (silI_any _ _ _ _ _ (Rd.of_own ow4) (by rw [aftF_len]; exact hl)).mono ?_; rintro e w5 ⟨A5, c5, rfl, ow5, b5⟩))
          have e1 := (b4.cell (p := ⟨w.heap.size, 0, none⟩) sz).trans v1
          have e2 := (b4.cell (p := ⟨w.heap.size, 1, none⟩) sz).trans v2
          have sz4 := Nat.lt_of_lt_of_le sz b4.size
          go_roundw
          case rel =>
            exact ⟨k + 1, by omega, by go_num, bl_to (bl_to bel b4) b5, Nat.lt_of_lt_of_le sz4 b5.size, (b5.cell (p := ⟨w.heap.size, 0, none⟩) sz4).trans e1, (b5.cell (p := ⟨w.heap.size, 1, none⟩) sz4).trans e2⟩
          case measure => simp [intOf]; omega
        · have hz : (((silF n (aftF n l ((k : Int) + 1)) m).length : Int) == 0) = false := by
            have := mt gd.1 hg
            rw [beq_eq_false_iff_ne]
            omega
          clear gd
          go_wp2_with (first | (go_at_call 50; refine (afterI_any _ _ l _ _ (h1.bl bel) hl).mono ?_; rintro e w4 ⟨A4, c4, rfl, ow4, b4⟩) | (go_at_call 49; refine (silI_any _ _ _ _ _ (Rd.of_own ow4) (by rw [aftF_len]; exact hl)).mono ?_; rintro e w5 ⟨A5, c5, rfl, ow5, b5⟩))
          go_ret
          exact ⟨ret_int (by omega), bl_to (bl_to bel b4) b5⟩
      · obtain rfl : k = 1000 := by omega
        go_wp2
        go_ret
        exact ⟨ret_int (by omega), bel⟩
end Go.Proofs.Ytoijjjaodfincaa
