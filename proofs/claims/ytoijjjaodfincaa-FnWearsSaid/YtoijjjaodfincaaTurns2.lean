/- TurnsLeft of the reference; lengths up to 2^20. -/
import Derived.Test.YtoijjjaodfincaaTurns
namespace Go.Proofs.Ytoijjjaodfincaa
open Go.RowKit

set_option maxHeartbeats 1600000 in
theorem turnsS_any (n : Int) (v : Value) (l : List Int) (m : Int) (w : World) (h1 : RdI w v l) (hl : l.length ≤ 1048576) :
    Calls Try.prog 32 #[.agg #[v, .int .i64 n], .int .i64 m] w fun e w' => e = .returned (.int .i64 (turnsF n l m)) ∧ Below w.heap.size w w' := by
  obtain ⟨A0, c0, rfl, hc0, hm0⟩ := h1.form
  cases ho : leftB n l m
  · have hF : turnsF n l m = -1 := by simp [turnsF, ho]
    rw [hF]
    clear hF
    cases hw : wearB n l
    · go_enter Try.func32, Try.ntmps32
      go_wp2_with (go_at_call 73; refine (wearS_ok _ _ l _ (h1.bl (by (repeat' (first | (with_reducible exact Below.refl _ _) | (with_reducible refine bl_alloc ?_ _) | (with_reducible refine bl_drewN ?_ _) | (with_reducible refine bl_drew ?_) | (with_reducible assumption) | (with_reducible refine bl_to ?_ (by assumption)) | (with_reducible refine Below.trans ?_ (by assumption)) | (with_reducible refine Below.trans ?_ (Below.mono (by assumption) ?_)) | (with_reducible refine bl_set ?_ ?_ _) | (simp; done) | (simp; omega) | omega)))) hl).mono ?_; rintro e w1 ⟨rfl, b1⟩; obtain ⟨k1, f1, z1⟩ := bcell b1)
      go_ret
      exact ⟨rfl, by (repeat' (first | (with_reducible exact Below.refl _ _) | (with_reducible refine bl_alloc ?_ _) | (with_reducible refine bl_drewN ?_ _) | (with_reducible refine bl_drew ?_) | (with_reducible assumption) | (with_reducible refine bl_to ?_ (by assumption)) | (with_reducible refine Below.trans ?_ (by assumption)) | (with_reducible refine Below.trans ?_ (Below.mono (by assumption) ?_)) | (with_reducible refine bl_set ?_ ?_ _) | (simp; done) | (simp; omega) | omega))⟩
    cases hm : inB m 0 1000
    · go_enter Try.func32, Try.ntmps32
      go_wp2_with (first | (go_at_call 73; refine (wearS_ok _ _ l _ (h1.bl (by (repeat' (first | (with_reducible exact Below.refl _ _) | (with_reducible refine bl_alloc ?_ _) | (with_reducible refine bl_drewN ?_ _) | (with_reducible refine bl_drew ?_) | (with_reducible assumption) | (with_reducible refine bl_to ?_ (by assumption)) | (with_reducible refine Below.trans ?_ (by assumption)) | (with_reducible refine Below.trans ?_ (Below.mono (by assumption) ?_)) | (with_reducible refine bl_set ?_ ?_ _) | (simp; done) | (simp; omega) | omega)))) hl).mono ?_; rintro e w1 ⟨rfl, b1⟩; obtain ⟨k1, f1, z1⟩ := bcell b1) | (go_at_call 67; refine (l01In_any _ _ _ _).mono ?_; rintro e w' ⟨rfl, rfl⟩))
      go_ret
      exact ⟨rfl, by (repeat' (first | (with_reducible exact Below.refl _ _) | (with_reducible refine bl_alloc ?_ _) | (with_reducible refine bl_drewN ?_ _) | (with_reducible refine bl_drew ?_) | (with_reducible assumption) | (with_reducible refine bl_to ?_ (by assumption)) | (with_reducible refine Below.trans ?_ (by assumption)) | (with_reducible refine Below.trans ?_ (Below.mono (by assumption) ?_)) | (with_reducible refine bl_set ?_ ?_ _) | (simp; done) | (simp; omega) | omega))⟩
    by_cases h0 : l.length = 0
    · have hb : ((l.length : Int) == 0) = true := by rw [h0]; rfl
      have hb2 : decide ((l.length : Int) = 0) = true := by rw [h0]; rfl
      clear ho h0
      go_enter Try.func32, Try.ntmps32
      go_wp2_with (first | ((go_at_call 73; refine (wearS_ok _ _ l _ (h1.bl (by (repeat' (first | (with_reducible exact Below.refl _ _) | (with_reducible refine bl_alloc ?_ _) | (with_reducible refine bl_drewN ?_ _) | (with_reducible refine bl_drew ?_) | (with_reducible assumption) | (with_reducible refine bl_to ?_ (by assumption)) | (with_reducible refine Below.trans ?_ (by assumption)) | (with_reducible refine Below.trans ?_ (Below.mono (by assumption) ?_)) | (with_reducible refine bl_set ?_ ?_ _) | (simp; done) | (simp; omega) | omega)))) hl).mono ?_; rintro e w1 ⟨rfl, b1⟩; obtain ⟨k1, f1, z1⟩ := bcell b1); have u1 : w1.cell? ⟨w.heap.size, 0, none⟩ = some (.slice A0 l.length c0) := (k1 _ _ (by (first | omega | (simp; done) | (simp; omega)))).trans (by simp [go_sem])) | (go_at_call 67; refine (l01In_any _ _ _ _).mono ?_; rintro e w' ⟨rfl, rfl⟩))
      go_ret
      exact ⟨rfl, by (repeat' (first | (with_reducible exact Below.refl _ _) | (with_reducible refine bl_alloc ?_ _) | (with_reducible refine bl_drewN ?_ _) | (with_reducible refine bl_drew ?_) | (with_reducible assumption) | (with_reducible refine bl_to ?_ (by assumption)) | (with_reducible refine Below.trans ?_ (by assumption)) | (with_reducible refine Below.trans ?_ (Below.mono (by assumption) ?_)) | (with_reducible refine bl_set ?_ ?_ _) | (simp; done) | (simp; omega) | omega))⟩
    · have h0' : ¬ (l.length : Int) = 0 := by omega
      have hs : (0 : Int) < ((silF n l m).length : Int) := by
        have : ¬ (silF n l m).length = 0 := by intro e; simp [leftB, hw, hm, h0, e] at ho
        omega
      go_enter Try.func32, Try.ntmps32
      go_wp2_with (first | ((go_at_call 73; refine (wearS_ok _ _ l _ (h1.bl (by (repeat' (first | (with_reducible exact Below.refl _ _) | (with_reducible refine bl_alloc ?_ _) | (with_reducible refine bl_drewN ?_ _) | (with_reducible refine bl_drew ?_) | (with_reducible assumption) | (with_reducible refine bl_to ?_ (by assumption)) | (with_reducible refine Below.trans ?_ (by assumption)) | (with_reducible refine Below.trans ?_ (Below.mono (by assumption) ?_)) | (with_reducible refine bl_set ?_ ?_ _) | (simp; done) | (simp; omega) | omega)))) hl).mono ?_; rintro e w1 ⟨rfl, b1⟩; obtain ⟨k1, f1, z1⟩ := bcell b1); have u1 : w1.cell? ⟨w.heap.size, 0, none⟩ = some (.slice A0 l.length c0) := (k1 _ _ (by (first | omega | (simp; done) | (simp; omega)))).trans (by simp [go_sem]); have u2 : w1.cell? ⟨w.heap.size, 1, none⟩ = some (.int .i64 n) := (k1 _ _ (by (first | omega | (simp; done) | (simp; omega)))).trans (by simp [go_sem])) | (go_at_call 67; refine (l01In_any _ _ _ _).mono ?_; rintro e w' ⟨rfl, rfl⟩) | (go_at_call 74; refine (silS_any _ _ l _ _ (h1.bl (by (repeat' (first | (with_reducible exact Below.refl _ _) | (with_reducible refine bl_alloc ?_ _) | (with_reducible refine bl_drewN ?_ _) | (with_reducible refine bl_drew ?_) | (with_reducible assumption) | (with_reducible refine bl_to ?_ (by assumption)) | (with_reducible refine Below.trans ?_ (by assumption)) | (with_reducible refine Below.trans ?_ (Below.mono (by assumption) ?_)) | (with_reducible refine bl_set ?_ ?_ _) | (simp; done) | (simp; omega) | omega)))) hl).mono ?_; rintro e w3 ⟨A3, c3, rfl, ow3, b3⟩; obtain ⟨k3, f3, z3⟩ := bcell b3))
      go_ret
      exact ⟨rfl, by (repeat' (first | (with_reducible exact Below.refl _ _) | (with_reducible refine bl_alloc ?_ _) | (with_reducible refine bl_drewN ?_ _) | (with_reducible refine bl_drew ?_) | (with_reducible assumption) | (with_reducible refine bl_to ?_ (by assumption)) | (with_reducible refine Below.trans ?_ (by assumption)) | (with_reducible refine Below.trans ?_ (Below.mono (by assumption) ?_)) | (with_reducible refine bl_set ?_ ?_ _) | (simp; done) | (simp; omega) | omega))⟩
  · have hF : turnsF n l m = leftF n l m := by simp [turnsF, ho]
    rw [hF]
    clear hF
    have ln := left_nonneg ho
    have HO := ho
    simp only [leftB, Bool.and_eq_true, decide_eq_true_eq] at ho
    obtain ⟨⟨⟨hw, hm⟩, h0⟩, hs⟩ := ho
    have h0' : ((l.length : Int) == 0) = false := by rw [beq_eq_false_iff_ne]; omega
    have hs' : ¬ (0 : Int) < ((silF n l m).length : Int) := by omega
    go_enter Try.func32, Try.ntmps32
    go_wp2_with (first | ((go_at_call 73; refine (wearS_ok _ _ l _ (h1.bl (by (repeat' (first | (with_reducible exact Below.refl _ _) | (with_reducible refine bl_alloc ?_ _) | (with_reducible refine bl_drewN ?_ _) | (with_reducible refine bl_drew ?_) | (with_reducible assumption) | (with_reducible refine bl_to ?_ (by assumption)) | (with_reducible refine Below.trans ?_ (by assumption)) | (with_reducible refine Below.trans ?_ (Below.mono (by assumption) ?_)) | (with_reducible refine bl_set ?_ ?_ _) | (simp; done) | (simp; omega) | omega)))) hl).mono ?_; rintro e w1 ⟨rfl, b1⟩; obtain ⟨k1, f1, z1⟩ := bcell b1); have u1 : w1.cell? ⟨w.heap.size, 0, none⟩ = some (.slice A0 l.length c0) := (k1 _ _ (by (first | omega | (simp; done) | (simp; omega)))).trans (by simp [go_sem]); have u2 : w1.cell? ⟨w.heap.size, 1, none⟩ = some (.int .i64 n) := (k1 _ _ (by (first | omega | (simp; done) | (simp; omega)))).trans (by simp [go_sem])) | (go_at_call 67; refine (l01In_any _ _ _ _).mono ?_; rintro e w' ⟨rfl, rfl⟩) | (go_at_call 74; refine (silS_any _ _ l _ _ (h1.bl (by (repeat' (first | (with_reducible exact Below.refl _ _) | (with_reducible refine bl_alloc ?_ _) | (with_reducible refine bl_drewN ?_ _) | (with_reducible refine bl_drew ?_) | (with_reducible assumption) | (with_reducible refine bl_to ?_ (by assumption)) | (with_reducible refine Below.trans ?_ (by assumption)) | (with_reducible refine Below.trans ?_ (Below.mono (by assumption) ?_)) | (with_reducible refine bl_set ?_ ?_ _) | (simp; done) | (simp; omega) | omega)))) hl).mono ?_; rintro e w3 ⟨A3, c3, rfl, ow3, b3⟩; obtain ⟨k3, f3, z3⟩ := bcell b3))
    have s1 : w.heap.size < w1.heap.size := z1 _ (by (first | omega | (simp; done) | (simp; omega)))
    have v1 : w3.cell? ⟨w.heap.size, 0, none⟩ = some (.slice A0 l.length c0) := (k3 _ _ (by (first | omega | (simp; done) | (simp; omega)))).trans u1
    have v2 : w3.cell? ⟨w.heap.size, 1, none⟩ = some (.int .i64 n) := (k3 _ _ (by (first | omega | (simp; done) | (simp; omega)))).trans u2
    have s3 : w.heap.size < w3.heap.size := z3 _ (by (first | omega | (simp; done) | (simp; omega)))
    have bel3 : Below w.heap.size w w3 := by (repeat' (first | (with_reducible exact Below.refl _ _) | (with_reducible refine bl_alloc ?_ _) | (with_reducible refine bl_drewN ?_ _) | (with_reducible refine bl_drew ?_) | (with_reducible assumption) | (with_reducible refine bl_to ?_ (by assumption)) | (with_reducible refine Below.trans ?_ (by assumption)) | (with_reducible refine Below.trans ?_ (Below.mono (by assumption) ?_)) | (with_reducible refine bl_set ?_ ?_ _) | (simp; done) | (simp; omega) | omega))
    clear k1 f1 z1 k3 f3 z3 u1 u2 b1 b3 ow3
    obtain ⟨wl, ⟨n1, n2⟩, wa⟩ := wearB_iff hw
    obtain ⟨m1, m2⟩ := inB_iff.1 hm
    have hall : ∀ k, k < l.length → 0 ≤ gi l k ∧ gi l k ≤ 1000 := fun k hk => inB_iff.1 (by have := List.all_eq_true.1 wa _ (gi_mem hk); exact this)
    clear wa
    have hge : ∀ j, j < l.length → m ≤ gi l j := by
      have hF : silF n l m = silN l m l.length := by simp [silF, hw, hm]
      rw [List.length_eq_zero_iff, hF, silN_nil] at hs
      exact hs
    obtain ⟨g, o, rfl, hg, rd⟩ := h1.look (by omega)
    have rd3 : ∀ j, j < l.length → w3.cell? ⟨g, o + j, none⟩ = some (.int .i64 (gi l j)) := fun j hj => (bel3.cell (p := ⟨g, o + j, none⟩) hg).trans (rd j _ (cI_get hj))
    clear rd h1 hs hs' HO hw hm
    by_cases hp : 0 < m
    · have hF : leftF n l m = leftN n m l l.length := by simp [leftF, hp]
      have HF := Lib.hid hF
      clear hF ln
      have hpb : decide (0 < m) = true := by simp [hp]
      have hxt := Lib.hid (show leftN n m l 0 = 1000 from rfl)
      go_loopw [5, 6] (fun x i wr => ∃ k : Nat, k ≤ l.length ∧ i = .int .i64 k ∧ x = .int .i64 (leftN n m l k) ∧ Below w3.heap.size w3 wr) (fun _ i _ => l.length - (intOf i).toNat)
      case atStart => exact ⟨0, Nat.zero_le _, rfl, rfl, Below.refl _ _⟩
      case round =>
        obtain ⟨k, hk, rfl, rfl, b4⟩ := hrel
        replace v1 := (b4.cell (p := ⟨w.heap.size, 0, none⟩) s3).trans v1
        replace v2 := (b4.cell (p := ⟨w.heap.size, 1, none⟩) s3).trans v2
        by_cases hlt : k < l.length
        · have hlt' : (k : Int) < (l.length : Int) := by omega
          have e1 := (b4.cell (p := ⟨g, o + k, none⟩) (by simp; omega)).trans (rd3 k hlt)
          have hx := hge k hlt
          have hy := hall k hlt
          have hz := Lib.hid (show leftN n m l (k + 1) = min (leftN n m l k) ((gi l k - m) / n) from rfl)
          clear rd3
          go_wp2
          go_region
          go_wp2
          go_roundw
          case rel => exact ⟨k + 1, by omega, by go_num, by rw [hz.out]; congr 1; split <;> omega, b4.drew⟩
          case measure => simp [intOf]; omega
        · have hlt' : ¬ (k : Int) < (l.length : Int) := by omega
          obtain rfl : k = l.length := by omega
          go_wp2
          go_ret
          exact ⟨ret_int HF.out.symm, bl_to bel3 b4⟩
    · have hF : leftF n l m = 1000 := by simp [leftF, hp]
      have HF := Lib.hid hF
      clear hF ln
      have hlt' : (0 : Int) < (l.length : Int) := by omega
      refine wp_loop_rounds 1 ?_
      rw [rounds_succ]
      go_wp2
      go_ret
      exact ⟨ret_int HF.out.symm, bel3⟩
end Go.Proofs.Ytoijjjaodfincaa
