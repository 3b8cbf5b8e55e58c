/- StripOf, Lasts, Later of the program and of the reference; lengths up to 2^20. -/
import Derived.Test.YtbcmidencifcoaaGlue0
namespace Go.Proofs.Ytbcmidencifcoaa
open Go.RowKit

set_option maxHeartbeats 1600000 in
set_option maxRecDepth 100000 in
theorem lastI_any (v : Value) (l : List (Int × Int)) (w : World) (h1 : RdN w v l) (hl : l.length ≤ 1048576) :
    Calls Try.prog 66 #[v] w fun e w' => e = .returned (.int .i64 (lastF l)) ∧ Below w.heap.size w w' := by
  obtain ⟨A1, c1, rfl, hc, hm⟩ := h1.form
  unfold maxLen at hm
  cases ht : tuneB l
  · have hF : lastF l = -1 := by simp [lastF, ht]
    rw [hF]
    go_enter Try.func66, Try.ntmps66
    go_wp2_with (go_at_call 54; refine (tuneI_ok _ l _ h1 hl).mono ?_; rintro e w1 ⟨rfl, b1⟩; obtain ⟨k1, f1, z1⟩ := bcell b1)
    go_ret
    exact ⟨rfl, b1⟩
  by_cases h0 : l.length = 0
  · have hF : lastF l = 0 := by simp [lastF, ht, h0]
    rw [hF]
    have hb : ((l.length : Int) == 0) = true := by rw [h0]; rfl
    have hb2 : decide (l.length = 0) = true := by rw [h0]; rfl
    clear h0
    go_enter Try.func66, Try.ntmps66
    go_wp2_with (go_at_call 54; refine (tuneI_ok _ l _ h1 hl).mono ?_; rintro e w1 ⟨rfl, b1⟩; obtain ⟨k1, f1, z1⟩ := bcell b1)
    go_ret
    exact ⟨rfl, b1⟩
  have hF : lastF l = (gN l (l.length - 1)).1 - (gN l 0).1 := by simp [lastF, ht, h0]
  have HF := Lib.hid hF
  clear hF
  have lp : 0 < l.length := by omega
  have hb0 : ((l.length : Int) == 0) = false := by rw [beq_eq_false_iff_ne]; omega
  have t0 := (okN_bd (tuneB_iff ht).2 lp).1
  have tn := (okN_bd (tuneB_iff ht).2 (show l.length - 1 < l.length by omega)).1
  obtain ⟨b, o, rfl, hb, e0, e1⟩ := RdN.at_ h1 lp
  obtain ⟨b', o', hbo, _, d0, d1⟩ := RdN.at_ h1 (k := l.length - 1) (by omega)
  obtain ⟨rfl, rfl⟩ : b = b' ∧ o = o' := by simpa using hbo
  have kt : ((l.length : Int) - 1).toNat = l.length - 1 := by omega
  have k0 : (0 : Int) ≤ (l.length : Int) - 1 := by omega
  have k2 : (l.length : Int) - 1 < (l.length : Int) := by omega
  have kz1 : (1 : Int) ≤ (l.length : Int) := by omega
  have kz3 : (0 : Int) < (l.length : Int) := by omega
  have kw : IntKind.i64.wrap ((l.length : Int) - 1) = (l.length : Int) - 1 := IntWalk.i64_in _ (by omega)
  have kv : IntKind.i64.wrap ((gN l (l.length - 1)).1 - (gN l 0).1) = (gN l (l.length - 1)).1 - (gN l 0).1 := IntWalk.i64_in _ (by omega)
  simp only [Nat.zero_mul, Nat.add_zero] at e0
  clear hbo h0 e1 d1
  go_enter Try.func66, Try.ntmps66
  go_wp2_with ((go_at_call 54; refine (tuneI_ok _ l _ h1 hl).mono ?_; rintro e w1 ⟨rfl, b1⟩; obtain ⟨k1, f1, z1⟩ := bcell b1); have e0' := (b1.cell (p := ⟨b, o, none⟩) hb).trans e0; have d0' := (b1.cell (p := ⟨b, o + (l.length - 1) * 2, none⟩) hb).trans d0; clear k1 f1 z1)
  clear e0 d0 h1
  go_quiet (fail)
  clear kw kv
  go_wp2
  go_ret
  exact ⟨ret_int HF.out.symm, by (repeat' (first | (with_reducible exact Below.refl _ _) | (with_reducible refine bl_alloc ?_ _) | (with_reducible refine bl_drewN ?_ _) | (with_reducible refine bl_drew ?_) | (with_reducible assumption) | (with_reducible refine bl_to ?_ (by assumption)) | (with_reducible refine Below.trans ?_ (by assumption)) | (with_reducible refine Below.trans ?_ (Below.mono (by assumption) ?_)) | (with_reducible refine bl_set ?_ ?_ _) | (simp; done) | (simp; omega) | omega))⟩

set_option maxHeartbeats 1600000 in
set_option maxRecDepth 100000 in
theorem lastS_any (v : Value) (l : List (Int × Int)) (w : World) (h1 : RdN w v l) (hl : l.length ≤ 1048576) :
    Calls Try.prog 50 #[v] w fun e w' => e = .returned (.int .i64 (lastF l)) ∧ Below w.heap.size w w' := by
  obtain ⟨A1, c1, rfl, hc, hm⟩ := h1.form
  unfold maxLen at hm
  cases ht : tuneB l
  · have hF : lastF l = -1 := by simp [lastF, ht]
    rw [hF]
    go_enter Try.func50, Try.ntmps50
    go_wp2_with (go_at_call 52; refine (tuneS_ok _ l _ h1 hl).mono ?_; rintro e w1 ⟨rfl, b1⟩; obtain ⟨k1, f1, z1⟩ := bcell b1)
    go_ret
    exact ⟨rfl, b1⟩
  by_cases h0 : l.length = 0
  · have hF : lastF l = 0 := by simp [lastF, ht, h0]
    rw [hF]
    have hb : ((l.length : Int) == 0) = true := by rw [h0]; rfl
    have hb2 : decide (l.length = 0) = true := by rw [h0]; rfl
    clear h0
    go_enter Try.func50, Try.ntmps50
    go_wp2_with (go_at_call 52; refine (tuneS_ok _ l _ h1 hl).mono ?_; rintro e w1 ⟨rfl, b1⟩; obtain ⟨k1, f1, z1⟩ := bcell b1)
    go_ret
    exact ⟨rfl, b1⟩
  have hF : lastF l = (gN l (l.length - 1)).1 - (gN l 0).1 := by simp [lastF, ht, h0]
  have HF := Lib.hid hF
  clear hF
  have lp : 0 < l.length := by omega
  have hb0 : ((l.length : Int) == 0) = false := by rw [beq_eq_false_iff_ne]; omega
  have t0 := (okN_bd (tuneB_iff ht).2 lp).1
  have tn := (okN_bd (tuneB_iff ht).2 (show l.length - 1 < l.length by omega)).1
  obtain ⟨b, o, rfl, hb, e0, e1⟩ := RdN.at_ h1 lp
  obtain ⟨b', o', hbo, _, d0, d1⟩ := RdN.at_ h1 (k := l.length - 1) (by omega)
  obtain ⟨rfl, rfl⟩ : b = b' ∧ o = o' := by simpa using hbo
  have kt : ((l.length : Int) - 1).toNat = l.length - 1 := by omega
  have k0 : (0 : Int) ≤ (l.length : Int) - 1 := by omega
  have k2 : (l.length : Int) - 1 < (l.length : Int) := by omega
  have kz1 : (1 : Int) ≤ (l.length : Int) := by omega
  have kz3 : (0 : Int) < (l.length : Int) := by omega
  have kw : IntKind.i64.wrap ((l.length : Int) - 1) = (l.length : Int) - 1 := IntWalk.i64_in _ (by omega)
  have kv : IntKind.i64.wrap ((gN l (l.length - 1)).1 - (gN l 0).1) = (gN l (l.length - 1)).1 - (gN l 0).1 := IntWalk.i64_in _ (by omega)
  simp only [Nat.zero_mul, Nat.add_zero] at e0
  clear hbo h0 e1 d1
  go_enter Try.func50, Try.ntmps50
  go_wp2_with ((go_at_call 52; refine (tuneS_ok _ l _ h1 hl).mono ?_; rintro e w1 ⟨rfl, b1⟩; obtain ⟨k1, f1, z1⟩ := bcell b1); have e0' := (b1.cell (p := ⟨b, o, none⟩) hb).trans e0; have d0' := (b1.cell (p := ⟨b, o + (l.length - 1) * 2, none⟩) hb).trans d0; clear k1 f1 z1)
  clear e0 d0 h1
  go_quiet (fail)
  clear kw kv
  go_wp2
  go_ret
  exact ⟨ret_int HF.out.symm, by (repeat' (first | (with_reducible exact Below.refl _ _) | (with_reducible refine bl_alloc ?_ _) | (with_reducible refine bl_drewN ?_ _) | (with_reducible refine bl_drew ?_) | (with_reducible assumption) | (with_reducible refine bl_to ?_ (by assumption)) | (with_reducible refine Below.trans ?_ (by assumption)) | (with_reducible refine Below.trans ?_ (Below.mono (by assumption) ?_)) | (with_reducible refine bl_set ?_ ?_ _) | (simp; done) | (simp; omega) | omega))⟩


def movL (l : List (Int × Int)) (d : Int) : List (Int × Int) := if tuneB (shN l d l.length) then shN l d l.length else l
theorem movL_len (l : List (Int × Int)) (d : Int) : (movL l d).length = l.length := by
  unfold movL
  split
  · exact shN_len _ _ _
  · rfl
def NewRowB (l : List (Int × Int)) (b : Bool) (w : World) (en : Ending) (w' : World) : Prop :=
  ∃ A c, en = .returned (.tuple #[.slice A l.length c, .bool b]) ∧ w'.ownsRow w.heap.size 62 2 (.slice A l.length c) l.length (cN l) ∧ Below w.heap.size w w'

set_option maxHeartbeats 1600000 in
set_option maxRecDepth 100000 in
theorem move_any (v : Value) (l : List (Int × Int)) (d : Int) (w : World) (h1 : RdN w v l) (ht : tuneB l = true) (hd : -1000 ≤ d ∧ d ≤ 1000) :
    Calls Try.prog 73 #[v, .int .i64 1, .int .i64 d, .int .i64 0] w (NewRowB (movL l d) (tuneB (shN l d l.length)) w) := by
  have hll := (tuneB_iff ht).1
  have hok := (tuneB_iff ht).2
  have hl : l.length ≤ 1048576 := by omega
  obtain ⟨d0, d1⟩ := hd
  obtain ⟨A1, c1, rfl, hc, hm⟩ := h1.form
  unfold maxLen at hm
  have HOK := Lib.hid hok
  clear hok
  go_enter Try.func73, Try.ntmps73
  go_wp2_with (go_at_call 52; refine (tuneS_ok _ l _ (h1.bl (by (repeat' (first | (with_reducible exact Below.refl _ _) | (with_reducible refine bl_alloc ?_ _) | (with_reducible refine bl_drewN ?_ _) | (with_reducible refine bl_drew ?_) | (with_reducible assumption) | (with_reducible refine bl_to ?_ (by assumption)) | (with_reducible refine Below.trans ?_ (by assumption)) | (with_reducible refine Below.trans ?_ (Below.mono (by assumption) ?_)) | (with_reducible refine bl_set ?_ ?_ _) | (simp; done) | (simp; omega) | omega)))) hl).mono ?_; rintro e w1 ⟨rfl, b1⟩; obtain ⟨k1, f1, z1⟩ := bcell b1)
  have own1 : (w1.alloc (Obj.cells #[] 62)).ownsRow w1.heap.size 62 2 (.slice (some ⟨w1.heap.size, 0, none⟩) 0 0) (shN l d 0).length (cN (shN l d 0)) := own_new0 (Nat.le_refl _) rfl
  have bel1 : Below w.heap.size w (w1.alloc (Obj.cells #[] 62)) := by (repeat' (first | (with_reducible exact Below.refl _ _) | (with_reducible refine bl_alloc ?_ _) | (with_reducible refine bl_drewN ?_ _) | (with_reducible refine bl_drew ?_) | (with_reducible assumption) | (with_reducible refine bl_to ?_ (by assumption)) | (with_reducible refine Below.trans ?_ (by assumption)) | (with_reducible refine Below.trans ?_ (Below.mono (by assumption) ?_)) | (with_reducible refine bl_set ?_ ?_ _) | (simp; done) | (simp; omega) | omega))
  have sz1 := b1.size
  clear k1 f1 z1
  go_loopw [10, 11] (fun v i wr => ∃ k : Nat, k ≤ l.length ∧ i = .int .i64 k ∧ wr.ownsRow w1.heap.size 62 2 v (shN l d k).length (cN (shN l d k)) ∧ Below w.heap.size w wr ∧ w1.heap.size ≤ wr.heap.size) (fun _ i _ => l.length - (intOf i).toNat)
  case atStart => exact ⟨0, Nat.zero_le _, rfl, own1, bel1, by simp⟩
  case round =>
    clear own1 bel1
    obtain ⟨k, hk, rfl, ow, bel, szr⟩ := hrel
    have hsl := shN_len l d k
    by_cases hlt : k < l.length
    · have hlt' : (k : Int) < (l.length : Int) := by omega
      have kk0 : (0 : Int) ≤ (k : Int) := by omega
      obtain ⟨b, o, rfl, hb, e0, e1⟩ := RdN.at_ (h1.bl bel) hlt
      have hbb : b < w1.heap.size := by
        obtain ⟨g', o', e, hg', _⟩ := RdN.at_ h1 hlt
        cases e
        omega
      obtain ⟨⟨a1, a2⟩, ⟨a3, a4⟩⟩ := okN_bd HOK.out hlt
      have hLl : (shN l d k).length ≤ 4194304 := by omega
      have hw0 : IntKind.i64.wrap ((gN l k).1 * 1) = (gN l k).1 := by rw [Int.mul_one]; exact IntWalk.i64_in _ (by omega)
      have hw0' : IntKind.i64.wrap (gN l k).1 = (gN l k).1 := IntWalk.i64_in _ (by omega)
      have hw1 : IntKind.i64.wrap ((gN l k).1 + d) = (gN l k).1 + d := IntWalk.i64_in _ (by omega)
      have hw2 : IntKind.i64.wrap (gN l k).2 = (gN l k).2 := IntWalk.i64_in _ (by omega)
      clear h1
      go_wp2
      go_region_held3 (fun w' => w'.cell? ⟨b, o + k * 2, none⟩ = some (.int .i64 (gN l k).1) ∧ w'.cell? ⟨b, o + k * 2 + 1, none⟩ = some (.int .i64 (gN l k).2))
        (first | exact ⟨u0, u1⟩ | go_keep)
        ((refine step_app_N1 _ (by rfl) _ _ (by rfl) w1.heap.size _ (shN l d k) (by rfl) ((ow.alloc (Obj.cells #[.int .i64 ((gN l k).1 + d), .int .i64 (gN l k).2] 62)).drew) wr.heap.size ((gN l k).1 + d) (gN l k).2 (by rfl) (by simp [go_sem]) (by simp [go_sem]) hLl (by simp; omega) ?_; intro A2 m2 c2 w2' ow2 bb gr at2; have u0 : w2'.cell? ⟨b, o + k * 2, none⟩ = some (.int .i64 (gN l k).1) := (bb.cell (p := ⟨b, o + k * 2, none⟩) hbb).trans (by simp [go_sem, e0, hb]); have u1 : w2'.cell? ⟨b, o + k * 2 + 1, none⟩ = some (.int .i64 (gN l k).2) := (bb.cell (p := ⟨b, o + k * 2 + 1, none⟩) hbb).trans (by simp [go_sem, e1, hb])))
      all_goals
        clear hw0 hw0' hw1 hw2
        have bel2 : Below w.heap.size w w2' := Below.trans (bl_drew (bl_alloc bel _)) (bb.mono (by omega))
        have sz2 := bb.size
        go_wp2
        go_roundw
        case rel => exact ⟨k + 1, by omega, by go_num, by rw [shN]; exact ow2, bel2, by simp at sz2; omega⟩
        case measure => simp [intOf]; omega
    · have hlt' : ¬ (k : Int) < (l.length : Int) := by omega
      obtain rfl : k = l.length := by omega
      obtain ⟨A, c, rfl⟩ := own_form ow
      have hle : (shN l d l.length).length ≤ 1048576 := by omega
      have hrd := Rd.of_own ow
      have HS := Lib.hid hsl
      clear hsl
      cases hB : tuneB (shN l d l.length)
      · have hM : movL l d = l := by simp [movL, hB]
        go_wp2_with (first | (have tok := f5; (go_at_call 62; refine (l02Copy_any _ l _ (h1.bl (by (repeat' (first | (with_reducible exact Below.refl _ _) | (with_reducible refine bl_alloc ?_ _) | (with_reducible refine bl_drewN ?_ _) | (with_reducible refine bl_drew ?_) | (with_reducible assumption) | (with_reducible refine bl_to ?_ (by assumption)) | (with_reducible refine Below.trans ?_ (by assumption)) | (with_reducible refine Below.trans ?_ (Below.mono (by assumption) ?_)) | (with_reducible refine bl_set ?_ ?_ _) | (simp; done) | (simp; omega) | omega)))) hl).mono ?_; rintro e w6 ⟨A6, c6, rfl, ow6, b6⟩; obtain ⟨k6, f6, z6⟩ := bcell b6); clear tok) | (go_at_call 52; refine (tuneS_ok _ (shN l d l.length) _ (hrd.bl (Below.refl _ _)) hle).mono ?_; rintro e w5 ⟨rfl, b5⟩; obtain ⟨k5, f5, z5⟩ := bcell b5))
        go_ret2
        rw [NewRowB, hM, hB]
        exact ⟨A6, c6, by simp, own_lo ow6 (by have := b5.size; have := bel.size; omega), by (repeat' (first | (with_reducible exact Below.refl _ _) | (with_reducible refine bl_alloc ?_ _) | (with_reducible refine bl_drewN ?_ _) | (with_reducible refine bl_drew ?_) | (with_reducible assumption) | (with_reducible refine bl_to ?_ (by assumption)) | (with_reducible refine Below.trans ?_ (by assumption)) | (with_reducible refine Below.trans ?_ (Below.mono (by assumption) ?_)) | (with_reducible refine bl_set ?_ ?_ _) | (simp; done) | (simp; omega) | omega))⟩
      · have hM : movL l d = shN l d l.length := by simp [movL, hB]
        go_wp2_with (go_at_call 52; refine (tuneS_ok _ (shN l d l.length) _ (hrd.bl (Below.refl _ _)) hle).mono ?_; rintro e w5 ⟨rfl, b5⟩; obtain ⟨k5, f5, z5⟩ := bcell b5)
        go_ret2
        rw [NewRowB, hM, hB]
        exact ⟨A, c, by simp, own_lo (own_bl ow b5) (by omega), by (repeat' (first | (with_reducible exact Below.refl _ _) | (with_reducible refine bl_alloc ?_ _) | (with_reducible refine bl_drewN ?_ _) | (with_reducible refine bl_drew ?_) | (with_reducible assumption) | (with_reducible refine bl_to ?_ (by assumption)) | (with_reducible refine Below.trans ?_ (by assumption)) | (with_reducible refine Below.trans ?_ (Below.mono (by assumption) ?_)) | (with_reducible refine bl_set ?_ ?_ _) | (simp; done) | (simp; omega) | omega))⟩
theorem later_any (v : Value) (l : List (Int × Int)) (d : Int) (w : World) (h1 : RdN w v l) (ht : tuneB l = true) (hd : -1000 ≤ d ∧ d ≤ 1000) :
    Calls Try.prog 65 #[v, .int .i64 d] w (NewRowB (movL l d) (tuneB (shN l d l.length)) w) := by
  have hin : inB d (-1000) 1000 = true := inB_yes hd.1 hd.2
  go_enter Try.func65, Try.ntmps65
  go_wp2_with (first | (go_at_call 56; refine (l01In_any _ _ _ _).mono ?_; rintro e w' ⟨rfl, rfl⟩) | (go_at_call 73; refine (move_any _ l d _ h1 ht hd).mono ?_; rintro e w1 ⟨A1, c1, rfl, ow1, b1⟩))
  go_ret2
  exact ⟨A1, c1, rfl, ow1, b1⟩

/-- the made strip is good only if the moved notes are a tune -/
theorem sofB_iff {l : List (Int × Int)} {a b : Int} (ht : tuneB l = true) (h0 : 0 < l.length) (ha : inB a 0 100 = true) (hb : inB b 0 100 = true) : sofB l a b = (tuneB (shN l (a - (gN l 0).1) l.length) && stripB (sofN l a b) (movL l (a - (gN l 0).1))) := by
  have e : sofB l a b = stripB (sofN l a b) (sofL l a) := by simp [sofB, ht, h0, ha, hb]
  rw [e]
  cases hB : tuneB (shN l (a - (gN l 0).1) l.length)
  · simp [stripB, sofL, hB]
  · simp [movL, hB, sofL]

set_option maxHeartbeats 3200000 in
set_option maxRecDepth 100000 in
theorem sofS_any (v : Value) (l : List (Int × Int)) (a b : Int) (w : World) (h1 : RdN w v l) (hl : l.length ≤ 1048576) :
    Calls Try.prog 44 #[v, .int .i64 a, .int .i64 b] w (NewStripB (sofFn l a b) (sofFl l a b) (sofB l a b) w) := by
  obtain ⟨A0, c0, rfl, hc, hm⟩ := h1.form
  unfold maxLen at hm
  by_cases hg : tuneB l = true ∧ 0 < l.length ∧ inB a 0 100 = true ∧ inB b 0 100 = true
  rotate_left
  · have hB : sofB l a b = false := by
      cases e : sofB l a b with
      | false => rfl
      | true =>
        simp only [sofB, Bool.and_eq_true, decide_eq_true_eq] at e
        exact absurd ⟨e.1.1.1.1, e.1.1.1.2, e.1.1.2, e.1.2⟩ hg
    rw [sofFn, sofFl, hB]
    cases ht : tuneB l
    · go_enter Try.func44, Try.ntmps44
      go_wp2_with ((go_at_call 52; refine (tuneS_ok _ l _ (h1.bl (by (repeat' (first | (with_reducible exact Below.refl _ _) | (with_reducible refine bl_alloc ?_ _) | (with_reducible refine bl_drewN ?_ _) | (with_reducible refine bl_drew ?_) | (with_reducible assumption) | (with_reducible refine bl_to ?_ (by assumption)) | (with_reducible refine Below.trans ?_ (by assumption)) | (with_reducible refine Below.trans ?_ (Below.mono (by assumption) ?_)) | (with_reducible refine bl_set ?_ ?_ _) | (simp; done) | (simp; omega) | omega)))) hl).mono ?_; rintro e w1 ⟨rfl, b1⟩; obtain ⟨k1, f1, z1⟩ := bcell b1); have y1 := z1 w.heap.size (by (first | omega | (simp; done) | (simp; omega))))
      exact bodyPost_ret (v := .tuple #[.agg #[.int .i64 0, .slice none 0 0], .bool false]) (by simp [results, Try.results44, go_sem, k1, y1]) rfl ⟨none, 0, rfl, World.ownsRow_nil _ _ _ _, by (repeat' (first | (with_reducible exact Below.refl _ _) | (with_reducible refine bl_alloc ?_ _) | (with_reducible refine bl_drewN ?_ _) | (with_reducible refine bl_drew ?_) | (with_reducible assumption) | (with_reducible refine bl_to ?_ (by assumption)) | (with_reducible refine Below.trans ?_ (by assumption)) | (with_reducible refine Below.trans ?_ (Below.mono (by assumption) ?_)) | (with_reducible refine bl_set ?_ ?_ _) | (simp; done) | (simp; omega) | omega))⟩
    by_cases h0 : l.length = 0
    · have g1 : ((l.length : Int) == 0) = true := by rw [h0]; rfl
      have g2 : decide (l.length = 0) = true := by rw [h0]; rfl
      clear h0 hg
      go_enter Try.func44, Try.ntmps44
      go_wp2_with ((go_at_call 52; refine (tuneS_ok _ l _ (h1.bl (by (repeat' (first | (with_reducible exact Below.refl _ _) | (with_reducible refine bl_alloc ?_ _) | (with_reducible refine bl_drewN ?_ _) | (with_reducible refine bl_drew ?_) | (with_reducible assumption) | (with_reducible refine bl_to ?_ (by assumption)) | (with_reducible refine Below.trans ?_ (by assumption)) | (with_reducible refine Below.trans ?_ (Below.mono (by assumption) ?_)) | (with_reducible refine bl_set ?_ ?_ _) | (simp; done) | (simp; omega) | omega)))) hl).mono ?_; rintro e w1 ⟨rfl, b1⟩; obtain ⟨k1, f1, z1⟩ := bcell b1); have y1 := z1 w.heap.size (by (first | omega | (simp; done) | (simp; omega))))
      exact bodyPost_ret (v := .tuple #[.agg #[.int .i64 0, .slice none 0 0], .bool false]) (by simp [results, Try.results44, go_sem, k1, y1]) rfl ⟨none, 0, rfl, World.ownsRow_nil _ _ _ _, by (repeat' (first | (with_reducible exact Below.refl _ _) | (with_reducible refine bl_alloc ?_ _) | (with_reducible refine bl_drewN ?_ _) | (with_reducible refine bl_drew ?_) | (with_reducible assumption) | (with_reducible refine bl_to ?_ (by assumption)) | (with_reducible refine Below.trans ?_ (by assumption)) | (with_reducible refine Below.trans ?_ (Below.mono (by assumption) ?_)) | (with_reducible refine bl_set ?_ ?_ _) | (simp; done) | (simp; omega) | omega))⟩
    have g1 : ((l.length : Int) == 0) = false := by rw [beq_eq_false_iff_ne]; omega
    cases ha : inB a 0 100
    rotate_left
    have hb : inB b 0 100 = false := by
      cases e : inB b 0 100 with
      | false => rfl
      | true => exact absurd ⟨ht, by omega, ha, e⟩ hg
    all_goals
      clear hg h0
      go_enter Try.func44, Try.ntmps44
      go_wp2_with (first | ((go_at_call 52; refine (tuneS_ok _ l _ (h1.bl (by (repeat' (first | (with_reducible exact Below.refl _ _) | (with_reducible refine bl_alloc ?_ _) | (with_reducible refine bl_drewN ?_ _) | (with_reducible refine bl_drew ?_) | (with_reducible assumption) | (with_reducible refine bl_to ?_ (by assumption)) | (with_reducible refine Below.trans ?_ (by assumption)) | (with_reducible refine Below.trans ?_ (Below.mono (by assumption) ?_)) | (with_reducible refine bl_set ?_ ?_ _) | (simp; done) | (simp; omega) | omega)))) hl).mono ?_; rintro e w1 ⟨rfl, b1⟩; obtain ⟨k1, f1, z1⟩ := bcell b1); have y1 := z1 w.heap.size (by (first | omega | (simp; done) | (simp; omega)))) | (go_at_call 56; refine (l01In_any _ _ _ _).mono ?_; rintro e w' ⟨rfl, rfl⟩))
      exact bodyPost_ret (v := .tuple #[.agg #[.int .i64 0, .slice none 0 0], .bool false]) (by simp [results, Try.results44, go_sem, k1, y1]) rfl ⟨none, 0, rfl, World.ownsRow_nil _ _ _ _, by (repeat' (first | (with_reducible exact Below.refl _ _) | (with_reducible refine bl_alloc ?_ _) | (with_reducible refine bl_drewN ?_ _) | (with_reducible refine bl_drew ?_) | (with_reducible assumption) | (with_reducible refine bl_to ?_ (by assumption)) | (with_reducible refine Below.trans ?_ (by assumption)) | (with_reducible refine Below.trans ?_ (Below.mono (by assumption) ?_)) | (with_reducible refine bl_set ?_ ?_ _) | (simp; done) | (simp; omega) | omega))⟩
  · obtain ⟨ht, h0, ha, hb⟩ := hg
    have hSB := sofB_iff ht h0 ha hb
    obtain ⟨a1, a2⟩ := inB_iff.1 ha
    obtain ⟨b1', b2'⟩ := inB_iff.1 hb
    have g1 : ((l.length : Int) == 0) = false := by rw [beq_eq_false_iff_ne]; omega
    have t0 := (okN_bd (tuneB_iff ht).2 h0).1
    have hlast : 0 ≤ lastF l ∧ lastF l ≤ 1000 := by
      have tn := (okN_bd (tuneB_iff ht).2 (show l.length - 1 < l.length by omega)).1
      have tm := okN_mono (tuneB_iff ht).2 (show 0 ≤ l.length - 1 by omega) (show l.length - 1 < l.length by omega)
      rw [lastF, if_pos ht, if_neg (by omega)]
      omega
    obtain ⟨g, o, rfl, hg, e0, e1⟩ := RdN.at_ h1 h0
    simp only [Nat.zero_mul, Nat.add_zero] at e0
    have hd : -1000 ≤ a - (gN l 0).1 ∧ a - (gN l 0).1 ≤ 1000 := by omega
    have hml : (movL l (a - (gN l 0).1)).length ≤ 1048576 := by rw [movL_len]; exact hl
    have z00 : 0 < l.length := h0
    have z01 : (0 : Int) < (l.length : Int) := by omega
    have wd : IntKind.i64.wrap (a - (gN l 0).1) = a - (gN l 0).1 := IntWalk.i64_in _ (by omega)
    have wa : IntKind.i64.wrap (a + lastF l) = a + lastF l := IntWalk.i64_in _ (by omega)
    have wb : IntKind.i64.wrap (a + lastF l + 1) = a + lastF l + 1 := IntWalk.i64_in _ (by omega)
    have wn : IntKind.i64.wrap (a + lastF l + 1 + b) = sofN l a b := IntWalk.i64_in _ (by omega)
    cases hB : tuneB (shN l (a - (gN l 0).1) l.length)
    · have hF : sofB l a b = false := by rw [hSB, hB]; rfl
      rw [sofFn, sofFl, hF]
      clear hSB h0 e1 hml hF
      go_enter Try.func44, Try.ntmps44
      go_wp2_with (first | ((go_at_call 52; refine (tuneS_ok _ l _ (h1.bl (by (repeat' (first | (with_reducible exact Below.refl _ _) | (with_reducible refine bl_alloc ?_ _) | (with_reducible refine bl_drewN ?_ _) | (with_reducible refine bl_drew ?_) | (with_reducible assumption) | (with_reducible refine bl_to ?_ (by assumption)) | (with_reducible refine Below.trans ?_ (by assumption)) | (with_reducible refine Below.trans ?_ (Below.mono (by assumption) ?_)) | (with_reducible refine bl_set ?_ ?_ _) | (simp; done) | (simp; omega) | omega)))) hl).mono ?_; rintro e w1 ⟨rfl, b1⟩; obtain ⟨k1, f1, z1⟩ := bcell b1); have q0 : w1.cell? ⟨w.heap.size, 0, none⟩ = some (.int .i64 0) := (k1 _ _ (by (first | omega | (simp; done) | (simp; omega)))).trans (by simp [go_sem]); have q1 : w1.cell? ⟨w.heap.size, 1, none⟩ = some (.slice none 0 0) := (k1 _ _ (by (first | omega | (simp; done) | (simp; omega)))).trans (by simp [go_sem]); have p0 : w1.frozen? ⟨w.heap.size, 0, none⟩ = false := (f1 _ _ (by (first | omega | (simp; done) | (simp; omega)))).trans (by simp [go_sem]); have p1 : w1.frozen? ⟨w.heap.size, 1, none⟩ = false := (f1 _ _ (by (first | omega | (simp; done) | (simp; omega)))).trans (by simp [go_sem]); have y1 : w.heap.size < w1.heap.size := z1 _ (by (first | omega | (simp; done) | (simp; omega))); have e0' : w1.cell? ⟨g, o, none⟩ = some (.int .i64 (gN l 0).1) := (k1 _ _ (by (first | omega | (simp; done) | (simp; omega)))).trans ((World.cell?_alloc_lt w _ ⟨g, o, none⟩ hg).trans e0); have bel : Below w.heap.size w w1 := (by (repeat' (first | (with_reducible exact Below.refl _ _) | (with_reducible refine bl_alloc ?_ _) | (with_reducible refine bl_drewN ?_ _) | (with_reducible refine bl_drew ?_) | (with_reducible assumption) | (with_reducible refine bl_to ?_ (by assumption)) | (with_reducible refine Below.trans ?_ (by assumption)) | (with_reducible refine Below.trans ?_ (Below.mono (by assumption) ?_)) | (with_reducible refine bl_set ?_ ?_ _) | (simp; done) | (simp; omega) | omega))); clear k1 f1 z1) | (go_at_call 56; refine (l01In_any _ _ _ _).mono ?_; rintro e w' ⟨rfl, rfl⟩) | (go_at_call 65; refine (later_any _ l (a - (gN l 0).1) _ (h1.bl bel) ht hd).mono ?_; rintro e w2 ⟨A2, c2, rfl, ow2, b2⟩; obtain ⟨k2, f2, z2⟩ := bcell b2; have q0 : w2.cell? ⟨w.heap.size, 0, none⟩ = some (.int .i64 0) := (k2 _ _ (by (first | omega | (simp; done) | (simp; omega)))).trans (by simp [go_sem, q0, y1]); have q1 : w2.cell? ⟨w.heap.size, 1, none⟩ = some (.slice none 0 0) := (k2 _ _ (by (first | omega | (simp; done) | (simp; omega)))).trans (by simp [go_sem, q1, y1]); have p0 : w2.frozen? ⟨w.heap.size, 0, none⟩ = false := (f2 _ _ (by (first | omega | (simp; done) | (simp; omega)))).trans (by simp [go_sem, p0, y1]); have p1 : w2.frozen? ⟨w.heap.size, 1, none⟩ = false := (f2 _ _ (by (first | omega | (simp; done) | (simp; omega)))).trans (by simp [go_sem, p1, y1]); have y2 : w.heap.size < w2.heap.size := z2 _ (by (first | omega | (simp; done) | (simp; omega))); have bel2 : Below w.heap.size w w2 := (by (repeat' (first | (with_reducible exact Below.refl _ _) | (with_reducible refine bl_alloc ?_ _) | (with_reducible refine bl_drewN ?_ _) | (with_reducible refine bl_drew ?_) | (with_reducible assumption) | (with_reducible refine bl_to ?_ (by assumption)) | (with_reducible refine Below.trans ?_ (by assumption)) | (with_reducible refine Below.trans ?_ (Below.mono (by assumption) ?_)) | (with_reducible refine bl_set ?_ ?_ _) | (simp; done) | (simp; omega) | omega))); have sz2 := b2.size; clear k2 f2 z2) | ((go_at_call 50; refine (lastS_any _ l _ (h1.bl bel2) hl).mono ?_; rintro e w3 ⟨rfl, b3⟩; obtain ⟨k3, f3, z3⟩ := bcell b3); have q0 : w3.cell? ⟨w.heap.size, 0, none⟩ = some (.int .i64 0) := (k3 _ _ (by (first | omega | (simp; done) | (simp; omega)))).trans (by simp [go_sem, q0, y2]); have q1 : w3.cell? ⟨w.heap.size, 1, none⟩ = some (.slice none 0 0) := (k3 _ _ (by (first | omega | (simp; done) | (simp; omega)))).trans (by simp [go_sem, q1, y2]); have p0 : w3.frozen? ⟨w.heap.size, 0, none⟩ = false := (f3 _ _ (by (first | omega | (simp; done) | (simp; omega)))).trans (by simp [go_sem, p0, y2]); have p1 : w3.frozen? ⟨w.heap.size, 1, none⟩ = false := (f3 _ _ (by (first | omega | (simp; done) | (simp; omega)))).trans (by simp [go_sem, p1, y2]); have y3 : w.heap.size < w3.heap.size := z3 _ (by (first | omega | (simp; done) | (simp; omega))); have bel3 : Below w.heap.size w w3 := (by (repeat' (first | (with_reducible exact Below.refl _ _) | (with_reducible refine bl_alloc ?_ _) | (with_reducible refine bl_drewN ?_ _) | (with_reducible refine bl_drew ?_) | (with_reducible assumption) | (with_reducible refine bl_to ?_ (by assumption)) | (with_reducible refine Below.trans ?_ (by assumption)) | (with_reducible refine Below.trans ?_ (Below.mono (by assumption) ?_)) | (with_reducible refine bl_set ?_ ?_ _) | (simp; done) | (simp; omega) | omega))); have ow3 := own_bl ow2 b3; clear k3 f3 z3))
      exact bodyPost_ret (v := .tuple #[.agg #[.int .i64 0, .slice none 0 0], .bool false]) (by simp [results, Try.results44, go_sem, q0, q1, p0, p1, y3]) rfl ⟨none, 0, rfl, World.ownsRow_nil _ _ _ _, by (repeat' (first | (with_reducible exact Below.refl _ _) | (with_reducible refine bl_alloc ?_ _) | (with_reducible refine bl_drewN ?_ _) | (with_reducible refine bl_drew ?_) | (with_reducible assumption) | (with_reducible refine bl_to ?_ (by assumption)) | (with_reducible refine Below.trans ?_ (by assumption)) | (with_reducible refine Below.trans ?_ (Below.mono (by assumption) ?_)) | (with_reducible refine bl_set ?_ ?_ _) | (simp; done) | (simp; omega) | omega))⟩
    cases hS : stripB (sofN l a b) (movL l (a - (gN l 0).1))
    · have hF : sofB l a b = false := by rw [hSB, hB, hS]; rfl
      rw [sofFn, sofFl, hF]
      clear hSB h0 e1 hF
      go_enter Try.func44, Try.ntmps44
      go_wp2_with (first | ((go_at_call 52; refine (tuneS_ok _ l _ (h1.bl (by (repeat' (first | (with_reducible exact Below.refl _ _) | (with_reducible refine bl_alloc ?_ _) | (with_reducible refine bl_drewN ?_ _) | (with_reducible refine bl_drew ?_) | (with_reducible assumption) | (with_reducible refine bl_to ?_ (by assumption)) | (with_reducible refine Below.trans ?_ (by assumption)) | (with_reducible refine Below.trans ?_ (Below.mono (by assumption) ?_)) | (with_reducible refine bl_set ?_ ?_ _) | (simp; done) | (simp; omega) | omega)))) hl).mono ?_; rintro e w1 ⟨rfl, b1⟩; obtain ⟨k1, f1, z1⟩ := bcell b1); have q0 : w1.cell? ⟨w.heap.size, 0, none⟩ = some (.int .i64 0) := (k1 _ _ (by (first | omega | (simp; done) | (simp; omega)))).trans (by simp [go_sem]); have q1 : w1.cell? ⟨w.heap.size, 1, none⟩ = some (.slice none 0 0) := (k1 _ _ (by (first | omega | (simp; done) | (simp; omega)))).trans (by simp [go_sem]); have p0 : w1.frozen? ⟨w.heap.size, 0, none⟩ = false := (f1 _ _ (by (first | omega | (simp; done) | (simp; omega)))).trans (by simp [go_sem]); have p1 : w1.frozen? ⟨w.heap.size, 1, none⟩ = false := (f1 _ _ (by (first | omega | (simp; done) | (simp; omega)))).trans (by simp [go_sem]); have y1 : w.heap.size < w1.heap.size := z1 _ (by (first | omega | (simp; done) | (simp; omega))); have e0' : w1.cell? ⟨g, o, none⟩ = some (.int .i64 (gN l 0).1) := (k1 _ _ (by (first | omega | (simp; done) | (simp; omega)))).trans ((World.cell?_alloc_lt w _ ⟨g, o, none⟩ hg).trans e0); have bel : Below w.heap.size w w1 := (by (repeat' (first | (with_reducible exact Below.refl _ _) | (with_reducible refine bl_alloc ?_ _) | (with_reducible refine bl_drewN ?_ _) | (with_reducible refine bl_drew ?_) | (with_reducible assumption) | (with_reducible refine bl_to ?_ (by assumption)) | (with_reducible refine Below.trans ?_ (by assumption)) | (with_reducible refine Below.trans ?_ (Below.mono (by assumption) ?_)) | (with_reducible refine bl_set ?_ ?_ _) | (simp; done) | (simp; omega) | omega))); clear k1 f1 z1) | (go_at_call 56; refine (l01In_any _ _ _ _).mono ?_; rintro e w' ⟨rfl, rfl⟩) | (go_at_call 65; refine (later_any _ l (a - (gN l 0).1) _ (h1.bl bel) ht hd).mono ?_; rintro e w2 ⟨A2, c2, rfl, ow2, b2⟩; obtain ⟨k2, f2, z2⟩ := bcell b2; have q0 : w2.cell? ⟨w.heap.size, 0, none⟩ = some (.int .i64 0) := (k2 _ _ (by (first | omega | (simp; done) | (simp; omega)))).trans (by simp [go_sem, q0, y1]); have q1 : w2.cell? ⟨w.heap.size, 1, none⟩ = some (.slice none 0 0) := (k2 _ _ (by (first | omega | (simp; done) | (simp; omega)))).trans (by simp [go_sem, q1, y1]); have p0 : w2.frozen? ⟨w.heap.size, 0, none⟩ = false := (f2 _ _ (by (first | omega | (simp; done) | (simp; omega)))).trans (by simp [go_sem, p0, y1]); have p1 : w2.frozen? ⟨w.heap.size, 1, none⟩ = false := (f2 _ _ (by (first | omega | (simp; done) | (simp; omega)))).trans (by simp [go_sem, p1, y1]); have y2 : w.heap.size < w2.heap.size := z2 _ (by (first | omega | (simp; done) | (simp; omega))); have bel2 : Below w.heap.size w w2 := (by (repeat' (first | (with_reducible exact Below.refl _ _) | (with_reducible refine bl_alloc ?_ _) | (with_reducible refine bl_drewN ?_ _) | (with_reducible refine bl_drew ?_) | (with_reducible assumption) | (with_reducible refine bl_to ?_ (by assumption)) | (with_reducible refine Below.trans ?_ (by assumption)) | (with_reducible refine Below.trans ?_ (Below.mono (by assumption) ?_)) | (with_reducible refine bl_set ?_ ?_ _) | (simp; done) | (simp; omega) | omega))); have sz2 := b2.size; clear k2 f2 z2) | ((go_at_call 50; refine (lastS_any _ l _ (h1.bl bel2) hl).mono ?_; rintro e w3 ⟨rfl, b3⟩; obtain ⟨k3, f3, z3⟩ := bcell b3); have q0 : w3.cell? ⟨w.heap.size, 0, none⟩ = some (.int .i64 0) := (k3 _ _ (by (first | omega | (simp; done) | (simp; omega)))).trans (by simp [go_sem, q0, y2]); have q1 : w3.cell? ⟨w.heap.size, 1, none⟩ = some (.slice none 0 0) := (k3 _ _ (by (first | omega | (simp; done) | (simp; omega)))).trans (by simp [go_sem, q1, y2]); have p0 : w3.frozen? ⟨w.heap.size, 0, none⟩ = false := (f3 _ _ (by (first | omega | (simp; done) | (simp; omega)))).trans (by simp [go_sem, p0, y2]); have p1 : w3.frozen? ⟨w.heap.size, 1, none⟩ = false := (f3 _ _ (by (first | omega | (simp; done) | (simp; omega)))).trans (by simp [go_sem, p1, y2]); have y3 : w.heap.size < w3.heap.size := z3 _ (by (first | omega | (simp; done) | (simp; omega))); have bel3 : Below w.heap.size w w3 := (by (repeat' (first | (with_reducible exact Below.refl _ _) | (with_reducible refine bl_alloc ?_ _) | (with_reducible refine bl_drewN ?_ _) | (with_reducible refine bl_drew ?_) | (with_reducible assumption) | (with_reducible refine bl_to ?_ (by assumption)) | (with_reducible refine Below.trans ?_ (by assumption)) | (with_reducible refine Below.trans ?_ (Below.mono (by assumption) ?_)) | (with_reducible refine bl_set ?_ ?_ _) | (simp; done) | (simp; omega) | omega))); have ow3 := own_bl ow2 b3; clear k3 f3 z3) | ((go_at_call 21; refine (stripS_ok (sofN l a b) _ (movL l (a - (gN l 0).1)) _ ((Rd.of_own ow3).bl (by (repeat' (first | (with_reducible exact Below.refl _ _) | (with_reducible refine bl_alloc ?_ _) | (with_reducible refine bl_drewN ?_ _) | (with_reducible refine bl_drew ?_) | (with_reducible assumption) | (with_reducible refine bl_to ?_ (by assumption)) | (with_reducible refine Below.trans ?_ (by assumption)) | (with_reducible refine Below.trans ?_ (Below.mono (by assumption) ?_)) | (with_reducible refine bl_set ?_ ?_ _) | (simp; done) | (simp; omega) | omega)))) hml).mono ?_; rintro e w4 ⟨rfl, b4⟩; obtain ⟨k4, f4, z4⟩ := bcell b4); have t0 : w4.cell? ⟨w3.heap.size, 0, none⟩ = some (.int .i64 (sofN l a b)) := (k4 _ _ (by (first | omega | (simp; done) | (simp; omega)))).trans (by simp [go_sem]); have t1 : w4.cell? ⟨w3.heap.size, 1, none⟩ = some (.slice A2 (movL l (a - (gN l 0).1)).length c2) := (k4 _ _ (by (first | omega | (simp; done) | (simp; omega)))).trans (by simp [go_sem]); have q0 : w4.cell? ⟨w.heap.size, 0, none⟩ = some (.int .i64 0) := (k4 _ _ (by (first | omega | (simp; done) | (simp; omega)))).trans (by simp [go_sem, q0, y3]); have q1 : w4.cell? ⟨w.heap.size, 1, none⟩ = some (.slice none 0 0) := (k4 _ _ (by (first | omega | (simp; done) | (simp; omega)))).trans (by simp [go_sem, q1, y3]); have p0 : w4.frozen? ⟨w.heap.size, 0, none⟩ = false := (f4 _ _ (by (first | omega | (simp; done) | (simp; omega)))).trans (by simp [go_sem, p0, y3]); have p1 : w4.frozen? ⟨w.heap.size, 1, none⟩ = false := (f4 _ _ (by (first | omega | (simp; done) | (simp; omega)))).trans (by simp [go_sem, p1, y3]); have y4 : w.heap.size < w4.heap.size := z4 _ (by (first | omega | (simp; done) | (simp; omega))); have bel4 : Below w.heap.size w w4 := (by (repeat' (first | (with_reducible exact Below.refl _ _) | (with_reducible refine bl_alloc ?_ _) | (with_reducible refine bl_drewN ?_ _) | (with_reducible refine bl_drew ?_) | (with_reducible assumption) | (with_reducible refine bl_to ?_ (by assumption)) | (with_reducible refine Below.trans ?_ (by assumption)) | (with_reducible refine Below.trans ?_ (Below.mono (by assumption) ?_)) | (with_reducible refine bl_set ?_ ?_ _) | (simp; done) | (simp; omega) | omega))); have ow4 := own_bl (ow3.alloc _) b4; clear k4 f4 z4))
      exact bodyPost_ret (v := .tuple #[.agg #[.int .i64 0, .slice none 0 0], .bool false]) (by simp [results, Try.results44, go_sem, q0, q1]) rfl ⟨none, 0, rfl, World.ownsRow_nil _ _ _ _, by (repeat' (first | (with_reducible exact Below.refl _ _) | (with_reducible refine bl_alloc ?_ _) | (with_reducible refine bl_drewN ?_ _) | (with_reducible refine bl_drew ?_) | (with_reducible assumption) | (with_reducible refine bl_to ?_ (by assumption)) | (with_reducible refine Below.trans ?_ (by assumption)) | (with_reducible refine Below.trans ?_ (Below.mono (by assumption) ?_)) | (with_reducible refine bl_set ?_ ?_ _) | (simp; done) | (simp; omega) | omega))⟩
    · have hF : sofB l a b = true := by rw [hSB, hB, hS]; rfl
      have hM : sofL l a = movL l (a - (gN l 0).1) := by simp [movL, hB, sofL]
      have hFn : sofFn l a b = sofN l a b := by rw [sofFn, if_pos hF]
      have hFl : sofFl l a b = movL l (a - (gN l 0).1) := by rw [sofFl, if_pos hF, hM]
      rw [hFn, hFl, hF]
      clear hSB h0 e1 hF hM hFn hFl
      go_enter Try.func44, Try.ntmps44
      go_wp2_with (first | ((go_at_call 52; refine (tuneS_ok _ l _ (h1.bl (by (repeat' (first | (with_reducible exact Below.refl _ _) | (with_reducible refine bl_alloc ?_ _) | (with_reducible refine bl_drewN ?_ _) | (with_reducible refine bl_drew ?_) | (with_reducible assumption) | (with_reducible refine bl_to ?_ (by assumption)) | (with_reducible refine Below.trans ?_ (by assumption)) | (with_reducible refine Below.trans ?_ (Below.mono (by assumption) ?_)) | (with_reducible refine bl_set ?_ ?_ _) | (simp; done) | (simp; omega) | omega)))) hl).mono ?_; rintro e w1 ⟨rfl, b1⟩; obtain ⟨k1, f1, z1⟩ := bcell b1); have q0 : w1.cell? ⟨w.heap.size, 0, none⟩ = some (.int .i64 0) := (k1 _ _ (by (first | omega | (simp; done) | (simp; omega)))).trans (by simp [go_sem]); have q1 : w1.cell? ⟨w.heap.size, 1, none⟩ = some (.slice none 0 0) := (k1 _ _ (by (first | omega | (simp; done) | (simp; omega)))).trans (by simp [go_sem]); have p0 : w1.frozen? ⟨w.heap.size, 0, none⟩ = false := (f1 _ _ (by (first | omega | (simp; done) | (simp; omega)))).trans (by simp [go_sem]); have p1 : w1.frozen? ⟨w.heap.size, 1, none⟩ = false := (f1 _ _ (by (first | omega | (simp; done) | (simp; omega)))).trans (by simp [go_sem]); have y1 : w.heap.size < w1.heap.size := z1 _ (by (first | omega | (simp; done) | (simp; omega))); have e0' : w1.cell? ⟨g, o, none⟩ = some (.int .i64 (gN l 0).1) := (k1 _ _ (by (first | omega | (simp; done) | (simp; omega)))).trans ((World.cell?_alloc_lt w _ ⟨g, o, none⟩ hg).trans e0); have bel : Below w.heap.size w w1 := (by (repeat' (first | (with_reducible exact Below.refl _ _) | (with_reducible refine bl_alloc ?_ _) | (with_reducible refine bl_drewN ?_ _) | (with_reducible refine bl_drew ?_) | (with_reducible assumption) | (with_reducible refine bl_to ?_ (by assumption)) | (with_reducible refine Below.trans ?_ (by assumption)) | (with_reducible refine Below.trans ?_ (Below.mono (by assumption) ?_)) | (with_reducible refine bl_set ?_ ?_ _) | (simp; done) | (simp; omega) | omega))); clear k1 f1 z1) | (go_at_call 56; refine (l01In_any _ _ _ _).mono ?_; rintro e w' ⟨rfl, rfl⟩) | (go_at_call 65; refine (later_any _ l (a - (gN l 0).1) _ (h1.bl bel) ht hd).mono ?_; rintro e w2 ⟨A2, c2, rfl, ow2, b2⟩; obtain ⟨k2, f2, z2⟩ := bcell b2; have q0 : w2.cell? ⟨w.heap.size, 0, none⟩ = some (.int .i64 0) := (k2 _ _ (by (first | omega | (simp; done) | (simp; omega)))).trans (by simp [go_sem, q0, y1]); have q1 : w2.cell? ⟨w.heap.size, 1, none⟩ = some (.slice none 0 0) := (k2 _ _ (by (first | omega | (simp; done) | (simp; omega)))).trans (by simp [go_sem, q1, y1]); have p0 : w2.frozen? ⟨w.heap.size, 0, none⟩ = false := (f2 _ _ (by (first | omega | (simp; done) | (simp; omega)))).trans (by simp [go_sem, p0, y1]); have p1 : w2.frozen? ⟨w.heap.size, 1, none⟩ = false := (f2 _ _ (by (first | omega | (simp; done) | (simp; omega)))).trans (by simp [go_sem, p1, y1]); have y2 : w.heap.size < w2.heap.size := z2 _ (by (first | omega | (simp; done) | (simp; omega))); have bel2 : Below w.heap.size w w2 := (by (repeat' (first | (with_reducible exact Below.refl _ _) | (with_reducible refine bl_alloc ?_ _) | (with_reducible refine bl_drewN ?_ _) | (with_reducible refine bl_drew ?_) | (with_reducible assumption) | (with_reducible refine bl_to ?_ (by assumption)) | (with_reducible refine Below.trans ?_ (by assumption)) | (with_reducible refine Below.trans ?_ (Below.mono (by assumption) ?_)) | (with_reducible refine bl_set ?_ ?_ _) | (simp; done) | (simp; omega) | omega))); have sz2 := b2.size; clear k2 f2 z2) | ((go_at_call 50; refine (lastS_any _ l _ (h1.bl bel2) hl).mono ?_; rintro e w3 ⟨rfl, b3⟩; obtain ⟨k3, f3, z3⟩ := bcell b3); have q0 : w3.cell? ⟨w.heap.size, 0, none⟩ = some (.int .i64 0) := (k3 _ _ (by (first | omega | (simp; done) | (simp; omega)))).trans (by simp [go_sem, q0, y2]); have q1 : w3.cell? ⟨w.heap.size, 1, none⟩ = some (.slice none 0 0) := (k3 _ _ (by (first | omega | (simp; done) | (simp; omega)))).trans (by simp [go_sem, q1, y2]); have p0 : w3.frozen? ⟨w.heap.size, 0, none⟩ = false := (f3 _ _ (by (first | omega | (simp; done) | (simp; omega)))).trans (by simp [go_sem, p0, y2]); have p1 : w3.frozen? ⟨w.heap.size, 1, none⟩ = false := (f3 _ _ (by (first | omega | (simp; done) | (simp; omega)))).trans (by simp [go_sem, p1, y2]); have y3 : w.heap.size < w3.heap.size := z3 _ (by (first | omega | (simp; done) | (simp; omega))); have bel3 : Below w.heap.size w w3 := (by (repeat' (first | (with_reducible exact Below.refl _ _) | (with_reducible refine bl_alloc ?_ _) | (with_reducible refine bl_drewN ?_ _) | (with_reducible refine bl_drew ?_) | (with_reducible assumption) | (with_reducible refine bl_to ?_ (by assumption)) | (with_reducible refine Below.trans ?_ (by assumption)) | (with_reducible refine Below.trans ?_ (Below.mono (by assumption) ?_)) | (with_reducible refine bl_set ?_ ?_ _) | (simp; done) | (simp; omega) | omega))); have ow3 := own_bl ow2 b3; clear k3 f3 z3) | ((go_at_call 21; refine (stripS_ok (sofN l a b) _ (movL l (a - (gN l 0).1)) _ ((Rd.of_own ow3).bl (by (repeat' (first | (with_reducible exact Below.refl _ _) | (with_reducible refine bl_alloc ?_ _) | (with_reducible refine bl_drewN ?_ _) | (with_reducible refine bl_drew ?_) | (with_reducible assumption) | (with_reducible refine bl_to ?_ (by assumption)) | (with_reducible refine Below.trans ?_ (by assumption)) | (with_reducible refine Below.trans ?_ (Below.mono (by assumption) ?_)) | (with_reducible refine bl_set ?_ ?_ _) | (simp; done) | (simp; omega) | omega)))) hml).mono ?_; rintro e w4 ⟨rfl, b4⟩; obtain ⟨k4, f4, z4⟩ := bcell b4); have t0 : w4.cell? ⟨w3.heap.size, 0, none⟩ = some (.int .i64 (sofN l a b)) := (k4 _ _ (by (first | omega | (simp; done) | (simp; omega)))).trans (by simp [go_sem]); have t1 : w4.cell? ⟨w3.heap.size, 1, none⟩ = some (.slice A2 (movL l (a - (gN l 0).1)).length c2) := (k4 _ _ (by (first | omega | (simp; done) | (simp; omega)))).trans (by simp [go_sem]); have q0 : w4.cell? ⟨w.heap.size, 0, none⟩ = some (.int .i64 0) := (k4 _ _ (by (first | omega | (simp; done) | (simp; omega)))).trans (by simp [go_sem, q0, y3]); have q1 : w4.cell? ⟨w.heap.size, 1, none⟩ = some (.slice none 0 0) := (k4 _ _ (by (first | omega | (simp; done) | (simp; omega)))).trans (by simp [go_sem, q1, y3]); have p0 : w4.frozen? ⟨w.heap.size, 0, none⟩ = false := (f4 _ _ (by (first | omega | (simp; done) | (simp; omega)))).trans (by simp [go_sem, p0, y3]); have p1 : w4.frozen? ⟨w.heap.size, 1, none⟩ = false := (f4 _ _ (by (first | omega | (simp; done) | (simp; omega)))).trans (by simp [go_sem, p1, y3]); have y4 : w.heap.size < w4.heap.size := z4 _ (by (first | omega | (simp; done) | (simp; omega))); have bel4 : Below w.heap.size w w4 := (by (repeat' (first | (with_reducible exact Below.refl _ _) | (with_reducible refine bl_alloc ?_ _) | (with_reducible refine bl_drewN ?_ _) | (with_reducible refine bl_drew ?_) | (with_reducible assumption) | (with_reducible refine bl_to ?_ (by assumption)) | (with_reducible refine Below.trans ?_ (by assumption)) | (with_reducible refine Below.trans ?_ (Below.mono (by assumption) ?_)) | (with_reducible refine bl_set ?_ ?_ _) | (simp; done) | (simp; omega) | omega))); have ow4 := own_bl (ow3.alloc _) b4; clear k4 f4 z4))
      exact bodyPost_ret (v := .tuple #[.agg #[.int .i64 (sofN l a b), .slice A2 (movL l (a - (gN l 0).1)).length c2], .bool true]) (by simp [results, Try.results44, go_sem, q0, q1, p0, p1, t0, t1, y4]) rfl ⟨A2, c2, rfl, own_lo (ownsRow_setCell_below (ownsRow_setCell_below ow4 (by simp; omega) _) (by simp; omega) _) (by omega), by (repeat' (first | (with_reducible exact Below.refl _ _) | (with_reducible refine bl_alloc ?_ _) | (with_reducible refine bl_drewN ?_ _) | (with_reducible refine bl_drew ?_) | (with_reducible assumption) | (with_reducible refine bl_to ?_ (by assumption)) | (with_reducible refine Below.trans ?_ (by assumption)) | (with_reducible refine Below.trans ?_ (Below.mono (by assumption) ?_)) | (with_reducible refine bl_set ?_ ?_ _) | (simp; done) | (simp; omega) | omega))⟩
end Go.Proofs.Ytbcmidencifcoaa
