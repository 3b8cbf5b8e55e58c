/- CountSlots, IsSafe of the program and of the reference; lengths up to 2^20. -/
import Derived.Test.YtoijjjaodfincaaTurn
import Derived.Test.YtoijjjaodfincaaBitsAll
namespace Go.Proofs.Ytoijjjaodfincaa
open Go.RowKit

def pop (x : Int) : Int := popN x 16
def popS (l : List Int) : Nat → Int
  | 0 => 0
  | k + 1 => popS l k + pop (gi l k)
theorem pop_bd (x : Int) : 0 ≤ pop x ∧ pop x ≤ 16 := popN_bd x 16
theorem popS_bd (l : List Int) (k : Nat) : 0 ≤ popS l k ∧ popS l k ≤ 16 * k := by
  induction k with
  | zero => simp [popS]
  | succ k ih =>
    have := pop_bd (gi l k)
    simp only [popS]
    omega
def countF (r : Int) (l : List Int) : Int := if discB r l then popS l l.length else -1
def safeB (r : Int) (l : List Int) (m : Int) : Bool := discB r l && l.all (fun x => decide (pop x ≤ m))
theorem slot_bd {r : Int} {l : List Int} {k : Nat} (h : discB r l = true) (hk : k < l.length) : 0 ≤ gi l k ∧ gi l k ≤ 65535 := by
  obtain ⟨⟨r1, r2⟩, _, ha⟩ := discB_iff h
  obtain ⟨p1, p2⟩ := pow_bd r1 r2
  have := inB_iff.1 (all_at (P := slotB r) hk ha)
  omega

set_option maxHeartbeats 1600000 in
theorem countI_any (r : Int) (v : Value) (l : List Int) (w : World) (h1 : RdI w v l) (hl : l.length ≤ 1048576) :
    Calls Try.prog 30 #[.agg #[.int .i64 r, v]] w fun e w' => e = .returned (.int .i64 (countF r l)) ∧ Below w.heap.size w w' := by
  obtain ⟨A0, c0, rfl, hc0, hm0⟩ := h1.form
  cases ho : discB r l
  · go_enter Try.func30, Try.ntmps30
    go_wp2_with (go_at_call 19; refine (discI_ok _ _ l _ (h1.bl (by (repeat' (first | (with_reducible exact Below.refl _ _) | (with_reducible refine bl_alloc ?_ _) | (with_reducible refine bl_drewN ?_ _) | (with_reducible refine bl_drew ?_) | (with_reducible assumption) | (with_reducible refine bl_to ?_ (by assumption)) | (with_reducible refine Below.trans ?_ (by assumption)) | (with_reducible refine Below.trans ?_ (Below.mono (by assumption) ?_)) | (with_reducible refine bl_set ?_ ?_ _) | (simp; done) | (simp; omega) | omega)))) hl).mono ?_; rintro e w1 ⟨rfl, b1⟩; obtain ⟨k1, f1, z1⟩ := bcell b1)
    go_ret
    exact ⟨ret_int (by simp [countF, ho]), by (repeat' (first | (with_reducible exact Below.refl _ _) | (with_reducible refine bl_alloc ?_ _) | (with_reducible refine bl_drewN ?_ _) | (with_reducible refine bl_drew ?_) | (with_reducible assumption) | (with_reducible refine bl_to ?_ (by assumption)) | (with_reducible refine Below.trans ?_ (by assumption)) | (with_reducible refine Below.trans ?_ (Below.mono (by assumption) ?_)) | (with_reducible refine bl_set ?_ ?_ _) | (simp; done) | (simp; omega) | omega))⟩
  · obtain ⟨_, ⟨n1, n2⟩, _⟩ := discB_iff ho
    go_enter Try.func30, Try.ntmps30
    go_wp2_with (go_at_call 19; refine (discI_ok _ _ l _ (h1.bl (by (repeat' (first | (with_reducible exact Below.refl _ _) | (with_reducible refine bl_alloc ?_ _) | (with_reducible refine bl_drewN ?_ _) | (with_reducible refine bl_drew ?_) | (with_reducible assumption) | (with_reducible refine bl_to ?_ (by assumption)) | (with_reducible refine Below.trans ?_ (by assumption)) | (with_reducible refine Below.trans ?_ (Below.mono (by assumption) ?_)) | (with_reducible refine bl_set ?_ ?_ _) | (simp; done) | (simp; omega) | omega)))) hl).mono ?_; rintro e w1 ⟨rfl, b1⟩; obtain ⟨k1, f1, z1⟩ := bcell b1)
    go_loop [3, 12] (fun n i => ∃ k : Nat, k ≤ l.length ∧ i = .int .i64 k ∧ n = .int .i64 (popS l k)) (fun _ i => l.length - (intOf i).toNat)
    case atStart => exact ⟨0, Nat.zero_le _, rfl, rfl⟩
    case round =>
      obtain ⟨k, hk, rfl, rfl⟩ := hrel
      obtain ⟨p1, p2⟩ := popS_bd l k
      have hs := Lib.hid (show popS l (k + 1) = popS l k + pop (gi l k) from rfl)
      by_cases hlt : k < l.length
      · obtain ⟨g, o, rfl, hb, rd⟩ := h1.look (by omega)
        have bel : Below w.heap.size w w1 := by (repeat' (first | (with_reducible exact Below.refl _ _) | (with_reducible refine bl_alloc ?_ _) | (with_reducible refine bl_drewN ?_ _) | (with_reducible refine bl_drew ?_) | (with_reducible assumption) | (with_reducible refine bl_to ?_ (by assumption)) | (with_reducible refine Below.trans ?_ (by assumption)) | (with_reducible refine Below.trans ?_ (Below.mono (by assumption) ?_)) | (with_reducible refine bl_set ?_ ?_ _) | (simp; done) | (simp; omega) | omega))
        have e1 := (bel.cell (p := ⟨g, o + k, none⟩) hb).trans (rd k _ (cI_get hlt))
        obtain ⟨s1, s2⟩ := slot_bd ho hlt
        obtain ⟨q1, q2⟩ := pop_bd (gi l k)
        have hlt' : (k : Int) < (l.length : Int) := by omega
        clear rd h1 k1 f1 z1
        unfold pop at q1 q2
        go_wp2_with (go_at_call 72; refine (ones_any _ _ s1 s2).mono ?_; rintro e w' ⟨rfl, rfl⟩)
        go_round
        case rel => exact ⟨k + 1, by omega, by go_num, by rw [hs.out]; rfl⟩
        case measure => simp [intOf]; omega
      · obtain rfl : k = l.length := by omega
        go_wp2
        go_ret
        exact ⟨ret_int (by simp [countF, ho]), by (repeat' (first | (with_reducible exact Below.refl _ _) | (with_reducible refine bl_alloc ?_ _) | (with_reducible refine bl_drewN ?_ _) | (with_reducible refine bl_drew ?_) | (with_reducible assumption) | (with_reducible refine bl_to ?_ (by assumption)) | (with_reducible refine Below.trans ?_ (by assumption)) | (with_reducible refine Below.trans ?_ (Below.mono (by assumption) ?_)) | (with_reducible refine bl_set ?_ ?_ _) | (simp; done) | (simp; omega) | omega))⟩

set_option maxHeartbeats 1600000 in
theorem countS_any (r : Int) (v : Value) (l : List Int) (w : World) (h1 : RdI w v l) (hl : l.length ≤ 1048576) :
    Calls Try.prog 29 #[.agg #[.int .i64 r, v]] w fun e w' => e = .returned (.int .i64 (countF r l)) ∧ Below w.heap.size w w' := by
  obtain ⟨A0, c0, rfl, hc0, hm0⟩ := h1.form
  cases ho : discB r l
  · go_enter Try.func29, Try.ntmps29
    go_wp2_with (go_at_call 17; refine (discS_ok _ _ l _ (h1.bl (by (repeat' (first | (with_reducible exact Below.refl _ _) | (with_reducible refine bl_alloc ?_ _) | (with_reducible refine bl_drewN ?_ _) | (with_reducible refine bl_drew ?_) | (with_reducible assumption) | (with_reducible refine bl_to ?_ (by assumption)) | (with_reducible refine Below.trans ?_ (by assumption)) | (with_reducible refine Below.trans ?_ (Below.mono (by assumption) ?_)) | (with_reducible refine bl_set ?_ ?_ _) | (simp; done) | (simp; omega) | omega)))) hl).mono ?_; rintro e w1 ⟨rfl, b1⟩; obtain ⟨k1, f1, z1⟩ := bcell b1)
    go_ret
    exact ⟨ret_int (by simp [countF, ho]), by (repeat' (first | (with_reducible exact Below.refl _ _) | (with_reducible refine bl_alloc ?_ _) | (with_reducible refine bl_drewN ?_ _) | (with_reducible refine bl_drew ?_) | (with_reducible assumption) | (with_reducible refine bl_to ?_ (by assumption)) | (with_reducible refine Below.trans ?_ (by assumption)) | (with_reducible refine Below.trans ?_ (Below.mono (by assumption) ?_)) | (with_reducible refine bl_set ?_ ?_ _) | (simp; done) | (simp; omega) | omega))⟩
  · obtain ⟨_, ⟨n1, n2⟩, _⟩ := discB_iff ho
    go_enter Try.func29, Try.ntmps29
    go_wp2_with (go_at_call 17; refine (discS_ok _ _ l _ (h1.bl (by (repeat' (first | (with_reducible exact Below.refl _ _) | (with_reducible refine bl_alloc ?_ _) | (with_reducible refine bl_drewN ?_ _) | (with_reducible refine bl_drew ?_) | (with_reducible assumption) | (with_reducible refine bl_to ?_ (by assumption)) | (with_reducible refine Below.trans ?_ (by assumption)) | (with_reducible refine Below.trans ?_ (Below.mono (by assumption) ?_)) | (with_reducible refine bl_set ?_ ?_ _) | (simp; done) | (simp; omega) | omega)))) hl).mono ?_; rintro e w1 ⟨rfl, b1⟩; obtain ⟨k1, f1, z1⟩ := bcell b1)
    have x1 : w1.cell? ⟨w.heap.size, 1, none⟩ = some (.slice A0 l.length c0) := (k1 _ _ (by (first | omega | (simp; done) | (simp; omega)))).trans (by simp [go_sem])
    go_loop [3, 4] (fun n i => ∃ k : Nat, k ≤ l.length ∧ i = .int .i64 k ∧ n = .int .i64 (popS l k)) (fun _ i => l.length - (intOf i).toNat)
    case atStart => exact ⟨0, Nat.zero_le _, rfl, rfl⟩
    case round =>
      obtain ⟨k, hk, rfl, rfl⟩ := hrel
      obtain ⟨p1, p2⟩ := popS_bd l k
      have hs := Lib.hid (show popS l (k + 1) = popS l k + pop (gi l k) from rfl)
      have bel : Below w.heap.size w w1 := by (repeat' (first | (with_reducible exact Below.refl _ _) | (with_reducible refine bl_alloc ?_ _) | (with_reducible refine bl_drewN ?_ _) | (with_reducible refine bl_drew ?_) | (with_reducible assumption) | (with_reducible refine bl_to ?_ (by assumption)) | (with_reducible refine Below.trans ?_ (by assumption)) | (with_reducible refine Below.trans ?_ (Below.mono (by assumption) ?_)) | (with_reducible refine bl_set ?_ ?_ _) | (simp; done) | (simp; omega) | omega))
      clear k1 f1 z1
      by_cases hlt : k < l.length
      · obtain ⟨g, o, rfl, hb, rd⟩ := h1.look (by omega)
        have e1 := (bel.cell (p := ⟨g, o + k, none⟩) hb).trans (rd k _ (cI_get hlt))
        obtain ⟨q1, q2⟩ := pop_bd (gi l k)
        have hlt' : (k : Int) < (l.length : Int) := by omega
        clear rd h1
        unfold pop at q1 q2
        go_wp2_with (go_at_call 71; refine (l26_any _ _).mono ?_; rintro e w' ⟨rfl, rfl⟩)
        go_round
        case rel => exact ⟨k + 1, by omega, by go_num, by rw [hs.out]; rfl⟩
        case measure => simp [intOf]; omega
      · obtain rfl : k = l.length := by omega
        go_wp2
        go_ret
        exact ⟨ret_int (by simp [countF, ho]), bel⟩

set_option maxHeartbeats 1600000 in
theorem safeI_any (r : Int) (v : Value) (l : List Int) (m : Int) (w : World) (h1 : RdI w v l) (hl : l.length ≤ 1048576) :
    Calls Try.prog 28 #[.agg #[.int .i64 r, v], .int .i64 m] w fun e w' => e = .returned (.bool (safeB r l m)) ∧ Below w.heap.size w w' := by
  obtain ⟨A0, c0, rfl, hc0, hm0⟩ := h1.form
  cases ho : discB r l
  · go_enter Try.func28, Try.ntmps28
    go_wp2_with (go_at_call 19; refine (discI_ok _ _ l _ (h1.bl (by (repeat' (first | (with_reducible exact Below.refl _ _) | (with_reducible refine bl_alloc ?_ _) | (with_reducible refine bl_drewN ?_ _) | (with_reducible refine bl_drew ?_) | (with_reducible assumption) | (with_reducible refine bl_to ?_ (by assumption)) | (with_reducible refine Below.trans ?_ (by assumption)) | (with_reducible refine Below.trans ?_ (Below.mono (by assumption) ?_)) | (with_reducible refine bl_set ?_ ?_ _) | (simp; done) | (simp; omega) | omega)))) hl).mono ?_; rintro e w1 ⟨rfl, b1⟩; obtain ⟨k1, f1, z1⟩ := bcell b1)
    go_ret
    exact ⟨ret_bool (by simp [safeB, ho]), by (repeat' (first | (with_reducible exact Below.refl _ _) | (with_reducible refine bl_alloc ?_ _) | (with_reducible refine bl_drewN ?_ _) | (with_reducible refine bl_drew ?_) | (with_reducible assumption) | (with_reducible refine bl_to ?_ (by assumption)) | (with_reducible refine Below.trans ?_ (by assumption)) | (with_reducible refine Below.trans ?_ (Below.mono (by assumption) ?_)) | (with_reducible refine bl_set ?_ ?_ _) | (simp; done) | (simp; omega) | omega))⟩
  · obtain ⟨_, ⟨n1, n2⟩, _⟩ := discB_iff ho
    go_enter Try.func28, Try.ntmps28
    go_wp2_with (go_at_call 19; refine (discI_ok _ _ l _ (h1.bl (by (repeat' (first | (with_reducible exact Below.refl _ _) | (with_reducible refine bl_alloc ?_ _) | (with_reducible refine bl_drewN ?_ _) | (with_reducible refine bl_drew ?_) | (with_reducible assumption) | (with_reducible refine bl_to ?_ (by assumption)) | (with_reducible refine Below.trans ?_ (by assumption)) | (with_reducible refine Below.trans ?_ (Below.mono (by assumption) ?_)) | (with_reducible refine bl_set ?_ ?_ _) | (simp; done) | (simp; omega) | omega)))) hl).mono ?_; rintro e w1 ⟨rfl, b1⟩; obtain ⟨k1, f1, z1⟩ := bcell b1)
    have bel : Below w.heap.size w w1 := by (repeat' (first | (with_reducible exact Below.refl _ _) | (with_reducible refine bl_alloc ?_ _) | (with_reducible refine bl_drewN ?_ _) | (with_reducible refine bl_drew ?_) | (with_reducible assumption) | (with_reducible refine bl_to ?_ (by assumption)) | (with_reducible refine Below.trans ?_ (by assumption)) | (with_reducible refine Below.trans ?_ (Below.mono (by assumption) ?_)) | (with_reducible refine bl_set ?_ ?_ _) | (simp; done) | (simp; omega) | omega))
    clear k1 f1 z1
    go_loop [13] (fun i => ∃ k : Nat, k ≤ l.length ∧ i = .int .i64 k ∧ (l.take k).all (fun x => decide (pop x ≤ m)) = true) (fun i => l.length - (intOf i).toNat)
    case atStart => exact ⟨0, Nat.zero_le _, rfl, by simp⟩
    case round =>
      obtain ⟨k, hk, rfl, ha⟩ := hrel
      have HA := Lib.hid ha
      clear ha
      by_cases hlt : k < l.length
      · obtain ⟨g, o, rfl, hb, rd⟩ := h1.look (by omega)
        have e1 := (bel.cell (p := ⟨g, o + k, none⟩) hb).trans (rd k _ (cI_get hlt))
        obtain ⟨s1, s2⟩ := slot_bd ho hlt
        have hlt' : (k : Int) < (l.length : Int) := by omega
        clear rd h1
        by_cases hp : pop (gi l k) ≤ m
        · have hp' : ¬ m < popN (gi l k) 16 := by unfold pop at hp; omega
          have hq := Lib.hid (all_take_succ (P := fun x => decide (pop x ≤ m)) hlt)
          have hp2 := Lib.hid (show decide (pop (gi l k) ≤ m) = true by simpa using hp)
          clear hp
          go_wp2_with (go_at_call 72; refine (ones_any _ _ s1 s2).mono ?_; rintro e w' ⟨rfl, rfl⟩)
          go_round
          case rel => exact ⟨k + 1, by omega, by go_num, by rw [hq.out, HA.out, hp2.out]; rfl⟩
          case measure => simp [intOf]; omega
        · have hp' : m < popN (gi l k) 16 := by unfold pop at hp; omega
          have hq := Lib.hid (all_no (P := fun x => decide (pop x ≤ m)) hlt (by simpa using hp))
          clear hp
          go_wp2_with (go_at_call 72; refine (ones_any _ _ s1 s2).mono ?_; rintro e w' ⟨rfl, rfl⟩)
          go_ret
          exact ⟨ret_bool (by simp only [safeB, hq.out, Bool.and_false]), by (repeat' (first | (with_reducible exact Below.refl _ _) | (with_reducible refine bl_alloc ?_ _) | (with_reducible refine bl_drewN ?_ _) | (with_reducible refine bl_drew ?_) | (with_reducible assumption) | (with_reducible refine bl_to ?_ (by assumption)) | (with_reducible refine Below.trans ?_ (by assumption)) | (with_reducible refine Below.trans ?_ (Below.mono (by assumption) ?_)) | (with_reducible refine bl_set ?_ ?_ _) | (simp; done) | (simp; omega) | omega))⟩
      · go_wp2
        go_ret
        exact ⟨ret_bool (by have := HA.out; rw [List.take_of_length_le (by omega)] at this; simp only [safeB, ho, this, Bool.and_true]), by (repeat' (first | (with_reducible exact Below.refl _ _) | (with_reducible refine bl_alloc ?_ _) | (with_reducible refine bl_drewN ?_ _) | (with_reducible refine bl_drew ?_) | (with_reducible assumption) | (with_reducible refine bl_to ?_ (by assumption)) | (with_reducible refine Below.trans ?_ (by assumption)) | (with_reducible refine Below.trans ?_ (Below.mono (by assumption) ?_)) | (with_reducible refine bl_set ?_ ?_ _) | (simp; done) | (simp; omega) | omega))⟩

set_option maxHeartbeats 1600000 in
theorem safeS_any (r : Int) (v : Value) (l : List Int) (m : Int) (w : World) (h1 : RdI w v l) (hl : l.length ≤ 1048576) :
    Calls Try.prog 27 #[.agg #[.int .i64 r, v], .int .i64 m] w fun e w' => e = .returned (.bool (safeB r l m)) ∧ Below w.heap.size w w' := by
  obtain ⟨A0, c0, rfl, hc0, hm0⟩ := h1.form
  have bel : Below w.heap.size w (w.alloc (Obj.cells #[.int .i64 r, .slice A0 l.length c0] 27)) := by (repeat' (first | (with_reducible exact Below.refl _ _) | (with_reducible refine bl_alloc ?_ _) | (with_reducible refine bl_drewN ?_ _) | (with_reducible refine bl_drew ?_) | (with_reducible assumption) | (with_reducible refine bl_to ?_ (by assumption)) | (with_reducible refine Below.trans ?_ (by assumption)) | (with_reducible refine Below.trans ?_ (Below.mono (by assumption) ?_)) | (with_reducible refine bl_set ?_ ?_ _) | (simp; done) | (simp; omega) | omega))
  go_enter Try.func27, Try.ntmps27
  go_wp2
  go_loop [5] (fun i => ∃ k : Nat, k ≤ l.length ∧ i = .int .i64 k ∧ (l.take k).all (fun x => decide (pop x ≤ m)) = true) (fun i => l.length - (intOf i).toNat)
  case atStart => exact ⟨0, Nat.zero_le _, rfl, by simp⟩
  case round =>
    obtain ⟨k, hk, rfl, ha⟩ := hrel
    have HA := Lib.hid ha
    clear ha
    by_cases hlt : k < l.length
    · obtain ⟨g, o, rfl, hb, rd⟩ := h1.look (by omega)
      have e1 := rd k _ (cI_get hlt)
      have hlt' : (k : Int) < (l.length : Int) := by omega
      clear rd h1
      by_cases hp : pop (gi l k) ≤ m
      · have hp' : ¬ m < popN (gi l k) 16 := by unfold pop at hp; omega
        have hq := Lib.hid (all_take_succ (P := fun x => decide (pop x ≤ m)) hlt)
        have hp2 := Lib.hid (show decide (pop (gi l k) ≤ m) = true by simpa using hp)
        clear hp
        go_wp2_with (go_at_call 71; refine (l26_any _ _).mono ?_; rintro e w' ⟨rfl, rfl⟩)
        go_round
        case rel => exact ⟨k + 1, by omega, by go_num, by rw [hq.out, HA.out, hp2.out]; rfl⟩
        case measure => simp [intOf]; omega
      · have hp' : m < popN (gi l k) 16 := by unfold pop at hp; omega
        have hq := Lib.hid (all_no (P := fun x => decide (pop x ≤ m)) hlt (by simpa using hp))
        clear hp
        go_wp2_with (go_at_call 71; refine (l26_any _ _).mono ?_; rintro e w' ⟨rfl, rfl⟩)
        go_ret
        exact ⟨ret_bool (by simp only [safeB, hq.out, Bool.and_false]), by (repeat' (first | (with_reducible exact Below.refl _ _) | (with_reducible refine bl_alloc ?_ _) | (with_reducible refine bl_drewN ?_ _) | (with_reducible refine bl_drew ?_) | (with_reducible assumption) | (with_reducible refine bl_to ?_ (by assumption)) | (with_reducible refine Below.trans ?_ (by assumption)) | (with_reducible refine Below.trans ?_ (Below.mono (by assumption) ?_)) | (with_reducible refine bl_set ?_ ?_ _) | (simp; done) | (simp; omega) | omega))⟩
    · have hall := Lib.hid (show l.all (fun x => decide (pop x ≤ m)) = true by have := HA.out; rwa [List.take_of_length_le (by omega)] at this)
      go_wp2_with (go_at_call 17; refine (discS_ok _ _ l _ (h1.bl (by (repeat' (first | (with_reducible exact Below.refl _ _) | (with_reducible refine bl_alloc ?_ _) | (with_reducible refine bl_drewN ?_ _) | (with_reducible refine bl_drew ?_) | (with_reducible assumption) | (with_reducible refine bl_to ?_ (by assumption)) | (with_reducible refine Below.trans ?_ (by assumption)) | (with_reducible refine Below.trans ?_ (Below.mono (by assumption) ?_)) | (with_reducible refine bl_set ?_ ?_ _) | (simp; done) | (simp; omega) | omega)))) hl).mono ?_; rintro e w1 ⟨rfl, b1⟩; obtain ⟨k1, f1, z1⟩ := bcell b1)
      go_ret
      exact ⟨ret_bool (by simp only [safeB, hall.out, Bool.and_true]), by (repeat' (first | (with_reducible exact Below.refl _ _) | (with_reducible refine bl_alloc ?_ _) | (with_reducible refine bl_drewN ?_ _) | (with_reducible refine bl_drew ?_) | (with_reducible assumption) | (with_reducible refine bl_to ?_ (by assumption)) | (with_reducible refine Below.trans ?_ (by assumption)) | (with_reducible refine Below.trans ?_ (Below.mono (by assumption) ?_)) | (with_reducible refine bl_set ?_ ?_ _) | (simp; done) | (simp; omega) | omega))⟩
end Go.Proofs.Ytoijjjaodfincaa
