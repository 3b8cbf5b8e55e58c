/- Discs: the helpers of the laws, DiscOk, TurnDisc, FlipDisc of the program and of the reference; lengths up to 2^20. -/
import Derived.Test.YtoijjjaodfincaaData
import Derived.Handy
import Derived.Deep.RegionLaw
namespace Go.Proofs.Ytoijjjaodfincaa
open Go.RowKit

/-- a new disc -/
def NewDisc (r : Int) (l : List Int) (w : World) (en : Ending) (w' : World) : Prop :=
  ∃ A c, en = .returned (.agg #[.int .i64 r, .slice A l.length c]) ∧ w'.ownsRow w.heap.size 3 1 (.slice A l.length c) l.length (cI l) ∧ Below w.heap.size w w'

theorem own_to {w W W' : World} {e : TypeId} {s n : Nat} {v : Value} {xs : List Value} (h : W.ownsRow w.heap.size e s v n xs) (b : Below W.heap.size W W') : W'.ownsRow w.heap.size e s v n xs := own_bl h b

set_option maxHeartbeats 400000 in
theorem toDisc_any (r : Int) (v : Value) (l : List Int) (w : World) (h1 : RdI w v l) (hl : l.length ≤ 1048576) :
    Calls Try.prog 18 #[.agg #[.int .i64 r, v]] w (NewDisc r l w) := by
  go_enter Try.func18, Try.ntmps18
  go_wp2_with (go_at_call 41; refine (toI_any _ l _ (h1.bl (by (repeat' (first | (with_reducible exact Below.refl _ _) | (with_reducible refine bl_alloc ?_ _) | (with_reducible refine bl_drewN ?_ _) | (with_reducible refine bl_drew ?_) | (with_reducible assumption) | (with_reducible refine bl_to ?_ (by assumption)) | (with_reducible refine Below.trans ?_ (by assumption)) | (with_reducible refine Below.trans ?_ (Below.mono (by assumption) ?_)) | (with_reducible refine bl_set ?_ ?_ _) | (simp; done) | (simp; omega) | omega)))) hl).mono ?_; rintro e w1 ⟨A1, c1, rfl, ow1, b1⟩; obtain ⟨k1, f1, z1⟩ := bcell b1)
  exact bodyPost_ret (v := .agg #[.int .i64 r, .slice A1 l.length c1]) (by simp [results, Try.results18, go_sem, k1]) rfl ⟨_, _, rfl, by (apply own_lo; repeat' (first | (with_reducible assumption) | (with_reducible apply ownsRow_setCell_below) | (with_reducible apply World.ownsRow.alloc) | (with_reducible apply own_drewN) | (with_reducible apply World.ownsRow.drew) | (with_reducible apply own_bl2) | (simp; done) | (simp; omega) | omega)), by (repeat' (first | (with_reducible exact Below.refl _ _) | (with_reducible refine bl_alloc ?_ _) | (with_reducible refine bl_drewN ?_ _) | (with_reducible refine bl_drew ?_) | (with_reducible assumption) | (with_reducible refine bl_to ?_ (by assumption)) | (with_reducible refine Below.trans ?_ (by assumption)) | (with_reducible refine Below.trans ?_ (Below.mono (by assumption) ?_)) | (with_reducible refine bl_set ?_ ?_ _) | (simp; done) | (simp; omega) | omega))⟩

theorem eqDisc_any (r : Int) (v1 v2 : Value) (l : List Int) (w : World) (h1 : RdI w v1 l) (h2 : RdI w v2 l) (hl : l.length ≤ 1048576) :
    Calls Try.prog 20 #[.agg #[.int .i64 r, v1], .agg #[.int .i64 r, v2]] w fun e w' => e = .returned (.bool true) ∧ Below w.heap.size w w' := by
  go_enter Try.func20, Try.ntmps20
  go_wp2_with (go_at_call 43; refine (eqI_any _ _ l _ (h1.bl (by (repeat' (first | (with_reducible exact Below.refl _ _) | (with_reducible refine bl_alloc ?_ _) | (with_reducible refine bl_drewN ?_ _) | (with_reducible refine bl_drew ?_) | (with_reducible assumption) | (with_reducible refine bl_to ?_ (by assumption)) | (with_reducible refine Below.trans ?_ (by assumption)) | (with_reducible refine Below.trans ?_ (Below.mono (by assumption) ?_)) | (with_reducible refine bl_set ?_ ?_ _) | (simp; done) | (simp; omega) | omega)))) (h2.bl (by (repeat' (first | (with_reducible exact Below.refl _ _) | (with_reducible refine bl_alloc ?_ _) | (with_reducible refine bl_drewN ?_ _) | (with_reducible refine bl_drew ?_) | (with_reducible assumption) | (with_reducible refine bl_to ?_ (by assumption)) | (with_reducible refine Below.trans ?_ (by assumption)) | (with_reducible refine Below.trans ?_ (Below.mono (by assumption) ?_)) | (with_reducible refine bl_set ?_ ?_ _) | (simp; done) | (simp; omega) | omega)))) hl).mono ?_; rintro e w1 ⟨rfl, b1⟩; obtain ⟨k1, f1, z1⟩ := bcell b1)
  go_ret
  exact ⟨rfl, by (repeat' (first | (with_reducible exact Below.refl _ _) | (with_reducible refine bl_alloc ?_ _) | (with_reducible refine bl_drewN ?_ _) | (with_reducible refine bl_drew ?_) | (with_reducible assumption) | (with_reducible refine bl_to ?_ (by assumption)) | (with_reducible refine Below.trans ?_ (by assumption)) | (with_reducible refine Below.trans ?_ (Below.mono (by assumption) ?_)) | (with_reducible refine bl_set ?_ ?_ _) | (simp; done) | (simp; omega) | omega))⟩

theorem szDisc_any (r : Int) (v : Value) (l : List Int) (k : Int) (w : World) (h1 : RdI w v l) (hk : 0 ≤ k) (hk2 : k ≤ 1048576) :
    Calls Try.prog 16 #[.agg #[.int .i64 r, v], .int .i64 k] w fun e w' => e = .returned (.int .i64 (if k - l.length < 0 then -1 else k - l.length)) ∧ Below w.heap.size w w' := by
  by_cases h : k - l.length < 0
  · rw [if_pos h]
    go_enter Try.func16, Try.ntmps16
    go_wp2_with (go_at_call 66; refine (szI_any _ l _ _ (h1.bl (by (repeat' (first | (with_reducible exact Below.refl _ _) | (with_reducible refine bl_alloc ?_ _) | (with_reducible refine bl_drewN ?_ _) | (with_reducible refine bl_drew ?_) | (with_reducible assumption) | (with_reducible refine bl_to ?_ (by assumption)) | (with_reducible refine Below.trans ?_ (by assumption)) | (with_reducible refine Below.trans ?_ (Below.mono (by assumption) ?_)) | (with_reducible refine bl_set ?_ ?_ _) | (simp; done) | (simp; omega) | omega)))) hk hk2).mono ?_; rintro e w' ⟨rfl, rfl⟩)
    go_ret
    exact ⟨rfl, by (repeat' (first | (with_reducible exact Below.refl _ _) | (with_reducible refine bl_alloc ?_ _) | (with_reducible refine bl_drewN ?_ _) | (with_reducible refine bl_drew ?_) | (with_reducible assumption) | (with_reducible refine bl_to ?_ (by assumption)) | (with_reducible refine Below.trans ?_ (by assumption)) | (with_reducible refine Below.trans ?_ (Below.mono (by assumption) ?_)) | (with_reducible refine bl_set ?_ ?_ _) | (simp; done) | (simp; omega) | omega))⟩
  · rw [if_neg h]
    go_enter Try.func16, Try.ntmps16
    go_wp2_with (go_at_call 66; refine (szI_any _ l _ _ (h1.bl (by (repeat' (first | (with_reducible exact Below.refl _ _) | (with_reducible refine bl_alloc ?_ _) | (with_reducible refine bl_drewN ?_ _) | (with_reducible refine bl_drew ?_) | (with_reducible assumption) | (with_reducible refine bl_to ?_ (by assumption)) | (with_reducible refine Below.trans ?_ (by assumption)) | (with_reducible refine Below.trans ?_ (Below.mono (by assumption) ?_)) | (with_reducible refine bl_set ?_ ?_ _) | (simp; done) | (simp; omega) | omega)))) hk hk2).mono ?_; rintro e w' ⟨rfl, rfl⟩)
    go_ret
    exact ⟨rfl, by (repeat' (first | (with_reducible exact Below.refl _ _) | (with_reducible refine bl_alloc ?_ _) | (with_reducible refine bl_drewN ?_ _) | (with_reducible refine bl_drew ?_) | (with_reducible assumption) | (with_reducible refine bl_to ?_ (by assumption)) | (with_reducible refine Below.trans ?_ (by assumption)) | (with_reducible refine Below.trans ?_ (Below.mono (by assumption) ?_)) | (with_reducible refine bl_set ?_ ?_ _) | (simp; done) | (simp; omega) | omega))⟩

theorem markDisc_any (lo : Nat) (r : Int) (v : Value) (l : List Int) (k0 : Int) (w : World) (h1 : w.ownsRow lo 3 1 v l.length (cI l)) (hl : l.length ≤ 1048576) (hk0 : 0 ≤ k0) (hk1 : k0 ≤ 1000000000) :
    Calls Try.prog 23 #[.agg #[.int .i64 r, v], .int .i64 k0] w fun e w' => e = .returned (.int .i64 (k0 + l.length)) ∧ w'.ownsRow lo 3 1 v l.length (cI (upI k0 l.length)) ∧ w.grownBy w' v.ownBlock := by
  go_enter Try.func23, Try.ntmps23
  go_wp2_with (go_at_call 44; refine (markI_any lo _ l _ _ (h1.alloc _) hl hk0 hk1).mono ?_; rintro e w1 ⟨rfl, ow1, g1⟩)
  go_ret
  exact ⟨rfl, ow1, ⟨g1.os, g1.tape, g1.output, Nat.le_trans (by simp) g1.size, fun i hi hn => (g1.block i (by simp; omega) hn).trans (Below.heap_alloc _ _ _ hi)⟩⟩

theorem heldDisc_any (r : Int) (v : Value) (n : Nat) (k0 : Int) (w : World) (h1 : Rd w 1 v n (cI (upI k0 n))) (hl : n ≤ 1048576) (hk0 : 0 ≤ k0) (hk1 : k0 ≤ 1000000000) :
    Calls Try.prog 24 #[.agg #[.int .i64 r, v], .int .i64 k0] w fun e w' => e = .returned (.int .i64 (k0 + n)) ∧ Below w.heap.size w w' := by
  go_enter Try.func24, Try.ntmps24
  go_wp2_with (go_at_call 45; refine (heldI_any _ n _ _ (h1.bl (by (repeat' (first | (with_reducible exact Below.refl _ _) | (with_reducible refine bl_alloc ?_ _) | (with_reducible refine bl_drewN ?_ _) | (with_reducible refine bl_drew ?_) | (with_reducible assumption) | (with_reducible refine bl_to ?_ (by assumption)) | (with_reducible refine Below.trans ?_ (by assumption)) | (with_reducible refine Below.trans ?_ (Below.mono (by assumption) ?_)) | (with_reducible refine bl_set ?_ ?_ _) | (simp; done) | (simp; omega) | omega)))) hl hk0 hk1).mono ?_; rintro e w' ⟨rfl, rfl⟩)
  go_ret
  exact ⟨rfl, by (repeat' (first | (with_reducible exact Below.refl _ _) | (with_reducible refine bl_alloc ?_ _) | (with_reducible refine bl_drewN ?_ _) | (with_reducible refine bl_drew ?_) | (with_reducible assumption) | (with_reducible refine bl_to ?_ (by assumption)) | (with_reducible refine Below.trans ?_ (by assumption)) | (with_reducible refine Below.trans ?_ (Below.mono (by assumption) ?_)) | (with_reducible refine bl_set ?_ ?_ _) | (simp; done) | (simp; omega) | omega))⟩

theorem copyDisc_any (r : Int) (v : Value) (l : List Int) (w : World) (h1 : RdI w v l) (hl : l.length ≤ 1048576) :
    Calls Try.prog 70 #[.agg #[.int .i64 r, v]] w (NewDisc r l w) := by
  go_enter Try.func70, Try.ntmps70
  go_wp2_with ((go_at_call 80; refine (copyInts_any _ l _ (h1.bl (by (repeat' (first | (with_reducible exact Below.refl _ _) | (with_reducible refine bl_alloc ?_ _) | (with_reducible refine bl_drewN ?_ _) | (with_reducible refine bl_drew ?_) | (with_reducible assumption) | (with_reducible refine bl_to ?_ (by assumption)) | (with_reducible refine Below.trans ?_ (by assumption)) | (with_reducible refine Below.trans ?_ (Below.mono (by assumption) ?_)) | (with_reducible refine bl_set ?_ ?_ _) | (simp; done) | (simp; omega) | omega)))) hl).mono ?_; rintro e w1 ⟨A1, c1, rfl, ow1, b1⟩; obtain ⟨k1, f1, z1⟩ := bcell b1); have q1 : w1.cell? ⟨w.heap.size, 1, none⟩ = some v := (k1 _ _ (by simp; omega)).trans (by simp [go_sem]))
  exact bodyPost_ret (v := .agg #[.int .i64 r, .slice A1 l.length c1]) (by simp [results, Try.results70, go_sem, k1]) rfl ⟨_, _, rfl, by (apply own_lo; repeat' (first | (with_reducible assumption) | (with_reducible apply ownsRow_setCell_below) | (with_reducible apply World.ownsRow.alloc) | (with_reducible apply own_drewN) | (with_reducible apply World.ownsRow.drew) | (with_reducible apply own_bl2) | (simp; done) | (simp; omega) | omega)), by (repeat' (first | (with_reducible exact Below.refl _ _) | (with_reducible refine bl_alloc ?_ _) | (with_reducible refine bl_drewN ?_ _) | (with_reducible refine bl_drew ?_) | (with_reducible assumption) | (with_reducible refine bl_to ?_ (by assumption)) | (with_reducible refine Below.trans ?_ (by assumption)) | (with_reducible refine Below.trans ?_ (Below.mono (by assumption) ?_)) | (with_reducible refine bl_set ?_ ?_ _) | (simp; done) | (simp; omega) | omega))⟩

theorem l26Copy_any (r : Int) (v : Value) (l : List Int) (w : World) (h1 : RdI w v l) (hl : l.length ≤ 1048576) :
    Calls Try.prog 69 #[.agg #[.int .i64 r, v]] w (NewDisc r l w) := by
  have hO : (((w.alloc (.cells #[.int .i64 r, v] 27)).alloc (.cells #[.int .i64 0, .slice none 0 0] 27)).alloc (.cells #[] 3)).drew.ownsRow (w.heap.size + 2) 3 1 (.slice (some ⟨w.heap.size + 1 + 1, 0, none⟩) 0 0) 0 [] := own_new0d (by omega) (by simp)
  have hR : RdI (((w.alloc (.cells #[.int .i64 r, v] 27)).alloc (.cells #[.int .i64 0, .slice none 0 0] 27)).alloc (.cells #[] 3)).drew v l := h1.bl (by (repeat' (first | (with_reducible exact Below.refl _ _) | (with_reducible refine bl_alloc ?_ _) | (with_reducible refine bl_drewN ?_ _) | (with_reducible refine bl_drew ?_) | (with_reducible assumption) | (with_reducible refine bl_to ?_ (by assumption)) | (with_reducible refine Below.trans ?_ (by assumption)) | (with_reducible refine Below.trans ?_ (Below.mono (by assumption) ?_)) | (with_reducible refine bl_set ?_ ?_ _) | (simp; done) | (simp; omega) | omega)))
  have hS : w.heap.size + 2 ≤ (((w.alloc (.cells #[.int .i64 r, v] 27)).alloc (.cells #[.int .i64 0, .slice none 0 0] 27)).alloc (.cells #[] 3)).drew.heap.size := by (first | omega | (simp; done) | (simp; omega))
  have hL : ([] : List Int).length + l.length ≤ 4194304 := by simp; omega
  go_enter Try.func69, Try.ntmps69
  go_wp2
  go_region_law (refine step_is_append (.tmp 5) (.tmp 7) _ rfl ?_; refine step_app_ints _ rfl _ _ rfl (w.heap.size + 2) _ [] rfl hO _ l rfl hR hL hS l rfl ?_; intro A1 c1 w1 ow1 b1; obtain ⟨k1, f1, z1⟩ := bcell b1; have q1 : w1.cell? ⟨w.heap.size + 1, 0, none⟩ = some (.int .i64 0) := (k1 _ _ (by omega)).trans (by simp [go_sem]))
  all_goals
    go_wp2
    exact bodyPost_ret (v := .agg #[.int .i64 r, .slice A1 l.length c1]) (by simp [results, Try.results69, go_sem, k1]) rfl ⟨_, _, rfl, by (apply own_lo; repeat' (first | (with_reducible assumption) | (with_reducible apply ownsRow_setCell_below) | (with_reducible apply World.ownsRow.alloc) | (with_reducible apply own_drewN) | (with_reducible apply World.ownsRow.drew) | (with_reducible apply own_bl2) | (simp; done) | (simp; omega) | omega)), by (repeat' (first | (with_reducible exact Below.refl _ _) | (with_reducible refine bl_alloc ?_ _) | (with_reducible refine bl_drewN ?_ _) | (with_reducible refine bl_drew ?_) | (with_reducible assumption) | (with_reducible refine bl_to ?_ (by assumption)) | (with_reducible refine Below.trans ?_ (by assumption)) | (with_reducible refine Below.trans ?_ (Below.mono (by assumption) ?_)) | (with_reducible refine bl_set ?_ ?_ _) | (simp; done) | (simp; omega) | omega))⟩

/-- a disc's slots lie in their range -/
def slotB (r x : Int) : Bool := inB x 0 (2 ^ r.toNat - 1)
def discB (r : Int) (l : List Int) : Bool := inB r 1 16 && inB l.length 4 96 && l.all (slotB r)

theorem pow_bd {r : Int} (h1 : 1 ≤ r) (h2 : r ≤ 16) : 1 ≤ (2 : Int) ^ r.toNat ∧ (2 : Int) ^ r.toNat ≤ 65536 := by
  obtain ⟨n, rfl⟩ := Int.eq_ofNat_of_zero_le (show 0 ≤ r by omega)
  have h : n ≤ 16 := by omega
  rw [Int.toNat_natCast]
  have a : (1 : Int) ≤ 2 ^ n := by have := Nat.one_le_two_pow (n := n); exact_mod_cast this
  have b : (2 : Int) ^ n ≤ 2 ^ 16 := by have := Nat.pow_le_pow_right (n := 2) (by omega) h; exact_mod_cast this
  exact ⟨a, by simpa using b⟩

set_option maxHeartbeats 400000 in
theorem discI_ok (r : Int) (v : Value) (l : List Int) (w : World) (h1 : RdI w v l) (hl : l.length ≤ 1048576) :
    Calls Try.prog 19 #[.agg #[.int .i64 r, v]] w fun e w' => e = .returned (.bool (discB r l)) ∧ Below w.heap.size w w' := by
  obtain ⟨A1, c1, rfl, hc, hm⟩ := h1.form
  cases hr : inB r 1 16
  · go_enter Try.func19, Try.ntmps19
    go_wp2_with (go_at_call 68; refine (within_any _ _ _ _).mono ?_; rintro e w' ⟨rfl, rfl⟩)
    go_ret
    exact ⟨ret_bool (by simp [discB, hr]), by (repeat' (first | (with_reducible exact Below.refl _ _) | (with_reducible refine bl_alloc ?_ _) | (with_reducible refine bl_drewN ?_ _) | (with_reducible refine bl_drew ?_) | (with_reducible assumption) | (with_reducible refine bl_to ?_ (by assumption)) | (with_reducible refine Below.trans ?_ (by assumption)) | (with_reducible refine Below.trans ?_ (Below.mono (by assumption) ?_)) | (with_reducible refine bl_set ?_ ?_ _) | (simp; done) | (simp; omega) | omega))⟩
  cases hn : inB l.length 4 96
  · go_enter Try.func19, Try.ntmps19
    go_wp2_with (go_at_call 68; refine (within_any _ _ _ _).mono ?_; rintro e w' ⟨rfl, rfl⟩)
    go_ret
    exact ⟨ret_bool (by simp [discB, hn]), by (repeat' (first | (with_reducible exact Below.refl _ _) | (with_reducible refine bl_alloc ?_ _) | (with_reducible refine bl_drewN ?_ _) | (with_reducible refine bl_drew ?_) | (with_reducible assumption) | (with_reducible refine bl_to ?_ (by assumption)) | (with_reducible refine Below.trans ?_ (by assumption)) | (with_reducible refine Below.trans ?_ (Below.mono (by assumption) ?_)) | (with_reducible refine bl_set ?_ ?_ _) | (simp; done) | (simp; omega) | omega))⟩
  obtain ⟨r1, r2⟩ := inB_iff.1 hr
  obtain ⟨n1, n2⟩ := inB_iff.1 hn
  obtain ⟨p1, p2⟩ := pow_bd r1 r2
  have h1' := h1.bl ((Below.refl _ _).alloc (Nat.le_refl _) (Obj.cells #[Value.int IntKind.i64 r, .slice A1 l.length c1] 27))
  go_enter Try.func19, Try.ntmps19
  go_wp2_with (go_at_call 68; refine (within_any _ _ _ _).mono ?_; rintro e w' ⟨rfl, rfl⟩)
  go_loop [19] (fun i => ∃ k : Nat, k ≤ l.length ∧ i = .int .i64 k ∧ (l.take k).all (slotB r) = true) (fun i => l.length - (intOf i).toNat)
  case atStart => exact ⟨0, Nat.zero_le _, rfl, by simp⟩
  case round =>
    obtain ⟨k, hk, rfl, ha⟩ := hrel
    have HA := Lib.hid ha
    clear ha
    by_cases hlt : k < l.length
    · obtain ⟨g, o, rfl, hb, q1⟩ := h1'.look (by omega)
      have e1 := q1 k _ (cI_get hlt)
      clear q1 h1 h1'
      cases hp : inB (gi l k) 0 (2 ^ r.toNat - 1)
      · go_wp2_with (go_at_call 68; refine (within_any _ _ _ _).mono ?_; rintro e w' ⟨rfl, rfl⟩)
        go_ret
        exact ⟨ret_bool (by simp [discB, all_no (P := slotB r) hlt hp]), by (repeat' (first | (with_reducible exact Below.refl _ _) | (with_reducible refine bl_alloc ?_ _) | (with_reducible refine bl_drewN ?_ _) | (with_reducible refine bl_drew ?_) | (with_reducible assumption) | (with_reducible refine bl_to ?_ (by assumption)) | (with_reducible refine Below.trans ?_ (by assumption)) | (with_reducible refine Below.trans ?_ (Below.mono (by assumption) ?_)) | (with_reducible refine bl_set ?_ ?_ _) | (simp; done) | (simp; omega) | omega))⟩
      · go_wp2_with (go_at_call 68; refine (within_any _ _ _ _).mono ?_; rintro e w' ⟨rfl, rfl⟩)
        go_round
        case rel => exact ⟨k + 1, by omega, by go_num, by rw [all_take_succ hlt, HA.out, Bool.true_and]; exact hp⟩
        case measure => simp [intOf]; omega
    · go_wp2
      go_ret
      exact ⟨ret_bool (by have := HA.out; rw [List.take_of_length_le (by omega)] at this; simp [discB, hr, hn, this]), by (repeat' (first | (with_reducible exact Below.refl _ _) | (with_reducible refine bl_alloc ?_ _) | (with_reducible refine bl_drewN ?_ _) | (with_reducible refine bl_drew ?_) | (with_reducible assumption) | (with_reducible refine bl_to ?_ (by assumption)) | (with_reducible refine Below.trans ?_ (by assumption)) | (with_reducible refine Below.trans ?_ (Below.mono (by assumption) ?_)) | (with_reducible refine bl_set ?_ ?_ _) | (simp; done) | (simp; omega) | omega))⟩

set_option maxHeartbeats 400000 in
theorem discS_ok (r : Int) (v : Value) (l : List Int) (w : World) (h1 : RdI w v l) (hl : l.length ≤ 1048576) :
    Calls Try.prog 17 #[.agg #[.int .i64 r, v]] w fun e w' => e = .returned (.bool (discB r l)) ∧ Below w.heap.size w w' := by
  obtain ⟨A1, c1, rfl, hc, hm⟩ := h1.form
  cases hr : inB r 1 16
  · go_enter Try.func17, Try.ntmps17
    go_wp2_with (go_at_call 67; refine (l01In_any _ _ _ _).mono ?_; rintro e w' ⟨rfl, rfl⟩)
    go_ret
    exact ⟨ret_bool (by simp [discB, hr]), by (repeat' (first | (with_reducible exact Below.refl _ _) | (with_reducible refine bl_alloc ?_ _) | (with_reducible refine bl_drewN ?_ _) | (with_reducible refine bl_drew ?_) | (with_reducible assumption) | (with_reducible refine bl_to ?_ (by assumption)) | (with_reducible refine Below.trans ?_ (by assumption)) | (with_reducible refine Below.trans ?_ (Below.mono (by assumption) ?_)) | (with_reducible refine bl_set ?_ ?_ _) | (simp; done) | (simp; omega) | omega))⟩
  cases hn : inB l.length 4 96
  · go_enter Try.func17, Try.ntmps17
    go_wp2_with (go_at_call 67; refine (l01In_any _ _ _ _).mono ?_; rintro e w' ⟨rfl, rfl⟩)
    go_ret
    exact ⟨ret_bool (by simp [discB, hn]), by (repeat' (first | (with_reducible exact Below.refl _ _) | (with_reducible refine bl_alloc ?_ _) | (with_reducible refine bl_drewN ?_ _) | (with_reducible refine bl_drew ?_) | (with_reducible assumption) | (with_reducible refine bl_to ?_ (by assumption)) | (with_reducible refine Below.trans ?_ (by assumption)) | (with_reducible refine Below.trans ?_ (Below.mono (by assumption) ?_)) | (with_reducible refine bl_set ?_ ?_ _) | (simp; done) | (simp; omega) | omega))⟩
  obtain ⟨r1, r2⟩ := inB_iff.1 hr
  obtain ⟨n1, n2⟩ := inB_iff.1 hn
  obtain ⟨p1, p2⟩ := pow_bd r1 r2
  go_enter Try.func17, Try.ntmps17
  go_wp2_with (go_at_call 67; refine (l01In_any _ _ _ _).mono ?_; rintro e w' ⟨rfl, rfl⟩)
  go_loopw [3] (fun i wr => ∃ k : Nat, k ≤ l.length ∧ i = .int .i64 k ∧ (l.take k).all (slotB r) = true ∧ ∃ q, wr = (w.alloc (Obj.cells #[Value.int IntKind.i64 r, .slice A1 l.length c1] 27)).drewN q) (fun i _ => l.length - (intOf i).toNat)
  case atStart => exact ⟨0, Nat.zero_le _, rfl, by simp, 0, rfl⟩
  case round =>
    obtain ⟨k, hk, rfl, ha, q, rfl⟩ := hrel
    have h1' := h1.bl ((Below.refl _ _).alloc (Nat.le_refl _) (Obj.cells #[Value.int IntKind.i64 r, .slice A1 l.length c1] 27))
    have HA := Lib.hid ha
    clear ha
    by_cases hlt : k < l.length
    · obtain ⟨g, o, rfl, hb, q1⟩ := h1'.look (by omega)
      have e1 := q1 k _ (cI_get hlt)
      have hlt' : (k : Int) < (l.length : Int) := by omega
      clear q1 h1 h1'
      cases hp : inB (gi l k) 0 (2 ^ r.toNat - 1)
      all_goals
        go_wp2
        go_quiet ((go_at_call 67; exact quiet_add_left (l01In_any _ _ _ _)))
        go_wp2
      · go_ret
        exact ⟨ret_bool (by simp [discB, all_no (P := slotB r) hlt hp]), by (repeat' (first | (with_reducible exact Below.refl _ _) | (with_reducible refine bl_alloc ?_ _) | (with_reducible refine bl_drewN ?_ _) | (with_reducible refine bl_drew ?_) | (with_reducible assumption) | (with_reducible refine bl_to ?_ (by assumption)) | (with_reducible refine Below.trans ?_ (by assumption)) | (with_reducible refine Below.trans ?_ (Below.mono (by assumption) ?_)) | (with_reducible refine bl_set ?_ ?_ _) | (simp; done) | (simp; omega) | omega))⟩
      · go_roundw
        case rel => exact ⟨k + 1, by omega, by go_num, by rw [all_take_succ hlt, HA.out, Bool.true_and]; exact hp, _, rfl⟩
        case measure => simp [intOf]; omega
    · go_wp2
      go_ret
      exact ⟨ret_bool (by have := HA.out; rw [List.take_of_length_le (by omega)] at this; simp [discB, hr, hn, this]), by (repeat' (first | (with_reducible exact Below.refl _ _) | (with_reducible refine bl_alloc ?_ _) | (with_reducible refine bl_drewN ?_ _) | (with_reducible refine bl_drew ?_) | (with_reducible assumption) | (with_reducible refine bl_to ?_ (by assumption)) | (with_reducible refine Below.trans ?_ (by assumption)) | (with_reducible refine Below.trans ?_ (Below.mono (by assumption) ?_)) | (with_reducible refine bl_set ?_ ?_ _) | (simp; done) | (simp; omega) | omega))⟩
end Go.Proofs.Ytoijjjaodfincaa
