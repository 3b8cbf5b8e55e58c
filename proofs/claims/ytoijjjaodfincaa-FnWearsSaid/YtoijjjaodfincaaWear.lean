/- Wear: WearOk, Silent and the copies of the program and of the reference; lengths up to 2^20. -/
import Derived.Test.YtoijjjaodfincaaStWear
import Derived.Deep.RegionLaw
namespace Go.Proofs.Ytoijjjaodfincaa
open Go.RowKit

def hgtB (x : Int) : Bool := inB x 0 1000
def wearB (n : Int) (l : List Int) : Bool := decide (l.length ≤ 100) && inB n 1 20 && l.all hgtB
theorem wearB_iff {n : Int} {l : List Int} (h : wearB n l = true) : l.length ≤ 100 ∧ (1 ≤ n ∧ n ≤ 20) ∧ l.all hgtB = true := by
  simp only [wearB, Bool.and_eq_true, decide_eq_true_eq] at h
  exact ⟨h.1.1, inB_iff.1 h.1.2, h.2⟩

set_option maxHeartbeats 800000 in
theorem wearI_ok (n : Int) (v : Value) (l : List Int) (w : World) (h1 : RdI w v l) (hl : l.length ≤ 1048576) :
    Calls Try.prog 54 #[.agg #[v, .int .i64 n]] w fun e w' => e = .returned (.bool (wearB n l)) ∧ Below w.heap.size w w' := by
  obtain ⟨A1, c1, rfl, hc, hm⟩ := h1.form
  by_cases h8 : l.length ≤ 100
  rotate_left
  · have hb : decide (100 < (l.length : Int)) = true := by simp; omega
    go_enter Try.func54, Try.ntmps54
    go_wp2
    go_ret
    exact ⟨ret_bool (by simp [wearB, h8]), by (repeat' (first | (with_reducible exact Below.refl _ _) | (with_reducible refine bl_alloc ?_ _) | (with_reducible refine bl_drewN ?_ _) | (with_reducible refine bl_drew ?_) | (with_reducible assumption) | (with_reducible refine bl_to ?_ (by assumption)) | (with_reducible refine Below.trans ?_ (by assumption)) | (with_reducible refine Below.trans ?_ (Below.mono (by assumption) ?_)) | (with_reducible refine bl_set ?_ ?_ _) | (simp; done) | (simp; omega) | omega))⟩
  have hb : decide (100 < (l.length : Int)) = false := by simp; omega
  cases hn : inB n 1 20
  · go_enter Try.func54, Try.ntmps54
    go_wp2_with (go_at_call 68; refine (within_any _ _ _ _).mono ?_; rintro e w' ⟨rfl, rfl⟩)
    go_ret
    exact ⟨ret_bool (by simp [wearB, hn]), by (repeat' (first | (with_reducible exact Below.refl _ _) | (with_reducible refine bl_alloc ?_ _) | (with_reducible refine bl_drewN ?_ _) | (with_reducible refine bl_drew ?_) | (with_reducible assumption) | (with_reducible refine bl_to ?_ (by assumption)) | (with_reducible refine Below.trans ?_ (by assumption)) | (with_reducible refine Below.trans ?_ (Below.mono (by assumption) ?_)) | (with_reducible refine bl_set ?_ ?_ _) | (simp; done) | (simp; omega) | omega))⟩
  have h1' := h1.bl ((Below.refl _ _).alloc (Nat.le_refl _) (Obj.cells #[.slice A1 l.length c1, Value.int IntKind.i64 n] 41))
  go_enter Try.func54, Try.ntmps54
  go_wp2_with (go_at_call 68; refine (within_any _ _ _ _).mono ?_; rintro e w' ⟨rfl, rfl⟩)
  go_loop [18] (fun i => ∃ k : Nat, k ≤ l.length ∧ i = .int .i64 k ∧ (l.take k).all hgtB = true) (fun i => l.length - (intOf i).toNat)
  case atStart => exact ⟨0, Nat.zero_le _, rfl, by simp⟩
  case round =>
    obtain ⟨k, hk, rfl, ha⟩ := hrel
    have HA := Lib.hid ha
    clear ha
    by_cases hlt : k < l.length
    · obtain ⟨g, o, rfl, hb, q1⟩ := h1'.look (by omega)
      have e1 := q1 k _ (cI_get hlt)
      clear q1 h1 h1'
      cases hp : inB (gi l k) 0 1000
      · go_wp2_with (go_at_call 68; refine (within_any _ _ _ _).mono ?_; rintro e w' ⟨rfl, rfl⟩)
        go_ret
        exact ⟨ret_bool (by simp [wearB, all_no (P := hgtB) hlt hp]), by (repeat' (first | (with_reducible exact Below.refl _ _) | (with_reducible refine bl_alloc ?_ _) | (with_reducible refine bl_drewN ?_ _) | (with_reducible refine bl_drew ?_) | (with_reducible assumption) | (with_reducible refine bl_to ?_ (by assumption)) | (with_reducible refine Below.trans ?_ (by assumption)) | (with_reducible refine Below.trans ?_ (Below.mono (by assumption) ?_)) | (with_reducible refine bl_set ?_ ?_ _) | (simp; done) | (simp; omega) | omega))⟩
      · go_wp2_with (go_at_call 68; refine (within_any _ _ _ _).mono ?_; rintro e w' ⟨rfl, rfl⟩)
        go_round
        case rel => exact ⟨k + 1, by omega, by go_num, by rw [all_take_succ hlt, HA.out, Bool.true_and]; exact hp⟩
        case measure => simp [intOf]; omega
    · go_wp2
      go_ret
      exact ⟨ret_bool (by have := HA.out; rw [List.take_of_length_le (by omega)] at this; simp [wearB, h8, hn, this]), by (repeat' (first | (with_reducible exact Below.refl _ _) | (with_reducible refine bl_alloc ?_ _) | (with_reducible refine bl_drewN ?_ _) | (with_reducible refine bl_drew ?_) | (with_reducible assumption) | (with_reducible refine bl_to ?_ (by assumption)) | (with_reducible refine Below.trans ?_ (by assumption)) | (with_reducible refine Below.trans ?_ (Below.mono (by assumption) ?_)) | (with_reducible refine bl_set ?_ ?_ _) | (simp; done) | (simp; omega) | omega))⟩

set_option maxHeartbeats 800000 in
theorem wearS_ok (n : Int) (v : Value) (l : List Int) (w : World) (h1 : RdI w v l) (hl : l.length ≤ 1048576) :
    Calls Try.prog 73 #[.agg #[v, .int .i64 n]] w fun e w' => e = .returned (.bool (wearB n l)) ∧ Below w.heap.size w w' := by
  obtain ⟨A1, c1, rfl, hc, hm⟩ := h1.form
  have h1' := h1.bl ((Below.refl _ _).alloc (Nat.le_refl _) (Obj.cells #[.slice A1 l.length c1, Value.int IntKind.i64 n] 41))
  go_enter Try.func73, Try.ntmps73
  go_wp2
  go_loop [3] (fun i => ∃ k : Nat, k ≤ l.length ∧ i = .int .i64 k ∧ (l.take k).all hgtB = true) (fun i => l.length - (intOf i).toNat)
  case atStart => exact ⟨0, Nat.zero_le _, rfl, by simp⟩
  case round =>
    obtain ⟨k, hk, rfl, ha⟩ := hrel
    have HA := Lib.hid ha
    clear ha
    by_cases hlt : k < l.length
    · obtain ⟨g, o, rfl, hb, q1⟩ := h1'.look (by omega)
      have e1 := q1 k _ (cI_get hlt)
      have hlt' : (k : Int) < (l.length : Int) := by omega
      clear q1 h1 h1'
      cases hp : inB (gi l k) 0 1000
      · go_wp2_with (go_at_call 67; refine (l01In_any _ _ _ _).mono ?_; rintro e w' ⟨rfl, rfl⟩)
        go_ret
        exact ⟨ret_bool (by simp [wearB, all_no (P := hgtB) hlt hp]), by (repeat' (first | (with_reducible exact Below.refl _ _) | (with_reducible refine bl_alloc ?_ _) | (with_reducible refine bl_drewN ?_ _) | (with_reducible refine bl_drew ?_) | (with_reducible assumption) | (with_reducible refine bl_to ?_ (by assumption)) | (with_reducible refine Below.trans ?_ (by assumption)) | (with_reducible refine Below.trans ?_ (Below.mono (by assumption) ?_)) | (with_reducible refine bl_set ?_ ?_ _) | (simp; done) | (simp; omega) | omega))⟩
      · go_wp2_with (go_at_call 67; refine (l01In_any _ _ _ _).mono ?_; rintro e w' ⟨rfl, rfl⟩)
        go_round
        case rel => exact ⟨k + 1, by omega, by go_num, by rw [all_take_succ hlt, HA.out, Bool.true_and]; exact hp⟩
        case measure => simp [intOf]; omega
    · have hall : l.all hgtB = true := by have := HA.out; rwa [List.take_of_length_le (by omega)] at this
      have HL := Lib.hid hall
      clear hall
      by_cases h8 : l.length ≤ 100
      · have hb : decide ((l.length : Int) ≤ 100) = true := by simp; omega
        go_wp2_with (go_at_call 67; refine (l01In_any _ _ _ _).mono ?_; rintro e w' ⟨rfl, rfl⟩)
        go_ret
        exact ⟨ret_bool (by simp [wearB, h8, HL.out]), by (repeat' (first | (with_reducible exact Below.refl _ _) | (with_reducible refine bl_alloc ?_ _) | (with_reducible refine bl_drewN ?_ _) | (with_reducible refine bl_drew ?_) | (with_reducible assumption) | (with_reducible refine bl_to ?_ (by assumption)) | (with_reducible refine Below.trans ?_ (by assumption)) | (with_reducible refine Below.trans ?_ (Below.mono (by assumption) ?_)) | (with_reducible refine bl_set ?_ ?_ _) | (simp; done) | (simp; omega) | omega))⟩
      · have hb : decide ((l.length : Int) ≤ 100) = false := by simp; omega
        go_wp2_with (go_at_call 67; refine (l01In_any _ _ _ _).mono ?_; rintro e w' ⟨rfl, rfl⟩)
        go_ret
        exact ⟨ret_bool (by simp [wearB, h8]), by (repeat' (first | (with_reducible exact Below.refl _ _) | (with_reducible refine bl_alloc ?_ _) | (with_reducible refine bl_drewN ?_ _) | (with_reducible refine bl_drew ?_) | (with_reducible assumption) | (with_reducible refine bl_to ?_ (by assumption)) | (with_reducible refine Below.trans ?_ (by assumption)) | (with_reducible refine Below.trans ?_ (Below.mono (by assumption) ?_)) | (with_reducible refine bl_set ?_ ?_ _) | (simp; done) | (simp; omega) | omega))⟩

theorem copyWear_any (n : Int) (v : Value) (l : List Int) (w : World) (h1 : RdI w v l) (hl : l.length ≤ 1048576) :
    Calls Try.prog 76 #[.agg #[v, .int .i64 n]] w (NewWear n l w) := by
  go_enter Try.func76, Try.ntmps76
  go_wp2_with ((go_at_call 80; refine (copyInts_any _ l _ (h1.bl (by (repeat' (first | (with_reducible exact Below.refl _ _) | (with_reducible refine bl_alloc ?_ _) | (with_reducible refine bl_drewN ?_ _) | (with_reducible refine bl_drew ?_) | (with_reducible assumption) | (with_reducible refine bl_to ?_ (by assumption)) | (with_reducible refine Below.trans ?_ (by assumption)) | (with_reducible refine Below.trans ?_ (Below.mono (by assumption) ?_)) | (with_reducible refine bl_set ?_ ?_ _) | (simp; done) | (simp; omega) | omega)))) hl).mono ?_; rintro e w1 ⟨A1, c1, rfl, ow1, b1⟩; obtain ⟨k1, f1, z1⟩ := bcell b1); have q1 : w1.cell? ⟨w.heap.size, 0, none⟩ = some v := (k1 _ _ (by simp; omega)).trans (by simp [go_sem]))
  exact bodyPost_ret (v := .agg #[.slice A1 l.length c1, .int .i64 n]) (by simp [results, Try.results76, go_sem, k1]) rfl ⟨_, _, rfl, by (apply own_lo; repeat' (first | (with_reducible assumption) | (with_reducible apply ownsRow_setCell_below) | (with_reducible apply World.ownsRow.alloc) | (with_reducible apply own_drewN) | (with_reducible apply World.ownsRow.drew) | (with_reducible apply own_bl2) | (simp; done) | (simp; omega) | omega)), by (repeat' (first | (with_reducible exact Below.refl _ _) | (with_reducible refine bl_alloc ?_ _) | (with_reducible refine bl_drewN ?_ _) | (with_reducible refine bl_drew ?_) | (with_reducible assumption) | (with_reducible refine bl_to ?_ (by assumption)) | (with_reducible refine Below.trans ?_ (by assumption)) | (with_reducible refine Below.trans ?_ (Below.mono (by assumption) ?_)) | (with_reducible refine bl_set ?_ ?_ _) | (simp; done) | (simp; omega) | omega))⟩

/-- the places below k whose height is less than m -/
def silN (l : List Int) (m : Int) : Nat → List Int
  | 0 => []
  | k + 1 => if gi l k < m then silN l m k ++ [(k : Int)] else silN l m k
theorem silN_len (l : List Int) (m : Int) (k : Nat) : (silN l m k).length ≤ k := by
  induction k with
  | zero => simp [silN]
  | succ k ih =>
    unfold silN
    split
    · rw [List.length_append]; simp; omega
    · omega
def silF (n : Int) (l : List Int) (m : Int) : List Int := if wearB n l && inB m 0 1000 then silN l m l.length else []
theorem silF_len (n : Int) (l : List Int) (m : Int) : (silF n l m).length ≤ l.length := by
  unfold silF
  split
  · exact silN_len _ _ _
  · simp

set_option maxHeartbeats 1600000 in
theorem silI_any (n : Int) (v : Value) (l : List Int) (m : Int) (w : World) (h1 : RdI w v l) (hl : l.length ≤ 1048576) :
    Calls Try.prog 49 #[.agg #[v, .int .i64 n], .int .i64 m] w (NewRow 3 1 (silF n l m).length (cI (silF n l m)) w) := by
  obtain ⟨A0, c0, rfl, hc, hm⟩ := h1.form
  cases ho : wearB n l
  · have hF : silF n l m = [] := by simp [silF, ho]
    rw [hF]
    clear hF
    go_enter Try.func49, Try.ntmps49
    go_wp2_with (go_at_call 54; refine (wearI_ok _ _ l _ (h1.bl (by (repeat' (first | (with_reducible exact Below.refl _ _) | (with_reducible refine bl_alloc ?_ _) | (with_reducible refine bl_drewN ?_ _) | (with_reducible refine bl_drew ?_) | (with_reducible assumption) | (with_reducible refine bl_to ?_ (by assumption)) | (with_reducible refine Below.trans ?_ (by assumption)) | (with_reducible refine Below.trans ?_ (Below.mono (by assumption) ?_)) | (with_reducible refine bl_set ?_ ?_ _) | (simp; done) | (simp; omega) | omega)))) hl).mono ?_; rintro e w1 ⟨rfl, b1⟩; obtain ⟨k1, f1, z1⟩ := bcell b1)
    go_ret
    exact ⟨none, 0, rfl, World.ownsRow_nil _ _ _ _, by (repeat' (first | (with_reducible exact Below.refl _ _) | (with_reducible refine bl_alloc ?_ _) | (with_reducible refine bl_drewN ?_ _) | (with_reducible refine bl_drew ?_) | (with_reducible assumption) | (with_reducible refine bl_to ?_ (by assumption)) | (with_reducible refine Below.trans ?_ (by assumption)) | (with_reducible refine Below.trans ?_ (Below.mono (by assumption) ?_)) | (with_reducible refine bl_set ?_ ?_ _) | (simp; done) | (simp; omega) | omega))⟩
  cases hb : inB m 0 1000
  · have hF : silF n l m = [] := by simp [silF, hb]
    rw [hF]
    clear hF
    go_enter Try.func49, Try.ntmps49
    go_wp2_with (first | (go_at_call 54; refine (wearI_ok _ _ l _ (h1.bl (by (repeat' (first | (with_reducible exact Below.refl _ _) | (with_reducible refine bl_alloc ?_ _) | (with_reducible refine bl_drewN ?_ _) | (with_reducible refine bl_drew ?_) | (with_reducible assumption) | (with_reducible refine bl_to ?_ (by assumption)) | (with_reducible refine Below.trans ?_ (by assumption)) | (with_reducible refine Below.trans ?_ (Below.mono (by assumption) ?_)) | (with_reducible refine bl_set ?_ ?_ _) | (simp; done) | (simp; omega) | omega)))) hl).mono ?_; rintro e w1 ⟨rfl, b1⟩; obtain ⟨k1, f1, z1⟩ := bcell b1) | (go_at_call 68; refine (within_any _ _ _ _).mono ?_; rintro e w' ⟨rfl, rfl⟩))
    go_ret
    exact ⟨none, 0, rfl, World.ownsRow_nil _ _ _ _, by (repeat' (first | (with_reducible exact Below.refl _ _) | (with_reducible refine bl_alloc ?_ _) | (with_reducible refine bl_drewN ?_ _) | (with_reducible refine bl_drew ?_) | (with_reducible assumption) | (with_reducible refine bl_to ?_ (by assumption)) | (with_reducible refine Below.trans ?_ (by assumption)) | (with_reducible refine Below.trans ?_ (Below.mono (by assumption) ?_)) | (with_reducible refine bl_set ?_ ?_ _) | (simp; done) | (simp; omega) | omega))⟩
  · have hF : silF n l m = silN l m l.length := by simp [silF, ho, hb]
    rw [hF]
    clear hF
    obtain ⟨n1, _, _⟩ := wearB_iff ho
    go_enter Try.func49, Try.ntmps49
    go_wp2_with (first | ((go_at_call 54; refine (wearI_ok _ _ l _ (h1.bl (by (repeat' (first | (with_reducible exact Below.refl _ _) | (with_reducible refine bl_alloc ?_ _) | (with_reducible refine bl_drewN ?_ _) | (with_reducible refine bl_drew ?_) | (with_reducible assumption) | (with_reducible refine bl_to ?_ (by assumption)) | (with_reducible refine Below.trans ?_ (by assumption)) | (with_reducible refine Below.trans ?_ (Below.mono (by assumption) ?_)) | (with_reducible refine bl_set ?_ ?_ _) | (simp; done) | (simp; omega) | omega)))) hl).mono ?_; rintro e w1 ⟨rfl, b1⟩; obtain ⟨k1, f1, z1⟩ := bcell b1); have y1 : w.heap.size < w1.heap.size := z1 _ (by (first | omega | (simp; done) | (simp; omega)))) | (go_at_call 68; refine (within_any _ _ _ _).mono ?_; rintro e w' ⟨rfl, rfl⟩))
    have bel1 : Below w.heap.size w (w1.alloc (Obj.cells #[] 3)) := by (repeat' (first | (with_reducible exact Below.refl _ _) | (with_reducible refine bl_alloc ?_ _) | (with_reducible refine bl_drewN ?_ _) | (with_reducible refine bl_drew ?_) | (with_reducible assumption) | (with_reducible refine bl_to ?_ (by assumption)) | (with_reducible refine Below.trans ?_ (by assumption)) | (with_reducible refine Below.trans ?_ (Below.mono (by assumption) ?_)) | (with_reducible refine bl_set ?_ ?_ _) | (simp; done) | (simp; omega) | omega))
    have own1 : (w1.alloc (Obj.cells #[] 3)).ownsRow w1.heap.size 3 1 (.slice (some ⟨w1.heap.size, 0, none⟩) 0 0) (silN l m 0).length (cI (silN l m 0)) := own_new0 (Nat.le_refl _) rfl
    have sz1 := b1.size
    clear k1 f1 z1
    go_loopw [5, 20] (fun v i wr => ∃ k : Nat, k ≤ l.length ∧ i = .int .i64 k ∧ wr.ownsRow w1.heap.size 3 1 v (silN l m k).length (cI (silN l m k)) ∧ Below w.heap.size w wr ∧ w1.heap.size ≤ wr.heap.size) (fun _ i _ => l.length - (intOf i).toNat)
    case atStart => exact ⟨0, Nat.zero_le _, rfl, own1, bel1, by simp⟩
    case round =>
      clear own1 bel1
      obtain ⟨k, hk, rfl, ow, bel, szr⟩ := hrel
      have hll := silN_len l m k
      by_cases hlt : k < l.length
      · obtain ⟨g, o, rfl, hb, q1⟩ := h1.look (by omega)
        have e1 := (bel.cell (p := ⟨g, o + k, none⟩) hb).trans (q1 k _ (cI_get hlt))
        have hlt' : (k : Int) < (l.length : Int) := by omega
        clear q1 h1
        by_cases hs : gi l k < m
        · have hh := Lib.hid (show silN l m (k + 1) = silN l m k ++ [(k : Int)] by simp [silN, hs])
          go_wp2_with (at_builtin; refine wpList_app_int _ rfl _ _ rfl w1.heap.size _ _ rfl (ow.alloc _) _ (k : Int) rfl ?_ (by omega) (by simp; omega) ?_; rotate_left; intro v' w' ow' bel')
          · have bel2 : Below w.heap.size w w' := Below.trans (by (repeat' (first | (with_reducible exact Below.refl _ _) | (with_reducible refine bl_alloc ?_ _) | (with_reducible refine bl_drewN ?_ _) | (with_reducible refine bl_drew ?_) | (with_reducible assumption) | (with_reducible refine bl_to ?_ (by assumption)) | (with_reducible refine Below.trans ?_ (by assumption)) | (with_reducible refine Below.trans ?_ (Below.mono (by assumption) ?_)) | (with_reducible refine bl_set ?_ ?_ _) | (simp; done) | (simp; omega) | omega))) (bel'.mono (by simp at sz1; omega))
            have sz2 := bel'.size
            simp only [World.size_alloc] at sz2
            go_roundw
            case rel => exact ⟨k + 1, by omega, by go_num, by rw [hh.out]; exact ow', bel2, by omega⟩
            case measure => simp [intOf]; omega
          all_goals (simp; done)
        · have hh := Lib.hid (show silN l m (k + 1) = silN l m k by simp [silN, hs])
          go_wp2
          go_roundw
          case rel => exact ⟨k + 1, by omega, by go_num, by rw [hh.out]; exact ow, bel, szr⟩
          case measure => simp [intOf]; omega
      · obtain rfl : k = l.length := by omega
        go_wp2
        go_ret
        obtain ⟨A, c, rfl⟩ := own_form ow
        exact ⟨A, c, rfl, own_lo ow (by simp at sz1; omega), bel⟩
end Go.Proofs.Ytoijjjaodfincaa
