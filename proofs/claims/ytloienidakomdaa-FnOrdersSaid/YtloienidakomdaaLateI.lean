/- isPermutation and LateJobs of the program; at most eight jobs. -/
import Derived.Test.YtloienidakomdaaSrt
namespace Go.Proofs.Ytloienidakomdaa
open Go.RowKit

def cBo (l : List Bool) : List Value := l.map Value.bool
def gb (l : List Bool) (k : Nat) : Bool := l.getD k false
theorem cBo_get {l : List Bool} {k : Nat} (h : k < l.length) : (cBo l)[k]? = some (.bool (gb l k)) := by simp [cBo, gb, h]
theorem cBo_set (l : List Bool) (k : Nat) (x : Bool) : (cBo l).set k (.bool x) = cBo (l.set k x) := by simp [cBo, List.map_set]
theorem info_bool : (Try.prog.info? 4).map (fun i => (i.zero, i.size, i.bytes)) = some (some (.bool false), 1, 1) := by kernel_rfl
/-- which of 0 .. n are among the first k of o -/
def seenN (o : List Int) (n : Nat) : Nat → List Bool
  | 0 => List.replicate n false
  | k + 1 => (seenN o n k).set (gi o k).toNat true
theorem seenN_len (o : List Int) (n k : Nat) : (seenN o n k).length = n := by
  induction k with
  | zero => simp [seenN]
  | succ k ih => rw [seenN, List.length_set, ih]
theorem gb_set {L : List Bool} {a b : Nat} {x : Bool} (ha : a < L.length) : gb (L.set a x) b = if a = b then x else gb L b := by
  unfold gb
  rw [List.getD_eq_getElem?_getD, List.getD_eq_getElem?_getD, List.getElem?_set]
  split
  · simp [ha]
  · rfl
theorem seenN_eq {o : List Int} {n k : Nat} (hk : k ≤ o.length) (h : ∀ i, i < k → 0 ≤ gi o i ∧ gi o i < (n : Int)) {x : Nat} : gb (seenN o n k) x = true ↔ (x : Int) ∈ o.take k := by
  induction k with
  | zero =>
    rw [seenN]
    unfold gb
    rw [List.getD_eq_getElem?_getD, List.getElem?_replicate]
    split <;> simp
  | succ k ih =>
    have hb := h k (by omega)
    rw [seenN, gb_set (by rw [seenN_len]; omega), mem_take_gi hk]
    split
    · rename_i e
      simp only [true_iff]
      exact ⟨k, by omega, by omega⟩
    · rename_i e
      rw [ih (by omega) (fun i hi => h i (by omega)), mem_take_gi (by omega)]
      constructor
      · rintro ⟨i, hi, e2⟩; exact ⟨i, by omega, e2⟩
      · rintro ⟨i, hi, e2⟩
        by_cases e3 : i = k
        · rw [e3] at e2; omega
        · exact ⟨i, by omega, e2⟩

set_option maxHeartbeats 1600000 in
set_option maxRecDepth 100000 in
theorem isPerm_any (v : Value) (o : List Int) (n : Nat) (w : World) (h1 : RdI w v o) (hn : n ≤ 1048576) (ho : o.length ≤ 1048576) :
    Calls Try.prog 39 #[v, .int .i64 (n : Int)] w fun e w' => e = .returned (.bool (permB o n)) ∧ Below w.heap.size w w' := by
  obtain ⟨A1, c1, rfl, h3, h4⟩ := h1.form
  unfold maxLen at h4
  obtain ⟨i0, hi0, hz0, hz1, hz2⟩ := info_parts info_bool
  by_cases hlen : o.length = n
  rotate_left
  · have g1 : ((o.length : Int) != (n : Int)) = true := by simp; omega
    have g2 : ((o.length : Int) == (n : Int)) = false := by simp; omega
    have g3 : ¬ (o.length : Int) = (n : Int) := by omega
    have HP := Lib.hid (show permB o n = false by simp [permB, hlen])
    clear hlen
    go_enter Try.func39, Try.ntmps39
    go_wp2
    go_ret
    exact ⟨ret_bool HP.out.symm, Below.refl _ _⟩
  have g1 : ((o.length : Int) != (n : Int)) = false := by simp; omega
  have g2 : ((o.length : Int) == (n : Int)) = true := by simp; omega
  have g3 : (o.length == n) = true := by simp; omega
  have g4 : decide (o.length = n) = true := by simp; omega
  have HLEN := Lib.hid hlen
  clear hlen
  go_enter Try.func39, Try.ntmps39
  go_wp2_with (at_make; refine wpList_make_full _ rfl _ _ _ rfl w.heap.size 4 i0 _ 1 Try.underlying62 hi0 hz0 hz1 _ _ _ _ n rfl rfl rfl rfl (by rw [hz2]; omega) (by unfold maxLen; omega) (Nat.le_refl _) ?_; intro w1 own1 gm1)
  have own2 : w1.ownsRow w.heap.size 4 1 (.slice (some ⟨w.heap.size, 0, none⟩) n n) n (cBo (seenN o n 0)) := by
    simpa [cBo, seenN, toList_madeCells_one, Value.cells] using own1
  have b1 : Below w.heap.size w w1 := (Below.refl _ _).grown gm1 (Nat.le_refl _) (by simp)
  clear own1 gm1 g1 g2 g3 g4
  go_loopw [16] (fun i wr => ∃ k : Nat, k ≤ n ∧ i = .int .i64 k ∧ okP o n k = true ∧ Below w.heap.size w wr ∧ wr.ownsRow w.heap.size 4 1 (.slice (some ⟨w.heap.size, 0, none⟩) n n) n (cBo (seenN o n k))) (fun i _ => n - (intOf i).toNat)
  case atStart => exact ⟨0, Nat.zero_le _, rfl, rfl, b1, own2⟩
  case round =>
    clear b1 own2
    obtain ⟨k, hk, rfl, hok, bel, ow⟩ := hrel
    have HOK := Lib.hid hok
    clear hok
    have hlen := HLEN.out
    by_cases hlt : k < n
    · have hlt' : (k : Int) < (o.length : Int) := by omega
      have k0 : (0 : Int) ≤ (k : Int) := by omega
      obtain ⟨b, oo, rfl, hb, q1⟩ := (h1.bl bel).look (by omega)
      have e1 := q1 k _ (cI_get (by omega))
      clear q1 h1
      by_cases hx0 : 0 ≤ gi o k
      rotate_left
      · have HP := Lib.hid (show permB o n = false by rw [permB, okP_no hlt (by rw [← Bool.not_eq_true, stpP_iff]; omega)]; simp)
        have x1 : gi o k < 0 := by omega
        clear hlen
        go_wp2
        go_ret
        exact ⟨ret_bool HP.out.symm, by (repeat' (first | (with_reducible exact Below.refl _ _) | (with_reducible refine bl_alloc ?_ _) | (with_reducible refine bl_drewN ?_ _) | (with_reducible refine bl_drew ?_) | (with_reducible assumption) | (with_reducible refine bl_to ?_ (by assumption)) | (with_reducible refine Below.trans ?_ (by assumption)) | (with_reducible refine Below.trans ?_ (Below.mono (by assumption) ?_)) | (with_reducible refine bl_set ?_ ?_ _) | (simp; done) | (simp; omega) | omega))⟩
      by_cases hxn : gi o k < (n : Int)
      rotate_left
      · have HP := Lib.hid (show permB o n = false by rw [permB, okP_no hlt (by rw [← Bool.not_eq_true, stpP_iff]; omega)]; simp)
        have x1 : ¬ gi o k < 0 := by omega
        have x2 : (n : Int) ≤ gi o k := by omega
        clear hlen
        go_wp2
        go_ret
        exact ⟨ret_bool HP.out.symm, by (repeat' (first | (with_reducible exact Below.refl _ _) | (with_reducible refine bl_alloc ?_ _) | (with_reducible refine bl_drewN ?_ _) | (with_reducible refine bl_drew ?_) | (with_reducible assumption) | (with_reducible refine bl_to ?_ (by assumption)) | (with_reducible refine Below.trans ?_ (by assumption)) | (with_reducible refine Below.trans ?_ (Below.mono (by assumption) ?_)) | (with_reducible refine bl_set ?_ ?_ _) | (simp; done) | (simp; omega) | omega))⟩
      obtain ⟨x, hx⟩ := Int.eq_ofNat_of_zero_le hx0
      have HX := Lib.hid hx
      have se := seenN_eq (o := o) (n := n) (k := k) (by omega) (fun i hi => (stpP_iff.1 (okP_at HOK.out hi)).1) (x := x)
      have SE := Lib.hid se
      have sl := seenN_len o n k
      rw [hx] at e1 hxn
      have e2 : wr.cell? ⟨w.heap.size, x, none⟩ = some (.bool (gb (seenN o n k) x)) := (ow.cellAt x (by omega)).trans (cBo_get (by omega))
      have e3 := ow.frozenAt x
      have x1 : ¬ (x : Int) < 0 := by omega
      have x2 : ¬ (n : Int) ≤ (x : Int) := by omega
      have x3 : (0 : Int) ≤ (x : Int) := by omega
      have ow' := (ow.stored x (.bool true)).1
      rw [cBo_set, show (seenN o n k).set x true = seenN o n (k + 1) by rw [seenN, hx]; rfl] at ow'
      have bel' : Below w.heap.size w (wr.setCell ⟨w.heap.size, x, none⟩ (.bool true)) := bl_set bel (Nat.le_refl _) _
      clear se sl hx hlen hx0
      cases hgb : gb (seenN o n k) x
      · rw [hgb] at e2
        have HN := Lib.hid (show okP o n (k + 1) = true by
          rw [okP, HOK.out, Bool.true_and, stpP_iff, HX.out]
          exact ⟨⟨x3, hxn⟩, fun hm => by rw [SE.out.2 hm] at hgb; cases hgb⟩)
        clear hgb
        go_wp2
        go_roundw
        case rel => exact ⟨k + 1, by omega, by go_num, HN.out, bel', ow'⟩
        case measure => simp [intOf]; omega
      · rw [hgb] at e2
        have HP := Lib.hid (show permB o n = false by
          rw [permB, okP_no hlt (by rw [← Bool.not_eq_true, stpP_iff, HX.out]; exact fun h => h.2 (SE.out.1 hgb))]
          simp)
        clear hgb
        go_wp2
        go_ret
        exact ⟨ret_bool HP.out.symm, by (repeat' (first | (with_reducible exact Below.refl _ _) | (with_reducible refine bl_alloc ?_ _) | (with_reducible refine bl_drewN ?_ _) | (with_reducible refine bl_drew ?_) | (with_reducible assumption) | (with_reducible refine bl_to ?_ (by assumption)) | (with_reducible refine Below.trans ?_ (by assumption)) | (with_reducible refine Below.trans ?_ (Below.mono (by assumption) ?_)) | (with_reducible refine bl_set ?_ ?_ _) | (simp; done) | (simp; omega) | omega))⟩
    · obtain rfl : k = n := by omega
      have HP := Lib.hid (show permB o k = true by simp [permB, hlen, HOK.out])
      have hlt' : ¬ (k : Int) < (o.length : Int) := by omega
      clear hlen
      go_wp2
      go_ret
      exact ⟨ret_bool HP.out.symm, bel⟩
end Go.Proofs.Ytloienidakomdaa
