/- Wear: the helpers of the laws (copy, compare, size, mark, look again); lengths up to 2^20. -/
import Derived.Test.YtoijjjaodfincaaData
import Derived.Handy
namespace Go.Proofs.Ytoijjjaodfincaa
open Go.RowKit

/-- a new value -/
def NewWear (n : Int) (l : List Int) (w : World) (en : Ending) (w' : World) : Prop :=
  ∃ A c, en = .returned (.agg #[.slice A l.length c, .int .i64 n]) ∧ w'.ownsRow w.heap.size 3 1 (.slice A l.length c) l.length (cI l) ∧ Below w.heap.size w w'

set_option maxHeartbeats 400000 in
theorem toWear_any (n : Int) (v : Value) (l : List Int) (w : World) (h1 : RdI w v l) (hl : l.length ≤ 1048576) :
    Calls Try.prog 33 #[.agg #[v, .int .i64 n]] w (NewWear n l w) := by
  go_enter Try.func33, Try.ntmps33
  go_wp2_with (go_at_call 41; refine (toI_any _ l _ (h1.bl (by (repeat' (first | (with_reducible exact Below.refl _ _) | (with_reducible refine bl_alloc ?_ _) | (with_reducible refine bl_drewN ?_ _) | (with_reducible refine bl_drew ?_) | (with_reducible assumption) | (with_reducible refine bl_to ?_ (by assumption)) | (with_reducible refine Below.trans ?_ (by assumption)) | (with_reducible refine Below.trans ?_ (Below.mono (by assumption) ?_)) | (with_reducible refine bl_set ?_ ?_ _) | (simp; done) | (simp; omega) | omega)))) hl).mono ?_; rintro e w1 ⟨A1, c1, rfl, ow1, b1⟩; obtain ⟨k1, f1, z1⟩ := bcell b1)
  exact bodyPost_ret (v := .agg #[.slice A1 l.length c1, .int .i64 n]) (by simp [results, Try.results33, go_sem, k1]) rfl ⟨_, _, rfl, by (apply own_lo; repeat' (first | (with_reducible assumption) | (with_reducible apply ownsRow_setCell_below) | (with_reducible apply World.ownsRow.alloc) | (with_reducible apply own_drewN) | (with_reducible apply World.ownsRow.drew) | (with_reducible apply own_bl2) | (simp; done) | (simp; omega) | omega)), by (repeat' (first | (with_reducible exact Below.refl _ _) | (with_reducible refine bl_alloc ?_ _) | (with_reducible refine bl_drewN ?_ _) | (with_reducible refine bl_drew ?_) | (with_reducible assumption) | (with_reducible refine bl_to ?_ (by assumption)) | (with_reducible refine Below.trans ?_ (by assumption)) | (with_reducible refine Below.trans ?_ (Below.mono (by assumption) ?_)) | (with_reducible refine bl_set ?_ ?_ _) | (simp; done) | (simp; omega) | omega))⟩
theorem eqWear_any (n : Int) (v1 v2 : Value) (l : List Int) (w : World) (h1 : RdI w v1 l) (h2 : RdI w v2 l) (hl : l.length ≤ 1048576) :
    Calls Try.prog 35 #[.agg #[v1, .int .i64 n], .agg #[v2, .int .i64 n]] w fun e w' => e = .returned (.bool true) ∧ Below w.heap.size w w' := by
  go_enter Try.func35, Try.ntmps35
  go_wp2_with (go_at_call 43; refine (eqI_any _ _ l _ (h1.bl (by (repeat' (first | (with_reducible exact Below.refl _ _) | (with_reducible refine bl_alloc ?_ _) | (with_reducible refine bl_drewN ?_ _) | (with_reducible refine bl_drew ?_) | (with_reducible assumption) | (with_reducible refine bl_to ?_ (by assumption)) | (with_reducible refine Below.trans ?_ (by assumption)) | (with_reducible refine Below.trans ?_ (Below.mono (by assumption) ?_)) | (with_reducible refine bl_set ?_ ?_ _) | (simp; done) | (simp; omega) | omega)))) (h2.bl (by (repeat' (first | (with_reducible exact Below.refl _ _) | (with_reducible refine bl_alloc ?_ _) | (with_reducible refine bl_drewN ?_ _) | (with_reducible refine bl_drew ?_) | (with_reducible assumption) | (with_reducible refine bl_to ?_ (by assumption)) | (with_reducible refine Below.trans ?_ (by assumption)) | (with_reducible refine Below.trans ?_ (Below.mono (by assumption) ?_)) | (with_reducible refine bl_set ?_ ?_ _) | (simp; done) | (simp; omega) | omega)))) hl).mono ?_; rintro e w1 ⟨rfl, b1⟩; obtain ⟨k1, f1, z1⟩ := bcell b1)
  go_ret
  exact ⟨rfl, by (repeat' (first | (with_reducible exact Below.refl _ _) | (with_reducible refine bl_alloc ?_ _) | (with_reducible refine bl_drewN ?_ _) | (with_reducible refine bl_drew ?_) | (with_reducible assumption) | (with_reducible refine bl_to ?_ (by assumption)) | (with_reducible refine Below.trans ?_ (by assumption)) | (with_reducible refine Below.trans ?_ (Below.mono (by assumption) ?_)) | (with_reducible refine bl_set ?_ ?_ _) | (simp; done) | (simp; omega) | omega))⟩
theorem szWear_any (n : Int) (v : Value) (l : List Int) (k : Int) (w : World) (h1 : RdI w v l) (hk : 0 ≤ k) (hk2 : k ≤ 1048576) :
    Calls Try.prog 31 #[.agg #[v, .int .i64 n], .int .i64 k] w fun e w' => e = .returned (.int .i64 (if k - l.length < 0 then -1 else k - l.length)) ∧ Below w.heap.size w w' := by
  by_cases h : k - l.length < 0
  · rw [if_pos h]
    go_enter Try.func31, Try.ntmps31
    go_wp2_with (go_at_call 66; refine (szI_any _ l _ _ (h1.bl (by (repeat' (first | (with_reducible exact Below.refl _ _) | (with_reducible refine bl_alloc ?_ _) | (with_reducible refine bl_drewN ?_ _) | (with_reducible refine bl_drew ?_) | (with_reducible assumption) | (with_reducible refine bl_to ?_ (by assumption)) | (with_reducible refine Below.trans ?_ (by assumption)) | (with_reducible refine Below.trans ?_ (Below.mono (by assumption) ?_)) | (with_reducible refine bl_set ?_ ?_ _) | (simp; done) | (simp; omega) | omega)))) hk hk2).mono ?_; rintro e w' ⟨rfl, rfl⟩)
    go_ret
    exact ⟨rfl, by (repeat' (first | (with_reducible exact Below.refl _ _) | (with_reducible refine bl_alloc ?_ _) | (with_reducible refine bl_drewN ?_ _) | (with_reducible refine bl_drew ?_) | (with_reducible assumption) | (with_reducible refine bl_to ?_ (by assumption)) | (with_reducible refine Below.trans ?_ (by assumption)) | (with_reducible refine Below.trans ?_ (Below.mono (by assumption) ?_)) | (with_reducible refine bl_set ?_ ?_ _) | (simp; done) | (simp; omega) | omega))⟩
  · rw [if_neg h]
    go_enter Try.func31, Try.ntmps31
    go_wp2_with (go_at_call 66; refine (szI_any _ l _ _ (h1.bl (by (repeat' (first | (with_reducible exact Below.refl _ _) | (with_reducible refine bl_alloc ?_ _) | (with_reducible refine bl_drewN ?_ _) | (with_reducible refine bl_drew ?_) | (with_reducible assumption) | (with_reducible refine bl_to ?_ (by assumption)) | (with_reducible refine Below.trans ?_ (by assumption)) | (with_reducible refine Below.trans ?_ (Below.mono (by assumption) ?_)) | (with_reducible refine bl_set ?_ ?_ _) | (simp; done) | (simp; omega) | omega)))) hk hk2).mono ?_; rintro e w' ⟨rfl, rfl⟩)
    go_ret
    exact ⟨rfl, by (repeat' (first | (with_reducible exact Below.refl _ _) | (with_reducible refine bl_alloc ?_ _) | (with_reducible refine bl_drewN ?_ _) | (with_reducible refine bl_drew ?_) | (with_reducible assumption) | (with_reducible refine bl_to ?_ (by assumption)) | (with_reducible refine Below.trans ?_ (by assumption)) | (with_reducible refine Below.trans ?_ (Below.mono (by assumption) ?_)) | (with_reducible refine bl_set ?_ ?_ _) | (simp; done) | (simp; omega) | omega))⟩
theorem markWear_any (lo : Nat) (n : Int) (v : Value) (l : List Int) (k0 : Int) (w : World) (h1 : w.ownsRow lo 3 1 v l.length (cI l)) (hl : l.length ≤ 1048576) (hk0 : 0 ≤ k0) (hk1 : k0 ≤ 1000000000) :
    Calls Try.prog 38 #[.agg #[v, .int .i64 n], .int .i64 k0] w fun e w' => e = .returned (.int .i64 (k0 + l.length)) ∧ w'.ownsRow lo 3 1 v l.length (cI (upI k0 l.length)) ∧ w.grownBy w' v.ownBlock := by
  go_enter Try.func38, Try.ntmps38
  go_wp2_with (go_at_call 44; refine (markI_any lo _ l _ _ (h1.alloc _) hl hk0 hk1).mono ?_; rintro e w1 ⟨rfl, ow1, g1⟩)
  go_ret
  exact ⟨rfl, ow1, ⟨g1.os, g1.tape, g1.output, Nat.le_trans (by simp) g1.size, fun i hi hn => (g1.block i (by simp; omega) hn).trans (Below.heap_alloc _ _ _ hi)⟩⟩
theorem heldWear_any (n : Int) (v : Value) (cnt : Nat) (k0 : Int) (w : World) (h1 : Rd w 1 v cnt (cI (upI k0 cnt))) (hl : cnt ≤ 1048576) (hk0 : 0 ≤ k0) (hk1 : k0 ≤ 1000000000) :
    Calls Try.prog 39 #[.agg #[v, .int .i64 n], .int .i64 k0] w fun e w' => e = .returned (.int .i64 (k0 + cnt)) ∧ Below w.heap.size w w' := by
  go_enter Try.func39, Try.ntmps39
  go_wp2_with (go_at_call 45; refine (heldI_any _ cnt _ _ (h1.bl (by (repeat' (first | (with_reducible exact Below.refl _ _) | (with_reducible refine bl_alloc ?_ _) | (with_reducible refine bl_drewN ?_ _) | (with_reducible refine bl_drew ?_) | (with_reducible assumption) | (with_reducible refine bl_to ?_ (by assumption)) | (with_reducible refine Below.trans ?_ (by assumption)) | (with_reducible refine Below.trans ?_ (Below.mono (by assumption) ?_)) | (with_reducible refine bl_set ?_ ?_ _) | (simp; done) | (simp; omega) | omega)))) hl hk0 hk1).mono ?_; rintro e w' ⟨rfl, rfl⟩)
  go_ret
  exact ⟨rfl, by (repeat' (first | (with_reducible exact Below.refl _ _) | (with_reducible refine bl_alloc ?_ _) | (with_reducible refine bl_drewN ?_ _) | (with_reducible refine bl_drew ?_) | (with_reducible assumption) | (with_reducible refine bl_to ?_ (by assumption)) | (with_reducible refine Below.trans ?_ (by assumption)) | (with_reducible refine Below.trans ?_ (Below.mono (by assumption) ?_)) | (with_reducible refine bl_set ?_ ?_ _) | (simp; done) | (simp; omega) | omega))⟩
end Go.Proofs.Ytoijjjaodfincaa
