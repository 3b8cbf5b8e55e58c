/- Cylinder: the helpers of the laws (copy, compare, size, mark, look again); lengths up to 2^20. -/
import Derived.Test.YtoijjjaodfincaaRowPin
import Derived.Handy
namespace Go.Proofs.Ytoijjjaodfincaa
open Go.RowKit

/-- a new value -/
def NewCylinder (st tr : Int) (l : List (Int × Int)) (w : World) (en : Ending) (w' : World) : Prop :=
  ∃ A c, en = .returned (.agg #[.int .i64 st, .int .i64 tr, .slice A l.length c]) ∧ w'.ownsRow w.heap.size 63 2 (.slice A l.length c) l.length (cP l) ∧ Below w.heap.size w w'

set_option maxHeartbeats 400000 in
theorem toCylinder_any (st tr : Int) (v : Value) (l : List (Int × Int)) (w : World) (h1 : RdP w v l) (hl : l.length ≤ 1048576) :
    Calls Try.prog 60 #[.agg #[.int .i64 st, .int .i64 tr, v]] w (NewCylinder st tr l w) := by
  go_enter Try.func60, Try.ntmps60
  go_wp2_with (go_at_call 90; refine (toPinS_any _ l _ (h1.bl (by (repeat' (first | (with_reducible exact Below.refl _ _) | (with_reducible refine bl_alloc ?_ _) | (with_reducible refine bl_drewN ?_ _) | (with_reducible refine bl_drew ?_) | (with_reducible assumption) | (with_reducible refine bl_to ?_ (by assumption)) | (with_reducible refine Below.trans ?_ (by assumption)) | (with_reducible refine Below.trans ?_ (Below.mono (by assumption) ?_)) | (with_reducible refine bl_set ?_ ?_ _) | (simp; done) | (simp; omega) | omega)))) hl).mono ?_; rintro e w1 ⟨A1, c1, rfl, ow1, b1⟩; obtain ⟨k1, f1, z1⟩ := bcell b1)
  exact bodyPost_ret (v := .agg #[.int .i64 st, .int .i64 tr, .slice A1 l.length c1]) (by simp [results, Try.results60, go_sem, k1]) rfl ⟨_, _, rfl, by (apply own_lo; repeat' (first | (with_reducible assumption) | (with_reducible apply ownsRow_setCell_below) | (with_reducible apply World.ownsRow.alloc) | (with_reducible apply own_drewN) | (with_reducible apply World.ownsRow.drew) | (with_reducible apply own_bl2) | (simp; done) | (simp; omega) | omega)), by (repeat' (first | (with_reducible exact Below.refl _ _) | (with_reducible refine bl_alloc ?_ _) | (with_reducible refine bl_drewN ?_ _) | (with_reducible refine bl_drew ?_) | (with_reducible assumption) | (with_reducible refine bl_to ?_ (by assumption)) | (with_reducible refine Below.trans ?_ (by assumption)) | (with_reducible refine Below.trans ?_ (Below.mono (by assumption) ?_)) | (with_reducible refine bl_set ?_ ?_ _) | (simp; done) | (simp; omega) | omega))⟩
theorem eqCylinder_any (st tr : Int) (v1 v2 : Value) (l : List (Int × Int)) (w : World) (h1 : RdP w v1 l) (h2 : RdP w v2 l) (hl : l.length ≤ 1048576) :
    Calls Try.prog 61 #[.agg #[.int .i64 st, .int .i64 tr, v1], .agg #[.int .i64 st, .int .i64 tr, v2]] w fun e w' => e = .returned (.bool true) ∧ Below w.heap.size w w' := by
  go_enter Try.func61, Try.ntmps61
  go_wp2_with (go_at_call 91; refine (eqPinS_any _ _ l _ (h1.bl (by (repeat' (first | (with_reducible exact Below.refl _ _) | (with_reducible refine bl_alloc ?_ _) | (with_reducible refine bl_drewN ?_ _) | (with_reducible refine bl_drew ?_) | (with_reducible assumption) | (with_reducible refine bl_to ?_ (by assumption)) | (with_reducible refine Below.trans ?_ (by assumption)) | (with_reducible refine Below.trans ?_ (Below.mono (by assumption) ?_)) | (with_reducible refine bl_set ?_ ?_ _) | (simp; done) | (simp; omega) | omega)))) (h2.bl (by (repeat' (first | (with_reducible exact Below.refl _ _) | (with_reducible refine bl_alloc ?_ _) | (with_reducible refine bl_drewN ?_ _) | (with_reducible refine bl_drew ?_) | (with_reducible assumption) | (with_reducible refine bl_to ?_ (by assumption)) | (with_reducible refine Below.trans ?_ (by assumption)) | (with_reducible refine Below.trans ?_ (Below.mono (by assumption) ?_)) | (with_reducible refine bl_set ?_ ?_ _) | (simp; done) | (simp; omega) | omega)))) hl).mono ?_; rintro e w1 ⟨rfl, b1⟩; obtain ⟨k1, f1, z1⟩ := bcell b1)
  go_ret
  exact ⟨rfl, by (repeat' (first | (with_reducible exact Below.refl _ _) | (with_reducible refine bl_alloc ?_ _) | (with_reducible refine bl_drewN ?_ _) | (with_reducible refine bl_drew ?_) | (with_reducible assumption) | (with_reducible refine bl_to ?_ (by assumption)) | (with_reducible refine Below.trans ?_ (by assumption)) | (with_reducible refine Below.trans ?_ (Below.mono (by assumption) ?_)) | (with_reducible refine bl_set ?_ ?_ _) | (simp; done) | (simp; omega) | omega))⟩
theorem szCylinder_any (st tr : Int) (v : Value) (l : List (Int × Int)) (k : Int) (w : World) (h1 : RdP w v l) (hk : 0 ≤ k) (hk2 : k ≤ 1048576) :
    Calls Try.prog 58 #[.agg #[.int .i64 st, .int .i64 tr, v], .int .i64 k] w fun e w' => e = .returned (.int .i64 (if k - l.length < 0 then -1 else k - l.length)) ∧ Below w.heap.size w w' := by
  by_cases h : k - l.length < 0
  · rw [if_pos h]
    go_enter Try.func58, Try.ntmps58
    go_wp2_with (go_at_call 88; refine (szPinS_any _ l _ _ (h1.bl (by (repeat' (first | (with_reducible exact Below.refl _ _) | (with_reducible refine bl_alloc ?_ _) | (with_reducible refine bl_drewN ?_ _) | (with_reducible refine bl_drew ?_) | (with_reducible assumption) | (with_reducible refine bl_to ?_ (by assumption)) | (with_reducible refine Below.trans ?_ (by assumption)) | (with_reducible refine Below.trans ?_ (Below.mono (by assumption) ?_)) | (with_reducible refine bl_set ?_ ?_ _) | (simp; done) | (simp; omega) | omega)))) hk hk2).mono ?_; rintro e w' ⟨rfl, rfl⟩)
    go_ret
    exact ⟨rfl, by (repeat' (first | (with_reducible exact Below.refl _ _) | (with_reducible refine bl_alloc ?_ _) | (with_reducible refine bl_drewN ?_ _) | (with_reducible refine bl_drew ?_) | (with_reducible assumption) | (with_reducible refine bl_to ?_ (by assumption)) | (with_reducible refine Below.trans ?_ (by assumption)) | (with_reducible refine Below.trans ?_ (Below.mono (by assumption) ?_)) | (with_reducible refine bl_set ?_ ?_ _) | (simp; done) | (simp; omega) | omega))⟩
  · rw [if_neg h]
    go_enter Try.func58, Try.ntmps58
    go_wp2_with (go_at_call 88; refine (szPinS_any _ l _ _ (h1.bl (by (repeat' (first | (with_reducible exact Below.refl _ _) | (with_reducible refine bl_alloc ?_ _) | (with_reducible refine bl_drewN ?_ _) | (with_reducible refine bl_drew ?_) | (with_reducible assumption) | (with_reducible refine bl_to ?_ (by assumption)) | (with_reducible refine Below.trans ?_ (by assumption)) | (with_reducible refine Below.trans ?_ (Below.mono (by assumption) ?_)) | (with_reducible refine bl_set ?_ ?_ _) | (simp; done) | (simp; omega) | omega)))) hk hk2).mono ?_; rintro e w' ⟨rfl, rfl⟩)
    go_ret
    exact ⟨rfl, by (repeat' (first | (with_reducible exact Below.refl _ _) | (with_reducible refine bl_alloc ?_ _) | (with_reducible refine bl_drewN ?_ _) | (with_reducible refine bl_drew ?_) | (with_reducible assumption) | (with_reducible refine bl_to ?_ (by assumption)) | (with_reducible refine Below.trans ?_ (by assumption)) | (with_reducible refine Below.trans ?_ (Below.mono (by assumption) ?_)) | (with_reducible refine bl_set ?_ ?_ _) | (simp; done) | (simp; omega) | omega))⟩
end Go.Proofs.Ytoijjjaodfincaa
