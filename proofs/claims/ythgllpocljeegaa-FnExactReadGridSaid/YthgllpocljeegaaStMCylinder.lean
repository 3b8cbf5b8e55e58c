/- Cylinder: the helpers of the laws (mark, look again); lengths up to 2^20. -/
import Derived.Test.YthgllpocljeegaaStCylinder
import Derived.Test.YthgllpocljeegaaMarkPin
namespace Go.Proofs.Ythgllpocljeegaa
open Go.RowKit

theorem markCylinder_any (lo : Nat) (st tr : Int) (v : Value) (l : List (Int × Int)) (k0 : Int) (w : World) (h1 : w.ownsRow lo 45 2 v l.length (cP l)) (hl : l.length ≤ 1048576) (hk0 : 0 ≤ k0) (hk1 : k0 ≤ 1000000000) :
    Calls Try.prog 11 #[.agg #[.int .i64 st, .int .i64 tr, v], .int .i64 k0] w fun e w' => e = .returned (.int .i64 (k0 + 2 * l.length)) ∧ w'.ownsRow lo 45 2 v l.length (cP (upP k0 l.length)) ∧ w.grownBy w' v.ownBlock := by
  go_enter Try.func11, Try.ntmps11
  go_wp2_with (go_at_call 25; refine (markPinS_any lo _ l _ _ (h1.alloc _) hl hk0 hk1).mono ?_; rintro e w1 ⟨rfl, ow1, g1⟩)
  go_ret
  exact ⟨rfl, ow1, ⟨g1.os, g1.tape, g1.output, Nat.le_trans (by simp) g1.size, fun i hi hn => (g1.block i (by simp; omega) hn).trans (Below.heap_alloc _ _ _ hi)⟩⟩
theorem heldCylinder_any (st tr : Int) (v : Value) (cnt : Nat) (k0 : Int) (w : World) (h1 : Rd w 2 v cnt (cP (upP k0 cnt))) (hl : cnt ≤ 1048576) (hk0 : 0 ≤ k0) (hk1 : k0 ≤ 1000000000) :
    Calls Try.prog 18 #[.agg #[.int .i64 st, .int .i64 tr, v], .int .i64 k0] w fun e w' => e = .returned (.int .i64 (k0 + 2 * cnt)) ∧ Below w.heap.size w w' := by
  go_enter Try.func18, Try.ntmps18
  go_wp2_with (go_at_call 30; refine (heldPinS_any _ cnt _ _ (h1.bl (by (repeat' (first | (with_reducible exact Below.refl _ _) | (with_reducible refine bl_alloc ?_ _) | (with_reducible refine bl_drewN ?_ _) | (with_reducible refine bl_drew ?_) | (with_reducible assumption) | (with_reducible refine bl_to ?_ (by assumption)) | (with_reducible refine Below.trans ?_ (by assumption)) | (with_reducible refine Below.trans ?_ (Below.mono (by assumption) ?_)) | (with_reducible refine bl_set ?_ ?_ _) | (simp; done) | (simp; omega) | omega)))) hl hk0 hk1).mono ?_; rintro e w' ⟨rfl, rfl⟩)
  go_ret
  exact ⟨rfl, by (repeat' (first | (with_reducible exact Below.refl _ _) | (with_reducible refine bl_alloc ?_ _) | (with_reducible refine bl_drewN ?_ _) | (with_reducible refine bl_drew ?_) | (with_reducible assumption) | (with_reducible refine bl_to ?_ (by assumption)) | (with_reducible refine Below.trans ?_ (by assumption)) | (with_reducible refine Below.trans ?_ (Below.mono (by assumption) ?_)) | (with_reducible refine bl_set ?_ ?_ _) | (simp; done) | (simp; omega) | omega))⟩
end Go.Proofs.Ythgllpocljeegaa
