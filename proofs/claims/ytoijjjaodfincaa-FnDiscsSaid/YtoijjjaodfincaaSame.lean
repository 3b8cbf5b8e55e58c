/- The law's comparison of two slices of ints: two equal ones. Lengths up to 2^20. -/
import Derived.Test.YtoijjjaodfincaaData
namespace Go.Proofs.Ytoijjjaodfincaa
open Go.RowKit

set_option maxHeartbeats 400000 in
theorem sameL_any (v1 v2 : Value) (l : List Int) (w : World) (h1 : RdI w v1 l) (h2 : RdI w v2 l) (hl : l.length ≤ 1048576) :
    Calls Try.prog 52 #[v1, v2] w fun e w' => e = .returned (.bool true) ∧ Below w.heap.size w w' := by
  obtain ⟨A1, c1, rfl, _, _⟩ := h1.form
  obtain ⟨A2, c2, rfl, _, _⟩ := h2.form
  go_enter Try.func52, Try.ntmps52
  go_wp2
  go_loopw [5] (fun i wr => ∃ k : Nat, k ≤ l.length ∧ i = .int .i64 k ∧ Below w.heap.size w wr) (fun i _ => l.length - (intOf i).toNat)
  case atStart => exact ⟨0, Nat.zero_le _, rfl, Below.refl _ _⟩
  case round =>
    obtain ⟨k, hk, rfl, bel⟩ := hrel
    by_cases hlt : k < l.length
    · obtain ⟨b1, o1, rfl, _, q1⟩ := (h1.bl bel).look (by omega)
      obtain ⟨b2, o2, rfl, _, q2⟩ := (h2.bl bel).look (by omega)
      have e1 := q1 k _ (cI_get hlt)
      have e2 := q2 k _ (cI_get hlt)
      clear q1 q2 h1 h2
      have hlt' : (k : Int) < (l.length : Int) := by omega
      go_wp2
      go_quiet (fail)
      go_wp2
      go_roundw
      case rel => exact ⟨k + 1, by omega, by go_num, by (repeat' (first | (with_reducible exact Below.refl _ _) | (with_reducible refine bl_alloc ?_ _) | (with_reducible refine bl_drewN ?_ _) | (with_reducible refine bl_drew ?_) | (with_reducible assumption) | (with_reducible refine bl_to ?_ (by assumption)) | (with_reducible refine Below.trans ?_ (by assumption)) | (with_reducible refine Below.trans ?_ (Below.mono (by assumption) ?_)) | (with_reducible refine bl_set ?_ ?_ _) | (simp; done) | (simp; omega) | omega))⟩
      case measure => simp [intOf]; omega
    · go_wp2
      go_ret
      exact ⟨rfl, bel⟩
end Go.Proofs.Ytoijjjaodfincaa
