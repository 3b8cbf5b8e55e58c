/- Slices of Job: the laws' marks; lengths up to 2^20. -/
import Derived.Test.YtloienidakomdaaRowJob
namespace Go.Proofs.Ytloienidakomdaa
open Go.RowKit

def MarkedJ (lo : Nat) (v : Value) (n : Nat) (q : Int) (w : World) (e : Ending) (w' : World) : Prop :=
  ∃ M : List (Int × Int × Int), M.length = n ∧ e = .returned (.int .i64 q) ∧ w'.ownsRow lo 44 3 v n (cJ M) ∧ w.grownBy w' v.ownBlock
theorem gr_trJ {a b c : World} {g : Option Nat} (h : a.grownBy b g) (k : b.grownBy c g) : a.grownBy c g :=
  ⟨k.os.trans h.os, k.tape.trans h.tape, k.output.trans h.output, Nat.le_trans h.size k.size, fun i hi hn => (k.block i (Nat.lt_of_lt_of_le hi h.size) hn).trans (h.block i hi hn)⟩
set_option maxHeartbeats 1600000 in
set_option maxRecDepth 100000 in
theorem markJobS_any (lo : Nat) (v : Value) (l : List (Int × Int × Int)) (k0 : Int) (w : World) (h1 : w.ownsRow lo 44 3 v l.length (cJ l)) (hl : l.length ≤ 1048576) (hk0 : 0 ≤ k0) (hk1 : k0 ≤ 1000000000) :
    Calls Try.prog 15 #[v, .int .i64 k0] w (MarkedJ lo v l.length (k0 + 3 * l.length) w) := by
  obtain ⟨A1, c1, rfl⟩ := own_form h1
  go_enter Try.func15, Try.ntmps15
  go_wp2
  go_loopw [1, 5] (fun q i wr => ∃ (k : Nat) (M : List (Int × Int × Int)), M.length = l.length ∧ k ≤ l.length ∧ i = .int .i64 k ∧ q = .int .i64 (k0 + 3 * k) ∧ w.grownBy wr (Value.slice A1 l.length c1).ownBlock ∧ wr.ownsRow lo 44 3 (.slice A1 l.length c1) l.length (cJ M)) (fun _ i _ => l.length - (intOf i).toNat)
  case atStart => exact ⟨0, l, rfl, Nat.zero_le _, rfl, by simp, World.grownBy.refl _ _, h1⟩
  case round =>
    obtain ⟨k, M, hM, hk, rfl, rfl, bel, ow⟩ := hrel
    by_cases hlt : k < l.length
    · obtain ⟨b, o, rfl, hb, _⟩ := (Rd.of_own h1).look (by omega)
      obtain rfl : o = 0 := by
        rcases h1.2 with ⟨h, _⟩ | ⟨g, _, _, h, _⟩
        · simp at h
        · simp at h; exact h.1.2
      have HM := Lib.hid hM
      clear hM
      have e0 : wr.cell? ⟨b, k * 3, none⟩ = some (.int .i64 (gJ M k).1) := (ow.cellAt _ (by omega)).trans (cJ_get0 (by rw [HM.out]; exact hlt))
      have e1 : wr.cell? ⟨b, k * 3 + 1, none⟩ = some (.int .i64 (gJ M k).2.1) := (ow.cellAt _ (by omega)).trans (cJ_get1 (by rw [HM.out]; exact hlt))
      have e2 : wr.cell? ⟨b, k * 3 + 2, none⟩ = some (.int .i64 (gJ M k).2.2) := (ow.cellAt _ (by omega)).trans (cJ_get2 (by rw [HM.out]; exact hlt))
      have f0 := ow.frozenAt (k * 3)
      have f1 := ow.frozenAt (k * 3 + 1)
      have f2 := ow.frozenAt (k * 3 + 2)
      have st0 := ow.stored (k * 3) (.int .i64 (k0 + 3 * k))
      have st1 := st0.1.stored (k * 3 + 1) (.int .i64 (k0 + 3 * k + 1))
      have st2 := st1.1.stored (k * 3 + 2) (.int .i64 (k0 + 3 * k + 1 + 1))
      have ow' := st2.1
      rw [cJ_set M k (k0 + 3 * k, k0 + 3 * k + 1, k0 + 3 * k + 1 + 1) (by rw [HM.out]; exact hlt)] at ow'
      have gr' := gr_trJ bel (gr_trJ st0.2 (gr_trJ st1.2 st2.2))
      clear st0 st1 st2 ow bel
      have hlt' : (k : Int) < (l.length : Int) := by omega
      clear h1
      go_wp2
      go_roundw
      case rel => exact ⟨k + 1, M.set k (k0 + 3 * k, k0 + 3 * k + 1, k0 + 3 * k + 1 + 1), by rw [List.length_set]; exact HM.out, by omega, by go_num, by go_num, gr', ow'⟩
      case measure => simp [intOf]; omega
    · have e : k = l.length := by omega
      go_wp2
      go_ret
      exact ⟨M, hM, ret_int (by first | rfl | rw [e]), ow, bel⟩
end Go.Proofs.Ytloienidakomdaa
