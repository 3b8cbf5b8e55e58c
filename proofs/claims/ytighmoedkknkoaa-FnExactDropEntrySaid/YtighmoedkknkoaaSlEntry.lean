/- s[:k] and s[k:] at slices of Entry; no condition. -/
import Derived.Test.YtighmoedkknkoaaStEntry
namespace Go.Proofs.Ytighmoedkknkoaa
open Go.RowKit

theorem size_Entry (wx : World) : (sizeOf 41).run Try.prog wx = .ok 2 wx := by kernel_rfl
theorem run_sl_to (g o n c k : Nat) (hk : k ≤ c) (wx : World) : (Instr.slice 25 (.slice (some ⟨g, o, none⟩) n c) none (some (.int .i64 (k : Int))) none).run Try.prog wx = .ok (.slice (some ⟨g, o, none⟩) k c) wx := by
  have h1 : 0 ≤ (k : Int) ∧ (k : Int) ≤ (c : Int) := by omega
  simp [Instr.slice, run_underlying Try.underlying25, Instr.sliceBounds, Instr.sliceBound, asIntOf, hk, go_sem, size_Entry, Addr.add]
theorem run_sl_from (g o n c k : Nat) (hk : k ≤ n) (hn : n ≤ c) : ∃ X, (∀ wx : World, (Instr.slice 25 (.slice (some ⟨g, o, none⟩) n c) (some (.int .i64 (k : Int))) none none).run Try.prog wx = .ok (.slice (some ⟨g, X, none⟩) (n - k) (c - k)) wx) ∧ (k < n → X = o + k * 2) := by
  by_cases h : c = k
  · refine ⟨o, fun wx => ?_, fun h2 => by omega⟩
    simp [Instr.slice, run_underlying Try.underlying25, Instr.sliceBounds, Instr.sliceBound, asIntOf, hk, go_sem, size_Entry, Addr.add, h]
  · refine ⟨o + k * 2, fun wx => ?_, fun _ => rfl⟩
    simp [Instr.slice, run_underlying Try.underlying25, Instr.sliceBounds, Instr.sliceBound, asIntOf, hk, go_sem, size_Entry, Addr.add, h]
theorem run_sl_none_from (n : Nat) (k : Nat) (hk : k ≤ n) (hn : n = 0) (wx : World) : (Instr.slice 25 (.slice none n 0) (some (.int .i64 (k : Int))) none none).run Try.prog wx = .ok (.slice none (n - k) 0) wx := by
  have h0 : k = 0 := by omega
  subst h0 hn
  simp [Instr.slice, run_underlying Try.underlying25, Instr.sliceBounds, Instr.sliceBound, asIntOf, go_sem, size_Entry]
theorem run_sl_none_to (wx : World) : (Instr.slice 25 (.slice none 0 0) none (some (.int .i64 ((0 : Nat) : Int))) none).run Try.prog wx = .ok (.slice none 0 0) wx := by
  simp [Instr.slice, run_underlying Try.underlying25, Instr.sliceBounds, Instr.sliceBound, asIntOf, go_sem, size_Entry]
end Go.Proofs.Ytighmoedkknkoaa
