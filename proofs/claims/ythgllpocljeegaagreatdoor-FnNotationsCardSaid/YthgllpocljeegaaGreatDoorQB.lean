/- A drawn region of reads and of calls that only lay new blocks: walked once (Derived/Lib/QuietBelow); no condition. -/
import Derived.Test.YthgllpocljeegaaGreatDoorBase
import Derived.Lib.QuietBelow
import Derived.BigQuiet
namespace Go.Proofs.YthgllpocljeegaaGreatDoor
open Go.RowKit Go.Sort

theorem rg_same {P : Program} {f : FuncId} {args : Array Value} {w : World} {d : Nat} {os : Array Obj} {v : Value}
    (h : Calls P f args (grow (redrawn w d) os) fun e w' => e = .returned v ∧ grow (redrawn w d) os = w') : Calls P f args (grow (redrawn w d) os) fun e w'' => e = .returned v ∧ ∃ p : Regrown, w'' = grow (redrawn w p.d) p.os :=
  h.mono fun _ _ ⟨he, hb⟩ => ⟨he, ⟨⟨d, os⟩, hb.symm⟩⟩
theorem rg_below {w w' : World} (h : ∃ p : Regrown, w' = grow (redrawn w p.d) p.os) : Below w.heap.size w w' := by
  obtain ⟨p, rfl⟩ := h
  exact below_regrown w p.d p.os
end Go.Proofs.YthgllpocljeegaaGreatDoor
