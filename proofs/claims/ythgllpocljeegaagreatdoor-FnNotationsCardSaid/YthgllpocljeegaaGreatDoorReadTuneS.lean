/- ReadTune of the reference; lengths up to 2^20; no condition. -/
import Derived.Test.YthgllpocljeegaaGreatDoorReadTune0
import Derived.Test.YthgllpocljeegaaGreatDoorAppNote
import Derived.Test.YthgllpocljeegaaGreatDoorSplitS
namespace Go.Proofs.YthgllpocljeegaaGreatDoor
open Go.RowKit Go.Sort

theorem apart_sp {lo hi : Nat} {vR vW : Value} (hR : ∀ b, vR.ownBlock = some b → lo < b ∧ b < hi) (hW : ∀ b, vW.ownBlock = some b → b = lo ∨ hi ≤ b) : vR.ownBlock = none ∨ vR.ownBlock ≠ vW.ownBlock := by
  cases e : vR.ownBlock with
  | none => exact .inl rfl
  | some b =>
    refine .inr fun he => ?_
    have h1 := hR b e
    have h2 := hW b he.symm
    omega
end Go.Proofs.YthgllpocljeegaaGreatDoor
