/-
  No cell of these rows narrows 'for every input' (looked for: loops, veiled, ifaces, maps, wideKeys, modest, calm, conditions, laid).
  DERIVED. THE GIVEN ROWS OF THIS SEAT. 13 by the template 'for every input the law returns true; each argument reads behind the call as it read before'; 0 by the template 'total and deterministic' (their statements: YtoijjjaodfincaaTotals.lean).
  GIVEN WITH THE SEED: the statements are not yours to turn. If you find one false, say at which input.
  Laid BY PROGRAM, IN A SANDBOX (cutbox-rows.mjs): the forced cells as the released guide's own fill.sh prints them over the translation c969811335e37059… (all of the seat's roots in one cut). By AI agents, Wed Nov 11 2026. No macro, syntax, notation, axiom, sorry.
-/
import Derived.Test.YtoijjjaodfincaaChecked
import GoSem.Claim
import GoSem.ClaimJoined
import GoSem.ClaimMapViews
import Derived.JoinedTies
import Derived.KernelRfl
namespace Go.Proofs.Ytoijjjaodfincaa
/- THE CELL 'sum', in the pinned program and in every row, IS THE sha256 OF THE DUMP (.gsa) THAT YtoijjjaodfincaaProg.lean LOADS. Nothing in Lean hashes anything: it is a label: what it is worth is what the hold of that sum in a sandbox is worth. -/
noncomputable def Try.pinned : Pinned := { name := "ytoijjjaodfincaa", sum := "c969811335e37059a15913a8f1596c6c2b593050fac93da07821f99c0c07c348", checked := Try.checked }
namespace Rows
def none {H : Type} : Left H := { results := [], args := [] }

/-- 'laws.FnExactDiscOk': WHATEVER THE INPUT: true; the input reads as it did. -/
def fnExactDiscOkSpec : ChangeSpec := { name := "fnExactDiscOk", fn := fun _ => fun
  | [d] => { results := [.lit (.bool true)], args := [d] }
  | _ => none }
def fnExactDiscOkRow : OpenClaim := { program := "ytoijjjaodfincaa", sum := "c969811335e37059a15913a8f1596c6c2b593050fac93da07821f99c0c07c348", func := "loop.example/g03309/laws.FnExactDiscOk", spec := "fnExactDiscOk", apart := false }
def FnExactDiscOkSaid : Prop := fnExactDiscOkRow.holds Try.pinned (OpenSpec.ofChange fnExactDiscOkSpec)

/-- ITS FALSE NEIGHBOUR: 'it returns false'. Refute it at one input. -/
def fnExactDiscOkWrong : ChangeSpec := { name := "fnExactDiscOk", fn := fun _ => fun
  | [d] => { results := [.lit (.bool false)], args := [d] }
  | _ => none }
def FnExactDiscOkWrongFalsely : Prop := fnExactDiscOkRow.holds Try.pinned (OpenSpec.ofChange fnExactDiscOkWrong)

/-- 'laws.FnExactTurnDisc': WHATEVER THE INPUT: true; the input reads as it did. -/
def fnExactTurnDiscSpec : ChangeSpec := { name := "fnExactTurnDisc", fn := fun _ => fun
  | [d1, d2] => { results := [.lit (.bool true)], args := [d1, d2] }
  | _ => none }
def fnExactTurnDiscRow : OpenClaim := { program := "ytoijjjaodfincaa", sum := "c969811335e37059a15913a8f1596c6c2b593050fac93da07821f99c0c07c348", func := "loop.example/g03309/laws.FnExactTurnDisc", spec := "fnExactTurnDisc", apart := false }
def FnExactTurnDiscSaid : Prop := fnExactTurnDiscRow.holds Try.pinned (OpenSpec.ofChange fnExactTurnDiscSpec)

/-- ITS FALSE NEIGHBOUR: 'it returns false'. Refute it at one input. -/
def fnExactTurnDiscWrong : ChangeSpec := { name := "fnExactTurnDisc", fn := fun _ => fun
  | [d1, d2] => { results := [.lit (.bool false)], args := [d1, d2] }
  | _ => none }
def FnExactTurnDiscWrongFalsely : Prop := fnExactTurnDiscRow.holds Try.pinned (OpenSpec.ofChange fnExactTurnDiscWrong)

/-- 'laws.FnExactFlipDisc': WHATEVER THE INPUT: true; the input reads as it did. -/
def fnExactFlipDiscSpec : ChangeSpec := { name := "fnExactFlipDisc", fn := fun _ => fun
  | [d] => { results := [.lit (.bool true)], args := [d] }
  | _ => none }
def fnExactFlipDiscRow : OpenClaim := { program := "ytoijjjaodfincaa", sum := "c969811335e37059a15913a8f1596c6c2b593050fac93da07821f99c0c07c348", func := "loop.example/g03309/laws.FnExactFlipDisc", spec := "fnExactFlipDisc", apart := false }
def FnExactFlipDiscSaid : Prop := fnExactFlipDiscRow.holds Try.pinned (OpenSpec.ofChange fnExactFlipDiscSpec)

/-- ITS FALSE NEIGHBOUR: 'it returns false'. Refute it at one input. -/
def fnExactFlipDiscWrong : ChangeSpec := { name := "fnExactFlipDisc", fn := fun _ => fun
  | [d] => { results := [.lit (.bool false)], args := [d] }
  | _ => none }
def FnExactFlipDiscWrongFalsely : Prop := fnExactFlipDiscRow.holds Try.pinned (OpenSpec.ofChange fnExactFlipDiscWrong)

/-- 'laws.FnExactIsSafe': WHATEVER THE INPUT: true; the input reads as it did. -/
def fnExactIsSafeSpec : ChangeSpec := { name := "fnExactIsSafe", fn := fun _ => fun
  | [d1, d2] => { results := [.lit (.bool true)], args := [d1, d2] }
  | _ => none }
def fnExactIsSafeRow : OpenClaim := { program := "ytoijjjaodfincaa", sum := "c969811335e37059a15913a8f1596c6c2b593050fac93da07821f99c0c07c348", func := "loop.example/g03309/laws.FnExactIsSafe", spec := "fnExactIsSafe", apart := false }
def FnExactIsSafeSaid : Prop := fnExactIsSafeRow.holds Try.pinned (OpenSpec.ofChange fnExactIsSafeSpec)

/-- ITS FALSE NEIGHBOUR: 'it returns false'. Refute it at one input. -/
def fnExactIsSafeWrong : ChangeSpec := { name := "fnExactIsSafe", fn := fun _ => fun
  | [d1, d2] => { results := [.lit (.bool false)], args := [d1, d2] }
  | _ => none }
def FnExactIsSafeWrongFalsely : Prop := fnExactIsSafeRow.holds Try.pinned (OpenSpec.ofChange fnExactIsSafeWrong)

/-- 'laws.FnExactCountSlots': WHATEVER THE INPUT: true; the input reads as it did. -/
def fnExactCountSlotsSpec : ChangeSpec := { name := "fnExactCountSlots", fn := fun _ => fun
  | [d] => { results := [.lit (.bool true)], args := [d] }
  | _ => none }
def fnExactCountSlotsRow : OpenClaim := { program := "ytoijjjaodfincaa", sum := "c969811335e37059a15913a8f1596c6c2b593050fac93da07821f99c0c07c348", func := "loop.example/g03309/laws.FnExactCountSlots", spec := "fnExactCountSlots", apart := false }
def FnExactCountSlotsSaid : Prop := fnExactCountSlotsRow.holds Try.pinned (OpenSpec.ofChange fnExactCountSlotsSpec)

/-- ITS FALSE NEIGHBOUR: 'it returns false'. Refute it at one input. -/
def fnExactCountSlotsWrong : ChangeSpec := { name := "fnExactCountSlots", fn := fun _ => fun
  | [d] => { results := [.lit (.bool false)], args := [d] }
  | _ => none }
def FnExactCountSlotsWrongFalsely : Prop := fnExactCountSlotsRow.holds Try.pinned (OpenSpec.ofChange fnExactCountSlotsWrong)

/-- 'laws.FnExactTurnsLeft': WHATEVER THE INPUT: true; the input reads as it did. -/
def fnExactTurnsLeftSpec : ChangeSpec := { name := "fnExactTurnsLeft", fn := fun _ => fun
  | [d1, d2] => { results := [.lit (.bool true)], args := [d1, d2] }
  | _ => none }
def fnExactTurnsLeftRow : OpenClaim := { program := "ytoijjjaodfincaa", sum := "c969811335e37059a15913a8f1596c6c2b593050fac93da07821f99c0c07c348", func := "loop.example/g03309/laws.FnExactTurnsLeft", spec := "fnExactTurnsLeft", apart := false }
def FnExactTurnsLeftSaid : Prop := fnExactTurnsLeftRow.holds Try.pinned (OpenSpec.ofChange fnExactTurnsLeftSpec)

/-- ITS FALSE NEIGHBOUR: 'it returns false'. Refute it at one input. -/
def fnExactTurnsLeftWrong : ChangeSpec := { name := "fnExactTurnsLeft", fn := fun _ => fun
  | [d1, d2] => { results := [.lit (.bool false)], args := [d1, d2] }
  | _ => none }
def FnExactTurnsLeftWrongFalsely : Prop := fnExactTurnsLeftRow.holds Try.pinned (OpenSpec.ofChange fnExactTurnsLeftWrong)

/-- 'laws.FnExactRenewed': WHATEVER THE INPUT: true; the input reads as it did. -/
def fnExactRenewedSpec : ChangeSpec := { name := "fnExactRenewed", fn := fun _ => fun
  | [d1, d2, d3] => { results := [.lit (.bool true)], args := [d1, d2, d3] }
  | _ => none }
def fnExactRenewedRow : OpenClaim := { program := "ytoijjjaodfincaa", sum := "c969811335e37059a15913a8f1596c6c2b593050fac93da07821f99c0c07c348", func := "loop.example/g03309/laws.FnExactRenewed", spec := "fnExactRenewed", apart := false }
def FnExactRenewedSaid : Prop := fnExactRenewedRow.holds Try.pinned (OpenSpec.ofChange fnExactRenewedSpec)

/-- ITS FALSE NEIGHBOUR: 'it returns false'. Refute it at one input. -/
def fnExactRenewedWrong : ChangeSpec := { name := "fnExactRenewed", fn := fun _ => fun
  | [d1, d2, d3] => { results := [.lit (.bool false)], args := [d1, d2, d3] }
  | _ => none }
def FnExactRenewedWrongFalsely : Prop := fnExactRenewedRow.holds Try.pinned (OpenSpec.ofChange fnExactRenewedWrong)

/-- 'laws.FnExactFindSwap': WHATEVER THE INPUT: true; the input reads as it did. -/
def fnExactFindSwapSpec : ChangeSpec := { name := "fnExactFindSwap", fn := fun _ => fun
  | [d] => { results := [.lit (.bool true)], args := [d] }
  | _ => none }
def fnExactFindSwapRow : OpenClaim := { program := "ytoijjjaodfincaa", sum := "c969811335e37059a15913a8f1596c6c2b593050fac93da07821f99c0c07c348", func := "loop.example/g03309/laws.FnExactFindSwap", spec := "fnExactFindSwap", apart := false }
def FnExactFindSwapSaid : Prop := fnExactFindSwapRow.holds Try.pinned (OpenSpec.ofChange fnExactFindSwapSpec)

/-- ITS FALSE NEIGHBOUR: 'it returns false'. Refute it at one input. -/
def fnExactFindSwapWrong : ChangeSpec := { name := "fnExactFindSwap", fn := fun _ => fun
  | [d] => { results := [.lit (.bool false)], args := [d] }
  | _ => none }
def FnExactFindSwapWrongFalsely : Prop := fnExactFindSwapRow.holds Try.pinned (OpenSpec.ofChange fnExactFindSwapWrong)

/-- 'laws.FnWears': WHATEVER THE INPUT: true; the input reads as it did. -/
def fnWearsSpec : ChangeSpec := { name := "fnWears", fn := fun _ => fun
  | [d] => { results := [.lit (.bool true)], args := [d] }
  | _ => none }
def fnWearsRow : OpenClaim := { program := "ytoijjjaodfincaa", sum := "c969811335e37059a15913a8f1596c6c2b593050fac93da07821f99c0c07c348", func := "loop.example/g03309/laws.FnWears", spec := "fnWears", apart := false }
def FnWearsSaid : Prop := fnWearsRow.holds Try.pinned (OpenSpec.ofChange fnWearsSpec)

/-- ITS FALSE NEIGHBOUR: 'it returns false'. Refute it at one input. -/
def fnWearsWrong : ChangeSpec := { name := "fnWears", fn := fun _ => fun
  | [d] => { results := [.lit (.bool false)], args := [d] }
  | _ => none }
def FnWearsWrongFalsely : Prop := fnWearsRow.holds Try.pinned (OpenSpec.ofChange fnWearsWrong)

/-- 'laws.FnDiscs': WHATEVER THE INPUT: true; the input reads as it did. -/
def fnDiscsSpec : ChangeSpec := { name := "fnDiscs", fn := fun _ => fun
  | [d] => { results := [.lit (.bool true)], args := [d] }
  | _ => none }
def fnDiscsRow : OpenClaim := { program := "ytoijjjaodfincaa", sum := "c969811335e37059a15913a8f1596c6c2b593050fac93da07821f99c0c07c348", func := "loop.example/g03309/laws.FnDiscs", spec := "fnDiscs", apart := false }
def FnDiscsSaid : Prop := fnDiscsRow.holds Try.pinned (OpenSpec.ofChange fnDiscsSpec)

/-- ITS FALSE NEIGHBOUR: 'it returns false'. Refute it at one input. -/
def fnDiscsWrong : ChangeSpec := { name := "fnDiscs", fn := fun _ => fun
  | [d] => { results := [.lit (.bool false)], args := [d] }
  | _ => none }
def FnDiscsWrongFalsely : Prop := fnDiscsRow.holds Try.pinned (OpenSpec.ofChange fnDiscsWrong)

/-- 'laws.FnExactDiscOf': WHATEVER THE INPUT: true; the input reads as it did. -/
def fnExactDiscOfSpec : ChangeSpec := { name := "fnExactDiscOf", fn := fun _ => fun
  | [d] => { results := [.lit (.bool true)], args := [d] }
  | _ => none }
def fnExactDiscOfRow : OpenClaim := { program := "ytoijjjaodfincaa", sum := "c969811335e37059a15913a8f1596c6c2b593050fac93da07821f99c0c07c348", func := "loop.example/g03309/laws.FnExactDiscOf", spec := "fnExactDiscOf", apart := false }
def FnExactDiscOfSaid : Prop := fnExactDiscOfRow.holds Try.pinned (OpenSpec.ofChange fnExactDiscOfSpec)

/-- ITS FALSE NEIGHBOUR: 'it returns false'. Refute it at one input. -/
def fnExactDiscOfWrong : ChangeSpec := { name := "fnExactDiscOf", fn := fun _ => fun
  | [d] => { results := [.lit (.bool false)], args := [d] }
  | _ => none }
def FnExactDiscOfWrongFalsely : Prop := fnExactDiscOfRow.holds Try.pinned (OpenSpec.ofChange fnExactDiscOfWrong)

/-- 'laws.FnExactCylinderOfDisc': WHATEVER THE INPUT: true; the input reads as it did. -/
def fnExactCylinderOfDiscSpec : ChangeSpec := { name := "fnExactCylinderOfDisc", fn := fun _ => fun
  | [d] => { results := [.lit (.bool true)], args := [d] }
  | _ => none }
def fnExactCylinderOfDiscRow : OpenClaim := { program := "ytoijjjaodfincaa", sum := "c969811335e37059a15913a8f1596c6c2b593050fac93da07821f99c0c07c348", func := "loop.example/g03309/laws.FnExactCylinderOfDisc", spec := "fnExactCylinderOfDisc", apart := false }
def FnExactCylinderOfDiscSaid : Prop := fnExactCylinderOfDiscRow.holds Try.pinned (OpenSpec.ofChange fnExactCylinderOfDiscSpec)

/-- ITS FALSE NEIGHBOUR: 'it returns false'. Refute it at one input. -/
def fnExactCylinderOfDiscWrong : ChangeSpec := { name := "fnExactCylinderOfDisc", fn := fun _ => fun
  | [d] => { results := [.lit (.bool false)], args := [d] }
  | _ => none }
def FnExactCylinderOfDiscWrongFalsely : Prop := fnExactCylinderOfDiscRow.holds Try.pinned (OpenSpec.ofChange fnExactCylinderOfDiscWrong)

/-- 'laws.FnExactWithoutSilent': WHATEVER THE INPUT: true; the input reads as it did. -/
def fnExactWithoutSilentSpec : ChangeSpec := { name := "fnExactWithoutSilent", fn := fun _ => fun
  | [d1, d2, d3] => { results := [.lit (.bool true)], args := [d1, d2, d3] }
  | _ => none }
def fnExactWithoutSilentRow : OpenClaim := { program := "ytoijjjaodfincaa", sum := "c969811335e37059a15913a8f1596c6c2b593050fac93da07821f99c0c07c348", func := "loop.example/g03309/laws.FnExactWithoutSilent", spec := "fnExactWithoutSilent", apart := false }
def FnExactWithoutSilentSaid : Prop := fnExactWithoutSilentRow.holds Try.pinned (OpenSpec.ofChange fnExactWithoutSilentSpec)

/-- ITS FALSE NEIGHBOUR: 'it returns false'. Refute it at one input. -/
def fnExactWithoutSilentWrong : ChangeSpec := { name := "fnExactWithoutSilent", fn := fun _ => fun
  | [d1, d2, d3] => { results := [.lit (.bool false)], args := [d1, d2, d3] }
  | _ => none }
def FnExactWithoutSilentWrongFalsely : Prop := fnExactWithoutSilentRow.holds Try.pinned (OpenSpec.ofChange fnExactWithoutSilentWrong)

/- THE SECOND FORM. 'bulk': how many values and letters a reading holds, each counted each time it is reached (what is shared counts as often as it is met; a slice's spare places count too). A statement '..UptoSaid' is the law's where the arguments, and the package variables that the reading takes, are together of bulk at most 1048576: NARROWER than '..Said'. Prove '..Said' where nothing that the law and all that it calls make is longer than what came in: it says more and counts as full. Else prove '..UptoSaid'. A law counts once. -/
mutual
def uptoBulk {H : Type} : DataW H → Nat
  | .lit (.string bytes) => bytes.length + 1
  | .lit _ => 1
  | .nil => 1
  | .ptr d => uptoBulk d + 1
  | .slice elems spare => uptoBulkAll elems + uptoBulkAll spare + 1
  | .agg parts => uptoBulkAll parts + 1
  | .iface _ d => uptoBulk d + 1
  | .map entries => uptoBulkEntries entries + 1
  | .held _ => 1
def uptoBulkAll {H : Type} : List (DataW H) → Nat
  | [] => 0
  | d :: r => uptoBulk d + uptoBulkAll r
def uptoBulkEntries {H : Type} : List (Lit × DataW H) → Nat
  | [] => 0
  | x :: r => uptoBulkEntry x + uptoBulkEntries r
def uptoBulkEntry {H : Type} : Lit × DataW H → Nat
  | (.string bytes, d) => bytes.length + uptoBulk d + 1
  | (_, d) => uptoBulk d + 1
 end
def uptoSmall : (H : Type) → List (DataW H) → Bool := fun _ ds => decide (uptoBulkAll ds ≤ 1048576)
def OpenSpec.upto (s : _root_.Go.ChangeSpec) : _root_.Go.OpenSpec := { _root_.Go.OpenSpec.ofChange s with cond := some uptoSmall }

/-- 'laws.FnExactDiscOk', WHERE WHAT IT READS IS OF BULK AT MOST 1048576: true; the input reads as it did. -/
def fnExactDiscOkUptoRow : OpenClaim := { program := "ytoijjjaodfincaa", sum := "c969811335e37059a15913a8f1596c6c2b593050fac93da07821f99c0c07c348", func := "loop.example/g03309/laws.FnExactDiscOk", spec := "fnExactDiscOk", apart := false, narrowed := true }
def FnExactDiscOkUptoSaid : Prop := fnExactDiscOkUptoRow.holds Try.pinned (OpenSpec.upto fnExactDiscOkSpec)

/-- 'laws.FnExactTurnDisc', WHERE WHAT IT READS IS OF BULK AT MOST 1048576: true; the input reads as it did. -/
def fnExactTurnDiscUptoRow : OpenClaim := { program := "ytoijjjaodfincaa", sum := "c969811335e37059a15913a8f1596c6c2b593050fac93da07821f99c0c07c348", func := "loop.example/g03309/laws.FnExactTurnDisc", spec := "fnExactTurnDisc", apart := false, narrowed := true }
def FnExactTurnDiscUptoSaid : Prop := fnExactTurnDiscUptoRow.holds Try.pinned (OpenSpec.upto fnExactTurnDiscSpec)

/-- 'laws.FnExactFlipDisc', WHERE WHAT IT READS IS OF BULK AT MOST 1048576: true; the input reads as it did. -/
def fnExactFlipDiscUptoRow : OpenClaim := { program := "ytoijjjaodfincaa", sum := "c969811335e37059a15913a8f1596c6c2b593050fac93da07821f99c0c07c348", func := "loop.example/g03309/laws.FnExactFlipDisc", spec := "fnExactFlipDisc", apart := false, narrowed := true }
def FnExactFlipDiscUptoSaid : Prop := fnExactFlipDiscUptoRow.holds Try.pinned (OpenSpec.upto fnExactFlipDiscSpec)

/-- 'laws.FnExactIsSafe', WHERE WHAT IT READS IS OF BULK AT MOST 1048576: true; the input reads as it did. -/
def fnExactIsSafeUptoRow : OpenClaim := { program := "ytoijjjaodfincaa", sum := "c969811335e37059a15913a8f1596c6c2b593050fac93da07821f99c0c07c348", func := "loop.example/g03309/laws.FnExactIsSafe", spec := "fnExactIsSafe", apart := false, narrowed := true }
def FnExactIsSafeUptoSaid : Prop := fnExactIsSafeUptoRow.holds Try.pinned (OpenSpec.upto fnExactIsSafeSpec)

/-- 'laws.FnExactCountSlots', WHERE WHAT IT READS IS OF BULK AT MOST 1048576: true; the input reads as it did. -/
def fnExactCountSlotsUptoRow : OpenClaim := { program := "ytoijjjaodfincaa", sum := "c969811335e37059a15913a8f1596c6c2b593050fac93da07821f99c0c07c348", func := "loop.example/g03309/laws.FnExactCountSlots", spec := "fnExactCountSlots", apart := false, narrowed := true }
def FnExactCountSlotsUptoSaid : Prop := fnExactCountSlotsUptoRow.holds Try.pinned (OpenSpec.upto fnExactCountSlotsSpec)

/-- 'laws.FnExactTurnsLeft', WHERE WHAT IT READS IS OF BULK AT MOST 1048576: true; the input reads as it did. -/
def fnExactTurnsLeftUptoRow : OpenClaim := { program := "ytoijjjaodfincaa", sum := "c969811335e37059a15913a8f1596c6c2b593050fac93da07821f99c0c07c348", func := "loop.example/g03309/laws.FnExactTurnsLeft", spec := "fnExactTurnsLeft", apart := false, narrowed := true }
def FnExactTurnsLeftUptoSaid : Prop := fnExactTurnsLeftUptoRow.holds Try.pinned (OpenSpec.upto fnExactTurnsLeftSpec)

/-- 'laws.FnExactRenewed', WHERE WHAT IT READS IS OF BULK AT MOST 1048576: true; the input reads as it did. -/
def fnExactRenewedUptoRow : OpenClaim := { program := "ytoijjjaodfincaa", sum := "c969811335e37059a15913a8f1596c6c2b593050fac93da07821f99c0c07c348", func := "loop.example/g03309/laws.FnExactRenewed", spec := "fnExactRenewed", apart := false, narrowed := true }
def FnExactRenewedUptoSaid : Prop := fnExactRenewedUptoRow.holds Try.pinned (OpenSpec.upto fnExactRenewedSpec)

/-- 'laws.FnExactFindSwap', WHERE WHAT IT READS IS OF BULK AT MOST 1048576: true; the input reads as it did. -/
def fnExactFindSwapUptoRow : OpenClaim := { program := "ytoijjjaodfincaa", sum := "c969811335e37059a15913a8f1596c6c2b593050fac93da07821f99c0c07c348", func := "loop.example/g03309/laws.FnExactFindSwap", spec := "fnExactFindSwap", apart := false, narrowed := true }
def FnExactFindSwapUptoSaid : Prop := fnExactFindSwapUptoRow.holds Try.pinned (OpenSpec.upto fnExactFindSwapSpec)

/-- 'laws.FnWears', WHERE WHAT IT READS IS OF BULK AT MOST 1048576: true; the input reads as it did. -/
def fnWearsUptoRow : OpenClaim := { program := "ytoijjjaodfincaa", sum := "c969811335e37059a15913a8f1596c6c2b593050fac93da07821f99c0c07c348", func := "loop.example/g03309/laws.FnWears", spec := "fnWears", apart := false, narrowed := true }
def FnWearsUptoSaid : Prop := fnWearsUptoRow.holds Try.pinned (OpenSpec.upto fnWearsSpec)

/-- 'laws.FnDiscs', WHERE WHAT IT READS IS OF BULK AT MOST 1048576: true; the input reads as it did. -/
def fnDiscsUptoRow : OpenClaim := { program := "ytoijjjaodfincaa", sum := "c969811335e37059a15913a8f1596c6c2b593050fac93da07821f99c0c07c348", func := "loop.example/g03309/laws.FnDiscs", spec := "fnDiscs", apart := false, narrowed := true }
def FnDiscsUptoSaid : Prop := fnDiscsUptoRow.holds Try.pinned (OpenSpec.upto fnDiscsSpec)

/-- 'laws.FnExactDiscOf', WHERE WHAT IT READS IS OF BULK AT MOST 1048576: true; the input reads as it did. -/
def fnExactDiscOfUptoRow : OpenClaim := { program := "ytoijjjaodfincaa", sum := "c969811335e37059a15913a8f1596c6c2b593050fac93da07821f99c0c07c348", func := "loop.example/g03309/laws.FnExactDiscOf", spec := "fnExactDiscOf", apart := false, narrowed := true }
def FnExactDiscOfUptoSaid : Prop := fnExactDiscOfUptoRow.holds Try.pinned (OpenSpec.upto fnExactDiscOfSpec)

/-- 'laws.FnExactCylinderOfDisc', WHERE WHAT IT READS IS OF BULK AT MOST 1048576: true; the input reads as it did. -/
def fnExactCylinderOfDiscUptoRow : OpenClaim := { program := "ytoijjjaodfincaa", sum := "c969811335e37059a15913a8f1596c6c2b593050fac93da07821f99c0c07c348", func := "loop.example/g03309/laws.FnExactCylinderOfDisc", spec := "fnExactCylinderOfDisc", apart := false, narrowed := true }
def FnExactCylinderOfDiscUptoSaid : Prop := fnExactCylinderOfDiscUptoRow.holds Try.pinned (OpenSpec.upto fnExactCylinderOfDiscSpec)

/-- 'laws.FnExactWithoutSilent', WHERE WHAT IT READS IS OF BULK AT MOST 1048576: true; the input reads as it did. -/
def fnExactWithoutSilentUptoRow : OpenClaim := { program := "ytoijjjaodfincaa", sum := "c969811335e37059a15913a8f1596c6c2b593050fac93da07821f99c0c07c348", func := "loop.example/g03309/laws.FnExactWithoutSilent", spec := "fnExactWithoutSilent", apart := false, narrowed := true }
def FnExactWithoutSilentUptoSaid : Prop := fnExactWithoutSilentUptoRow.holds Try.pinned (OpenSpec.upto fnExactWithoutSilentSpec)

end Rows
end Go.Proofs.Ytoijjjaodfincaa
