/-
  No cell of these rows narrows 'for every input' (looked for: loops, veiled, ifaces, maps, wideKeys, modest, calm, conditions, laid).
  DERIVED. THE GIVEN ROWS OF THIS SEAT. 12 by the template 'for every input the law returns true; each argument reads behind the call as it read before'; 0 by the template 'total and deterministic' (their statements: YtbcmidencifcoaaTotals.lean).
  GIVEN WITH THE SEED: the statements are not yours to turn. If you find one false, say at which input.
  Laid BY PROGRAM, IN A SANDBOX (cutbox-rows.mjs): the forced cells as the released guide's own fill.sh prints them over the translation 232cec68e2f21bb2… (all of the seat's roots in one cut). By AI agents, Wed Nov 11 2026. No macro, syntax, notation, axiom, sorry.
-/
import Derived.Test.YtbcmidencifcoaaChecked
import GoSem.Claim
import GoSem.ClaimJoined
import GoSem.ClaimMapViews
import Derived.JoinedTies
import Derived.KernelRfl
namespace Go.Proofs.Ytbcmidencifcoaa
/- THE CELL 'sum', in the pinned program and in every row, IS THE sha256 OF THE DUMP (.gsa) THAT YtbcmidencifcoaaProg.lean LOADS. Nothing in Lean hashes anything: it is a label: what it is worth is what the hold of that sum in a sandbox is worth. -/
noncomputable def Try.pinned : Pinned := { name := "ytbcmidencifcoaa", sum := "232cec68e2f21bb279a32461a6a817c795f0553a230832f77a7e530a0390807a", checked := Try.checked }
namespace Rows
def none {H : Type} : Left H := { results := [], args := [] }

/-- 'laws.FnExactAirUsed': WHATEVER THE INPUT: true; the input reads as it did. -/
def fnExactAirUsedSpec : ChangeSpec := { name := "fnExactAirUsed", fn := fun _ => fun
  | [d] => { results := [.lit (.bool true)], args := [d] }
  | _ => none }
def fnExactAirUsedRow : OpenClaim := { program := "ytbcmidencifcoaa", sum := "232cec68e2f21bb279a32461a6a817c795f0553a230832f77a7e530a0390807a", func := "loop.example/g03309/laws.FnExactAirUsed", spec := "fnExactAirUsed", apart := false }
def FnExactAirUsedSaid : Prop := fnExactAirUsedRow.holds Try.pinned (OpenSpec.ofChange fnExactAirUsedSpec)

/-- ITS FALSE NEIGHBOUR: 'it returns false'. Refute it at one input. -/
def fnExactAirUsedWrong : ChangeSpec := { name := "fnExactAirUsed", fn := fun _ => fun
  | [d] => { results := [.lit (.bool false)], args := [d] }
  | _ => none }
def FnExactAirUsedWrongFalsely : Prop := fnExactAirUsedRow.holds Try.pinned (OpenSpec.ofChange fnExactAirUsedWrong)

/-- 'laws.FnExactStripOk': WHATEVER THE INPUT: true; the input reads as it did. -/
def fnExactStripOkSpec : ChangeSpec := { name := "fnExactStripOk", fn := fun _ => fun
  | [d] => { results := [.lit (.bool true)], args := [d] }
  | _ => none }
def fnExactStripOkRow : OpenClaim := { program := "ytbcmidencifcoaa", sum := "232cec68e2f21bb279a32461a6a817c795f0553a230832f77a7e530a0390807a", func := "loop.example/g03309/laws.FnExactStripOk", spec := "fnExactStripOk", apart := false }
def FnExactStripOkSaid : Prop := fnExactStripOkRow.holds Try.pinned (OpenSpec.ofChange fnExactStripOkSpec)

/-- ITS FALSE NEIGHBOUR: 'it returns false'. Refute it at one input. -/
def fnExactStripOkWrong : ChangeSpec := { name := "fnExactStripOk", fn := fun _ => fun
  | [d] => { results := [.lit (.bool false)], args := [d] }
  | _ => none }
def FnExactStripOkWrongFalsely : Prop := fnExactStripOkRow.holds Try.pinned (OpenSpec.ofChange fnExactStripOkWrong)

/-- 'laws.FnExactFirstSilence': WHATEVER THE INPUT: true; the input reads as it did. -/
def fnExactFirstSilenceSpec : ChangeSpec := { name := "fnExactFirstSilence", fn := fun _ => fun
  | [d1, d2, d3] => { results := [.lit (.bool true)], args := [d1, d2, d3] }
  | _ => none }
def fnExactFirstSilenceRow : OpenClaim := { program := "ytbcmidencifcoaa", sum := "232cec68e2f21bb279a32461a6a817c795f0553a230832f77a7e530a0390807a", func := "loop.example/g03309/laws.FnExactFirstSilence", spec := "fnExactFirstSilence", apart := false }
def FnExactFirstSilenceSaid : Prop := fnExactFirstSilenceRow.holds Try.pinned (OpenSpec.ofChange fnExactFirstSilenceSpec)

/-- ITS FALSE NEIGHBOUR: 'it returns false'. Refute it at one input. -/
def fnExactFirstSilenceWrong : ChangeSpec := { name := "fnExactFirstSilence", fn := fun _ => fun
  | [d1, d2, d3] => { results := [.lit (.bool false)], args := [d1, d2, d3] }
  | _ => none }
def FnExactFirstSilenceWrongFalsely : Prop := fnExactFirstSilenceRow.holds Try.pinned (OpenSpec.ofChange fnExactFirstSilenceWrong)

/-- 'laws.FnExactHolesIn': WHATEVER THE INPUT: true; the input reads as it did. -/
def fnExactHolesInSpec : ChangeSpec := { name := "fnExactHolesIn", fn := fun _ => fun
  | [d1, d2, d3] => { results := [.lit (.bool true)], args := [d1, d2, d3] }
  | _ => none }
def fnExactHolesInRow : OpenClaim := { program := "ytbcmidencifcoaa", sum := "232cec68e2f21bb279a32461a6a817c795f0553a230832f77a7e530a0390807a", func := "loop.example/g03309/laws.FnExactHolesIn", spec := "fnExactHolesIn", apart := false }
def FnExactHolesInSaid : Prop := fnExactHolesInRow.holds Try.pinned (OpenSpec.ofChange fnExactHolesInSpec)

/-- ITS FALSE NEIGHBOUR: 'it returns false'. Refute it at one input. -/
def fnExactHolesInWrong : ChangeSpec := { name := "fnExactHolesIn", fn := fun _ => fun
  | [d1, d2, d3] => { results := [.lit (.bool false)], args := [d1, d2, d3] }
  | _ => none }
def FnExactHolesInWrongFalsely : Prop := fnExactHolesInRow.holds Try.pinned (OpenSpec.ofChange fnExactHolesInWrong)

/-- 'laws.FnExactLeastRoom': WHATEVER THE INPUT: true; the input reads as it did. -/
def fnExactLeastRoomSpec : ChangeSpec := { name := "fnExactLeastRoom", fn := fun _ => fun
  | [d1, d2] => { results := [.lit (.bool true)], args := [d1, d2] }
  | _ => none }
def fnExactLeastRoomRow : OpenClaim := { program := "ytbcmidencifcoaa", sum := "232cec68e2f21bb279a32461a6a817c795f0553a230832f77a7e530a0390807a", func := "loop.example/g03309/laws.FnExactLeastRoom", spec := "fnExactLeastRoom", apart := false }
def FnExactLeastRoomSaid : Prop := fnExactLeastRoomRow.holds Try.pinned (OpenSpec.ofChange fnExactLeastRoomSpec)

/-- ITS FALSE NEIGHBOUR: 'it returns false'. Refute it at one input. -/
def fnExactLeastRoomWrong : ChangeSpec := { name := "fnExactLeastRoom", fn := fun _ => fun
  | [d1, d2] => { results := [.lit (.bool false)], args := [d1, d2] }
  | _ => none }
def FnExactLeastRoomWrongFalsely : Prop := fnExactLeastRoomRow.holds Try.pinned (OpenSpec.ofChange fnExactLeastRoomWrong)

/-- 'laws.FnExactLeastPump': WHATEVER THE INPUT: true; the input reads as it did. -/
def fnExactLeastPumpSpec : ChangeSpec := { name := "fnExactLeastPump", fn := fun _ => fun
  | [d1, d2] => { results := [.lit (.bool true)], args := [d1, d2] }
  | _ => none }
def fnExactLeastPumpRow : OpenClaim := { program := "ytbcmidencifcoaa", sum := "232cec68e2f21bb279a32461a6a817c795f0553a230832f77a7e530a0390807a", func := "loop.example/g03309/laws.FnExactLeastPump", spec := "fnExactLeastPump", apart := false }
def FnExactLeastPumpSaid : Prop := fnExactLeastPumpRow.holds Try.pinned (OpenSpec.ofChange fnExactLeastPumpSpec)

/-- ITS FALSE NEIGHBOUR: 'it returns false'. Refute it at one input. -/
def fnExactLeastPumpWrong : ChangeSpec := { name := "fnExactLeastPump", fn := fun _ => fun
  | [d1, d2] => { results := [.lit (.bool false)], args := [d1, d2] }
  | _ => none }
def FnExactLeastPumpWrongFalsely : Prop := fnExactLeastPumpRow.holds Try.pinned (OpenSpec.ofChange fnExactLeastPumpWrong)

/-- 'laws.FnBellows': WHATEVER THE INPUT: true; the input reads as it did. -/
def fnBellowsSpec : ChangeSpec := { name := "fnBellows", fn := fun _ => fun
  | [d] => { results := [.lit (.bool true)], args := [d] }
  | _ => none }
def fnBellowsRow : OpenClaim := { program := "ytbcmidencifcoaa", sum := "232cec68e2f21bb279a32461a6a817c795f0553a230832f77a7e530a0390807a", func := "loop.example/g03309/laws.FnBellows", spec := "fnBellows", apart := false }
def FnBellowsSaid : Prop := fnBellowsRow.holds Try.pinned (OpenSpec.ofChange fnBellowsSpec)

/-- ITS FALSE NEIGHBOUR: 'it returns false'. Refute it at one input. -/
def fnBellowsWrong : ChangeSpec := { name := "fnBellows", fn := fun _ => fun
  | [d] => { results := [.lit (.bool false)], args := [d] }
  | _ => none }
def FnBellowsWrongFalsely : Prop := fnBellowsRow.holds Try.pinned (OpenSpec.ofChange fnBellowsWrong)

/-- 'laws.FnExactGlueStrips': WHATEVER THE INPUT: true; the input reads as it did. -/
def fnExactGlueStripsSpec : ChangeSpec := { name := "fnExactGlueStrips", fn := fun _ => fun
  | [d1, d2] => { results := [.lit (.bool true)], args := [d1, d2] }
  | _ => none }
def fnExactGlueStripsRow : OpenClaim := { program := "ytbcmidencifcoaa", sum := "232cec68e2f21bb279a32461a6a817c795f0553a230832f77a7e530a0390807a", func := "loop.example/g03309/laws.FnExactGlueStrips", spec := "fnExactGlueStrips", apart := false }
def FnExactGlueStripsSaid : Prop := fnExactGlueStripsRow.holds Try.pinned (OpenSpec.ofChange fnExactGlueStripsSpec)

/-- ITS FALSE NEIGHBOUR: 'it returns false'. Refute it at one input. -/
def fnExactGlueStripsWrong : ChangeSpec := { name := "fnExactGlueStrips", fn := fun _ => fun
  | [d1, d2] => { results := [.lit (.bool false)], args := [d1, d2] }
  | _ => none }
def FnExactGlueStripsWrongFalsely : Prop := fnExactGlueStripsRow.holds Try.pinned (OpenSpec.ofChange fnExactGlueStripsWrong)

/-- 'laws.FnExactCutStrip': WHATEVER THE INPUT: true; the input reads as it did. -/
def fnExactCutStripSpec : ChangeSpec := { name := "fnExactCutStrip", fn := fun _ => fun
  | [d1, d2] => { results := [.lit (.bool true)], args := [d1, d2] }
  | _ => none }
def fnExactCutStripRow : OpenClaim := { program := "ytbcmidencifcoaa", sum := "232cec68e2f21bb279a32461a6a817c795f0553a230832f77a7e530a0390807a", func := "loop.example/g03309/laws.FnExactCutStrip", spec := "fnExactCutStrip", apart := false }
def FnExactCutStripSaid : Prop := fnExactCutStripRow.holds Try.pinned (OpenSpec.ofChange fnExactCutStripSpec)

/-- ITS FALSE NEIGHBOUR: 'it returns false'. Refute it at one input. -/
def fnExactCutStripWrong : ChangeSpec := { name := "fnExactCutStrip", fn := fun _ => fun
  | [d1, d2] => { results := [.lit (.bool false)], args := [d1, d2] }
  | _ => none }
def FnExactCutStripWrongFalsely : Prop := fnExactCutStripRow.holds Try.pinned (OpenSpec.ofChange fnExactCutStripWrong)

/-- 'laws.FnExactStripOf': WHATEVER THE INPUT: true; the input reads as it did. -/
def fnExactStripOfSpec : ChangeSpec := { name := "fnExactStripOf", fn := fun _ => fun
  | [d1, d2, d3] => { results := [.lit (.bool true)], args := [d1, d2, d3] }
  | _ => none }
def fnExactStripOfRow : OpenClaim := { program := "ytbcmidencifcoaa", sum := "232cec68e2f21bb279a32461a6a817c795f0553a230832f77a7e530a0390807a", func := "loop.example/g03309/laws.FnExactStripOf", spec := "fnExactStripOf", apart := false }
def FnExactStripOfSaid : Prop := fnExactStripOfRow.holds Try.pinned (OpenSpec.ofChange fnExactStripOfSpec)

/-- ITS FALSE NEIGHBOUR: 'it returns false'. Refute it at one input. -/
def fnExactStripOfWrong : ChangeSpec := { name := "fnExactStripOf", fn := fun _ => fun
  | [d1, d2, d3] => { results := [.lit (.bool false)], args := [d1, d2, d3] }
  | _ => none }
def FnExactStripOfWrongFalsely : Prop := fnExactStripOfRow.holds Try.pinned (OpenSpec.ofChange fnExactStripOfWrong)

/-- 'laws.FnExactTurnStrip': WHATEVER THE INPUT: true; the input reads as it did. -/
def fnExactTurnStripSpec : ChangeSpec := { name := "fnExactTurnStrip", fn := fun _ => fun
  | [d] => { results := [.lit (.bool true)], args := [d] }
  | _ => none }
def fnExactTurnStripRow : OpenClaim := { program := "ytbcmidencifcoaa", sum := "232cec68e2f21bb279a32461a6a817c795f0553a230832f77a7e530a0390807a", func := "loop.example/g03309/laws.FnExactTurnStrip", spec := "fnExactTurnStrip", unfollowed := true, recurses := true, apart := false }
def FnExactTurnStripSaid : Prop := fnExactTurnStripRow.holds Try.pinned (OpenSpec.ofChange fnExactTurnStripSpec)

/-- ITS FALSE NEIGHBOUR: 'it returns false'. Refute it at one input. -/
def fnExactTurnStripWrong : ChangeSpec := { name := "fnExactTurnStrip", fn := fun _ => fun
  | [d] => { results := [.lit (.bool false)], args := [d] }
  | _ => none }
def FnExactTurnStripWrongFalsely : Prop := fnExactTurnStripRow.holds Try.pinned (OpenSpec.ofChange fnExactTurnStripWrong)

/-- 'laws.FnStrips': WHATEVER THE INPUT: true; the input reads as it did. -/
def fnStripsSpec : ChangeSpec := { name := "fnStrips", fn := fun _ => fun
  | [d] => { results := [.lit (.bool true)], args := [d] }
  | _ => none }
def fnStripsRow : OpenClaim := { program := "ytbcmidencifcoaa", sum := "232cec68e2f21bb279a32461a6a817c795f0553a230832f77a7e530a0390807a", func := "loop.example/g03309/laws.FnStrips", spec := "fnStrips", unfollowed := true, recurses := true, apart := false }
def FnStripsSaid : Prop := fnStripsRow.holds Try.pinned (OpenSpec.ofChange fnStripsSpec)

/-- ITS FALSE NEIGHBOUR: 'it returns false'. Refute it at one input. -/
def fnStripsWrong : ChangeSpec := { name := "fnStrips", fn := fun _ => fun
  | [d] => { results := [.lit (.bool false)], args := [d] }
  | _ => none }
def FnStripsWrongFalsely : Prop := fnStripsRow.holds Try.pinned (OpenSpec.ofChange fnStripsWrong)

/- THE SECOND FORM. 'bulk': how many values and letters a reading holds, each counted each time it is reached (what is shared counts as often as it is met; a slice's spare places count too). A statement '..UptoSaid' is the law's where the arguments, and the package variables that the reading takes, are together of bulk at most 1048576: NARROWER than '..Said'. Prove '..Said' where nothing that the law and all that it calls make is longer than what came in: it says more and counts as full. Else prove '..UptoSaid'. A law counts once. -/
mutual
def uptoBulk {H : Type} : DataW H → Nat
  | .lit (.string bytes) => bytes.length + 1
  | .lit _ => 1
  | .nil => 1
  | .ptr d => uptoBulk d + 1
  | .slice elems spare => uptoBulkAll elems + uptoBulkAll spare + 1
  | .agg parts => uptoBulkAll parts + 1
  | .iface _ d => uptoBulk d + 1
  | .map entries => uptoBulkEntries entries + 1
  | .held _ => 1
def uptoBulkAll {H : Type} : List (DataW H) → Nat
  | [] => 0
  | d :: r => uptoBulk d + uptoBulkAll r
def uptoBulkEntries {H : Type} : List (Lit × DataW H) → Nat
  | [] => 0
  | x :: r => uptoBulkEntry x + uptoBulkEntries r
def uptoBulkEntry {H : Type} : Lit × DataW H → Nat
  | (.string bytes, d) => bytes.length + uptoBulk d + 1
  | (_, d) => uptoBulk d + 1
 end
def uptoSmall : (H : Type) → List (DataW H) → Bool := fun _ ds => decide (uptoBulkAll ds ≤ 1048576)
def OpenSpec.upto (s : _root_.Go.ChangeSpec) : _root_.Go.OpenSpec := { _root_.Go.OpenSpec.ofChange s with cond := some uptoSmall }

/-- 'laws.FnExactAirUsed', WHERE WHAT IT READS IS OF BULK AT MOST 1048576: true; the input reads as it did. -/
def fnExactAirUsedUptoRow : OpenClaim := { program := "ytbcmidencifcoaa", sum := "232cec68e2f21bb279a32461a6a817c795f0553a230832f77a7e530a0390807a", func := "loop.example/g03309/laws.FnExactAirUsed", spec := "fnExactAirUsed", apart := false, narrowed := true }
def FnExactAirUsedUptoSaid : Prop := fnExactAirUsedUptoRow.holds Try.pinned (OpenSpec.upto fnExactAirUsedSpec)

/-- 'laws.FnExactStripOk', WHERE WHAT IT READS IS OF BULK AT MOST 1048576: true; the input reads as it did. -/
def fnExactStripOkUptoRow : OpenClaim := { program := "ytbcmidencifcoaa", sum := "232cec68e2f21bb279a32461a6a817c795f0553a230832f77a7e530a0390807a", func := "loop.example/g03309/laws.FnExactStripOk", spec := "fnExactStripOk", apart := false, narrowed := true }
def FnExactStripOkUptoSaid : Prop := fnExactStripOkUptoRow.holds Try.pinned (OpenSpec.upto fnExactStripOkSpec)

/-- 'laws.FnExactFirstSilence', WHERE WHAT IT READS IS OF BULK AT MOST 1048576: true; the input reads as it did. -/
def fnExactFirstSilenceUptoRow : OpenClaim := { program := "ytbcmidencifcoaa", sum := "232cec68e2f21bb279a32461a6a817c795f0553a230832f77a7e530a0390807a", func := "loop.example/g03309/laws.FnExactFirstSilence", spec := "fnExactFirstSilence", apart := false, narrowed := true }
def FnExactFirstSilenceUptoSaid : Prop := fnExactFirstSilenceUptoRow.holds Try.pinned (OpenSpec.upto fnExactFirstSilenceSpec)

/-- 'laws.FnExactHolesIn', WHERE WHAT IT READS IS OF BULK AT MOST 1048576: true; the input reads as it did. -/
def fnExactHolesInUptoRow : OpenClaim := { program := "ytbcmidencifcoaa", sum := "232cec68e2f21bb279a32461a6a817c795f0553a230832f77a7e530a0390807a", func := "loop.example/g03309/laws.FnExactHolesIn", spec := "fnExactHolesIn", apart := false, narrowed := true }
def FnExactHolesInUptoSaid : Prop := fnExactHolesInUptoRow.holds Try.pinned (OpenSpec.upto fnExactHolesInSpec)

/-- 'laws.FnExactLeastRoom', WHERE WHAT IT READS IS OF BULK AT MOST 1048576: true; the input reads as it did. -/
def fnExactLeastRoomUptoRow : OpenClaim := { program := "ytbcmidencifcoaa", sum := "232cec68e2f21bb279a32461a6a817c795f0553a230832f77a7e530a0390807a", func := "loop.example/g03309/laws.FnExactLeastRoom", spec := "fnExactLeastRoom", apart := false, narrowed := true }
def FnExactLeastRoomUptoSaid : Prop := fnExactLeastRoomUptoRow.holds Try.pinned (OpenSpec.upto fnExactLeastRoomSpec)

/-- 'laws.FnExactLeastPump', WHERE WHAT IT READS IS OF BULK AT MOST 1048576: true; the input reads as it did. -/
def fnExactLeastPumpUptoRow : OpenClaim := { program := "ytbcmidencifcoaa", sum := "232cec68e2f21bb279a32461a6a817c795f0553a230832f77a7e530a0390807a", func := "loop.example/g03309/laws.FnExactLeastPump", spec := "fnExactLeastPump", apart := false, narrowed := true }
def FnExactLeastPumpUptoSaid : Prop := fnExactLeastPumpUptoRow.holds Try.pinned (OpenSpec.upto fnExactLeastPumpSpec)

/-- 'laws.FnBellows', WHERE WHAT IT READS IS OF BULK AT MOST 1048576: true; the input reads as it did. -/
def fnBellowsUptoRow : OpenClaim := { program := "ytbcmidencifcoaa", sum := "232cec68e2f21bb279a32461a6a817c795f0553a230832f77a7e530a0390807a", func := "loop.example/g03309/laws.FnBellows", spec := "fnBellows", apart := false, narrowed := true }
def FnBellowsUptoSaid : Prop := fnBellowsUptoRow.holds Try.pinned (OpenSpec.upto fnBellowsSpec)

/-- 'laws.FnExactGlueStrips', WHERE WHAT IT READS IS OF BULK AT MOST 1048576: true; the input reads as it did. -/
def fnExactGlueStripsUptoRow : OpenClaim := { program := "ytbcmidencifcoaa", sum := "232cec68e2f21bb279a32461a6a817c795f0553a230832f77a7e530a0390807a", func := "loop.example/g03309/laws.FnExactGlueStrips", spec := "fnExactGlueStrips", apart := false, narrowed := true }
def FnExactGlueStripsUptoSaid : Prop := fnExactGlueStripsUptoRow.holds Try.pinned (OpenSpec.upto fnExactGlueStripsSpec)

/-- 'laws.FnExactCutStrip', WHERE WHAT IT READS IS OF BULK AT MOST 1048576: true; the input reads as it did. -/
def fnExactCutStripUptoRow : OpenClaim := { program := "ytbcmidencifcoaa", sum := "232cec68e2f21bb279a32461a6a817c795f0553a230832f77a7e530a0390807a", func := "loop.example/g03309/laws.FnExactCutStrip", spec := "fnExactCutStrip", apart := false, narrowed := true }
def FnExactCutStripUptoSaid : Prop := fnExactCutStripUptoRow.holds Try.pinned (OpenSpec.upto fnExactCutStripSpec)

/-- 'laws.FnExactStripOf', WHERE WHAT IT READS IS OF BULK AT MOST 1048576: true; the input reads as it did. -/
def fnExactStripOfUptoRow : OpenClaim := { program := "ytbcmidencifcoaa", sum := "232cec68e2f21bb279a32461a6a817c795f0553a230832f77a7e530a0390807a", func := "loop.example/g03309/laws.FnExactStripOf", spec := "fnExactStripOf", apart := false, narrowed := true }
def FnExactStripOfUptoSaid : Prop := fnExactStripOfUptoRow.holds Try.pinned (OpenSpec.upto fnExactStripOfSpec)

/-- 'laws.FnExactTurnStrip', WHERE WHAT IT READS IS OF BULK AT MOST 1048576: true; the input reads as it did. -/
def fnExactTurnStripUptoRow : OpenClaim := { program := "ytbcmidencifcoaa", sum := "232cec68e2f21bb279a32461a6a817c795f0553a230832f77a7e530a0390807a", func := "loop.example/g03309/laws.FnExactTurnStrip", spec := "fnExactTurnStrip", unfollowed := true, recurses := true, apart := false, narrowed := true }
def FnExactTurnStripUptoSaid : Prop := fnExactTurnStripUptoRow.holds Try.pinned (OpenSpec.upto fnExactTurnStripSpec)

/-- 'laws.FnStrips', WHERE WHAT IT READS IS OF BULK AT MOST 1048576: true; the input reads as it did. -/
def fnStripsUptoRow : OpenClaim := { program := "ytbcmidencifcoaa", sum := "232cec68e2f21bb279a32461a6a817c795f0553a230832f77a7e530a0390807a", func := "loop.example/g03309/laws.FnStrips", spec := "fnStrips", unfollowed := true, recurses := true, apart := false, narrowed := true }
def FnStripsUptoSaid : Prop := fnStripsUptoRow.holds Try.pinned (OpenSpec.upto fnStripsSpec)

end Rows
end Go.Proofs.Ytbcmidencifcoaa
