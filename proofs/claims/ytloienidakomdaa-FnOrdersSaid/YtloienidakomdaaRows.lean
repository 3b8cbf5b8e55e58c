/-
  No cell of these rows narrows 'for every input' (looked for: loops, veiled, ifaces, maps, wideKeys, modest, calm, conditions, laid).
  DERIVED. THE GIVEN ROWS OF THIS SEAT. 6 by the template 'for every input the law returns true; each argument reads behind the call as it read before'; 0 by the template 'total and deterministic' (their statements: YtloienidakomdaaTotals.lean).
  GIVEN WITH THE SEED: the statements are not yours to turn. If you find one false, say at which input.
  Laid BY PROGRAM, IN A SANDBOX (cutbox-rows.mjs): the forced cells as the released guide's own fill.sh prints them over the translation efd63be4ab13fcd4… (all of the seat's roots in one cut). By AI agents, Wed Nov 11 2026. No macro, syntax, notation, axiom, sorry.
-/
import Derived.Test.YtloienidakomdaaChecked
import GoSem.Claim
import GoSem.ClaimJoined
import GoSem.ClaimMapViews
import Derived.JoinedTies
import Derived.KernelRfl
namespace Go.Proofs.Ytloienidakomdaa
/- THE CELL 'sum', in the pinned program and in every row, IS THE sha256 OF THE DUMP (.gsa) THAT YtloienidakomdaaProg.lean LOADS. Nothing in Lean hashes anything: it is a label: what it is worth is what the hold of that sum in a sandbox is worth. -/
noncomputable def Try.pinned : Pinned := { name := "ytloienidakomdaa", sum := "efd63be4ab13fcd44c0c9b15eced53d047002bfef51e3072cefed1fc23ce5934", checked := Try.checked }
namespace Rows
def none {H : Type} : Left H := { results := [], args := [] }

/-- 'laws.FnExactByDue': WHATEVER THE INPUT: true; the input reads as it did. -/
def fnExactByDueSpec : ChangeSpec := { name := "fnExactByDue", fn := fun _ => fun
  | [d] => { results := [.lit (.bool true)], args := [d] }
  | _ => none }
def fnExactByDueRow : OpenClaim := { program := "ytloienidakomdaa", sum := "efd63be4ab13fcd44c0c9b15eced53d047002bfef51e3072cefed1fc23ce5934", func := "loop.example/g03309/laws.FnExactByDue", spec := "fnExactByDue", unfollowed := true, recurses := true, apart := false }
def FnExactByDueSaid : Prop := fnExactByDueRow.holds Try.pinned (OpenSpec.ofChange fnExactByDueSpec)

/-- ITS FALSE NEIGHBOUR: 'it returns false'. Refute it at one input. -/
def fnExactByDueWrong : ChangeSpec := { name := "fnExactByDue", fn := fun _ => fun
  | [d] => { results := [.lit (.bool false)], args := [d] }
  | _ => none }
def FnExactByDueWrongFalsely : Prop := fnExactByDueRow.holds Try.pinned (OpenSpec.ofChange fnExactByDueWrong)

/-- 'laws.FnExactLateJobs': WHATEVER THE INPUT: true; the input reads as it did. -/
def fnExactLateJobsSpec : ChangeSpec := { name := "fnExactLateJobs", fn := fun _ => fun
  | [d1, d2] => { results := [.lit (.bool true)], args := [d1, d2] }
  | _ => none }
def fnExactLateJobsRow : OpenClaim := { program := "ytloienidakomdaa", sum := "efd63be4ab13fcd44c0c9b15eced53d047002bfef51e3072cefed1fc23ce5934", func := "loop.example/g03309/laws.FnExactLateJobs", spec := "fnExactLateJobs", recurses := true, apart := false }
def FnExactLateJobsSaid : Prop := fnExactLateJobsRow.holds Try.pinned (OpenSpec.ofChange fnExactLateJobsSpec)

/-- ITS FALSE NEIGHBOUR: 'it returns false'. Refute it at one input. -/
def fnExactLateJobsWrong : ChangeSpec := { name := "fnExactLateJobs", fn := fun _ => fun
  | [d1, d2] => { results := [.lit (.bool false)], args := [d1, d2] }
  | _ => none }
def FnExactLateJobsWrongFalsely : Prop := fnExactLateJobsRow.holds Try.pinned (OpenSpec.ofChange fnExactLateJobsWrong)

/-- 'laws.FnExactAllInTime': WHATEVER THE INPUT: true; the input reads as it did. -/
def fnExactAllInTimeSpec : ChangeSpec := { name := "fnExactAllInTime", fn := fun _ => fun
  | [d] => { results := [.lit (.bool true)], args := [d] }
  | _ => none }
def fnExactAllInTimeRow : OpenClaim := { program := "ytloienidakomdaa", sum := "efd63be4ab13fcd44c0c9b15eced53d047002bfef51e3072cefed1fc23ce5934", func := "loop.example/g03309/laws.FnExactAllInTime", spec := "fnExactAllInTime", unfollowed := true, recurses := true, apart := false }
def FnExactAllInTimeSaid : Prop := fnExactAllInTimeRow.holds Try.pinned (OpenSpec.ofChange fnExactAllInTimeSpec)

/-- ITS FALSE NEIGHBOUR: 'it returns false'. Refute it at one input. -/
def fnExactAllInTimeWrong : ChangeSpec := { name := "fnExactAllInTime", fn := fun _ => fun
  | [d] => { results := [.lit (.bool false)], args := [d] }
  | _ => none }
def FnExactAllInTimeWrongFalsely : Prop := fnExactAllInTimeRow.holds Try.pinned (OpenSpec.ofChange fnExactAllInTimeWrong)

/-- 'laws.FnExactMostGain': WHATEVER THE INPUT: true; the input reads as it did. -/
def fnExactMostGainSpec : ChangeSpec := { name := "fnExactMostGain", fn := fun _ => fun
  | [d] => { results := [.lit (.bool true)], args := [d] }
  | _ => none }
def fnExactMostGainRow : OpenClaim := { program := "ytloienidakomdaa", sum := "efd63be4ab13fcd44c0c9b15eced53d047002bfef51e3072cefed1fc23ce5934", func := "loop.example/g03309/laws.FnExactMostGain", spec := "fnExactMostGain", unfollowed := true, recurses := true, apart := false }
def FnExactMostGainSaid : Prop := fnExactMostGainRow.holds Try.pinned (OpenSpec.ofChange fnExactMostGainSpec)

/-- ITS FALSE NEIGHBOUR: 'it returns false'. Refute it at one input. -/
def fnExactMostGainWrong : ChangeSpec := { name := "fnExactMostGain", fn := fun _ => fun
  | [d] => { results := [.lit (.bool false)], args := [d] }
  | _ => none }
def FnExactMostGainWrongFalsely : Prop := fnExactMostGainRow.holds Try.pinned (OpenSpec.ofChange fnExactMostGainWrong)

/-- 'laws.FnExactGainList': WHATEVER THE INPUT: true; the input reads as it did. -/
def fnExactGainListSpec : ChangeSpec := { name := "fnExactGainList", fn := fun _ => fun
  | [d] => { results := [.lit (.bool true)], args := [d] }
  | _ => none }
def fnExactGainListRow : OpenClaim := { program := "ytloienidakomdaa", sum := "efd63be4ab13fcd44c0c9b15eced53d047002bfef51e3072cefed1fc23ce5934", func := "loop.example/g03309/laws.FnExactGainList", spec := "fnExactGainList", unfollowed := true, recurses := true, apart := false }
def FnExactGainListSaid : Prop := fnExactGainListRow.holds Try.pinned (OpenSpec.ofChange fnExactGainListSpec)

/-- ITS FALSE NEIGHBOUR: 'it returns false'. Refute it at one input. -/
def fnExactGainListWrong : ChangeSpec := { name := "fnExactGainList", fn := fun _ => fun
  | [d] => { results := [.lit (.bool false)], args := [d] }
  | _ => none }
def FnExactGainListWrongFalsely : Prop := fnExactGainListRow.holds Try.pinned (OpenSpec.ofChange fnExactGainListWrong)

/-- 'laws.FnOrders': WHATEVER THE INPUT: true; the input reads as it did. -/
def fnOrdersSpec : ChangeSpec := { name := "fnOrders", fn := fun _ => fun
  | [d] => { results := [.lit (.bool true)], args := [d] }
  | _ => none }
def fnOrdersRow : OpenClaim := { program := "ytloienidakomdaa", sum := "efd63be4ab13fcd44c0c9b15eced53d047002bfef51e3072cefed1fc23ce5934", func := "loop.example/g03309/laws.FnOrders", spec := "fnOrders", unfollowed := true, recurses := true, apart := false }
def FnOrdersSaid : Prop := fnOrdersRow.holds Try.pinned (OpenSpec.ofChange fnOrdersSpec)

/-- ITS FALSE NEIGHBOUR: 'it returns false'. Refute it at one input. -/
def fnOrdersWrong : ChangeSpec := { name := "fnOrders", fn := fun _ => fun
  | [d] => { results := [.lit (.bool false)], args := [d] }
  | _ => none }
def FnOrdersWrongFalsely : Prop := fnOrdersRow.holds Try.pinned (OpenSpec.ofChange fnOrdersWrong)

/- THE SECOND FORM. 'bulk': how many values and letters a reading holds, each counted each time it is reached (what is shared counts as often as it is met; a slice's spare places count too). A statement '..UptoSaid' is the law's where the arguments, and the package variables that the reading takes, are together of bulk at most 1048576: NARROWER than '..Said'. Prove '..Said' where nothing that the law and all that it calls make is longer than what came in: it says more and counts as full. Else prove '..UptoSaid'. A law counts once. -/
mutual
def uptoBulk {H : Type} : DataW H → Nat
  | .lit (.string bytes) => bytes.length + 1
  | .lit _ => 1
  | .nil => 1
  | .ptr d => uptoBulk d + 1
  | .slice elems spare => uptoBulkAll elems + uptoBulkAll spare + 1
  | .agg parts => uptoBulkAll parts + 1
  | .iface _ d => uptoBulk d + 1
  | .map entries => uptoBulkEntries entries + 1
  | .held _ => 1
def uptoBulkAll {H : Type} : List (DataW H) → Nat
  | [] => 0
  | d :: r => uptoBulk d + uptoBulkAll r
def uptoBulkEntries {H : Type} : List (Lit × DataW H) → Nat
  | [] => 0
  | x :: r => uptoBulkEntry x + uptoBulkEntries r
def uptoBulkEntry {H : Type} : Lit × DataW H → Nat
  | (.string bytes, d) => bytes.length + uptoBulk d + 1
  | (_, d) => uptoBulk d + 1
 end
def uptoSmall : (H : Type) → List (DataW H) → Bool := fun _ ds => decide (uptoBulkAll ds ≤ 1048576)
def OpenSpec.upto (s : _root_.Go.ChangeSpec) : _root_.Go.OpenSpec := { _root_.Go.OpenSpec.ofChange s with cond := some uptoSmall }

/-- 'laws.FnExactByDue', WHERE WHAT IT READS IS OF BULK AT MOST 1048576: true; the input reads as it did. -/
def fnExactByDueUptoRow : OpenClaim := { program := "ytloienidakomdaa", sum := "efd63be4ab13fcd44c0c9b15eced53d047002bfef51e3072cefed1fc23ce5934", func := "loop.example/g03309/laws.FnExactByDue", spec := "fnExactByDue", unfollowed := true, recurses := true, apart := false, narrowed := true }
def FnExactByDueUptoSaid : Prop := fnExactByDueUptoRow.holds Try.pinned (OpenSpec.upto fnExactByDueSpec)

/-- 'laws.FnExactLateJobs', WHERE WHAT IT READS IS OF BULK AT MOST 1048576: true; the input reads as it did. -/
def fnExactLateJobsUptoRow : OpenClaim := { program := "ytloienidakomdaa", sum := "efd63be4ab13fcd44c0c9b15eced53d047002bfef51e3072cefed1fc23ce5934", func := "loop.example/g03309/laws.FnExactLateJobs", spec := "fnExactLateJobs", recurses := true, apart := false, narrowed := true }
def FnExactLateJobsUptoSaid : Prop := fnExactLateJobsUptoRow.holds Try.pinned (OpenSpec.upto fnExactLateJobsSpec)

/-- 'laws.FnExactAllInTime', WHERE WHAT IT READS IS OF BULK AT MOST 1048576: true; the input reads as it did. -/
def fnExactAllInTimeUptoRow : OpenClaim := { program := "ytloienidakomdaa", sum := "efd63be4ab13fcd44c0c9b15eced53d047002bfef51e3072cefed1fc23ce5934", func := "loop.example/g03309/laws.FnExactAllInTime", spec := "fnExactAllInTime", unfollowed := true, recurses := true, apart := false, narrowed := true }
def FnExactAllInTimeUptoSaid : Prop := fnExactAllInTimeUptoRow.holds Try.pinned (OpenSpec.upto fnExactAllInTimeSpec)

/-- 'laws.FnExactMostGain', WHERE WHAT IT READS IS OF BULK AT MOST 1048576: true; the input reads as it did. -/
def fnExactMostGainUptoRow : OpenClaim := { program := "ytloienidakomdaa", sum := "efd63be4ab13fcd44c0c9b15eced53d047002bfef51e3072cefed1fc23ce5934", func := "loop.example/g03309/laws.FnExactMostGain", spec := "fnExactMostGain", unfollowed := true, recurses := true, apart := false, narrowed := true }
def FnExactMostGainUptoSaid : Prop := fnExactMostGainUptoRow.holds Try.pinned (OpenSpec.upto fnExactMostGainSpec)

/-- 'laws.FnExactGainList', WHERE WHAT IT READS IS OF BULK AT MOST 1048576: true; the input reads as it did. -/
def fnExactGainListUptoRow : OpenClaim := { program := "ytloienidakomdaa", sum := "efd63be4ab13fcd44c0c9b15eced53d047002bfef51e3072cefed1fc23ce5934", func := "loop.example/g03309/laws.FnExactGainList", spec := "fnExactGainList", unfollowed := true, recurses := true, apart := false, narrowed := true }
def FnExactGainListUptoSaid : Prop := fnExactGainListUptoRow.holds Try.pinned (OpenSpec.upto fnExactGainListSpec)

/-- 'laws.FnOrders', WHERE WHAT IT READS IS OF BULK AT MOST 1048576: true; the input reads as it did. -/
def fnOrdersUptoRow : OpenClaim := { program := "ytloienidakomdaa", sum := "efd63be4ab13fcd44c0c9b15eced53d047002bfef51e3072cefed1fc23ce5934", func := "loop.example/g03309/laws.FnOrders", spec := "fnOrders", unfollowed := true, recurses := true, apart := false, narrowed := true }
def FnOrdersUptoSaid : Prop := fnOrdersUptoRow.holds Try.pinned (OpenSpec.upto fnOrdersSpec)

end Rows
end Go.Proofs.Ytloienidakomdaa
