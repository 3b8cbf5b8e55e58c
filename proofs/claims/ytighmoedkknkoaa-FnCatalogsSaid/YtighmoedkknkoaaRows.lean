/-
  No cell of these rows narrows 'for every input' (looked for: loops, veiled, ifaces, maps, wideKeys, modest, calm, conditions, laid).
  DERIVED. THE GIVEN ROWS OF THIS SEAT. 6 by the template 'for every input the law returns true; each argument reads behind the call as it read before'; 0 by the template 'total and deterministic' (their statements: YtighmoedkknkoaaTotals.lean).
  GIVEN WITH THE SEED: the statements are not yours to turn. If you find one false, say at which input.
  Laid BY PROGRAM, IN A SANDBOX (cutbox-rows.mjs): the forced cells as the released guide's own fill.sh prints them over the translation 4e91d1cc236572ba… (all of the seat's roots in one cut). By AI agents, Wed Nov 11 2026. No macro, syntax, notation, axiom, sorry.
-/
import Derived.Test.YtighmoedkknkoaaChecked
import GoSem.Claim
import GoSem.ClaimJoined
import GoSem.ClaimMapViews
import Derived.JoinedTies
import Derived.KernelRfl
namespace Go.Proofs.Ytighmoedkknkoaa
/- THE CELL 'sum', in the pinned program and in every row, IS THE sha256 OF THE DUMP (.gsa) THAT YtighmoedkknkoaaProg.lean LOADS. Nothing in Lean hashes anything: it is a label: what it is worth is what the hold of that sum in a sandbox is worth. -/
noncomputable def Try.pinned : Pinned := { name := "ytighmoedkknkoaa", sum := "4e91d1cc236572ba5e6afea9edfd7dac75a5282e96df71622e58f2b8e684bc5b", checked := Try.checked }
namespace Rows
def none {H : Type} : Left H := { results := [], args := [] }

/-- 'laws.FnExactCatalogOk': WHATEVER THE INPUT: true; the input reads as it did. -/
def fnExactCatalogOkSpec : ChangeSpec := { name := "fnExactCatalogOk", fn := fun _ => fun
  | [d] => { results := [.lit (.bool true)], args := [d] }
  | _ => none }
def fnExactCatalogOkRow : OpenClaim := { program := "ytighmoedkknkoaa", sum := "4e91d1cc236572ba5e6afea9edfd7dac75a5282e96df71622e58f2b8e684bc5b", func := "loop.example/g03309/laws.FnExactCatalogOk", spec := "fnExactCatalogOk", apart := false }
def FnExactCatalogOkSaid : Prop := fnExactCatalogOkRow.holds Try.pinned (OpenSpec.ofChange fnExactCatalogOkSpec)

/-- ITS FALSE NEIGHBOUR: 'it returns false'. Refute it at one input. -/
def fnExactCatalogOkWrong : ChangeSpec := { name := "fnExactCatalogOk", fn := fun _ => fun
  | [d] => { results := [.lit (.bool false)], args := [d] }
  | _ => none }
def FnExactCatalogOkWrongFalsely : Prop := fnExactCatalogOkRow.holds Try.pinned (OpenSpec.ofChange fnExactCatalogOkWrong)

/-- 'laws.FnExactFindEntry': WHATEVER THE INPUT: true; the input reads as it did. -/
def fnExactFindEntrySpec : ChangeSpec := { name := "fnExactFindEntry", fn := fun _ => fun
  | [d1, d2] => { results := [.lit (.bool true)], args := [d1, d2] }
  | _ => none }
def fnExactFindEntryRow : OpenClaim := { program := "ytighmoedkknkoaa", sum := "4e91d1cc236572ba5e6afea9edfd7dac75a5282e96df71622e58f2b8e684bc5b", func := "loop.example/g03309/laws.FnExactFindEntry", spec := "fnExactFindEntry", apart := false }
def FnExactFindEntrySaid : Prop := fnExactFindEntryRow.holds Try.pinned (OpenSpec.ofChange fnExactFindEntrySpec)

/-- ITS FALSE NEIGHBOUR: 'it returns false'. Refute it at one input. -/
def fnExactFindEntryWrong : ChangeSpec := { name := "fnExactFindEntry", fn := fun _ => fun
  | [d1, d2] => { results := [.lit (.bool false)], args := [d1, d2] }
  | _ => none }
def FnExactFindEntryWrongFalsely : Prop := fnExactFindEntryRow.holds Try.pinned (OpenSpec.ofChange fnExactFindEntryWrong)

/-- 'laws.FnExactDropEntry': WHATEVER THE INPUT: true; the input reads as it did. -/
def fnExactDropEntrySpec : ChangeSpec := { name := "fnExactDropEntry", fn := fun _ => fun
  | [d1, d2] => { results := [.lit (.bool true)], args := [d1, d2] }
  | _ => none }
def fnExactDropEntryRow : OpenClaim := { program := "ytighmoedkknkoaa", sum := "4e91d1cc236572ba5e6afea9edfd7dac75a5282e96df71622e58f2b8e684bc5b", func := "loop.example/g03309/laws.FnExactDropEntry", spec := "fnExactDropEntry", apart := false }
def FnExactDropEntrySaid : Prop := fnExactDropEntryRow.holds Try.pinned (OpenSpec.ofChange fnExactDropEntrySpec)

/-- ITS FALSE NEIGHBOUR: 'it returns false'. Refute it at one input. -/
def fnExactDropEntryWrong : ChangeSpec := { name := "fnExactDropEntry", fn := fun _ => fun
  | [d1, d2] => { results := [.lit (.bool false)], args := [d1, d2] }
  | _ => none }
def FnExactDropEntryWrongFalsely : Prop := fnExactDropEntryRow.holds Try.pinned (OpenSpec.ofChange fnExactDropEntryWrong)

/-- 'laws.FnExactPutEntry': WHATEVER THE INPUT: true; the input reads as it did. -/
def fnExactPutEntrySpec : ChangeSpec := { name := "fnExactPutEntry", fn := fun _ => fun
  | [d1, d2] => { results := [.lit (.bool true)], args := [d1, d2] }
  | _ => none }
def fnExactPutEntryRow : OpenClaim := { program := "ytighmoedkknkoaa", sum := "4e91d1cc236572ba5e6afea9edfd7dac75a5282e96df71622e58f2b8e684bc5b", func := "loop.example/g03309/laws.FnExactPutEntry", spec := "fnExactPutEntry", apart := false }
def FnExactPutEntrySaid : Prop := fnExactPutEntryRow.holds Try.pinned (OpenSpec.ofChange fnExactPutEntrySpec)

/-- ITS FALSE NEIGHBOUR: 'it returns false'. Refute it at one input. -/
def fnExactPutEntryWrong : ChangeSpec := { name := "fnExactPutEntry", fn := fun _ => fun
  | [d1, d2] => { results := [.lit (.bool false)], args := [d1, d2] }
  | _ => none }
def FnExactPutEntryWrongFalsely : Prop := fnExactPutEntryRow.holds Try.pinned (OpenSpec.ofChange fnExactPutEntryWrong)

/-- 'laws.FnExactSameEntries': WHATEVER THE INPUT: true; the input reads as it did. -/
def fnExactSameEntriesSpec : ChangeSpec := { name := "fnExactSameEntries", fn := fun _ => fun
  | [d] => { results := [.lit (.bool true)], args := [d] }
  | _ => none }
def fnExactSameEntriesRow : OpenClaim := { program := "ytighmoedkknkoaa", sum := "4e91d1cc236572ba5e6afea9edfd7dac75a5282e96df71622e58f2b8e684bc5b", func := "loop.example/g03309/laws.FnExactSameEntries", spec := "fnExactSameEntries", apart := false }
def FnExactSameEntriesSaid : Prop := fnExactSameEntriesRow.holds Try.pinned (OpenSpec.ofChange fnExactSameEntriesSpec)

/-- ITS FALSE NEIGHBOUR: 'it returns false'. Refute it at one input. -/
def fnExactSameEntriesWrong : ChangeSpec := { name := "fnExactSameEntries", fn := fun _ => fun
  | [d] => { results := [.lit (.bool false)], args := [d] }
  | _ => none }
def FnExactSameEntriesWrongFalsely : Prop := fnExactSameEntriesRow.holds Try.pinned (OpenSpec.ofChange fnExactSameEntriesWrong)

/-- 'laws.FnCatalogs': WHATEVER THE INPUT: true; the input reads as it did. -/
def fnCatalogsSpec : ChangeSpec := { name := "fnCatalogs", fn := fun _ => fun
  | [d] => { results := [.lit (.bool true)], args := [d] }
  | _ => none }
def fnCatalogsRow : OpenClaim := { program := "ytighmoedkknkoaa", sum := "4e91d1cc236572ba5e6afea9edfd7dac75a5282e96df71622e58f2b8e684bc5b", func := "loop.example/g03309/laws.FnCatalogs", spec := "fnCatalogs", apart := false }
def FnCatalogsSaid : Prop := fnCatalogsRow.holds Try.pinned (OpenSpec.ofChange fnCatalogsSpec)

/-- ITS FALSE NEIGHBOUR: 'it returns false'. Refute it at one input. -/
def fnCatalogsWrong : ChangeSpec := { name := "fnCatalogs", fn := fun _ => fun
  | [d] => { results := [.lit (.bool false)], args := [d] }
  | _ => none }
def FnCatalogsWrongFalsely : Prop := fnCatalogsRow.holds Try.pinned (OpenSpec.ofChange fnCatalogsWrong)

/- THE SECOND FORM. 'bulk': how many values and letters a reading holds, each counted each time it is reached (what is shared counts as often as it is met; a slice's spare places count too). A statement '..UptoSaid' is the law's where the arguments, and the package variables that the reading takes, are together of bulk at most 1048576: NARROWER than '..Said'. Prove '..Said' where nothing that the law and all that it calls make is longer than what came in: it says more and counts as full. Else prove '..UptoSaid'. A law counts once. -/
mutual
def uptoBulk {H : Type} : DataW H → Nat
  | .lit (.string bytes) => bytes.length + 1
  | .lit _ => 1
  | .nil => 1
  | .ptr d => uptoBulk d + 1
  | .slice elems spare => uptoBulkAll elems + uptoBulkAll spare + 1
  | .agg parts => uptoBulkAll parts + 1
  | .iface _ d => uptoBulk d + 1
  | .map entries => uptoBulkEntries entries + 1
  | .held _ => 1
def uptoBulkAll {H : Type} : List (DataW H) → Nat
  | [] => 0
  | d :: r => uptoBulk d + uptoBulkAll r
def uptoBulkEntries {H : Type} : List (Lit × DataW H) → Nat
  | [] => 0
  | x :: r => uptoBulkEntry x + uptoBulkEntries r
def uptoBulkEntry {H : Type} : Lit × DataW H → Nat
  | (.string bytes, d) => bytes.length + uptoBulk d + 1
  | (_, d) => uptoBulk d + 1
 end
def uptoSmall : (H : Type) → List (DataW H) → Bool := fun _ ds => decide (uptoBulkAll ds ≤ 1048576)
def OpenSpec.upto (s : _root_.Go.ChangeSpec) : _root_.Go.OpenSpec := { _root_.Go.OpenSpec.ofChange s with cond := some uptoSmall }

/-- 'laws.FnExactCatalogOk', WHERE WHAT IT READS IS OF BULK AT MOST 1048576: true; the input reads as it did. -/
def fnExactCatalogOkUptoRow : OpenClaim := { program := "ytighmoedkknkoaa", sum := "4e91d1cc236572ba5e6afea9edfd7dac75a5282e96df71622e58f2b8e684bc5b", func := "loop.example/g03309/laws.FnExactCatalogOk", spec := "fnExactCatalogOk", apart := false, narrowed := true }
def FnExactCatalogOkUptoSaid : Prop := fnExactCatalogOkUptoRow.holds Try.pinned (OpenSpec.upto fnExactCatalogOkSpec)

/-- 'laws.FnExactFindEntry', WHERE WHAT IT READS IS OF BULK AT MOST 1048576: true; the input reads as it did. -/
def fnExactFindEntryUptoRow : OpenClaim := { program := "ytighmoedkknkoaa", sum := "4e91d1cc236572ba5e6afea9edfd7dac75a5282e96df71622e58f2b8e684bc5b", func := "loop.example/g03309/laws.FnExactFindEntry", spec := "fnExactFindEntry", apart := false, narrowed := true }
def FnExactFindEntryUptoSaid : Prop := fnExactFindEntryUptoRow.holds Try.pinned (OpenSpec.upto fnExactFindEntrySpec)

/-- 'laws.FnExactDropEntry', WHERE WHAT IT READS IS OF BULK AT MOST 1048576: true; the input reads as it did. -/
def fnExactDropEntryUptoRow : OpenClaim := { program := "ytighmoedkknkoaa", sum := "4e91d1cc236572ba5e6afea9edfd7dac75a5282e96df71622e58f2b8e684bc5b", func := "loop.example/g03309/laws.FnExactDropEntry", spec := "fnExactDropEntry", apart := false, narrowed := true }
def FnExactDropEntryUptoSaid : Prop := fnExactDropEntryUptoRow.holds Try.pinned (OpenSpec.upto fnExactDropEntrySpec)

/-- 'laws.FnExactPutEntry', WHERE WHAT IT READS IS OF BULK AT MOST 1048576: true; the input reads as it did. -/
def fnExactPutEntryUptoRow : OpenClaim := { program := "ytighmoedkknkoaa", sum := "4e91d1cc236572ba5e6afea9edfd7dac75a5282e96df71622e58f2b8e684bc5b", func := "loop.example/g03309/laws.FnExactPutEntry", spec := "fnExactPutEntry", apart := false, narrowed := true }
def FnExactPutEntryUptoSaid : Prop := fnExactPutEntryUptoRow.holds Try.pinned (OpenSpec.upto fnExactPutEntrySpec)

/-- 'laws.FnExactSameEntries', WHERE WHAT IT READS IS OF BULK AT MOST 1048576: true; the input reads as it did. -/
def fnExactSameEntriesUptoRow : OpenClaim := { program := "ytighmoedkknkoaa", sum := "4e91d1cc236572ba5e6afea9edfd7dac75a5282e96df71622e58f2b8e684bc5b", func := "loop.example/g03309/laws.FnExactSameEntries", spec := "fnExactSameEntries", apart := false, narrowed := true }
def FnExactSameEntriesUptoSaid : Prop := fnExactSameEntriesUptoRow.holds Try.pinned (OpenSpec.upto fnExactSameEntriesSpec)

/-- 'laws.FnCatalogs', WHERE WHAT IT READS IS OF BULK AT MOST 1048576: true; the input reads as it did. -/
def fnCatalogsUptoRow : OpenClaim := { program := "ytighmoedkknkoaa", sum := "4e91d1cc236572ba5e6afea9edfd7dac75a5282e96df71622e58f2b8e684bc5b", func := "loop.example/g03309/laws.FnCatalogs", spec := "fnCatalogs", apart := false, narrowed := true }
def FnCatalogsUptoSaid : Prop := fnCatalogsUptoRow.holds Try.pinned (OpenSpec.upto fnCatalogsSpec)

end Rows
end Go.Proofs.Ytighmoedkknkoaa
