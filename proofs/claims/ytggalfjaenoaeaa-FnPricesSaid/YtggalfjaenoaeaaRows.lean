/-
  No cell of these rows narrows 'for every input' (looked for: loops, veiled, ifaces, maps, wideKeys, modest, calm, conditions, laid).
  DERIVED. THE GIVEN ROWS OF THIS SEAT. 12 by the template 'for every input the law returns true; each argument reads behind the call as it read before'; 0 by the template 'total and deterministic' (their statements: YtggalfjaenoaeaaTotals.lean).
  GIVEN WITH THE SEED: the statements are not yours to turn. If you find one false, say at which input.
  Laid BY PROGRAM, IN A SANDBOX (cutbox-rows.mjs): the forced cells as the released guide's own fill.sh prints them over the translation b5218d5955d4ba11… (all of the seat's roots in one cut). By AI agents, Wed Nov 11 2026. No macro, syntax, notation, axiom, sorry.
-/
import Derived.Test.YtggalfjaenoaeaaChecked
import GoSem.Claim
import GoSem.ClaimJoined
import GoSem.ClaimMapViews
import Derived.JoinedTies
import Derived.KernelRfl
namespace Go.Proofs.Ytggalfjaenoaeaa
/- THE CELL 'sum', in the pinned program and in every row, IS THE sha256 OF THE DUMP (.gsa) THAT YtggalfjaenoaeaaProg.lean LOADS. Nothing in Lean hashes anything: it is a label: what it is worth is what the hold of that sum in a sandbox is worth. -/
noncomputable def Try.pinned : Pinned := { name := "ytggalfjaenoaeaa", sum := "b5218d5955d4ba11695ece60bb63115fcf812ca28afa816293ab8ca46699499a", checked := Try.checked }
namespace Rows
def none {H : Type} : Left H := { results := [], args := [] }

/-- 'laws.FnExactAirAfter': WHATEVER THE INPUT: true; the input reads as it did. -/
def fnExactAirAfterSpec : ChangeSpec := { name := "fnExactAirAfter", fn := fun _ => fun
  | [d1, d2, d3, d4] => { results := [.lit (.bool true)], args := [d1, d2, d3, d4] }
  | _ => none }
def fnExactAirAfterRow : OpenClaim := { program := "ytggalfjaenoaeaa", sum := "b5218d5955d4ba11695ece60bb63115fcf812ca28afa816293ab8ca46699499a", func := "loop.example/g03309/laws.FnExactAirAfter", spec := "fnExactAirAfter", apart := false }
def FnExactAirAfterSaid : Prop := fnExactAirAfterRow.holds Try.pinned (OpenSpec.ofChange fnExactAirAfterSpec)

/-- ITS FALSE NEIGHBOUR: 'it returns false'. Refute it at one input. -/
def fnExactAirAfterWrong : ChangeSpec := { name := "fnExactAirAfter", fn := fun _ => fun
  | [d1, d2, d3, d4] => { results := [.lit (.bool false)], args := [d1, d2, d3, d4] }
  | _ => none }
def FnExactAirAfterWrongFalsely : Prop := fnExactAirAfterRow.holds Try.pinned (OpenSpec.ofChange fnExactAirAfterWrong)

/-- 'laws.FnExactOfferOk': WHATEVER THE INPUT: true; the input reads as it did. -/
def fnExactOfferOkSpec : ChangeSpec := { name := "fnExactOfferOk", fn := fun _ => fun
  | [d] => { results := [.lit (.bool true)], args := [d] }
  | _ => none }
def fnExactOfferOkRow : OpenClaim := { program := "ytggalfjaenoaeaa", sum := "b5218d5955d4ba11695ece60bb63115fcf812ca28afa816293ab8ca46699499a", func := "loop.example/g03309/laws.FnExactOfferOk", spec := "fnExactOfferOk", apart := false }
def FnExactOfferOkSaid : Prop := fnExactOfferOkRow.holds Try.pinned (OpenSpec.ofChange fnExactOfferOkSpec)

/-- ITS FALSE NEIGHBOUR: 'it returns false'. Refute it at one input. -/
def fnExactOfferOkWrong : ChangeSpec := { name := "fnExactOfferOk", fn := fun _ => fun
  | [d] => { results := [.lit (.bool false)], args := [d] }
  | _ => none }
def FnExactOfferOkWrongFalsely : Prop := fnExactOfferOkRow.holds Try.pinned (OpenSpec.ofChange fnExactOfferOkWrong)

/-- 'laws.FnExactNameOk': WHATEVER THE INPUT: true; the input reads as it did. -/
def fnExactNameOkSpec : ChangeSpec := { name := "fnExactNameOk", fn := fun _ => fun
  | [d] => { results := [.lit (.bool true)], args := [d] }
  | _ => none }
def fnExactNameOkRow : OpenClaim := { program := "ytggalfjaenoaeaa", sum := "b5218d5955d4ba11695ece60bb63115fcf812ca28afa816293ab8ca46699499a", func := "loop.example/g03309/laws.FnExactNameOk", spec := "fnExactNameOk", apart := false }
def FnExactNameOkSaid : Prop := fnExactNameOkRow.holds Try.pinned (OpenSpec.ofChange fnExactNameOkSpec)

/-- ITS FALSE NEIGHBOUR: 'it returns false'. Refute it at one input. -/
def fnExactNameOkWrong : ChangeSpec := { name := "fnExactNameOk", fn := fun _ => fun
  | [d] => { results := [.lit (.bool false)], args := [d] }
  | _ => none }
def FnExactNameOkWrongFalsely : Prop := fnExactNameOkRow.holds Try.pinned (OpenSpec.ofChange fnExactNameOkWrong)

/-- 'laws.FnExactDiscount': WHATEVER THE INPUT: true; the input reads as it did. -/
def fnExactDiscountSpec : ChangeSpec := { name := "fnExactDiscount", fn := fun _ => fun
  | [d1, d2] => { results := [.lit (.bool true)], args := [d1, d2] }
  | _ => none }
def fnExactDiscountRow : OpenClaim := { program := "ytggalfjaenoaeaa", sum := "b5218d5955d4ba11695ece60bb63115fcf812ca28afa816293ab8ca46699499a", func := "loop.example/g03309/laws.FnExactDiscount", spec := "fnExactDiscount", apart := false }
def FnExactDiscountSaid : Prop := fnExactDiscountRow.holds Try.pinned (OpenSpec.ofChange fnExactDiscountSpec)

/-- ITS FALSE NEIGHBOUR: 'it returns false'. Refute it at one input. -/
def fnExactDiscountWrong : ChangeSpec := { name := "fnExactDiscount", fn := fun _ => fun
  | [d1, d2] => { results := [.lit (.bool false)], args := [d1, d2] }
  | _ => none }
def FnExactDiscountWrongFalsely : Prop := fnExactDiscountRow.holds Try.pinned (OpenSpec.ofChange fnExactDiscountWrong)

/-- 'laws.FnExactPriceOf': WHATEVER THE INPUT: true; the input reads as it did. -/
def fnExactPriceOfSpec : ChangeSpec := { name := "fnExactPriceOf", fn := fun _ => fun
  | [d] => { results := [.lit (.bool true)], args := [d] }
  | _ => none }
def fnExactPriceOfRow : OpenClaim := { program := "ytggalfjaenoaeaa", sum := "b5218d5955d4ba11695ece60bb63115fcf812ca28afa816293ab8ca46699499a", func := "loop.example/g03309/laws.FnExactPriceOf", spec := "fnExactPriceOf", apart := false }
def FnExactPriceOfSaid : Prop := fnExactPriceOfRow.holds Try.pinned (OpenSpec.ofChange fnExactPriceOfSpec)

/-- ITS FALSE NEIGHBOUR: 'it returns false'. Refute it at one input. -/
def fnExactPriceOfWrong : ChangeSpec := { name := "fnExactPriceOf", fn := fun _ => fun
  | [d] => { results := [.lit (.bool false)], args := [d] }
  | _ => none }
def FnExactPriceOfWrongFalsely : Prop := fnExactPriceOfRow.holds Try.pinned (OpenSpec.ofChange fnExactPriceOfWrong)

/-- 'laws.FnExactBestCount': WHATEVER THE INPUT: true; the input reads as it did. -/
def fnExactBestCountSpec : ChangeSpec := { name := "fnExactBestCount", fn := fun _ => fun
  | [d1, d2] => { results := [.lit (.bool true)], args := [d1, d2] }
  | _ => none }
def fnExactBestCountRow : OpenClaim := { program := "ytggalfjaenoaeaa", sum := "b5218d5955d4ba11695ece60bb63115fcf812ca28afa816293ab8ca46699499a", func := "loop.example/g03309/laws.FnExactBestCount", spec := "fnExactBestCount", apart := false }
def FnExactBestCountSaid : Prop := fnExactBestCountRow.holds Try.pinned (OpenSpec.ofChange fnExactBestCountSpec)

/-- ITS FALSE NEIGHBOUR: 'it returns false'. Refute it at one input. -/
def fnExactBestCountWrong : ChangeSpec := { name := "fnExactBestCount", fn := fun _ => fun
  | [d1, d2] => { results := [.lit (.bool false)], args := [d1, d2] }
  | _ => none }
def FnExactBestCountWrongFalsely : Prop := fnExactBestCountRow.holds Try.pinned (OpenSpec.ofChange fnExactBestCountWrong)

/-- 'laws.FnExactCheapestFor': WHATEVER THE INPUT: true; the input reads as it did. -/
def fnExactCheapestForSpec : ChangeSpec := { name := "fnExactCheapestFor", fn := fun _ => fun
  | [d1, d2] => { results := [.lit (.bool true)], args := [d1, d2] }
  | _ => none }
def fnExactCheapestForRow : OpenClaim := { program := "ytggalfjaenoaeaa", sum := "b5218d5955d4ba11695ece60bb63115fcf812ca28afa816293ab8ca46699499a", func := "loop.example/g03309/laws.FnExactCheapestFor", spec := "fnExactCheapestFor", apart := false }
def FnExactCheapestForSaid : Prop := fnExactCheapestForRow.holds Try.pinned (OpenSpec.ofChange fnExactCheapestForSpec)

/-- ITS FALSE NEIGHBOUR: 'it returns false'. Refute it at one input. -/
def fnExactCheapestForWrong : ChangeSpec := { name := "fnExactCheapestFor", fn := fun _ => fun
  | [d1, d2] => { results := [.lit (.bool false)], args := [d1, d2] }
  | _ => none }
def FnExactCheapestForWrongFalsely : Prop := fnExactCheapestForRow.holds Try.pinned (OpenSpec.ofChange fnExactCheapestForWrong)

/-- 'laws.FnExactJobsOk': WHATEVER THE INPUT: true; the input reads as it did. -/
def fnExactJobsOkSpec : ChangeSpec := { name := "fnExactJobsOk", fn := fun _ => fun
  | [d] => { results := [.lit (.bool true)], args := [d] }
  | _ => none }
def fnExactJobsOkRow : OpenClaim := { program := "ytggalfjaenoaeaa", sum := "b5218d5955d4ba11695ece60bb63115fcf812ca28afa816293ab8ca46699499a", func := "loop.example/g03309/laws.FnExactJobsOk", spec := "fnExactJobsOk", apart := false }
def FnExactJobsOkSaid : Prop := fnExactJobsOkRow.holds Try.pinned (OpenSpec.ofChange fnExactJobsOkSpec)

/-- ITS FALSE NEIGHBOUR: 'it returns false'. Refute it at one input. -/
def fnExactJobsOkWrong : ChangeSpec := { name := "fnExactJobsOk", fn := fun _ => fun
  | [d] => { results := [.lit (.bool false)], args := [d] }
  | _ => none }
def FnExactJobsOkWrongFalsely : Prop := fnExactJobsOkRow.holds Try.pinned (OpenSpec.ofChange fnExactJobsOkWrong)

/-- 'laws.FnExactCheckDigit': WHATEVER THE INPUT: true; the input reads as it did. -/
def fnExactCheckDigitSpec : ChangeSpec := { name := "fnExactCheckDigit", fn := fun _ => fun
  | [d] => { results := [.lit (.bool true)], args := [d] }
  | _ => none }
def fnExactCheckDigitRow : OpenClaim := { program := "ytggalfjaenoaeaa", sum := "b5218d5955d4ba11695ece60bb63115fcf812ca28afa816293ab8ca46699499a", func := "loop.example/g03309/laws.FnExactCheckDigit", spec := "fnExactCheckDigit", apart := false }
def FnExactCheckDigitSaid : Prop := fnExactCheckDigitRow.holds Try.pinned (OpenSpec.ofChange fnExactCheckDigitSpec)

/-- ITS FALSE NEIGHBOUR: 'it returns false'. Refute it at one input. -/
def fnExactCheckDigitWrong : ChangeSpec := { name := "fnExactCheckDigit", fn := fun _ => fun
  | [d] => { results := [.lit (.bool false)], args := [d] }
  | _ => none }
def FnExactCheckDigitWrongFalsely : Prop := fnExactCheckDigitRow.holds Try.pinned (OpenSpec.ofChange fnExactCheckDigitWrong)

/-- 'laws.FnExactMoreForLess': WHATEVER THE INPUT: true; the input reads as it did. -/
def fnExactMoreForLessSpec : ChangeSpec := { name := "fnExactMoreForLess", fn := fun _ => fun
  | [d] => { results := [.lit (.bool true)], args := [d] }
  | _ => none }
def fnExactMoreForLessRow : OpenClaim := { program := "ytggalfjaenoaeaa", sum := "b5218d5955d4ba11695ece60bb63115fcf812ca28afa816293ab8ca46699499a", func := "loop.example/g03309/laws.FnExactMoreForLess", spec := "fnExactMoreForLess", apart := false }
def FnExactMoreForLessSaid : Prop := fnExactMoreForLessRow.holds Try.pinned (OpenSpec.ofChange fnExactMoreForLessSpec)

/-- ITS FALSE NEIGHBOUR: 'it returns false'. Refute it at one input. -/
def fnExactMoreForLessWrong : ChangeSpec := { name := "fnExactMoreForLess", fn := fun _ => fun
  | [d] => { results := [.lit (.bool false)], args := [d] }
  | _ => none }
def FnExactMoreForLessWrongFalsely : Prop := fnExactMoreForLessRow.holds Try.pinned (OpenSpec.ofChange fnExactMoreForLessWrong)

/-- 'laws.FnExactIsChecked': WHATEVER THE INPUT: true; the input reads as it did. -/
def fnExactIsCheckedSpec : ChangeSpec := { name := "fnExactIsChecked", fn := fun _ => fun
  | [d] => { results := [.lit (.bool true)], args := [d] }
  | _ => none }
def fnExactIsCheckedRow : OpenClaim := { program := "ytggalfjaenoaeaa", sum := "b5218d5955d4ba11695ece60bb63115fcf812ca28afa816293ab8ca46699499a", func := "loop.example/g03309/laws.FnExactIsChecked", spec := "fnExactIsChecked", apart := false }
def FnExactIsCheckedSaid : Prop := fnExactIsCheckedRow.holds Try.pinned (OpenSpec.ofChange fnExactIsCheckedSpec)

/-- ITS FALSE NEIGHBOUR: 'it returns false'. Refute it at one input. -/
def fnExactIsCheckedWrong : ChangeSpec := { name := "fnExactIsChecked", fn := fun _ => fun
  | [d] => { results := [.lit (.bool false)], args := [d] }
  | _ => none }
def FnExactIsCheckedWrongFalsely : Prop := fnExactIsCheckedRow.holds Try.pinned (OpenSpec.ofChange fnExactIsCheckedWrong)

/-- 'laws.FnPrices': WHATEVER THE INPUT: true; the input reads as it did. -/
def fnPricesSpec : ChangeSpec := { name := "fnPrices", fn := fun _ => fun
  | [d] => { results := [.lit (.bool true)], args := [d] }
  | _ => none }
def fnPricesRow : OpenClaim := { program := "ytggalfjaenoaeaa", sum := "b5218d5955d4ba11695ece60bb63115fcf812ca28afa816293ab8ca46699499a", func := "loop.example/g03309/laws.FnPrices", spec := "fnPrices", apart := false }
def FnPricesSaid : Prop := fnPricesRow.holds Try.pinned (OpenSpec.ofChange fnPricesSpec)

/-- ITS FALSE NEIGHBOUR: 'it returns false'. Refute it at one input. -/
def fnPricesWrong : ChangeSpec := { name := "fnPrices", fn := fun _ => fun
  | [d] => { results := [.lit (.bool false)], args := [d] }
  | _ => none }
def FnPricesWrongFalsely : Prop := fnPricesRow.holds Try.pinned (OpenSpec.ofChange fnPricesWrong)

/- THE SECOND FORM. 'bulk': how many values and letters a reading holds, each counted each time it is reached (what is shared counts as often as it is met; a slice's spare places count too). A statement '..UptoSaid' is the law's where the arguments, and the package variables that the reading takes, are together of bulk at most 1048576: NARROWER than '..Said'. Prove '..Said' where nothing that the law and all that it calls make is longer than what came in: it says more and counts as full. Else prove '..UptoSaid'. A law counts once. -/
mutual
def uptoBulk {H : Type} : DataW H → Nat
  | .lit (.string bytes) => bytes.length + 1
  | .lit _ => 1
  | .nil => 1
  | .ptr d => uptoBulk d + 1
  | .slice elems spare => uptoBulkAll elems + uptoBulkAll spare + 1
  | .agg parts => uptoBulkAll parts + 1
  | .iface _ d => uptoBulk d + 1
  | .map entries => uptoBulkEntries entries + 1
  | .held _ => 1
def uptoBulkAll {H : Type} : List (DataW H) → Nat
  | [] => 0
  | d :: r => uptoBulk d + uptoBulkAll r
def uptoBulkEntries {H : Type} : List (Lit × DataW H) → Nat
  | [] => 0
  | x :: r => uptoBulkEntry x + uptoBulkEntries r
def uptoBulkEntry {H : Type} : Lit × DataW H → Nat
  | (.string bytes, d) => bytes.length + uptoBulk d + 1
  | (_, d) => uptoBulk d + 1
 end
def uptoSmall : (H : Type) → List (DataW H) → Bool := fun _ ds => decide (uptoBulkAll ds ≤ 1048576)
def OpenSpec.upto (s : _root_.Go.ChangeSpec) : _root_.Go.OpenSpec := { _root_.Go.OpenSpec.ofChange s with cond := some uptoSmall }

/-- 'laws.FnExactAirAfter', WHERE WHAT IT READS IS OF BULK AT MOST 1048576: true; the input reads as it did. -/
def fnExactAirAfterUptoRow : OpenClaim := { program := "ytggalfjaenoaeaa", sum := "b5218d5955d4ba11695ece60bb63115fcf812ca28afa816293ab8ca46699499a", func := "loop.example/g03309/laws.FnExactAirAfter", spec := "fnExactAirAfter", apart := false, narrowed := true }
def FnExactAirAfterUptoSaid : Prop := fnExactAirAfterUptoRow.holds Try.pinned (OpenSpec.upto fnExactAirAfterSpec)

/-- 'laws.FnExactOfferOk', WHERE WHAT IT READS IS OF BULK AT MOST 1048576: true; the input reads as it did. -/
def fnExactOfferOkUptoRow : OpenClaim := { program := "ytggalfjaenoaeaa", sum := "b5218d5955d4ba11695ece60bb63115fcf812ca28afa816293ab8ca46699499a", func := "loop.example/g03309/laws.FnExactOfferOk", spec := "fnExactOfferOk", apart := false, narrowed := true }
def FnExactOfferOkUptoSaid : Prop := fnExactOfferOkUptoRow.holds Try.pinned (OpenSpec.upto fnExactOfferOkSpec)

/-- 'laws.FnExactNameOk', WHERE WHAT IT READS IS OF BULK AT MOST 1048576: true; the input reads as it did. -/
def fnExactNameOkUptoRow : OpenClaim := { program := "ytggalfjaenoaeaa", sum := "b5218d5955d4ba11695ece60bb63115fcf812ca28afa816293ab8ca46699499a", func := "loop.example/g03309/laws.FnExactNameOk", spec := "fnExactNameOk", apart := false, narrowed := true }
def FnExactNameOkUptoSaid : Prop := fnExactNameOkUptoRow.holds Try.pinned (OpenSpec.upto fnExactNameOkSpec)

/-- 'laws.FnExactDiscount', WHERE WHAT IT READS IS OF BULK AT MOST 1048576: true; the input reads as it did. -/
def fnExactDiscountUptoRow : OpenClaim := { program := "ytggalfjaenoaeaa", sum := "b5218d5955d4ba11695ece60bb63115fcf812ca28afa816293ab8ca46699499a", func := "loop.example/g03309/laws.FnExactDiscount", spec := "fnExactDiscount", apart := false, narrowed := true }
def FnExactDiscountUptoSaid : Prop := fnExactDiscountUptoRow.holds Try.pinned (OpenSpec.upto fnExactDiscountSpec)

/-- 'laws.FnExactPriceOf', WHERE WHAT IT READS IS OF BULK AT MOST 1048576: true; the input reads as it did. -/
def fnExactPriceOfUptoRow : OpenClaim := { program := "ytggalfjaenoaeaa", sum := "b5218d5955d4ba11695ece60bb63115fcf812ca28afa816293ab8ca46699499a", func := "loop.example/g03309/laws.FnExactPriceOf", spec := "fnExactPriceOf", apart := false, narrowed := true }
def FnExactPriceOfUptoSaid : Prop := fnExactPriceOfUptoRow.holds Try.pinned (OpenSpec.upto fnExactPriceOfSpec)

/-- 'laws.FnExactBestCount', WHERE WHAT IT READS IS OF BULK AT MOST 1048576: true; the input reads as it did. -/
def fnExactBestCountUptoRow : OpenClaim := { program := "ytggalfjaenoaeaa", sum := "b5218d5955d4ba11695ece60bb63115fcf812ca28afa816293ab8ca46699499a", func := "loop.example/g03309/laws.FnExactBestCount", spec := "fnExactBestCount", apart := false, narrowed := true }
def FnExactBestCountUptoSaid : Prop := fnExactBestCountUptoRow.holds Try.pinned (OpenSpec.upto fnExactBestCountSpec)

/-- 'laws.FnExactCheapestFor', WHERE WHAT IT READS IS OF BULK AT MOST 1048576: true; the input reads as it did. -/
def fnExactCheapestForUptoRow : OpenClaim := { program := "ytggalfjaenoaeaa", sum := "b5218d5955d4ba11695ece60bb63115fcf812ca28afa816293ab8ca46699499a", func := "loop.example/g03309/laws.FnExactCheapestFor", spec := "fnExactCheapestFor", apart := false, narrowed := true }
def FnExactCheapestForUptoSaid : Prop := fnExactCheapestForUptoRow.holds Try.pinned (OpenSpec.upto fnExactCheapestForSpec)

/-- 'laws.FnExactJobsOk', WHERE WHAT IT READS IS OF BULK AT MOST 1048576: true; the input reads as it did. -/
def fnExactJobsOkUptoRow : OpenClaim := { program := "ytggalfjaenoaeaa", sum := "b5218d5955d4ba11695ece60bb63115fcf812ca28afa816293ab8ca46699499a", func := "loop.example/g03309/laws.FnExactJobsOk", spec := "fnExactJobsOk", apart := false, narrowed := true }
def FnExactJobsOkUptoSaid : Prop := fnExactJobsOkUptoRow.holds Try.pinned (OpenSpec.upto fnExactJobsOkSpec)

/-- 'laws.FnExactCheckDigit', WHERE WHAT IT READS IS OF BULK AT MOST 1048576: true; the input reads as it did. -/
def fnExactCheckDigitUptoRow : OpenClaim := { program := "ytggalfjaenoaeaa", sum := "b5218d5955d4ba11695ece60bb63115fcf812ca28afa816293ab8ca46699499a", func := "loop.example/g03309/laws.FnExactCheckDigit", spec := "fnExactCheckDigit", apart := false, narrowed := true }
def FnExactCheckDigitUptoSaid : Prop := fnExactCheckDigitUptoRow.holds Try.pinned (OpenSpec.upto fnExactCheckDigitSpec)

/-- 'laws.FnExactMoreForLess', WHERE WHAT IT READS IS OF BULK AT MOST 1048576: true; the input reads as it did. -/
def fnExactMoreForLessUptoRow : OpenClaim := { program := "ytggalfjaenoaeaa", sum := "b5218d5955d4ba11695ece60bb63115fcf812ca28afa816293ab8ca46699499a", func := "loop.example/g03309/laws.FnExactMoreForLess", spec := "fnExactMoreForLess", apart := false, narrowed := true }
def FnExactMoreForLessUptoSaid : Prop := fnExactMoreForLessUptoRow.holds Try.pinned (OpenSpec.upto fnExactMoreForLessSpec)

/-- 'laws.FnExactIsChecked', WHERE WHAT IT READS IS OF BULK AT MOST 1048576: true; the input reads as it did. -/
def fnExactIsCheckedUptoRow : OpenClaim := { program := "ytggalfjaenoaeaa", sum := "b5218d5955d4ba11695ece60bb63115fcf812ca28afa816293ab8ca46699499a", func := "loop.example/g03309/laws.FnExactIsChecked", spec := "fnExactIsChecked", apart := false, narrowed := true }
def FnExactIsCheckedUptoSaid : Prop := fnExactIsCheckedUptoRow.holds Try.pinned (OpenSpec.upto fnExactIsCheckedSpec)

/-- 'laws.FnPrices', WHERE WHAT IT READS IS OF BULK AT MOST 1048576: true; the input reads as it did. -/
def fnPricesUptoRow : OpenClaim := { program := "ytggalfjaenoaeaa", sum := "b5218d5955d4ba11695ece60bb63115fcf812ca28afa816293ab8ca46699499a", func := "loop.example/g03309/laws.FnPrices", spec := "fnPrices", apart := false, narrowed := true }
def FnPricesUptoSaid : Prop := fnPricesUptoRow.holds Try.pinned (OpenSpec.upto fnPricesSpec)

end Rows
end Go.Proofs.Ytggalfjaenoaeaa
