/-
  DERIVED. GIVEN WITH THE SEED: THE CARDS: each row of YthgllpocljeegaaGreatDoorRows.lean that lists a variable, with what it lists TIED to the program's text (the seventh form; the later family's looks); each row that meets fmt, with fmt's text TOLD by the authors' own Lean function (tested against real Go, not proved from fmt's source: count such statements apart). THE CARD IS WHAT COUNTS. Prove the row's statement (the work); the ties are given (YthgllpocljeegaaGreatDoorTie.lean); close each card by the builder's one call (the guide's Derived/Test/ToyasCard.lean, 'card_holds'). Laid BY PROGRAM, IN A SANDBOX (cutbox-door.mjs). By AI agents, Wed Nov 11 2026. No macro, syntax, notation, axiom, sorry.
-/
import Derived.Test.YthgllpocljeegaaGreatDoorRows
import GoSem.ClaimSeven
namespace Go.Proofs.YthgllpocljeegaaGreatDoor
namespace Rows

/-- THE TIED CARD OF 'laws.FnNotations'. -/
def fnNotationsCard : Claim7 := { stood := { row := fnNotationsRow, standIns := [], harness := (true, "941326f8efa0d08c3f9c06d49a66d1c82fc299cbb35e5cda312ac26715295609"), looks := true }, kinds := [], alts := [], laidByText := true, laidKinds := [.data, .data, .data, .data, .sentinel, .sentinel, .pinned], laidTests := true, laidLooks := .later }
def FnNotationsCardSaid : Prop := Claim7.holds Tryz.pinned (.plain (OpenSpec.ofChange fnNotationsSpec)) fnNotationsCard

/-- THE SECOND FORM's CARD OF 'laws.FnNotations'. -/
def fnNotationsUptoCard : Claim7 := { stood := { row := fnNotationsUptoRow, standIns := [], harness := (true, "941326f8efa0d08c3f9c06d49a66d1c82fc299cbb35e5cda312ac26715295609"), looks := true }, kinds := [], alts := [], laidByText := true, laidKinds := [.data, .data, .data, .data, .sentinel, .sentinel, .pinned], laidTests := true, laidLooks := .later }
def FnNotationsUptoCardSaid : Prop := Claim7.holds Tryz.pinned (.plain (OpenSpec.upto fnNotationsSpec)) fnNotationsUptoCard
end Rows
end Go.Proofs.YthgllpocljeegaaGreatDoor
