/-
  DERIVED. GIVEN WITH THE SEED: THE CARDS: each row of YthgllpocljeegaaDoorRows.lean that lists a variable, with what it lists TIED to the program's text (the seventh form; the later family's looks); each row that meets fmt, with fmt's text TOLD by the authors' own Lean function (tested against real Go, not proved from fmt's source: count such statements apart). THE CARD IS WHAT COUNTS. Prove the row's statement (the work); the ties are given (YthgllpocljeegaaDoorTie.lean); close each card by the builder's one call (the guide's Derived/Test/ToyasCard.lean, 'card_holds'). Laid BY PROGRAM, IN A SANDBOX (cutbox-door.mjs). By AI agents, Wed Nov 11 2026. No macro, syntax, notation, axiom, sorry.
-/
import Derived.Test.YthgllpocljeegaaDoorRows
import GoSem.ClaimSeven
namespace Go.Proofs.YthgllpocljeegaaDoor
namespace Rows

/-- THE TIED CARD OF 'laws.FnExactNoteText'. -/
def fnExactNoteTextCard : Claim7 := { stood := { row := fnExactNoteTextRow, standIns := [], harness := (true, "0d77d2ceb90cee45c069d95e2d2a0f73458cb94ce1edeab9a660df43f06858f9"), looks := true }, kinds := [], alts := [], laidByText := true, laidKinds := [.data, .data, .data], laidTests := true, laidLooks := .later }
def FnExactNoteTextCardSaid : Prop := Claim7.holds Tryd.pinned (.plain (OpenSpec.ofChange fnExactNoteTextSpec)) fnExactNoteTextCard

/-- THE TIED CARD OF 'laws.FnExactTuneText'. -/
def fnExactTuneTextCard : Claim7 := { stood := { row := fnExactTuneTextRow, standIns := [], harness := (true, "0d77d2ceb90cee45c069d95e2d2a0f73458cb94ce1edeab9a660df43f06858f9"), looks := true }, kinds := [], alts := [], laidByText := true, laidKinds := [.data, .data, .data], laidTests := true, laidLooks := .later }
def FnExactTuneTextCardSaid : Prop := Claim7.holds Tryd.pinned (.plain (OpenSpec.ofChange fnExactTuneTextSpec)) fnExactTuneTextCard

/-- THE TIED CARD OF 'laws.FnExactReadNote'. -/
def fnExactReadNoteCard : Claim7 := { stood := { row := fnExactReadNoteRow, standIns := [], harness := (true, "0d77d2ceb90cee45c069d95e2d2a0f73458cb94ce1edeab9a660df43f06858f9"), looks := true }, kinds := [], alts := [], laidByText := true, laidKinds := [.data, .data, .data, .sentinel, .sentinel], laidTests := true, laidLooks := .later }
def FnExactReadNoteCardSaid : Prop := Claim7.holds Tryd.pinned (.plain (OpenSpec.ofChange fnExactReadNoteSpec)) fnExactReadNoteCard

/-- THE TIED CARD OF 'laws.FnExactReadTune'. -/
def fnExactReadTuneCard : Claim7 := { stood := { row := fnExactReadTuneRow, standIns := [], harness := (true, "0d77d2ceb90cee45c069d95e2d2a0f73458cb94ce1edeab9a660df43f06858f9"), looks := true }, kinds := [], alts := [], laidByText := true, laidKinds := [.data, .data, .data, .data, .sentinel, .sentinel, .pinned], laidTests := true, laidLooks := .later }
def FnExactReadTuneCardSaid : Prop := Claim7.holds Tryd.pinned (.plain (OpenSpec.ofChange fnExactReadTuneSpec)) fnExactReadTuneCard

/-- THE SECOND FORM's CARD OF 'laws.FnExactNoteText'. -/
def fnExactNoteTextUptoCard : Claim7 := { stood := { row := fnExactNoteTextUptoRow, standIns := [], harness := (true, "0d77d2ceb90cee45c069d95e2d2a0f73458cb94ce1edeab9a660df43f06858f9"), looks := true }, kinds := [], alts := [], laidByText := true, laidKinds := [.data, .data, .data], laidTests := true, laidLooks := .later }
def FnExactNoteTextUptoCardSaid : Prop := Claim7.holds Tryd.pinned (.plain (OpenSpec.upto fnExactNoteTextSpec)) fnExactNoteTextUptoCard

/-- THE SECOND FORM's CARD OF 'laws.FnExactTuneText'. -/
def fnExactTuneTextUptoCard : Claim7 := { stood := { row := fnExactTuneTextUptoRow, standIns := [], harness := (true, "0d77d2ceb90cee45c069d95e2d2a0f73458cb94ce1edeab9a660df43f06858f9"), looks := true }, kinds := [], alts := [], laidByText := true, laidKinds := [.data, .data, .data], laidTests := true, laidLooks := .later }
def FnExactTuneTextUptoCardSaid : Prop := Claim7.holds Tryd.pinned (.plain (OpenSpec.upto fnExactTuneTextSpec)) fnExactTuneTextUptoCard

/-- THE SECOND FORM's CARD OF 'laws.FnExactReadNote'. -/
def fnExactReadNoteUptoCard : Claim7 := { stood := { row := fnExactReadNoteUptoRow, standIns := [], harness := (true, "0d77d2ceb90cee45c069d95e2d2a0f73458cb94ce1edeab9a660df43f06858f9"), looks := true }, kinds := [], alts := [], laidByText := true, laidKinds := [.data, .data, .data, .sentinel, .sentinel], laidTests := true, laidLooks := .later }
def FnExactReadNoteUptoCardSaid : Prop := Claim7.holds Tryd.pinned (.plain (OpenSpec.upto fnExactReadNoteSpec)) fnExactReadNoteUptoCard

/-- THE SECOND FORM's CARD OF 'laws.FnExactReadTune'. -/
def fnExactReadTuneUptoCard : Claim7 := { stood := { row := fnExactReadTuneUptoRow, standIns := [], harness := (true, "0d77d2ceb90cee45c069d95e2d2a0f73458cb94ce1edeab9a660df43f06858f9"), looks := true }, kinds := [], alts := [], laidByText := true, laidKinds := [.data, .data, .data, .data, .sentinel, .sentinel, .pinned], laidTests := true, laidLooks := .later }
def FnExactReadTuneUptoCardSaid : Prop := Claim7.holds Tryd.pinned (.plain (OpenSpec.upto fnExactReadTuneSpec)) fnExactReadTuneUptoCard
end Rows
end Go.Proofs.YthgllpocljeegaaDoor
