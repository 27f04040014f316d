/-
  DERIVED. GIVEN WITH THE SEED: THE CARDS: each row of YtgpgnhadmckmhaaGreatDoorRows.lean that lists a variable, with what it lists TIED to the program's text (the seventh form; the later family's looks); each row that meets fmt, with fmt's text TOLD by the authors' own Lean function (tested against real Go, not proved from fmt's source: count such statements apart). THE CARD IS WHAT COUNTS. Prove the row's statement (the work); the ties are given (YtgpgnhadmckmhaaGreatDoorTie.lean); close each card by the builder's one call (the guide's Derived/Test/ToyasCard.lean, 'card_holds'). Laid BY PROGRAM, IN A SANDBOX (cutbox-door.mjs). By AI agents, Wed Nov 11 2026. No macro, syntax, notation, axiom, sorry.
-/
import Derived.Test.YtgpgnhadmckmhaaGreatDoorRows
import GoSem.ClaimSeven
namespace Go.Proofs.YtgpgnhadmckmhaaGreatDoor
namespace Rows

/-- THE TIED CARD OF 'laws.FnStatutes'. -/
def fnStatutesCard : Claim7 := { stood := { row := fnStatutesRow, standIns := [], harness := (true, "a057462ea5b03feb88e82747e3ac39d7e1a28873dcd9847d8dda045cdb45ca23"), looks := true }, kinds := [], alts := [], laidByText := true, laidKinds := [.data, .data, .data, .data, .sentinel, .sentinel, .pinned], laidTests := true, laidLooks := .later }
def FnStatutesCardSaid : Prop := Claim7.holds Tryz.pinned (.plain (OpenSpec.ofChange fnStatutesSpec)) fnStatutesCard

/-- THE TIED CARD OF 'laws.FnRegisterTexts'. -/
def fnRegisterTextsCard : Claim7 := { stood := { row := fnRegisterTextsRow, standIns := [], harness := (true, "a057462ea5b03feb88e82747e3ac39d7e1a28873dcd9847d8dda045cdb45ca23"), looks := true }, kinds := [], alts := [], laidByText := true, laidKinds := [.data, .data, .data, .data, .sentinel, .sentinel, .pinned], laidTests := true, laidLooks := .later }
def FnRegisterTextsCardSaid : Prop := Claim7.holds Tryz.pinned (.plain (OpenSpec.ofChange fnRegisterTextsSpec)) fnRegisterTextsCard

/-- THE SECOND FORM's CARD OF 'laws.FnStatutes'. -/
def fnStatutesUptoCard : Claim7 := { stood := { row := fnStatutesUptoRow, standIns := [], harness := (true, "a057462ea5b03feb88e82747e3ac39d7e1a28873dcd9847d8dda045cdb45ca23"), looks := true }, kinds := [], alts := [], laidByText := true, laidKinds := [.data, .data, .data, .data, .sentinel, .sentinel, .pinned], laidTests := true, laidLooks := .later }
def FnStatutesUptoCardSaid : Prop := Claim7.holds Tryz.pinned (.plain (OpenSpec.upto fnStatutesSpec)) fnStatutesUptoCard

/-- THE SECOND FORM's CARD OF 'laws.FnRegisterTexts'. -/
def fnRegisterTextsUptoCard : Claim7 := { stood := { row := fnRegisterTextsUptoRow, standIns := [], harness := (true, "a057462ea5b03feb88e82747e3ac39d7e1a28873dcd9847d8dda045cdb45ca23"), looks := true }, kinds := [], alts := [], laidByText := true, laidKinds := [.data, .data, .data, .data, .sentinel, .sentinel, .pinned], laidTests := true, laidLooks := .later }
def FnRegisterTextsUptoCardSaid : Prop := Claim7.holds Tryz.pinned (.plain (OpenSpec.upto fnRegisterTextsSpec)) fnRegisterTextsUptoCard
end Rows
end Go.Proofs.YtgpgnhadmckmhaaGreatDoor
