/-
  DERIVED. GIVEN WITH THE SEED: THE CARDS: each row of YtgpgnhadmckmhaaDoorRows.lean that lists a variable, with what it lists TIED to the program's text (the seventh form; the later family's looks); each row that meets fmt, with fmt's text TOLD by the authors' own Lean function (tested against real Go, not proved from fmt's source: count such statements apart). THE CARD IS WHAT COUNTS. Prove the row's statement (the work); the ties are given (YtgpgnhadmckmhaaDoorTie.lean); close each card by the builder's one call (the guide's Derived/Test/ToyasCard.lean, 'card_holds'). Laid BY PROGRAM, IN A SANDBOX (cutbox-door.mjs). By AI agents, Wed Nov 11 2026. No macro, syntax, notation, axiom, sorry.
-/
import Derived.Test.YtgpgnhadmckmhaaDoorRows
import GoSem.ClaimSeven
namespace Go.Proofs.YtgpgnhadmckmhaaDoor
namespace Rows

/-- THE TIED CARD OF 'laws.FnExactRegisterText'. -/
def fnExactRegisterTextCard : Claim7 := { stood := { row := fnExactRegisterTextRow, standIns := [], harness := (true, "d941f04a4c373d4f75c4a8e0987f7532c9b09f25fe9ffb4791e0c3002d9ae9ce"), looks := true }, kinds := [], alts := [], laidByText := true, laidKinds := [.data, .data, .data], laidTests := true, laidLooks := .later }
def FnExactRegisterTextCardSaid : Prop := Claim7.holds Tryd.pinned (.plain (OpenSpec.ofChange fnExactRegisterTextSpec)) fnExactRegisterTextCard

/-- THE TIED CARD OF 'laws.FnExactStatutesText'. -/
def fnExactStatutesTextCard : Claim7 := { stood := { row := fnExactStatutesTextRow, standIns := [], harness := (true, "d941f04a4c373d4f75c4a8e0987f7532c9b09f25fe9ffb4791e0c3002d9ae9ce"), looks := true }, kinds := [], alts := [], laidByText := true, laidKinds := [.data, .data, .data, .data, .pinned], laidTests := true, laidLooks := .later }
def FnExactStatutesTextCardSaid : Prop := Claim7.holds Tryd.pinned (.plain (OpenSpec.ofChange fnExactStatutesTextSpec)) fnExactStatutesTextCard

/-- THE TIED CARD OF 'laws.FnExactReadStatutes'. -/
def fnExactReadStatutesCard : Claim7 := { stood := { row := fnExactReadStatutesRow, standIns := [], harness := (true, "d941f04a4c373d4f75c4a8e0987f7532c9b09f25fe9ffb4791e0c3002d9ae9ce"), looks := true }, kinds := [], alts := [], laidByText := true, laidKinds := [.data, .data, .data, .data, .sentinel, .sentinel, .pinned], laidTests := true, laidLooks := .later }
def FnExactReadStatutesCardSaid : Prop := Claim7.holds Tryd.pinned (.plain (OpenSpec.ofChange fnExactReadStatutesSpec)) fnExactReadStatutesCard

/-- THE TIED CARD OF 'laws.FnExactReadRegister'. -/
def fnExactReadRegisterCard : Claim7 := { stood := { row := fnExactReadRegisterRow, standIns := [], harness := (true, "d941f04a4c373d4f75c4a8e0987f7532c9b09f25fe9ffb4791e0c3002d9ae9ce"), looks := true }, kinds := [], alts := [], laidByText := true, laidKinds := [.data, .data, .data, .data, .sentinel, .sentinel, .pinned], laidTests := true, laidLooks := .later }
def FnExactReadRegisterCardSaid : Prop := Claim7.holds Tryd.pinned (.plain (OpenSpec.ofChange fnExactReadRegisterSpec)) fnExactReadRegisterCard

/-- THE TIED CARD OF 'laws.FnExactIsSocietyCommand'. -/
def fnExactIsSocietyCommandCard : Claim7 := { stood := { row := fnExactIsSocietyCommandRow, standIns := [], harness := (true, "d941f04a4c373d4f75c4a8e0987f7532c9b09f25fe9ffb4791e0c3002d9ae9ce"), looks := true }, kinds := [], alts := [], laidByText := true, laidKinds := [.data, .data, .data, .data, .sentinel, .sentinel, .pinned], laidTests := true, laidLooks := .later }
def FnExactIsSocietyCommandCardSaid : Prop := Claim7.holds Tryd.pinned (.plain (OpenSpec.ofChange fnExactIsSocietyCommandSpec)) fnExactIsSocietyCommandCard

/-- THE SECOND FORM's CARD OF 'laws.FnExactRegisterText'. -/
def fnExactRegisterTextUptoCard : Claim7 := { stood := { row := fnExactRegisterTextUptoRow, standIns := [], harness := (true, "d941f04a4c373d4f75c4a8e0987f7532c9b09f25fe9ffb4791e0c3002d9ae9ce"), looks := true }, kinds := [], alts := [], laidByText := true, laidKinds := [.data, .data, .data], laidTests := true, laidLooks := .later }
def FnExactRegisterTextUptoCardSaid : Prop := Claim7.holds Tryd.pinned (.plain (OpenSpec.upto fnExactRegisterTextSpec)) fnExactRegisterTextUptoCard

/-- THE SECOND FORM's CARD OF 'laws.FnExactStatutesText'. -/
def fnExactStatutesTextUptoCard : Claim7 := { stood := { row := fnExactStatutesTextUptoRow, standIns := [], harness := (true, "d941f04a4c373d4f75c4a8e0987f7532c9b09f25fe9ffb4791e0c3002d9ae9ce"), looks := true }, kinds := [], alts := [], laidByText := true, laidKinds := [.data, .data, .data, .data, .pinned], laidTests := true, laidLooks := .later }
def FnExactStatutesTextUptoCardSaid : Prop := Claim7.holds Tryd.pinned (.plain (OpenSpec.upto fnExactStatutesTextSpec)) fnExactStatutesTextUptoCard

/-- THE SECOND FORM's CARD OF 'laws.FnExactReadStatutes'. -/
def fnExactReadStatutesUptoCard : Claim7 := { stood := { row := fnExactReadStatutesUptoRow, standIns := [], harness := (true, "d941f04a4c373d4f75c4a8e0987f7532c9b09f25fe9ffb4791e0c3002d9ae9ce"), looks := true }, kinds := [], alts := [], laidByText := true, laidKinds := [.data, .data, .data, .data, .sentinel, .sentinel, .pinned], laidTests := true, laidLooks := .later }
def FnExactReadStatutesUptoCardSaid : Prop := Claim7.holds Tryd.pinned (.plain (OpenSpec.upto fnExactReadStatutesSpec)) fnExactReadStatutesUptoCard

/-- THE SECOND FORM's CARD OF 'laws.FnExactReadRegister'. -/
def fnExactReadRegisterUptoCard : Claim7 := { stood := { row := fnExactReadRegisterUptoRow, standIns := [], harness := (true, "d941f04a4c373d4f75c4a8e0987f7532c9b09f25fe9ffb4791e0c3002d9ae9ce"), looks := true }, kinds := [], alts := [], laidByText := true, laidKinds := [.data, .data, .data, .data, .sentinel, .sentinel, .pinned], laidTests := true, laidLooks := .later }
def FnExactReadRegisterUptoCardSaid : Prop := Claim7.holds Tryd.pinned (.plain (OpenSpec.upto fnExactReadRegisterSpec)) fnExactReadRegisterUptoCard

/-- THE SECOND FORM's CARD OF 'laws.FnExactIsSocietyCommand'. -/
def fnExactIsSocietyCommandUptoCard : Claim7 := { stood := { row := fnExactIsSocietyCommandUptoRow, standIns := [], harness := (true, "d941f04a4c373d4f75c4a8e0987f7532c9b09f25fe9ffb4791e0c3002d9ae9ce"), looks := true }, kinds := [], alts := [], laidByText := true, laidKinds := [.data, .data, .data, .data, .sentinel, .sentinel, .pinned], laidTests := true, laidLooks := .later }
def FnExactIsSocietyCommandUptoCardSaid : Prop := Claim7.holds Tryd.pinned (.plain (OpenSpec.upto fnExactIsSocietyCommandSpec)) fnExactIsSocietyCommandUptoCard
end Rows
end Go.Proofs.YtgpgnhadmckmhaaDoor
