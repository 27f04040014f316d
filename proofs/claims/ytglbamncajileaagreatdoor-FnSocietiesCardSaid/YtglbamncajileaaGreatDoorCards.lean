/-
  DERIVED. GIVEN WITH THE SEED: THE CARDS: each row of YtglbamncajileaaGreatDoorRows.lean that lists a variable, with what it lists TIED to the program's text (the seventh form; the later family's looks); each row that meets fmt, with fmt's text TOLD by the authors' own Lean function (tested against real Go, not proved from fmt's source: count such statements apart). THE CARD IS WHAT COUNTS. Prove the row's statement (the work); the ties are given (YtglbamncajileaaGreatDoorTie.lean); close each card by the builder's one call (the guide's Derived/Test/ToyasCard.lean, 'card_holds'). Laid BY PROGRAM, IN A SANDBOX (cutbox-door.mjs). By AI agents, Wed Nov 11 2026. No macro, syntax, notation, axiom, sorry.
-/
import Derived.Test.YtglbamncajileaaGreatDoorRows
import GoSem.ClaimSeven
namespace Go.Proofs.YtglbamncajileaaGreatDoor
namespace Rows

/-- THE TIED CARD OF 'laws.FnExactRunSociety'. -/
def fnExactRunSocietyCard : Claim7 := { stood := { row := fnExactRunSocietyRow, standIns := [], harness := (true, "37b62732406d5ed1c0c7f8d2387b0d48d9a249126b89a07c447fba584d4ab19d"), looks := true }, kinds := [], alts := [], laidByText := true, laidKinds := [.data, .data, .data, .data, .sentinel, .sentinel, .pinned], laidTests := true, laidLooks := .later }
def FnExactRunSocietyCardSaid : Prop := Claim7.holds Tryz.pinned (.plain (OpenSpec.ofChange fnExactRunSocietySpec)) fnExactRunSocietyCard

/-- THE TIED CARD OF 'laws.FnSocietyOutputs'. -/
def fnSocietyOutputsCard : Claim7 := { stood := { row := fnSocietyOutputsRow, standIns := [], harness := (true, "37b62732406d5ed1c0c7f8d2387b0d48d9a249126b89a07c447fba584d4ab19d"), looks := true }, kinds := [], alts := [], laidByText := true, laidKinds := [.data, .data, .data, .data, .sentinel, .sentinel, .pinned], laidTests := true, laidLooks := .later }
def FnSocietyOutputsCardSaid : Prop := Claim7.holds Tryz.pinned (.plain (OpenSpec.ofChange fnSocietyOutputsSpec)) fnSocietyOutputsCard

/-- THE TIED CARD OF 'laws.FnExactSocietyAfter'. -/
def fnExactSocietyAfterCard : Claim7 := { stood := { row := fnExactSocietyAfterRow, standIns := [], harness := (true, "37b62732406d5ed1c0c7f8d2387b0d48d9a249126b89a07c447fba584d4ab19d"), looks := true }, kinds := [], alts := [], laidByText := true, laidKinds := [.data, .data, .data, .data, .sentinel, .sentinel, .pinned], laidTests := true, laidLooks := .later }
def FnExactSocietyAfterCardSaid : Prop := Claim7.holds Tryz.pinned (.plain (OpenSpec.ofChange fnExactSocietyAfterSpec)) fnExactSocietyAfterCard

/-- THE TIED CARD OF 'laws.FnSocieties'. -/
def fnSocietiesCard : Claim7 := { stood := { row := fnSocietiesRow, standIns := [], harness := (true, "37b62732406d5ed1c0c7f8d2387b0d48d9a249126b89a07c447fba584d4ab19d"), looks := true }, kinds := [], alts := [], laidByText := true, laidKinds := [.data, .data, .data, .data, .sentinel, .sentinel, .pinned], laidTests := true, laidLooks := .later }
def FnSocietiesCardSaid : Prop := Claim7.holds Tryz.pinned (.plain (OpenSpec.ofChange fnSocietiesSpec)) fnSocietiesCard

/-- THE SECOND FORM's CARD OF 'laws.FnExactRunSociety'. -/
def fnExactRunSocietyUptoCard : Claim7 := { stood := { row := fnExactRunSocietyUptoRow, standIns := [], harness := (true, "37b62732406d5ed1c0c7f8d2387b0d48d9a249126b89a07c447fba584d4ab19d"), looks := true }, kinds := [], alts := [], laidByText := true, laidKinds := [.data, .data, .data, .data, .sentinel, .sentinel, .pinned], laidTests := true, laidLooks := .later }
def FnExactRunSocietyUptoCardSaid : Prop := Claim7.holds Tryz.pinned (.plain (OpenSpec.upto fnExactRunSocietySpec)) fnExactRunSocietyUptoCard

/-- THE SECOND FORM's CARD OF 'laws.FnSocietyOutputs'. -/
def fnSocietyOutputsUptoCard : Claim7 := { stood := { row := fnSocietyOutputsUptoRow, standIns := [], harness := (true, "37b62732406d5ed1c0c7f8d2387b0d48d9a249126b89a07c447fba584d4ab19d"), looks := true }, kinds := [], alts := [], laidByText := true, laidKinds := [.data, .data, .data, .data, .sentinel, .sentinel, .pinned], laidTests := true, laidLooks := .later }
def FnSocietyOutputsUptoCardSaid : Prop := Claim7.holds Tryz.pinned (.plain (OpenSpec.upto fnSocietyOutputsSpec)) fnSocietyOutputsUptoCard

/-- THE SECOND FORM's CARD OF 'laws.FnExactSocietyAfter'. -/
def fnExactSocietyAfterUptoCard : Claim7 := { stood := { row := fnExactSocietyAfterUptoRow, standIns := [], harness := (true, "37b62732406d5ed1c0c7f8d2387b0d48d9a249126b89a07c447fba584d4ab19d"), looks := true }, kinds := [], alts := [], laidByText := true, laidKinds := [.data, .data, .data, .data, .sentinel, .sentinel, .pinned], laidTests := true, laidLooks := .later }
def FnExactSocietyAfterUptoCardSaid : Prop := Claim7.holds Tryz.pinned (.plain (OpenSpec.upto fnExactSocietyAfterSpec)) fnExactSocietyAfterUptoCard

/-- THE SECOND FORM's CARD OF 'laws.FnSocieties'. -/
def fnSocietiesUptoCard : Claim7 := { stood := { row := fnSocietiesUptoRow, standIns := [], harness := (true, "37b62732406d5ed1c0c7f8d2387b0d48d9a249126b89a07c447fba584d4ab19d"), looks := true }, kinds := [], alts := [], laidByText := true, laidKinds := [.data, .data, .data, .data, .sentinel, .sentinel, .pinned], laidTests := true, laidLooks := .later }
def FnSocietiesUptoCardSaid : Prop := Claim7.holds Tryz.pinned (.plain (OpenSpec.upto fnSocietiesSpec)) fnSocietiesUptoCard
end Rows
end Go.Proofs.YtglbamncajileaaGreatDoor
