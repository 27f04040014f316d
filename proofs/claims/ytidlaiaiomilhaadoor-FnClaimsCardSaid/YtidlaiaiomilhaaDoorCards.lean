/-
  DERIVED. GIVEN WITH THE SEED: THE CARDS: each row of YtidlaiaiomilhaaDoorRows.lean that lists a variable, with what it lists TIED to the program's text (the seventh form; the later family's looks); each row that meets fmt, with fmt's text TOLD by the authors' own Lean function (tested against real Go, not proved from fmt's source: count such statements apart). THE CARD IS WHAT COUNTS. Prove the row's statement (the work); the ties are given (YtidlaiaiomilhaaDoorTie.lean); close each card by the builder's one call (the guide's Derived/Test/ToyasCard.lean, 'card_holds'). Laid BY PROGRAM, IN A SANDBOX (cutbox-door.mjs). By AI agents, Wed Nov 11 2026. No macro, syntax, notation, axiom, sorry.
-/
import Derived.Test.YtidlaiaiomilhaaDoorRows
import GoSem.ClaimSeven
namespace Go.Proofs.YtidlaiaiomilhaaDoor
namespace Rows

/-- THE TIED CARD OF 'laws.FnClaims'. -/
def fnClaimsCard : Claim7 := { stood := { row := fnClaimsRow, standIns := [], harness := (true, "45cd9a0bbf70deb4c4ad73fc77c25ef3868c451dbc37ed4f47cbc7d7c8cfde3a"), looks := false }, kinds := [], alts := [], laidByText := true, laidKinds := [.data], laidTests := true, laidLooks := .later }
def FnClaimsCardSaid : Prop := Claim7.holds Tryd.pinned (.plain (OpenSpec.ofChange fnClaimsSpec)) fnClaimsCard

/-- THE TIED CARD OF 'laws.FnClaimLists'. -/
def fnClaimListsCard : Claim7 := { stood := { row := fnClaimListsRow, standIns := [], harness := (true, "45cd9a0bbf70deb4c4ad73fc77c25ef3868c451dbc37ed4f47cbc7d7c8cfde3a"), looks := false }, kinds := [], alts := [], laidByText := true, laidKinds := [.data], laidTests := true, laidLooks := .later }
def FnClaimListsCardSaid : Prop := Claim7.holds Tryd.pinned (.plain (OpenSpec.ofChange fnClaimListsSpec)) fnClaimListsCard

/-- THE TIED CARD OF 'laws.FnExactSuspectClaims'. -/
def fnExactSuspectClaimsCard : Claim7 := { stood := { row := fnExactSuspectClaimsRow, standIns := [], harness := (true, "45cd9a0bbf70deb4c4ad73fc77c25ef3868c451dbc37ed4f47cbc7d7c8cfde3a"), looks := false }, kinds := [], alts := [], laidByText := true, laidKinds := [.data], laidTests := true, laidLooks := .later }
def FnExactSuspectClaimsCardSaid : Prop := Claim7.holds Tryd.pinned (.plain (OpenSpec.ofChange fnExactSuspectClaimsSpec)) fnExactSuspectClaimsCard

/-- THE SECOND FORM's CARD OF 'laws.FnClaims'. -/
def fnClaimsUptoCard : Claim7 := { stood := { row := fnClaimsUptoRow, standIns := [], harness := (true, "45cd9a0bbf70deb4c4ad73fc77c25ef3868c451dbc37ed4f47cbc7d7c8cfde3a"), looks := false }, kinds := [], alts := [], laidByText := true, laidKinds := [.data], laidTests := true, laidLooks := .later }
def FnClaimsUptoCardSaid : Prop := Claim7.holds Tryd.pinned (.plain (OpenSpec.upto fnClaimsSpec)) fnClaimsUptoCard

/-- THE SECOND FORM's CARD OF 'laws.FnClaimLists'. -/
def fnClaimListsUptoCard : Claim7 := { stood := { row := fnClaimListsUptoRow, standIns := [], harness := (true, "45cd9a0bbf70deb4c4ad73fc77c25ef3868c451dbc37ed4f47cbc7d7c8cfde3a"), looks := false }, kinds := [], alts := [], laidByText := true, laidKinds := [.data], laidTests := true, laidLooks := .later }
def FnClaimListsUptoCardSaid : Prop := Claim7.holds Tryd.pinned (.plain (OpenSpec.upto fnClaimListsSpec)) fnClaimListsUptoCard

/-- THE SECOND FORM's CARD OF 'laws.FnExactSuspectClaims'. -/
def fnExactSuspectClaimsUptoCard : Claim7 := { stood := { row := fnExactSuspectClaimsUptoRow, standIns := [], harness := (true, "45cd9a0bbf70deb4c4ad73fc77c25ef3868c451dbc37ed4f47cbc7d7c8cfde3a"), looks := false }, kinds := [], alts := [], laidByText := true, laidKinds := [.data], laidTests := true, laidLooks := .later }
def FnExactSuspectClaimsUptoCardSaid : Prop := Claim7.holds Tryd.pinned (.plain (OpenSpec.upto fnExactSuspectClaimsSpec)) fnExactSuspectClaimsUptoCard
end Rows
end Go.Proofs.YtidlaiaiomilhaaDoor
