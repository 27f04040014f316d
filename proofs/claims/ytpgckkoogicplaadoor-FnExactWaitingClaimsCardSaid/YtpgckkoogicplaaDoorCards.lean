/-
  DERIVED. GIVEN WITH THE SEED: THE CARDS: each row of YtpgckkoogicplaaDoorRows.lean that lists a variable, with what it lists TIED to the program's text (the seventh form; the later family's looks); each row that meets fmt, with fmt's text TOLD by the authors' own Lean function (tested against real Go, not proved from fmt's source: count such statements apart). THE CARD IS WHAT COUNTS. Prove the row's statement (the work); the ties are given (YtpgckkoogicplaaDoorTie.lean); close each card by the builder's one call (the guide's Derived/Test/ToyasCard.lean, 'card_holds'). Laid BY PROGRAM, IN A SANDBOX (cutbox-door.mjs). By AI agents, Wed Nov 11 2026. No macro, syntax, notation, axiom, sorry.
-/
import Derived.Test.YtpgckkoogicplaaDoorRows
import GoSem.ClaimSeven
namespace Go.Proofs.YtpgckkoogicplaaDoor
namespace Rows

/-- THE TIED CARD OF 'laws.FnExactNeededPapers'. -/
def fnExactNeededPapersCard : Claim7 := { stood := { row := fnExactNeededPapersRow, standIns := [], harness := (true, "5513c330b5fe1a39b9aff168464ee00e2a2e6ff1bc177ce52d910e420b086143"), looks := false }, kinds := [], alts := [], laidByText := true, laidKinds := [.data], laidTests := true, laidLooks := .later }
def FnExactNeededPapersCardSaid : Prop := Claim7.holds Tryd.pinned (.plain (OpenSpec.ofChange fnExactNeededPapersSpec)) fnExactNeededPapersCard

/-- THE TIED CARD OF 'laws.FnExactIsClaim'. -/
def fnExactIsClaimCard : Claim7 := { stood := { row := fnExactIsClaimRow, standIns := [], harness := (true, "5513c330b5fe1a39b9aff168464ee00e2a2e6ff1bc177ce52d910e420b086143"), looks := false }, kinds := [], alts := [], laidByText := true, laidKinds := [.data], laidTests := true, laidLooks := .later }
def FnExactIsClaimCardSaid : Prop := Claim7.holds Tryd.pinned (.plain (OpenSpec.ofChange fnExactIsClaimSpec)) fnExactIsClaimCard

/-- THE TIED CARD OF 'laws.FnExactMissingPapers'. -/
def fnExactMissingPapersCard : Claim7 := { stood := { row := fnExactMissingPapersRow, standIns := [], harness := (true, "5513c330b5fe1a39b9aff168464ee00e2a2e6ff1bc177ce52d910e420b086143"), looks := false }, kinds := [], alts := [], laidByText := true, laidKinds := [.data], laidTests := true, laidLooks := .later }
def FnExactMissingPapersCardSaid : Prop := Claim7.holds Tryd.pinned (.plain (OpenSpec.ofChange fnExactMissingPapersSpec)) fnExactMissingPapersCard

/-- THE TIED CARD OF 'laws.FnExactPayClaim'. -/
def fnExactPayClaimCard : Claim7 := { stood := { row := fnExactPayClaimRow, standIns := [], harness := (true, "5513c330b5fe1a39b9aff168464ee00e2a2e6ff1bc177ce52d910e420b086143"), looks := false }, kinds := [], alts := [], laidByText := true, laidKinds := [.data], laidTests := true, laidLooks := .later }
def FnExactPayClaimCardSaid : Prop := Claim7.holds Tryd.pinned (.plain (OpenSpec.ofChange fnExactPayClaimSpec)) fnExactPayClaimCard

/-- THE TIED CARD OF 'laws.FnExactHandIn'. -/
def fnExactHandInCard : Claim7 := { stood := { row := fnExactHandInRow, standIns := [], harness := (true, "5513c330b5fe1a39b9aff168464ee00e2a2e6ff1bc177ce52d910e420b086143"), looks := false }, kinds := [], alts := [], laidByText := true, laidKinds := [.data], laidTests := true, laidLooks := .later }
def FnExactHandInCardSaid : Prop := Claim7.holds Tryd.pinned (.plain (OpenSpec.ofChange fnExactHandInSpec)) fnExactHandInCard

/-- THE TIED CARD OF 'laws.FnExactDecideClaim'. -/
def fnExactDecideClaimCard : Claim7 := { stood := { row := fnExactDecideClaimRow, standIns := [], harness := (true, "5513c330b5fe1a39b9aff168464ee00e2a2e6ff1bc177ce52d910e420b086143"), looks := false }, kinds := [], alts := [], laidByText := true, laidKinds := [.data], laidTests := true, laidLooks := .later }
def FnExactDecideClaimCardSaid : Prop := Claim7.holds Tryd.pinned (.plain (OpenSpec.ofChange fnExactDecideClaimSpec)) fnExactDecideClaimCard

/-- THE TIED CARD OF 'laws.FnExactClaimSums'. -/
def fnExactClaimSumsCard : Claim7 := { stood := { row := fnExactClaimSumsRow, standIns := [], harness := (true, "5513c330b5fe1a39b9aff168464ee00e2a2e6ff1bc177ce52d910e420b086143"), looks := false }, kinds := [], alts := [], laidByText := true, laidKinds := [.data], laidTests := true, laidLooks := .later }
def FnExactClaimSumsCardSaid : Prop := Claim7.holds Tryd.pinned (.plain (OpenSpec.ofChange fnExactClaimSumsSpec)) fnExactClaimSumsCard

/-- THE TIED CARD OF 'laws.FnExactWaitingClaims'. -/
def fnExactWaitingClaimsCard : Claim7 := { stood := { row := fnExactWaitingClaimsRow, standIns := [], harness := (true, "5513c330b5fe1a39b9aff168464ee00e2a2e6ff1bc177ce52d910e420b086143"), looks := false }, kinds := [], alts := [], laidByText := true, laidKinds := [.data], laidTests := true, laidLooks := .later }
def FnExactWaitingClaimsCardSaid : Prop := Claim7.holds Tryd.pinned (.plain (OpenSpec.ofChange fnExactWaitingClaimsSpec)) fnExactWaitingClaimsCard

/-- THE TIED CARD OF 'laws.FnClaims'. -/
def fnClaimsCard : Claim7 := { stood := { row := fnClaimsRow, standIns := [], harness := (true, "5513c330b5fe1a39b9aff168464ee00e2a2e6ff1bc177ce52d910e420b086143"), looks := false }, kinds := [], alts := [], laidByText := true, laidKinds := [.data], laidTests := true, laidLooks := .later }
def FnClaimsCardSaid : Prop := Claim7.holds Tryd.pinned (.plain (OpenSpec.ofChange fnClaimsSpec)) fnClaimsCard

/-- THE SECOND FORM's CARD OF 'laws.FnExactNeededPapers'. -/
def fnExactNeededPapersUptoCard : Claim7 := { stood := { row := fnExactNeededPapersUptoRow, standIns := [], harness := (true, "5513c330b5fe1a39b9aff168464ee00e2a2e6ff1bc177ce52d910e420b086143"), looks := false }, kinds := [], alts := [], laidByText := true, laidKinds := [.data], laidTests := true, laidLooks := .later }
def FnExactNeededPapersUptoCardSaid : Prop := Claim7.holds Tryd.pinned (.plain (OpenSpec.upto fnExactNeededPapersSpec)) fnExactNeededPapersUptoCard

/-- THE SECOND FORM's CARD OF 'laws.FnExactIsClaim'. -/
def fnExactIsClaimUptoCard : Claim7 := { stood := { row := fnExactIsClaimUptoRow, standIns := [], harness := (true, "5513c330b5fe1a39b9aff168464ee00e2a2e6ff1bc177ce52d910e420b086143"), looks := false }, kinds := [], alts := [], laidByText := true, laidKinds := [.data], laidTests := true, laidLooks := .later }
def FnExactIsClaimUptoCardSaid : Prop := Claim7.holds Tryd.pinned (.plain (OpenSpec.upto fnExactIsClaimSpec)) fnExactIsClaimUptoCard

/-- THE SECOND FORM's CARD OF 'laws.FnExactMissingPapers'. -/
def fnExactMissingPapersUptoCard : Claim7 := { stood := { row := fnExactMissingPapersUptoRow, standIns := [], harness := (true, "5513c330b5fe1a39b9aff168464ee00e2a2e6ff1bc177ce52d910e420b086143"), looks := false }, kinds := [], alts := [], laidByText := true, laidKinds := [.data], laidTests := true, laidLooks := .later }
def FnExactMissingPapersUptoCardSaid : Prop := Claim7.holds Tryd.pinned (.plain (OpenSpec.upto fnExactMissingPapersSpec)) fnExactMissingPapersUptoCard

/-- THE SECOND FORM's CARD OF 'laws.FnExactPayClaim'. -/
def fnExactPayClaimUptoCard : Claim7 := { stood := { row := fnExactPayClaimUptoRow, standIns := [], harness := (true, "5513c330b5fe1a39b9aff168464ee00e2a2e6ff1bc177ce52d910e420b086143"), looks := false }, kinds := [], alts := [], laidByText := true, laidKinds := [.data], laidTests := true, laidLooks := .later }
def FnExactPayClaimUptoCardSaid : Prop := Claim7.holds Tryd.pinned (.plain (OpenSpec.upto fnExactPayClaimSpec)) fnExactPayClaimUptoCard

/-- THE SECOND FORM's CARD OF 'laws.FnExactHandIn'. -/
def fnExactHandInUptoCard : Claim7 := { stood := { row := fnExactHandInUptoRow, standIns := [], harness := (true, "5513c330b5fe1a39b9aff168464ee00e2a2e6ff1bc177ce52d910e420b086143"), looks := false }, kinds := [], alts := [], laidByText := true, laidKinds := [.data], laidTests := true, laidLooks := .later }
def FnExactHandInUptoCardSaid : Prop := Claim7.holds Tryd.pinned (.plain (OpenSpec.upto fnExactHandInSpec)) fnExactHandInUptoCard

/-- THE SECOND FORM's CARD OF 'laws.FnExactDecideClaim'. -/
def fnExactDecideClaimUptoCard : Claim7 := { stood := { row := fnExactDecideClaimUptoRow, standIns := [], harness := (true, "5513c330b5fe1a39b9aff168464ee00e2a2e6ff1bc177ce52d910e420b086143"), looks := false }, kinds := [], alts := [], laidByText := true, laidKinds := [.data], laidTests := true, laidLooks := .later }
def FnExactDecideClaimUptoCardSaid : Prop := Claim7.holds Tryd.pinned (.plain (OpenSpec.upto fnExactDecideClaimSpec)) fnExactDecideClaimUptoCard

/-- THE SECOND FORM's CARD OF 'laws.FnExactClaimSums'. -/
def fnExactClaimSumsUptoCard : Claim7 := { stood := { row := fnExactClaimSumsUptoRow, standIns := [], harness := (true, "5513c330b5fe1a39b9aff168464ee00e2a2e6ff1bc177ce52d910e420b086143"), looks := false }, kinds := [], alts := [], laidByText := true, laidKinds := [.data], laidTests := true, laidLooks := .later }
def FnExactClaimSumsUptoCardSaid : Prop := Claim7.holds Tryd.pinned (.plain (OpenSpec.upto fnExactClaimSumsSpec)) fnExactClaimSumsUptoCard

/-- THE SECOND FORM's CARD OF 'laws.FnExactWaitingClaims'. -/
def fnExactWaitingClaimsUptoCard : Claim7 := { stood := { row := fnExactWaitingClaimsUptoRow, standIns := [], harness := (true, "5513c330b5fe1a39b9aff168464ee00e2a2e6ff1bc177ce52d910e420b086143"), looks := false }, kinds := [], alts := [], laidByText := true, laidKinds := [.data], laidTests := true, laidLooks := .later }
def FnExactWaitingClaimsUptoCardSaid : Prop := Claim7.holds Tryd.pinned (.plain (OpenSpec.upto fnExactWaitingClaimsSpec)) fnExactWaitingClaimsUptoCard

/-- THE SECOND FORM's CARD OF 'laws.FnClaims'. -/
def fnClaimsUptoCard : Claim7 := { stood := { row := fnClaimsUptoRow, standIns := [], harness := (true, "5513c330b5fe1a39b9aff168464ee00e2a2e6ff1bc177ce52d910e420b086143"), looks := false }, kinds := [], alts := [], laidByText := true, laidKinds := [.data], laidTests := true, laidLooks := .later }
def FnClaimsUptoCardSaid : Prop := Claim7.holds Tryd.pinned (.plain (OpenSpec.upto fnClaimsSpec)) fnClaimsUptoCard
end Rows
end Go.Proofs.YtpgckkoogicplaaDoor
