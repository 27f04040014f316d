/-
  No cell of these rows narrows 'for every input' (looked for: loops, veiled, ifaces, maps, wideKeys, modest, calm, conditions, laid).
  DERIVED. THE GIVEN ROWS OF THIS SEAT. 10 by the template 'for every input the law returns true; each argument reads behind the call as it read before'; 0 by the template 'total and deterministic' (their statements: YtcdfdigehaipmaaTotals.lean).
  GIVEN WITH THE SEED: the statements are not yours to turn. If you find one false, say at which input.
  Laid BY PROGRAM, IN A SANDBOX (cutbox-rows.mjs): the forced cells as the released guide's own fill.sh prints them over the translation 84d649b040149280… (all of the seat's roots in one cut). By AI agents, Wed Nov 11 2026. No macro, syntax, notation, axiom, sorry.
-/
import Derived.Test.YtcdfdigehaipmaaChecked
import GoSem.Claim
import GoSem.ClaimJoined
import GoSem.ClaimMapViews
import Derived.JoinedTies
import Derived.KernelRfl
namespace Go.Proofs.Ytcdfdigehaipmaa
/- THE CELL 'sum', in the pinned program and in every row, IS THE sha256 OF THE DUMP (.gsa) THAT YtcdfdigehaipmaaProg.lean LOADS. Nothing in Lean hashes anything: it is a label: what it is worth is what the hold of that sum in a sandbox is worth. -/
noncomputable def Try.pinned : Pinned := { name := "ytcdfdigehaipmaa", sum := "84d649b04014928077576ee5b0a50b18fd9cf8a6f018e5f55bcb78a9391ccd6f", checked := Try.checked }
namespace Rows
def none {H : Type} : Left H := { results := [], args := [] }

/-- 'laws.FnExactHasQuorum': WHATEVER THE INPUT: true; the input reads as it did. -/
def fnExactHasQuorumSpec : ChangeSpec := { name := "fnExactHasQuorum", fn := fun _ => fun
  | [d1, d2, d3] => { results := [.lit (.bool true)], args := [d1, d2, d3] }
  | _ => none }
def fnExactHasQuorumRow : OpenClaim := { program := "ytcdfdigehaipmaa", sum := "84d649b04014928077576ee5b0a50b18fd9cf8a6f018e5f55bcb78a9391ccd6f", func := "loop.example/g01025/laws.FnExactHasQuorum", spec := "fnExactHasQuorum", apart := false }
def FnExactHasQuorumSaid : Prop := fnExactHasQuorumRow.holds Try.pinned (OpenSpec.ofChange fnExactHasQuorumSpec)

/-- ITS FALSE NEIGHBOUR: 'it returns false'. Refute it at one input. -/
def fnExactHasQuorumWrong : ChangeSpec := { name := "fnExactHasQuorum", fn := fun _ => fun
  | [d1, d2, d3] => { results := [.lit (.bool false)], args := [d1, d2, d3] }
  | _ => none }
def FnExactHasQuorumWrongFalsely : Prop := fnExactHasQuorumRow.holds Try.pinned (OpenSpec.ofChange fnExactHasQuorumWrong)

/-- 'laws.FnExactYesNeeded': WHATEVER THE INPUT: true; the input reads as it did. -/
def fnExactYesNeededSpec : ChangeSpec := { name := "fnExactYesNeeded", fn := fun _ => fun
  | [d1, d2] => { results := [.lit (.bool true)], args := [d1, d2] }
  | _ => none }
def fnExactYesNeededRow : OpenClaim := { program := "ytcdfdigehaipmaa", sum := "84d649b04014928077576ee5b0a50b18fd9cf8a6f018e5f55bcb78a9391ccd6f", func := "loop.example/g01025/laws.FnExactYesNeeded", spec := "fnExactYesNeeded", apart := false }
def FnExactYesNeededSaid : Prop := fnExactYesNeededRow.holds Try.pinned (OpenSpec.ofChange fnExactYesNeededSpec)

/-- ITS FALSE NEIGHBOUR: 'it returns false'. Refute it at one input. -/
def fnExactYesNeededWrong : ChangeSpec := { name := "fnExactYesNeeded", fn := fun _ => fun
  | [d1, d2] => { results := [.lit (.bool false)], args := [d1, d2] }
  | _ => none }
def FnExactYesNeededWrongFalsely : Prop := fnExactYesNeededRow.holds Try.pinned (OpenSpec.ofChange fnExactYesNeededWrong)

/-- 'laws.FnExactIsCarried': WHATEVER THE INPUT: true; the input reads as it did. -/
def fnExactIsCarriedSpec : ChangeSpec := { name := "fnExactIsCarried", fn := fun _ => fun
  | [d1, d2] => { results := [.lit (.bool true)], args := [d1, d2] }
  | _ => none }
def fnExactIsCarriedRow : OpenClaim := { program := "ytcdfdigehaipmaa", sum := "84d649b04014928077576ee5b0a50b18fd9cf8a6f018e5f55bcb78a9391ccd6f", func := "loop.example/g01025/laws.FnExactIsCarried", spec := "fnExactIsCarried", unfollowed := true, recurses := true, apart := false }
def FnExactIsCarriedSaid : Prop := fnExactIsCarriedRow.holds Try.pinned (OpenSpec.ofChange fnExactIsCarriedSpec)

/-- ITS FALSE NEIGHBOUR: 'it returns false'. Refute it at one input. -/
def fnExactIsCarriedWrong : ChangeSpec := { name := "fnExactIsCarried", fn := fun _ => fun
  | [d1, d2] => { results := [.lit (.bool false)], args := [d1, d2] }
  | _ => none }
def FnExactIsCarriedWrongFalsely : Prop := fnExactIsCarriedRow.holds Try.pinned (OpenSpec.ofChange fnExactIsCarriedWrong)

/-- 'laws.FnExactCountVotes': WHATEVER THE INPUT: true; the input reads as it did. -/
def fnExactCountVotesSpec : ChangeSpec := { name := "fnExactCountVotes", fn := fun _ => fun
  | [d] => { results := [.lit (.bool true)], args := [d] }
  | _ => none }
def fnExactCountVotesRow : OpenClaim := { program := "ytcdfdigehaipmaa", sum := "84d649b04014928077576ee5b0a50b18fd9cf8a6f018e5f55bcb78a9391ccd6f", func := "loop.example/g01025/laws.FnExactCountVotes", spec := "fnExactCountVotes", unfollowed := true, recurses := true, apart := false }
def FnExactCountVotesSaid : Prop := fnExactCountVotesRow.holds Try.pinned (OpenSpec.ofChange fnExactCountVotesSpec)

/-- ITS FALSE NEIGHBOUR: 'it returns false'. Refute it at one input. -/
def fnExactCountVotesWrong : ChangeSpec := { name := "fnExactCountVotes", fn := fun _ => fun
  | [d] => { results := [.lit (.bool false)], args := [d] }
  | _ => none }
def FnExactCountVotesWrongFalsely : Prop := fnExactCountVotesRow.holds Try.pinned (OpenSpec.ofChange fnExactCountVotesWrong)

/-- 'laws.FnVotes': WHATEVER THE INPUT: true; the input reads as it did. -/
def fnVotesSpec : ChangeSpec := { name := "fnVotes", fn := fun _ => fun
  | [d] => { results := [.lit (.bool true)], args := [d] }
  | _ => none }
def fnVotesRow : OpenClaim := { program := "ytcdfdigehaipmaa", sum := "84d649b04014928077576ee5b0a50b18fd9cf8a6f018e5f55bcb78a9391ccd6f", func := "loop.example/g01025/laws.FnVotes", spec := "fnVotes", unfollowed := true, recurses := true, apart := false }
def FnVotesSaid : Prop := fnVotesRow.holds Try.pinned (OpenSpec.ofChange fnVotesSpec)

/-- ITS FALSE NEIGHBOUR: 'it returns false'. Refute it at one input. -/
def fnVotesWrong : ChangeSpec := { name := "fnVotes", fn := fun _ => fun
  | [d] => { results := [.lit (.bool false)], args := [d] }
  | _ => none }
def FnVotesWrongFalsely : Prop := fnVotesRow.holds Try.pinned (OpenSpec.ofChange fnVotesWrong)

/-- 'laws.FnExactPointsOf': WHATEVER THE INPUT: true; the input reads as it did. -/
def fnExactPointsOfSpec : ChangeSpec := { name := "fnExactPointsOf", fn := fun _ => fun
  | [d1, d2] => { results := [.lit (.bool true)], args := [d1, d2] }
  | _ => none }
def fnExactPointsOfRow : OpenClaim := { program := "ytcdfdigehaipmaa", sum := "84d649b04014928077576ee5b0a50b18fd9cf8a6f018e5f55bcb78a9391ccd6f", func := "loop.example/g01025/laws.FnExactPointsOf", spec := "fnExactPointsOf", unfollowed := true, recurses := true, apart := false }
def FnExactPointsOfSaid : Prop := fnExactPointsOfRow.holds Try.pinned (OpenSpec.ofChange fnExactPointsOfSpec)

/-- ITS FALSE NEIGHBOUR: 'it returns false'. Refute it at one input. -/
def fnExactPointsOfWrong : ChangeSpec := { name := "fnExactPointsOf", fn := fun _ => fun
  | [d1, d2] => { results := [.lit (.bool false)], args := [d1, d2] }
  | _ => none }
def FnExactPointsOfWrongFalsely : Prop := fnExactPointsOfRow.holds Try.pinned (OpenSpec.ofChange fnExactPointsOfWrong)

/-- 'laws.FnExactBeatsAll': WHATEVER THE INPUT: true; the input reads as it did. -/
def fnExactBeatsAllSpec : ChangeSpec := { name := "fnExactBeatsAll", fn := fun _ => fun
  | [d1, d2] => { results := [.lit (.bool true)], args := [d1, d2] }
  | _ => none }
def fnExactBeatsAllRow : OpenClaim := { program := "ytcdfdigehaipmaa", sum := "84d649b04014928077576ee5b0a50b18fd9cf8a6f018e5f55bcb78a9391ccd6f", func := "loop.example/g01025/laws.FnExactBeatsAll", spec := "fnExactBeatsAll", unfollowed := true, recurses := true, apart := false }
def FnExactBeatsAllSaid : Prop := fnExactBeatsAllRow.holds Try.pinned (OpenSpec.ofChange fnExactBeatsAllSpec)

/-- ITS FALSE NEIGHBOUR: 'it returns false'. Refute it at one input. -/
def fnExactBeatsAllWrong : ChangeSpec := { name := "fnExactBeatsAll", fn := fun _ => fun
  | [d1, d2] => { results := [.lit (.bool false)], args := [d1, d2] }
  | _ => none }
def FnExactBeatsAllWrongFalsely : Prop := fnExactBeatsAllRow.holds Try.pinned (OpenSpec.ofChange fnExactBeatsAllWrong)

/-- 'laws.FnExactElectedByRounds': WHATEVER THE INPUT: true; the input reads as it did. -/
def fnExactElectedByRoundsSpec : ChangeSpec := { name := "fnExactElectedByRounds", fn := fun _ => fun
  | [d1, d2] => { results := [.lit (.bool true)], args := [d1, d2] }
  | _ => none }
def fnExactElectedByRoundsRow : OpenClaim := { program := "ytcdfdigehaipmaa", sum := "84d649b04014928077576ee5b0a50b18fd9cf8a6f018e5f55bcb78a9391ccd6f", func := "loop.example/g01025/laws.FnExactElectedByRounds", spec := "fnExactElectedByRounds", unfollowed := true, recurses := true, apart := false }
def FnExactElectedByRoundsSaid : Prop := fnExactElectedByRoundsRow.holds Try.pinned (OpenSpec.ofChange fnExactElectedByRoundsSpec)

/-- ITS FALSE NEIGHBOUR: 'it returns false'. Refute it at one input. -/
def fnExactElectedByRoundsWrong : ChangeSpec := { name := "fnExactElectedByRounds", fn := fun _ => fun
  | [d1, d2] => { results := [.lit (.bool false)], args := [d1, d2] }
  | _ => none }
def FnExactElectedByRoundsWrongFalsely : Prop := fnExactElectedByRoundsRow.holds Try.pinned (OpenSpec.ofChange fnExactElectedByRoundsWrong)

/-- 'laws.FnExactElectedByPoints': WHATEVER THE INPUT: true; the input reads as it did. -/
def fnExactElectedByPointsSpec : ChangeSpec := { name := "fnExactElectedByPoints", fn := fun _ => fun
  | [d1, d2, d3] => { results := [.lit (.bool true)], args := [d1, d2, d3] }
  | _ => none }
def fnExactElectedByPointsRow : OpenClaim := { program := "ytcdfdigehaipmaa", sum := "84d649b04014928077576ee5b0a50b18fd9cf8a6f018e5f55bcb78a9391ccd6f", func := "loop.example/g01025/laws.FnExactElectedByPoints", spec := "fnExactElectedByPoints", unfollowed := true, recurses := true, apart := false }
def FnExactElectedByPointsSaid : Prop := fnExactElectedByPointsRow.holds Try.pinned (OpenSpec.ofChange fnExactElectedByPointsSpec)

/-- ITS FALSE NEIGHBOUR: 'it returns false'. Refute it at one input. -/
def fnExactElectedByPointsWrong : ChangeSpec := { name := "fnExactElectedByPoints", fn := fun _ => fun
  | [d1, d2, d3] => { results := [.lit (.bool false)], args := [d1, d2, d3] }
  | _ => none }
def FnExactElectedByPointsWrongFalsely : Prop := fnExactElectedByPointsRow.holds Try.pinned (OpenSpec.ofChange fnExactElectedByPointsWrong)

/-- 'laws.FnElections': WHATEVER THE INPUT: true; the input reads as it did. -/
def fnElectionsSpec : ChangeSpec := { name := "fnElections", fn := fun _ => fun
  | [d] => { results := [.lit (.bool true)], args := [d] }
  | _ => none }
def fnElectionsRow : OpenClaim := { program := "ytcdfdigehaipmaa", sum := "84d649b04014928077576ee5b0a50b18fd9cf8a6f018e5f55bcb78a9391ccd6f", func := "loop.example/g01025/laws.FnElections", spec := "fnElections", unfollowed := true, recurses := true, apart := false }
def FnElectionsSaid : Prop := fnElectionsRow.holds Try.pinned (OpenSpec.ofChange fnElectionsSpec)

/-- ITS FALSE NEIGHBOUR: 'it returns false'. Refute it at one input. -/
def fnElectionsWrong : ChangeSpec := { name := "fnElections", fn := fun _ => fun
  | [d] => { results := [.lit (.bool false)], args := [d] }
  | _ => none }
def FnElectionsWrongFalsely : Prop := fnElectionsRow.holds Try.pinned (OpenSpec.ofChange fnElectionsWrong)

/- THE SECOND FORM. 'bulk': how many values and letters a reading holds, each counted each time it is reached (what is shared counts as often as it is met; a slice's spare places count too). A statement '..UptoSaid' is the law's where the arguments, and the package variables that the reading takes, are together of bulk at most 1048576: NARROWER than '..Said'. Prove '..Said' where nothing that the law and all that it calls make is longer than what came in: it says more and counts as full. Else prove '..UptoSaid'. A law counts once. -/
mutual
def uptoBulk {H : Type} : DataW H → Nat
  | .lit (.string bytes) => bytes.length + 1
  | .lit _ => 1
  | .nil => 1
  | .ptr d => uptoBulk d + 1
  | .slice elems spare => uptoBulkAll elems + uptoBulkAll spare + 1
  | .agg parts => uptoBulkAll parts + 1
  | .iface _ d => uptoBulk d + 1
  | .map entries => uptoBulkEntries entries + 1
  | .held _ => 1
def uptoBulkAll {H : Type} : List (DataW H) → Nat
  | [] => 0
  | d :: r => uptoBulk d + uptoBulkAll r
def uptoBulkEntries {H : Type} : List (Lit × DataW H) → Nat
  | [] => 0
  | x :: r => uptoBulkEntry x + uptoBulkEntries r
def uptoBulkEntry {H : Type} : Lit × DataW H → Nat
  | (.string bytes, d) => bytes.length + uptoBulk d + 1
  | (_, d) => uptoBulk d + 1
 end
def uptoSmall : (H : Type) → List (DataW H) → Bool := fun _ ds => decide (uptoBulkAll ds ≤ 1048576)
def OpenSpec.upto (s : _root_.Go.ChangeSpec) : _root_.Go.OpenSpec := { _root_.Go.OpenSpec.ofChange s with cond := some uptoSmall }

/-- 'laws.FnExactHasQuorum', WHERE WHAT IT READS IS OF BULK AT MOST 1048576: true; the input reads as it did. -/
def fnExactHasQuorumUptoRow : OpenClaim := { program := "ytcdfdigehaipmaa", sum := "84d649b04014928077576ee5b0a50b18fd9cf8a6f018e5f55bcb78a9391ccd6f", func := "loop.example/g01025/laws.FnExactHasQuorum", spec := "fnExactHasQuorum", apart := false, narrowed := true }
def FnExactHasQuorumUptoSaid : Prop := fnExactHasQuorumUptoRow.holds Try.pinned (OpenSpec.upto fnExactHasQuorumSpec)

/-- 'laws.FnExactYesNeeded', WHERE WHAT IT READS IS OF BULK AT MOST 1048576: true; the input reads as it did. -/
def fnExactYesNeededUptoRow : OpenClaim := { program := "ytcdfdigehaipmaa", sum := "84d649b04014928077576ee5b0a50b18fd9cf8a6f018e5f55bcb78a9391ccd6f", func := "loop.example/g01025/laws.FnExactYesNeeded", spec := "fnExactYesNeeded", apart := false, narrowed := true }
def FnExactYesNeededUptoSaid : Prop := fnExactYesNeededUptoRow.holds Try.pinned (OpenSpec.upto fnExactYesNeededSpec)

/-- 'laws.FnExactIsCarried', WHERE WHAT IT READS IS OF BULK AT MOST 1048576: true; the input reads as it did. -/
def fnExactIsCarriedUptoRow : OpenClaim := { program := "ytcdfdigehaipmaa", sum := "84d649b04014928077576ee5b0a50b18fd9cf8a6f018e5f55bcb78a9391ccd6f", func := "loop.example/g01025/laws.FnExactIsCarried", spec := "fnExactIsCarried", unfollowed := true, recurses := true, apart := false, narrowed := true }
def FnExactIsCarriedUptoSaid : Prop := fnExactIsCarriedUptoRow.holds Try.pinned (OpenSpec.upto fnExactIsCarriedSpec)

/-- 'laws.FnExactCountVotes', WHERE WHAT IT READS IS OF BULK AT MOST 1048576: true; the input reads as it did. -/
def fnExactCountVotesUptoRow : OpenClaim := { program := "ytcdfdigehaipmaa", sum := "84d649b04014928077576ee5b0a50b18fd9cf8a6f018e5f55bcb78a9391ccd6f", func := "loop.example/g01025/laws.FnExactCountVotes", spec := "fnExactCountVotes", unfollowed := true, recurses := true, apart := false, narrowed := true }
def FnExactCountVotesUptoSaid : Prop := fnExactCountVotesUptoRow.holds Try.pinned (OpenSpec.upto fnExactCountVotesSpec)

/-- 'laws.FnVotes', WHERE WHAT IT READS IS OF BULK AT MOST 1048576: true; the input reads as it did. -/
def fnVotesUptoRow : OpenClaim := { program := "ytcdfdigehaipmaa", sum := "84d649b04014928077576ee5b0a50b18fd9cf8a6f018e5f55bcb78a9391ccd6f", func := "loop.example/g01025/laws.FnVotes", spec := "fnVotes", unfollowed := true, recurses := true, apart := false, narrowed := true }
def FnVotesUptoSaid : Prop := fnVotesUptoRow.holds Try.pinned (OpenSpec.upto fnVotesSpec)

/-- 'laws.FnExactPointsOf', WHERE WHAT IT READS IS OF BULK AT MOST 1048576: true; the input reads as it did. -/
def fnExactPointsOfUptoRow : OpenClaim := { program := "ytcdfdigehaipmaa", sum := "84d649b04014928077576ee5b0a50b18fd9cf8a6f018e5f55bcb78a9391ccd6f", func := "loop.example/g01025/laws.FnExactPointsOf", spec := "fnExactPointsOf", unfollowed := true, recurses := true, apart := false, narrowed := true }
def FnExactPointsOfUptoSaid : Prop := fnExactPointsOfUptoRow.holds Try.pinned (OpenSpec.upto fnExactPointsOfSpec)

/-- 'laws.FnExactBeatsAll', WHERE WHAT IT READS IS OF BULK AT MOST 1048576: true; the input reads as it did. -/
def fnExactBeatsAllUptoRow : OpenClaim := { program := "ytcdfdigehaipmaa", sum := "84d649b04014928077576ee5b0a50b18fd9cf8a6f018e5f55bcb78a9391ccd6f", func := "loop.example/g01025/laws.FnExactBeatsAll", spec := "fnExactBeatsAll", unfollowed := true, recurses := true, apart := false, narrowed := true }
def FnExactBeatsAllUptoSaid : Prop := fnExactBeatsAllUptoRow.holds Try.pinned (OpenSpec.upto fnExactBeatsAllSpec)

/-- 'laws.FnExactElectedByRounds', WHERE WHAT IT READS IS OF BULK AT MOST 1048576: true; the input reads as it did. -/
def fnExactElectedByRoundsUptoRow : OpenClaim := { program := "ytcdfdigehaipmaa", sum := "84d649b04014928077576ee5b0a50b18fd9cf8a6f018e5f55bcb78a9391ccd6f", func := "loop.example/g01025/laws.FnExactElectedByRounds", spec := "fnExactElectedByRounds", unfollowed := true, recurses := true, apart := false, narrowed := true }
def FnExactElectedByRoundsUptoSaid : Prop := fnExactElectedByRoundsUptoRow.holds Try.pinned (OpenSpec.upto fnExactElectedByRoundsSpec)

/-- 'laws.FnExactElectedByPoints', WHERE WHAT IT READS IS OF BULK AT MOST 1048576: true; the input reads as it did. -/
def fnExactElectedByPointsUptoRow : OpenClaim := { program := "ytcdfdigehaipmaa", sum := "84d649b04014928077576ee5b0a50b18fd9cf8a6f018e5f55bcb78a9391ccd6f", func := "loop.example/g01025/laws.FnExactElectedByPoints", spec := "fnExactElectedByPoints", unfollowed := true, recurses := true, apart := false, narrowed := true }
def FnExactElectedByPointsUptoSaid : Prop := fnExactElectedByPointsUptoRow.holds Try.pinned (OpenSpec.upto fnExactElectedByPointsSpec)

/-- 'laws.FnElections', WHERE WHAT IT READS IS OF BULK AT MOST 1048576: true; the input reads as it did. -/
def fnElectionsUptoRow : OpenClaim := { program := "ytcdfdigehaipmaa", sum := "84d649b04014928077576ee5b0a50b18fd9cf8a6f018e5f55bcb78a9391ccd6f", func := "loop.example/g01025/laws.FnElections", spec := "fnElections", unfollowed := true, recurses := true, apart := false, narrowed := true }
def FnElectionsUptoSaid : Prop := fnElectionsUptoRow.holds Try.pinned (OpenSpec.upto fnElectionsSpec)

end Rows
end Go.Proofs.Ytcdfdigehaipmaa
