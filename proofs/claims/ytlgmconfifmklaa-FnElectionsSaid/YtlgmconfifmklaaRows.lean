/-
  No cell of these rows narrows 'for every input' (looked for: loops, veiled, ifaces, maps, wideKeys, modest, calm, conditions, laid).
  DERIVED. THE GIVEN ROWS OF THIS SEAT. 5 by the template 'for every input the law returns true; each argument reads behind the call as it read before'; 0 by the template 'total and deterministic' (their statements: YtlgmconfifmklaaTotals.lean).
  GIVEN WITH THE SEED: the statements are not yours to turn. If you find one false, say at which input.
  Laid BY PROGRAM, IN A SANDBOX (cutbox-rows.mjs): the forced cells as the released guide's own fill.sh prints them over the translation a7426d2cbeea7adf… (all of the seat's roots in one cut). By AI agents, Wed Nov 11 2026. No macro, syntax, notation, axiom, sorry.
-/
import Derived.Test.YtlgmconfifmklaaChecked
import GoSem.Claim
import GoSem.ClaimJoined
import GoSem.ClaimMapViews
import Derived.JoinedTies
import Derived.KernelRfl
namespace Go.Proofs.Ytlgmconfifmklaa
/- THE CELL 'sum', in the pinned program and in every row, IS THE sha256 OF THE DUMP (.gsa) THAT YtlgmconfifmklaaProg.lean LOADS. Nothing in Lean hashes anything: it is a label: what it is worth is what the hold of that sum in a sandbox is worth. -/
noncomputable def Try.pinned : Pinned := { name := "ytlgmconfifmklaa", sum := "a7426d2cbeea7adf0c2792314bf9997065186f6c9fe5852844c6b244ff6691c1", checked := Try.checked }
namespace Rows
def none {H : Type} : Left H := { results := [], args := [] }

/-- 'laws.FnExactPointsOf': WHATEVER THE INPUT: true; the input reads as it did. -/
def fnExactPointsOfSpec : ChangeSpec := { name := "fnExactPointsOf", fn := fun _ => fun
  | [d1, d2] => { results := [.lit (.bool true)], args := [d1, d2] }
  | _ => none }
def fnExactPointsOfRow : OpenClaim := { program := "ytlgmconfifmklaa", sum := "a7426d2cbeea7adf0c2792314bf9997065186f6c9fe5852844c6b244ff6691c1", func := "loop.example/g01025/laws.FnExactPointsOf", spec := "fnExactPointsOf", unfollowed := true, recurses := true, apart := false }
def FnExactPointsOfSaid : Prop := fnExactPointsOfRow.holds Try.pinned (OpenSpec.ofChange fnExactPointsOfSpec)

/-- ITS FALSE NEIGHBOUR: 'it returns false'. Refute it at one input. -/
def fnExactPointsOfWrong : ChangeSpec := { name := "fnExactPointsOf", fn := fun _ => fun
  | [d1, d2] => { results := [.lit (.bool false)], args := [d1, d2] }
  | _ => none }
def FnExactPointsOfWrongFalsely : Prop := fnExactPointsOfRow.holds Try.pinned (OpenSpec.ofChange fnExactPointsOfWrong)

/-- 'laws.FnExactBeatsAll': WHATEVER THE INPUT: true; the input reads as it did. -/
def fnExactBeatsAllSpec : ChangeSpec := { name := "fnExactBeatsAll", fn := fun _ => fun
  | [d1, d2] => { results := [.lit (.bool true)], args := [d1, d2] }
  | _ => none }
def fnExactBeatsAllRow : OpenClaim := { program := "ytlgmconfifmklaa", sum := "a7426d2cbeea7adf0c2792314bf9997065186f6c9fe5852844c6b244ff6691c1", func := "loop.example/g01025/laws.FnExactBeatsAll", spec := "fnExactBeatsAll", unfollowed := true, recurses := true, apart := false }
def FnExactBeatsAllSaid : Prop := fnExactBeatsAllRow.holds Try.pinned (OpenSpec.ofChange fnExactBeatsAllSpec)

/-- ITS FALSE NEIGHBOUR: 'it returns false'. Refute it at one input. -/
def fnExactBeatsAllWrong : ChangeSpec := { name := "fnExactBeatsAll", fn := fun _ => fun
  | [d1, d2] => { results := [.lit (.bool false)], args := [d1, d2] }
  | _ => none }
def FnExactBeatsAllWrongFalsely : Prop := fnExactBeatsAllRow.holds Try.pinned (OpenSpec.ofChange fnExactBeatsAllWrong)

/-- 'laws.FnExactElectedByRounds': WHATEVER THE INPUT: true; the input reads as it did. -/
def fnExactElectedByRoundsSpec : ChangeSpec := { name := "fnExactElectedByRounds", fn := fun _ => fun
  | [d1, d2] => { results := [.lit (.bool true)], args := [d1, d2] }
  | _ => none }
def fnExactElectedByRoundsRow : OpenClaim := { program := "ytlgmconfifmklaa", sum := "a7426d2cbeea7adf0c2792314bf9997065186f6c9fe5852844c6b244ff6691c1", func := "loop.example/g01025/laws.FnExactElectedByRounds", spec := "fnExactElectedByRounds", unfollowed := true, recurses := true, apart := false }
def FnExactElectedByRoundsSaid : Prop := fnExactElectedByRoundsRow.holds Try.pinned (OpenSpec.ofChange fnExactElectedByRoundsSpec)

/-- ITS FALSE NEIGHBOUR: 'it returns false'. Refute it at one input. -/
def fnExactElectedByRoundsWrong : ChangeSpec := { name := "fnExactElectedByRounds", fn := fun _ => fun
  | [d1, d2] => { results := [.lit (.bool false)], args := [d1, d2] }
  | _ => none }
def FnExactElectedByRoundsWrongFalsely : Prop := fnExactElectedByRoundsRow.holds Try.pinned (OpenSpec.ofChange fnExactElectedByRoundsWrong)

/-- 'laws.FnExactElectedByPoints': WHATEVER THE INPUT: true; the input reads as it did. -/
def fnExactElectedByPointsSpec : ChangeSpec := { name := "fnExactElectedByPoints", fn := fun _ => fun
  | [d1, d2, d3] => { results := [.lit (.bool true)], args := [d1, d2, d3] }
  | _ => none }
def fnExactElectedByPointsRow : OpenClaim := { program := "ytlgmconfifmklaa", sum := "a7426d2cbeea7adf0c2792314bf9997065186f6c9fe5852844c6b244ff6691c1", func := "loop.example/g01025/laws.FnExactElectedByPoints", spec := "fnExactElectedByPoints", unfollowed := true, recurses := true, apart := false }
def FnExactElectedByPointsSaid : Prop := fnExactElectedByPointsRow.holds Try.pinned (OpenSpec.ofChange fnExactElectedByPointsSpec)

/-- ITS FALSE NEIGHBOUR: 'it returns false'. Refute it at one input. -/
def fnExactElectedByPointsWrong : ChangeSpec := { name := "fnExactElectedByPoints", fn := fun _ => fun
  | [d1, d2, d3] => { results := [.lit (.bool false)], args := [d1, d2, d3] }
  | _ => none }
def FnExactElectedByPointsWrongFalsely : Prop := fnExactElectedByPointsRow.holds Try.pinned (OpenSpec.ofChange fnExactElectedByPointsWrong)

/-- 'laws.FnElections': WHATEVER THE INPUT: true; the input reads as it did. -/
def fnElectionsSpec : ChangeSpec := { name := "fnElections", fn := fun _ => fun
  | [d] => { results := [.lit (.bool true)], args := [d] }
  | _ => none }
def fnElectionsRow : OpenClaim := { program := "ytlgmconfifmklaa", sum := "a7426d2cbeea7adf0c2792314bf9997065186f6c9fe5852844c6b244ff6691c1", func := "loop.example/g01025/laws.FnElections", spec := "fnElections", unfollowed := true, recurses := true, apart := false }
def FnElectionsSaid : Prop := fnElectionsRow.holds Try.pinned (OpenSpec.ofChange fnElectionsSpec)

/-- ITS FALSE NEIGHBOUR: 'it returns false'. Refute it at one input. -/
def fnElectionsWrong : ChangeSpec := { name := "fnElections", fn := fun _ => fun
  | [d] => { results := [.lit (.bool false)], args := [d] }
  | _ => none }
def FnElectionsWrongFalsely : Prop := fnElectionsRow.holds Try.pinned (OpenSpec.ofChange fnElectionsWrong)

/- THE SECOND FORM. 'bulk': how many values and letters a reading holds, each counted each time it is reached (what is shared counts as often as it is met; a slice's spare places count too). A statement '..UptoSaid' is the law's where the arguments, and the package variables that the reading takes, are together of bulk at most 1048576: NARROWER than '..Said'. Prove '..Said' where nothing that the law and all that it calls make is longer than what came in: it says more and counts as full. Else prove '..UptoSaid'. A law counts once. -/
mutual
def uptoBulk {H : Type} : DataW H → Nat
  | .lit (.string bytes) => bytes.length + 1
  | .lit _ => 1
  | .nil => 1
  | .ptr d => uptoBulk d + 1
  | .slice elems spare => uptoBulkAll elems + uptoBulkAll spare + 1
  | .agg parts => uptoBulkAll parts + 1
  | .iface _ d => uptoBulk d + 1
  | .map entries => uptoBulkEntries entries + 1
  | .held _ => 1
def uptoBulkAll {H : Type} : List (DataW H) → Nat
  | [] => 0
  | d :: r => uptoBulk d + uptoBulkAll r
def uptoBulkEntries {H : Type} : List (Lit × DataW H) → Nat
  | [] => 0
  | x :: r => uptoBulkEntry x + uptoBulkEntries r
def uptoBulkEntry {H : Type} : Lit × DataW H → Nat
  | (.string bytes, d) => bytes.length + uptoBulk d + 1
  | (_, d) => uptoBulk d + 1
 end
def uptoSmall : (H : Type) → List (DataW H) → Bool := fun _ ds => decide (uptoBulkAll ds ≤ 1048576)
def OpenSpec.upto (s : _root_.Go.ChangeSpec) : _root_.Go.OpenSpec := { _root_.Go.OpenSpec.ofChange s with cond := some uptoSmall }

/-- 'laws.FnExactPointsOf', WHERE WHAT IT READS IS OF BULK AT MOST 1048576: true; the input reads as it did. -/
def fnExactPointsOfUptoRow : OpenClaim := { program := "ytlgmconfifmklaa", sum := "a7426d2cbeea7adf0c2792314bf9997065186f6c9fe5852844c6b244ff6691c1", func := "loop.example/g01025/laws.FnExactPointsOf", spec := "fnExactPointsOf", unfollowed := true, recurses := true, apart := false, narrowed := true }
def FnExactPointsOfUptoSaid : Prop := fnExactPointsOfUptoRow.holds Try.pinned (OpenSpec.upto fnExactPointsOfSpec)

/-- 'laws.FnExactBeatsAll', WHERE WHAT IT READS IS OF BULK AT MOST 1048576: true; the input reads as it did. -/
def fnExactBeatsAllUptoRow : OpenClaim := { program := "ytlgmconfifmklaa", sum := "a7426d2cbeea7adf0c2792314bf9997065186f6c9fe5852844c6b244ff6691c1", func := "loop.example/g01025/laws.FnExactBeatsAll", spec := "fnExactBeatsAll", unfollowed := true, recurses := true, apart := false, narrowed := true }
def FnExactBeatsAllUptoSaid : Prop := fnExactBeatsAllUptoRow.holds Try.pinned (OpenSpec.upto fnExactBeatsAllSpec)

/-- 'laws.FnExactElectedByRounds', WHERE WHAT IT READS IS OF BULK AT MOST 1048576: true; the input reads as it did. -/
def fnExactElectedByRoundsUptoRow : OpenClaim := { program := "ytlgmconfifmklaa", sum := "a7426d2cbeea7adf0c2792314bf9997065186f6c9fe5852844c6b244ff6691c1", func := "loop.example/g01025/laws.FnExactElectedByRounds", spec := "fnExactElectedByRounds", unfollowed := true, recurses := true, apart := false, narrowed := true }
def FnExactElectedByRoundsUptoSaid : Prop := fnExactElectedByRoundsUptoRow.holds Try.pinned (OpenSpec.upto fnExactElectedByRoundsSpec)

/-- 'laws.FnExactElectedByPoints', WHERE WHAT IT READS IS OF BULK AT MOST 1048576: true; the input reads as it did. -/
def fnExactElectedByPointsUptoRow : OpenClaim := { program := "ytlgmconfifmklaa", sum := "a7426d2cbeea7adf0c2792314bf9997065186f6c9fe5852844c6b244ff6691c1", func := "loop.example/g01025/laws.FnExactElectedByPoints", spec := "fnExactElectedByPoints", unfollowed := true, recurses := true, apart := false, narrowed := true }
def FnExactElectedByPointsUptoSaid : Prop := fnExactElectedByPointsUptoRow.holds Try.pinned (OpenSpec.upto fnExactElectedByPointsSpec)

/-- 'laws.FnElections', WHERE WHAT IT READS IS OF BULK AT MOST 1048576: true; the input reads as it did. -/
def fnElectionsUptoRow : OpenClaim := { program := "ytlgmconfifmklaa", sum := "a7426d2cbeea7adf0c2792314bf9997065186f6c9fe5852844c6b244ff6691c1", func := "loop.example/g01025/laws.FnElections", spec := "fnElections", unfollowed := true, recurses := true, apart := false, narrowed := true }
def FnElectionsUptoSaid : Prop := fnElectionsUptoRow.holds Try.pinned (OpenSpec.upto fnElectionsSpec)

end Rows
end Go.Proofs.Ytlgmconfifmklaa
