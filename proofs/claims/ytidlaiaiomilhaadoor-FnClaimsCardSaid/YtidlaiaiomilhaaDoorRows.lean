/-
  NARROWER THAN 'FOR EVERY INPUT', by the rows' own cells (each row's printed sentence says how): FnClaims: laid · FnClaimLists: laid · FnExactSuspectClaims: laid.
  DERIVED. THE GIVEN ROWS OF THIS SEAT. 3 by the template 'for every input the law returns true; each argument reads behind the call as it read before'; 0 by the template 'total and deterministic' (their statements: YtidlaiaiomilhaaDoorTotals.lean).
  GIVEN WITH THE SEED: the statements are not yours to turn. If you find one false, say at which input.
  Laid BY PROGRAM, IN A SANDBOX (cutbox-rows.mjs): the forced cells as the released guide's own fill.sh prints them over the translation faa27cbdf9c993b6… (all of the seat's roots in one cut). By AI agents, Wed Nov 11 2026. No macro, syntax, notation, axiom, sorry.
-/
import Derived.Test.YtidlaiaiomilhaaDoorChecked
import GoSem.Claim
import GoSem.ClaimJoined
import GoSem.ClaimMapViews
import Derived.JoinedTies
import Derived.KernelRfl
namespace Go.Proofs.YtidlaiaiomilhaaDoor
/- THE CELL 'sum', in the pinned program and in every row, IS THE sha256 OF THE DUMP (.gsa) THAT YtidlaiaiomilhaaDoorProg.lean LOADS. Nothing in Lean hashes anything: it is a label: what it is worth is what the hold of that sum in a sandbox is worth. -/
noncomputable def Tryd.pinned : Pinned := { name := "ytidlaiaiomilhaadoor", sum := "faa27cbdf9c993b6771cdd56633b7a356282ef0d473c28bb72dbaaadf16fdc68", checked := Tryd.checked }
namespace Rows
def none {H : Type} : Left H := { results := [], args := [] }

/- WHAT THE LISTED PACKAGE-LEVEL VARIABLES READ AS WHEN THE CALL BEGINS. Each datum BY PROGRAM (the guide's laid-datum.mjs) off the statement by which the dump's own 'gosem.cut.vars' lays the variable. In a bare row this is a premise. The card (YtidlaiaiomilhaaDoorCards.lean) ties it to the program's text. -/
def laid_loop_example_g01025_impl_neededFor {H : Type} : DataW H := .agg [.lit (.int .i64 19), .lit (.int .i64 18), .lit (.int .i64 4), .lit (.int .i64 25)]

/-- 'laws.FnClaims': WHATEVER THE INPUT: true; the input reads as it did. -/
def fnClaimsSpec : ChangeSpec := { name := "fnClaims", vars := ["loop.example/g01025/impl.neededFor"], fn := fun _ => fun
  | [d, g1] => { results := [.lit (.bool true)], args := [d], vars := [g1] }
  | _ => none }
def fnClaimsRow : OpenClaim := { program := "ytidlaiaiomilhaadoor", sum := "faa27cbdf9c993b6771cdd56633b7a356282ef0d473c28bb72dbaaadf16fdc68", func := "loop.example/g01025/laws.FnClaims", spec := "fnClaims", named := ["loop.example/g01025/impl.neededFor"], apart := false, laid := [("loop.example/g01025/impl.neededFor", laid_loop_example_g01025_impl_neededFor)] }
def FnClaimsSaid : Prop := fnClaimsRow.holds Tryd.pinned (OpenSpec.ofChange fnClaimsSpec)

/-- ITS FALSE NEIGHBOUR: 'it returns false'. Refute it at one input. -/
def fnClaimsWrong : ChangeSpec := { name := "fnClaims", vars := ["loop.example/g01025/impl.neededFor"], fn := fun _ => fun
  | [d, g1] => { results := [.lit (.bool false)], args := [d], vars := [g1] }
  | _ => none }
def FnClaimsWrongFalsely : Prop := fnClaimsRow.holds Tryd.pinned (OpenSpec.ofChange fnClaimsWrong)

/-- 'laws.FnClaimLists': WHATEVER THE INPUT: true; the input reads as it did. -/
def fnClaimListsSpec : ChangeSpec := { name := "fnClaimLists", vars := ["loop.example/g01025/impl.neededFor"], fn := fun _ => fun
  | [d, g1] => { results := [.lit (.bool true)], args := [d], vars := [g1] }
  | _ => none }
def fnClaimListsRow : OpenClaim := { program := "ytidlaiaiomilhaadoor", sum := "faa27cbdf9c993b6771cdd56633b7a356282ef0d473c28bb72dbaaadf16fdc68", func := "loop.example/g01025/laws.FnClaimLists", spec := "fnClaimLists", unfollowed := true, recurses := true, named := ["loop.example/g01025/impl.neededFor"], apart := false, laid := [("loop.example/g01025/impl.neededFor", laid_loop_example_g01025_impl_neededFor)] }
def FnClaimListsSaid : Prop := fnClaimListsRow.holds Tryd.pinned (OpenSpec.ofChange fnClaimListsSpec)

/-- ITS FALSE NEIGHBOUR: 'it returns false'. Refute it at one input. -/
def fnClaimListsWrong : ChangeSpec := { name := "fnClaimLists", vars := ["loop.example/g01025/impl.neededFor"], fn := fun _ => fun
  | [d, g1] => { results := [.lit (.bool false)], args := [d], vars := [g1] }
  | _ => none }
def FnClaimListsWrongFalsely : Prop := fnClaimListsRow.holds Tryd.pinned (OpenSpec.ofChange fnClaimListsWrong)

/-- 'laws.FnExactSuspectClaims': WHATEVER THE INPUT: true; the input reads as it did. -/
def fnExactSuspectClaimsSpec : ChangeSpec := { name := "fnExactSuspectClaims", vars := ["loop.example/g01025/impl.neededFor"], fn := fun _ => fun
  | [d, g1] => { results := [.lit (.bool true)], args := [d], vars := [g1] }
  | _ => none }
def fnExactSuspectClaimsRow : OpenClaim := { program := "ytidlaiaiomilhaadoor", sum := "faa27cbdf9c993b6771cdd56633b7a356282ef0d473c28bb72dbaaadf16fdc68", func := "loop.example/g01025/laws.FnExactSuspectClaims", spec := "fnExactSuspectClaims", unfollowed := true, recurses := true, named := ["loop.example/g01025/impl.neededFor"], apart := false, laid := [("loop.example/g01025/impl.neededFor", laid_loop_example_g01025_impl_neededFor)] }
def FnExactSuspectClaimsSaid : Prop := fnExactSuspectClaimsRow.holds Tryd.pinned (OpenSpec.ofChange fnExactSuspectClaimsSpec)

/-- ITS FALSE NEIGHBOUR: 'it returns false'. Refute it at one input. -/
def fnExactSuspectClaimsWrong : ChangeSpec := { name := "fnExactSuspectClaims", vars := ["loop.example/g01025/impl.neededFor"], fn := fun _ => fun
  | [d, g1] => { results := [.lit (.bool false)], args := [d], vars := [g1] }
  | _ => none }
def FnExactSuspectClaimsWrongFalsely : Prop := fnExactSuspectClaimsRow.holds Tryd.pinned (OpenSpec.ofChange fnExactSuspectClaimsWrong)

/- THE SECOND FORM. 'bulk': how many values and letters a reading holds, each counted each time it is reached (what is shared counts as often as it is met; a slice's spare places count too). A statement '..UptoSaid' is the law's where the arguments, and the package variables that the reading takes, are together of bulk at most 1048576: NARROWER than '..Said'. Prove '..Said' where nothing that the law and all that it calls make is longer than what came in: it says more and counts as full. Else prove '..UptoSaid'. A law counts once. -/
mutual
def uptoBulk {H : Type} : DataW H → Nat
  | .lit (.string bytes) => bytes.length + 1
  | .lit _ => 1
  | .nil => 1
  | .ptr d => uptoBulk d + 1
  | .slice elems spare => uptoBulkAll elems + uptoBulkAll spare + 1
  | .agg parts => uptoBulkAll parts + 1
  | .iface _ d => uptoBulk d + 1
  | .map entries => uptoBulkEntries entries + 1
  | .held _ => 1
def uptoBulkAll {H : Type} : List (DataW H) → Nat
  | [] => 0
  | d :: r => uptoBulk d + uptoBulkAll r
def uptoBulkEntries {H : Type} : List (Lit × DataW H) → Nat
  | [] => 0
  | x :: r => uptoBulkEntry x + uptoBulkEntries r
def uptoBulkEntry {H : Type} : Lit × DataW H → Nat
  | (.string bytes, d) => bytes.length + uptoBulk d + 1
  | (_, d) => uptoBulk d + 1
 end
def uptoSmall : (H : Type) → List (DataW H) → Bool := fun _ ds => decide (uptoBulkAll ds ≤ 1048576)
def OpenSpec.upto (s : _root_.Go.ChangeSpec) : _root_.Go.OpenSpec := { _root_.Go.OpenSpec.ofChange s with cond := some uptoSmall }

/-- 'laws.FnClaims', WHERE WHAT IT READS IS OF BULK AT MOST 1048576: true; the input reads as it did. -/
def fnClaimsUptoRow : OpenClaim := { program := "ytidlaiaiomilhaadoor", sum := "faa27cbdf9c993b6771cdd56633b7a356282ef0d473c28bb72dbaaadf16fdc68", func := "loop.example/g01025/laws.FnClaims", spec := "fnClaims", named := ["loop.example/g01025/impl.neededFor"], apart := false, laid := [("loop.example/g01025/impl.neededFor", laid_loop_example_g01025_impl_neededFor)], narrowed := true }
def FnClaimsUptoSaid : Prop := fnClaimsUptoRow.holds Tryd.pinned (OpenSpec.upto fnClaimsSpec)

/-- 'laws.FnClaimLists', WHERE WHAT IT READS IS OF BULK AT MOST 1048576: true; the input reads as it did. -/
def fnClaimListsUptoRow : OpenClaim := { program := "ytidlaiaiomilhaadoor", sum := "faa27cbdf9c993b6771cdd56633b7a356282ef0d473c28bb72dbaaadf16fdc68", func := "loop.example/g01025/laws.FnClaimLists", spec := "fnClaimLists", unfollowed := true, recurses := true, named := ["loop.example/g01025/impl.neededFor"], apart := false, laid := [("loop.example/g01025/impl.neededFor", laid_loop_example_g01025_impl_neededFor)], narrowed := true }
def FnClaimListsUptoSaid : Prop := fnClaimListsUptoRow.holds Tryd.pinned (OpenSpec.upto fnClaimListsSpec)

/-- 'laws.FnExactSuspectClaims', WHERE WHAT IT READS IS OF BULK AT MOST 1048576: true; the input reads as it did. -/
def fnExactSuspectClaimsUptoRow : OpenClaim := { program := "ytidlaiaiomilhaadoor", sum := "faa27cbdf9c993b6771cdd56633b7a356282ef0d473c28bb72dbaaadf16fdc68", func := "loop.example/g01025/laws.FnExactSuspectClaims", spec := "fnExactSuspectClaims", unfollowed := true, recurses := true, named := ["loop.example/g01025/impl.neededFor"], apart := false, laid := [("loop.example/g01025/impl.neededFor", laid_loop_example_g01025_impl_neededFor)], narrowed := true }
def FnExactSuspectClaimsUptoSaid : Prop := fnExactSuspectClaimsUptoRow.holds Tryd.pinned (OpenSpec.upto fnExactSuspectClaimsSpec)

end Rows
end Go.Proofs.YtidlaiaiomilhaaDoor
