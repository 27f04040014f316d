/-
  NARROWER THAN 'FOR EVERY INPUT', by the rows' own cells (each row's printed sentence says how): FnExactNeededPapers: laid · FnExactIsClaim: laid · FnExactMissingPapers: laid · FnExactPayClaim: laid · FnExactHandIn: laid · FnExactDecideClaim: laid · FnExactClaimSums: laid · FnExactWaitingClaims: laid · FnClaims: laid.
  DERIVED. THE GIVEN ROWS OF THIS SEAT. 9 by the template 'for every input the law returns true; each argument reads behind the call as it read before'; 0 by the template 'total and deterministic' (their statements: YtpgckkoogicplaaDoorTotals.lean).
  GIVEN WITH THE SEED: the statements are not yours to turn. If you find one false, say at which input.
  Laid BY PROGRAM, IN A SANDBOX (cutbox-rows.mjs): the forced cells as the released guide's own fill.sh prints them over the translation d569261cd62ff7ca… (all of the seat's roots in one cut). By AI agents, Wed Nov 11 2026. No macro, syntax, notation, axiom, sorry.
-/
import Derived.Test.YtpgckkoogicplaaDoorChecked
import GoSem.Claim
import GoSem.ClaimJoined
import GoSem.ClaimMapViews
import Derived.JoinedTies
import Derived.KernelRfl
namespace Go.Proofs.YtpgckkoogicplaaDoor
/- THE CELL 'sum', in the pinned program and in every row, IS THE sha256 OF THE DUMP (.gsa) THAT YtpgckkoogicplaaDoorProg.lean LOADS. Nothing in Lean hashes anything: it is a label: what it is worth is what the hold of that sum in a sandbox is worth. -/
noncomputable def Tryd.pinned : Pinned := { name := "ytpgckkoogicplaadoor", sum := "d569261cd62ff7ca592aa46d68648a5660c1b092e41b8d7f05ffb25726b0c075", checked := Tryd.checked }
namespace Rows
def none {H : Type} : Left H := { results := [], args := [] }

/- WHAT THE LISTED PACKAGE-LEVEL VARIABLES READ AS WHEN THE CALL BEGINS. Each datum BY PROGRAM (the guide's laid-datum.mjs) off the statement by which the dump's own 'gosem.cut.vars' lays the variable. In a bare row this is a premise. The card (YtpgckkoogicplaaDoorCards.lean) ties it to the program's text. -/
def laid_loop_example_g01025_impl_neededFor {H : Type} : DataW H := .agg [.lit (.int .i64 19), .lit (.int .i64 18), .lit (.int .i64 4), .lit (.int .i64 25)]

/-- 'laws.FnExactNeededPapers': WHATEVER THE INPUT: true; the input reads as it did. -/
def fnExactNeededPapersSpec : ChangeSpec := { name := "fnExactNeededPapers", vars := ["loop.example/g01025/impl.neededFor"], fn := fun _ => fun
  | [d, g1] => { results := [.lit (.bool true)], args := [d], vars := [g1] }
  | _ => none }
def fnExactNeededPapersRow : OpenClaim := { program := "ytpgckkoogicplaadoor", sum := "d569261cd62ff7ca592aa46d68648a5660c1b092e41b8d7f05ffb25726b0c075", func := "loop.example/g01025/laws.FnExactNeededPapers", spec := "fnExactNeededPapers", named := ["loop.example/g01025/impl.neededFor"], apart := false, laid := [("loop.example/g01025/impl.neededFor", laid_loop_example_g01025_impl_neededFor)] }
def FnExactNeededPapersSaid : Prop := fnExactNeededPapersRow.holds Tryd.pinned (OpenSpec.ofChange fnExactNeededPapersSpec)

/-- ITS FALSE NEIGHBOUR: 'it returns false'. Refute it at one input. -/
def fnExactNeededPapersWrong : ChangeSpec := { name := "fnExactNeededPapers", vars := ["loop.example/g01025/impl.neededFor"], fn := fun _ => fun
  | [d, g1] => { results := [.lit (.bool false)], args := [d], vars := [g1] }
  | _ => none }
def FnExactNeededPapersWrongFalsely : Prop := fnExactNeededPapersRow.holds Tryd.pinned (OpenSpec.ofChange fnExactNeededPapersWrong)

/-- 'laws.FnExactIsClaim': WHATEVER THE INPUT: true; the input reads as it did. -/
def fnExactIsClaimSpec : ChangeSpec := { name := "fnExactIsClaim", vars := ["loop.example/g01025/impl.neededFor"], fn := fun _ => fun
  | [d, g1] => { results := [.lit (.bool true)], args := [d], vars := [g1] }
  | _ => none }
def fnExactIsClaimRow : OpenClaim := { program := "ytpgckkoogicplaadoor", sum := "d569261cd62ff7ca592aa46d68648a5660c1b092e41b8d7f05ffb25726b0c075", func := "loop.example/g01025/laws.FnExactIsClaim", spec := "fnExactIsClaim", named := ["loop.example/g01025/impl.neededFor"], apart := false, laid := [("loop.example/g01025/impl.neededFor", laid_loop_example_g01025_impl_neededFor)] }
def FnExactIsClaimSaid : Prop := fnExactIsClaimRow.holds Tryd.pinned (OpenSpec.ofChange fnExactIsClaimSpec)

/-- ITS FALSE NEIGHBOUR: 'it returns false'. Refute it at one input. -/
def fnExactIsClaimWrong : ChangeSpec := { name := "fnExactIsClaim", vars := ["loop.example/g01025/impl.neededFor"], fn := fun _ => fun
  | [d, g1] => { results := [.lit (.bool false)], args := [d], vars := [g1] }
  | _ => none }
def FnExactIsClaimWrongFalsely : Prop := fnExactIsClaimRow.holds Tryd.pinned (OpenSpec.ofChange fnExactIsClaimWrong)

/-- 'laws.FnExactMissingPapers': WHATEVER THE INPUT: true; the input reads as it did. -/
def fnExactMissingPapersSpec : ChangeSpec := { name := "fnExactMissingPapers", vars := ["loop.example/g01025/impl.neededFor"], fn := fun _ => fun
  | [d, g1] => { results := [.lit (.bool true)], args := [d], vars := [g1] }
  | _ => none }
def fnExactMissingPapersRow : OpenClaim := { program := "ytpgckkoogicplaadoor", sum := "d569261cd62ff7ca592aa46d68648a5660c1b092e41b8d7f05ffb25726b0c075", func := "loop.example/g01025/laws.FnExactMissingPapers", spec := "fnExactMissingPapers", named := ["loop.example/g01025/impl.neededFor"], apart := false, laid := [("loop.example/g01025/impl.neededFor", laid_loop_example_g01025_impl_neededFor)] }
def FnExactMissingPapersSaid : Prop := fnExactMissingPapersRow.holds Tryd.pinned (OpenSpec.ofChange fnExactMissingPapersSpec)

/-- ITS FALSE NEIGHBOUR: 'it returns false'. Refute it at one input. -/
def fnExactMissingPapersWrong : ChangeSpec := { name := "fnExactMissingPapers", vars := ["loop.example/g01025/impl.neededFor"], fn := fun _ => fun
  | [d, g1] => { results := [.lit (.bool false)], args := [d], vars := [g1] }
  | _ => none }
def FnExactMissingPapersWrongFalsely : Prop := fnExactMissingPapersRow.holds Tryd.pinned (OpenSpec.ofChange fnExactMissingPapersWrong)

/-- 'laws.FnExactPayClaim': WHATEVER THE INPUT: true; the input reads as it did. -/
def fnExactPayClaimSpec : ChangeSpec := { name := "fnExactPayClaim", vars := ["loop.example/g01025/impl.neededFor"], fn := fun _ => fun
  | [d, g1] => { results := [.lit (.bool true)], args := [d], vars := [g1] }
  | _ => none }
def fnExactPayClaimRow : OpenClaim := { program := "ytpgckkoogicplaadoor", sum := "d569261cd62ff7ca592aa46d68648a5660c1b092e41b8d7f05ffb25726b0c075", func := "loop.example/g01025/laws.FnExactPayClaim", spec := "fnExactPayClaim", named := ["loop.example/g01025/impl.neededFor"], apart := false, laid := [("loop.example/g01025/impl.neededFor", laid_loop_example_g01025_impl_neededFor)] }
def FnExactPayClaimSaid : Prop := fnExactPayClaimRow.holds Tryd.pinned (OpenSpec.ofChange fnExactPayClaimSpec)

/-- ITS FALSE NEIGHBOUR: 'it returns false'. Refute it at one input. -/
def fnExactPayClaimWrong : ChangeSpec := { name := "fnExactPayClaim", vars := ["loop.example/g01025/impl.neededFor"], fn := fun _ => fun
  | [d, g1] => { results := [.lit (.bool false)], args := [d], vars := [g1] }
  | _ => none }
def FnExactPayClaimWrongFalsely : Prop := fnExactPayClaimRow.holds Tryd.pinned (OpenSpec.ofChange fnExactPayClaimWrong)

/-- 'laws.FnExactHandIn': WHATEVER THE INPUT: true; the input reads as it did. -/
def fnExactHandInSpec : ChangeSpec := { name := "fnExactHandIn", vars := ["loop.example/g01025/impl.neededFor"], fn := fun _ => fun
  | [d1, d2, g1] => { results := [.lit (.bool true)], args := [d1, d2], vars := [g1] }
  | _ => none }
def fnExactHandInRow : OpenClaim := { program := "ytpgckkoogicplaadoor", sum := "d569261cd62ff7ca592aa46d68648a5660c1b092e41b8d7f05ffb25726b0c075", func := "loop.example/g01025/laws.FnExactHandIn", spec := "fnExactHandIn", named := ["loop.example/g01025/impl.neededFor"], apart := false, laid := [("loop.example/g01025/impl.neededFor", laid_loop_example_g01025_impl_neededFor)] }
def FnExactHandInSaid : Prop := fnExactHandInRow.holds Tryd.pinned (OpenSpec.ofChange fnExactHandInSpec)

/-- ITS FALSE NEIGHBOUR: 'it returns false'. Refute it at one input. -/
def fnExactHandInWrong : ChangeSpec := { name := "fnExactHandIn", vars := ["loop.example/g01025/impl.neededFor"], fn := fun _ => fun
  | [d1, d2, g1] => { results := [.lit (.bool false)], args := [d1, d2], vars := [g1] }
  | _ => none }
def FnExactHandInWrongFalsely : Prop := fnExactHandInRow.holds Tryd.pinned (OpenSpec.ofChange fnExactHandInWrong)

/-- 'laws.FnExactDecideClaim': WHATEVER THE INPUT: true; the input reads as it did. -/
def fnExactDecideClaimSpec : ChangeSpec := { name := "fnExactDecideClaim", vars := ["loop.example/g01025/impl.neededFor"], fn := fun _ => fun
  | [d1, d2, d3, g1] => { results := [.lit (.bool true)], args := [d1, d2, d3], vars := [g1] }
  | _ => none }
def fnExactDecideClaimRow : OpenClaim := { program := "ytpgckkoogicplaadoor", sum := "d569261cd62ff7ca592aa46d68648a5660c1b092e41b8d7f05ffb25726b0c075", func := "loop.example/g01025/laws.FnExactDecideClaim", spec := "fnExactDecideClaim", named := ["loop.example/g01025/impl.neededFor"], apart := false, laid := [("loop.example/g01025/impl.neededFor", laid_loop_example_g01025_impl_neededFor)] }
def FnExactDecideClaimSaid : Prop := fnExactDecideClaimRow.holds Tryd.pinned (OpenSpec.ofChange fnExactDecideClaimSpec)

/-- ITS FALSE NEIGHBOUR: 'it returns false'. Refute it at one input. -/
def fnExactDecideClaimWrong : ChangeSpec := { name := "fnExactDecideClaim", vars := ["loop.example/g01025/impl.neededFor"], fn := fun _ => fun
  | [d1, d2, d3, g1] => { results := [.lit (.bool false)], args := [d1, d2, d3], vars := [g1] }
  | _ => none }
def FnExactDecideClaimWrongFalsely : Prop := fnExactDecideClaimRow.holds Tryd.pinned (OpenSpec.ofChange fnExactDecideClaimWrong)

/-- 'laws.FnExactClaimSums': WHATEVER THE INPUT: true; the input reads as it did. -/
def fnExactClaimSumsSpec : ChangeSpec := { name := "fnExactClaimSums", vars := ["loop.example/g01025/impl.neededFor"], fn := fun _ => fun
  | [d, g1] => { results := [.lit (.bool true)], args := [d], vars := [g1] }
  | _ => none }
def fnExactClaimSumsRow : OpenClaim := { program := "ytpgckkoogicplaadoor", sum := "d569261cd62ff7ca592aa46d68648a5660c1b092e41b8d7f05ffb25726b0c075", func := "loop.example/g01025/laws.FnExactClaimSums", spec := "fnExactClaimSums", unfollowed := true, recurses := true, named := ["loop.example/g01025/impl.neededFor"], apart := false, laid := [("loop.example/g01025/impl.neededFor", laid_loop_example_g01025_impl_neededFor)] }
def FnExactClaimSumsSaid : Prop := fnExactClaimSumsRow.holds Tryd.pinned (OpenSpec.ofChange fnExactClaimSumsSpec)

/-- ITS FALSE NEIGHBOUR: 'it returns false'. Refute it at one input. -/
def fnExactClaimSumsWrong : ChangeSpec := { name := "fnExactClaimSums", vars := ["loop.example/g01025/impl.neededFor"], fn := fun _ => fun
  | [d, g1] => { results := [.lit (.bool false)], args := [d], vars := [g1] }
  | _ => none }
def FnExactClaimSumsWrongFalsely : Prop := fnExactClaimSumsRow.holds Tryd.pinned (OpenSpec.ofChange fnExactClaimSumsWrong)

/-- 'laws.FnExactWaitingClaims': WHATEVER THE INPUT: true; the input reads as it did. -/
def fnExactWaitingClaimsSpec : ChangeSpec := { name := "fnExactWaitingClaims", vars := ["loop.example/g01025/impl.neededFor"], fn := fun _ => fun
  | [d1, d2, g1] => { results := [.lit (.bool true)], args := [d1, d2], vars := [g1] }
  | _ => none }
def fnExactWaitingClaimsRow : OpenClaim := { program := "ytpgckkoogicplaadoor", sum := "d569261cd62ff7ca592aa46d68648a5660c1b092e41b8d7f05ffb25726b0c075", func := "loop.example/g01025/laws.FnExactWaitingClaims", spec := "fnExactWaitingClaims", unfollowed := true, recurses := true, named := ["loop.example/g01025/impl.neededFor"], apart := false, laid := [("loop.example/g01025/impl.neededFor", laid_loop_example_g01025_impl_neededFor)] }
def FnExactWaitingClaimsSaid : Prop := fnExactWaitingClaimsRow.holds Tryd.pinned (OpenSpec.ofChange fnExactWaitingClaimsSpec)

/-- ITS FALSE NEIGHBOUR: 'it returns false'. Refute it at one input. -/
def fnExactWaitingClaimsWrong : ChangeSpec := { name := "fnExactWaitingClaims", vars := ["loop.example/g01025/impl.neededFor"], fn := fun _ => fun
  | [d1, d2, g1] => { results := [.lit (.bool false)], args := [d1, d2], vars := [g1] }
  | _ => none }
def FnExactWaitingClaimsWrongFalsely : Prop := fnExactWaitingClaimsRow.holds Tryd.pinned (OpenSpec.ofChange fnExactWaitingClaimsWrong)

/-- 'laws.FnClaims': WHATEVER THE INPUT: true; the input reads as it did. -/
def fnClaimsSpec : ChangeSpec := { name := "fnClaims", vars := ["loop.example/g01025/impl.neededFor"], fn := fun _ => fun
  | [d, g1] => { results := [.lit (.bool true)], args := [d], vars := [g1] }
  | _ => none }
def fnClaimsRow : OpenClaim := { program := "ytpgckkoogicplaadoor", sum := "d569261cd62ff7ca592aa46d68648a5660c1b092e41b8d7f05ffb25726b0c075", func := "loop.example/g01025/laws.FnClaims", spec := "fnClaims", named := ["loop.example/g01025/impl.neededFor"], apart := false, laid := [("loop.example/g01025/impl.neededFor", laid_loop_example_g01025_impl_neededFor)] }
def FnClaimsSaid : Prop := fnClaimsRow.holds Tryd.pinned (OpenSpec.ofChange fnClaimsSpec)

/-- ITS FALSE NEIGHBOUR: 'it returns false'. Refute it at one input. -/
def fnClaimsWrong : ChangeSpec := { name := "fnClaims", vars := ["loop.example/g01025/impl.neededFor"], fn := fun _ => fun
  | [d, g1] => { results := [.lit (.bool false)], args := [d], vars := [g1] }
  | _ => none }
def FnClaimsWrongFalsely : Prop := fnClaimsRow.holds Tryd.pinned (OpenSpec.ofChange fnClaimsWrong)

/- THE SECOND FORM. 'bulk': how many values and letters a reading holds, each counted each time it is reached (what is shared counts as often as it is met; a slice's spare places count too). A statement '..UptoSaid' is the law's where the arguments, and the package variables that the reading takes, are together of bulk at most 1048576: NARROWER than '..Said'. Prove '..Said' where nothing that the law and all that it calls make is longer than what came in: it says more and counts as full. Else prove '..UptoSaid'. A law counts once. -/
mutual
def uptoBulk {H : Type} : DataW H → Nat
  | .lit (.string bytes) => bytes.length + 1
  | .lit _ => 1
  | .nil => 1
  | .ptr d => uptoBulk d + 1
  | .slice elems spare => uptoBulkAll elems + uptoBulkAll spare + 1
  | .agg parts => uptoBulkAll parts + 1
  | .iface _ d => uptoBulk d + 1
  | .map entries => uptoBulkEntries entries + 1
  | .held _ => 1
def uptoBulkAll {H : Type} : List (DataW H) → Nat
  | [] => 0
  | d :: r => uptoBulk d + uptoBulkAll r
def uptoBulkEntries {H : Type} : List (Lit × DataW H) → Nat
  | [] => 0
  | x :: r => uptoBulkEntry x + uptoBulkEntries r
def uptoBulkEntry {H : Type} : Lit × DataW H → Nat
  | (.string bytes, d) => bytes.length + uptoBulk d + 1
  | (_, d) => uptoBulk d + 1
 end
def uptoSmall : (H : Type) → List (DataW H) → Bool := fun _ ds => decide (uptoBulkAll ds ≤ 1048576)
def OpenSpec.upto (s : _root_.Go.ChangeSpec) : _root_.Go.OpenSpec := { _root_.Go.OpenSpec.ofChange s with cond := some uptoSmall }

/-- 'laws.FnExactNeededPapers', WHERE WHAT IT READS IS OF BULK AT MOST 1048576: true; the input reads as it did. -/
def fnExactNeededPapersUptoRow : OpenClaim := { program := "ytpgckkoogicplaadoor", sum := "d569261cd62ff7ca592aa46d68648a5660c1b092e41b8d7f05ffb25726b0c075", func := "loop.example/g01025/laws.FnExactNeededPapers", spec := "fnExactNeededPapers", named := ["loop.example/g01025/impl.neededFor"], apart := false, laid := [("loop.example/g01025/impl.neededFor", laid_loop_example_g01025_impl_neededFor)], narrowed := true }
def FnExactNeededPapersUptoSaid : Prop := fnExactNeededPapersUptoRow.holds Tryd.pinned (OpenSpec.upto fnExactNeededPapersSpec)

/-- 'laws.FnExactIsClaim', WHERE WHAT IT READS IS OF BULK AT MOST 1048576: true; the input reads as it did. -/
def fnExactIsClaimUptoRow : OpenClaim := { program := "ytpgckkoogicplaadoor", sum := "d569261cd62ff7ca592aa46d68648a5660c1b092e41b8d7f05ffb25726b0c075", func := "loop.example/g01025/laws.FnExactIsClaim", spec := "fnExactIsClaim", named := ["loop.example/g01025/impl.neededFor"], apart := false, laid := [("loop.example/g01025/impl.neededFor", laid_loop_example_g01025_impl_neededFor)], narrowed := true }
def FnExactIsClaimUptoSaid : Prop := fnExactIsClaimUptoRow.holds Tryd.pinned (OpenSpec.upto fnExactIsClaimSpec)

/-- 'laws.FnExactMissingPapers', WHERE WHAT IT READS IS OF BULK AT MOST 1048576: true; the input reads as it did. -/
def fnExactMissingPapersUptoRow : OpenClaim := { program := "ytpgckkoogicplaadoor", sum := "d569261cd62ff7ca592aa46d68648a5660c1b092e41b8d7f05ffb25726b0c075", func := "loop.example/g01025/laws.FnExactMissingPapers", spec := "fnExactMissingPapers", named := ["loop.example/g01025/impl.neededFor"], apart := false, laid := [("loop.example/g01025/impl.neededFor", laid_loop_example_g01025_impl_neededFor)], narrowed := true }
def FnExactMissingPapersUptoSaid : Prop := fnExactMissingPapersUptoRow.holds Tryd.pinned (OpenSpec.upto fnExactMissingPapersSpec)

/-- 'laws.FnExactPayClaim', WHERE WHAT IT READS IS OF BULK AT MOST 1048576: true; the input reads as it did. -/
def fnExactPayClaimUptoRow : OpenClaim := { program := "ytpgckkoogicplaadoor", sum := "d569261cd62ff7ca592aa46d68648a5660c1b092e41b8d7f05ffb25726b0c075", func := "loop.example/g01025/laws.FnExactPayClaim", spec := "fnExactPayClaim", named := ["loop.example/g01025/impl.neededFor"], apart := false, laid := [("loop.example/g01025/impl.neededFor", laid_loop_example_g01025_impl_neededFor)], narrowed := true }
def FnExactPayClaimUptoSaid : Prop := fnExactPayClaimUptoRow.holds Tryd.pinned (OpenSpec.upto fnExactPayClaimSpec)

/-- 'laws.FnExactHandIn', WHERE WHAT IT READS IS OF BULK AT MOST 1048576: true; the input reads as it did. -/
def fnExactHandInUptoRow : OpenClaim := { program := "ytpgckkoogicplaadoor", sum := "d569261cd62ff7ca592aa46d68648a5660c1b092e41b8d7f05ffb25726b0c075", func := "loop.example/g01025/laws.FnExactHandIn", spec := "fnExactHandIn", named := ["loop.example/g01025/impl.neededFor"], apart := false, laid := [("loop.example/g01025/impl.neededFor", laid_loop_example_g01025_impl_neededFor)], narrowed := true }
def FnExactHandInUptoSaid : Prop := fnExactHandInUptoRow.holds Tryd.pinned (OpenSpec.upto fnExactHandInSpec)

/-- 'laws.FnExactDecideClaim', WHERE WHAT IT READS IS OF BULK AT MOST 1048576: true; the input reads as it did. -/
def fnExactDecideClaimUptoRow : OpenClaim := { program := "ytpgckkoogicplaadoor", sum := "d569261cd62ff7ca592aa46d68648a5660c1b092e41b8d7f05ffb25726b0c075", func := "loop.example/g01025/laws.FnExactDecideClaim", spec := "fnExactDecideClaim", named := ["loop.example/g01025/impl.neededFor"], apart := false, laid := [("loop.example/g01025/impl.neededFor", laid_loop_example_g01025_impl_neededFor)], narrowed := true }
def FnExactDecideClaimUptoSaid : Prop := fnExactDecideClaimUptoRow.holds Tryd.pinned (OpenSpec.upto fnExactDecideClaimSpec)

/-- 'laws.FnExactClaimSums', WHERE WHAT IT READS IS OF BULK AT MOST 1048576: true; the input reads as it did. -/
def fnExactClaimSumsUptoRow : OpenClaim := { program := "ytpgckkoogicplaadoor", sum := "d569261cd62ff7ca592aa46d68648a5660c1b092e41b8d7f05ffb25726b0c075", func := "loop.example/g01025/laws.FnExactClaimSums", spec := "fnExactClaimSums", unfollowed := true, recurses := true, named := ["loop.example/g01025/impl.neededFor"], apart := false, laid := [("loop.example/g01025/impl.neededFor", laid_loop_example_g01025_impl_neededFor)], narrowed := true }
def FnExactClaimSumsUptoSaid : Prop := fnExactClaimSumsUptoRow.holds Tryd.pinned (OpenSpec.upto fnExactClaimSumsSpec)

/-- 'laws.FnExactWaitingClaims', WHERE WHAT IT READS IS OF BULK AT MOST 1048576: true; the input reads as it did. -/
def fnExactWaitingClaimsUptoRow : OpenClaim := { program := "ytpgckkoogicplaadoor", sum := "d569261cd62ff7ca592aa46d68648a5660c1b092e41b8d7f05ffb25726b0c075", func := "loop.example/g01025/laws.FnExactWaitingClaims", spec := "fnExactWaitingClaims", unfollowed := true, recurses := true, named := ["loop.example/g01025/impl.neededFor"], apart := false, laid := [("loop.example/g01025/impl.neededFor", laid_loop_example_g01025_impl_neededFor)], narrowed := true }
def FnExactWaitingClaimsUptoSaid : Prop := fnExactWaitingClaimsUptoRow.holds Tryd.pinned (OpenSpec.upto fnExactWaitingClaimsSpec)

/-- 'laws.FnClaims', WHERE WHAT IT READS IS OF BULK AT MOST 1048576: true; the input reads as it did. -/
def fnClaimsUptoRow : OpenClaim := { program := "ytpgckkoogicplaadoor", sum := "d569261cd62ff7ca592aa46d68648a5660c1b092e41b8d7f05ffb25726b0c075", func := "loop.example/g01025/laws.FnClaims", spec := "fnClaims", named := ["loop.example/g01025/impl.neededFor"], apart := false, laid := [("loop.example/g01025/impl.neededFor", laid_loop_example_g01025_impl_neededFor)], narrowed := true }
def FnClaimsUptoSaid : Prop := fnClaimsUptoRow.holds Tryd.pinned (OpenSpec.upto fnClaimsSpec)

end Rows
end Go.Proofs.YtpgckkoogicplaaDoor
