/-
  No cell of these rows narrows 'for every input' (looked for: loops, veiled, ifaces, maps, wideKeys, modest, calm, conditions, laid).
  DERIVED. THE GIVEN ROWS OF THIS SEAT. 3 by the template 'for every input the law returns true; each argument reads behind the call as it read before'; 0 by the template 'total and deterministic' (their statements: YtdplicfopocacaaTotals.lean).
  GIVEN WITH THE SEED: the statements are not yours to turn. If you find one false, say at which input.
  Laid BY PROGRAM, IN A SANDBOX (cutbox-rows.mjs): the forced cells as the released guide's own fill.sh prints them over the translation 76914db1f76b1c5a… (all of the seat's roots in one cut). By AI agents, Wed Nov 11 2026. No macro, syntax, notation, axiom, sorry.
-/
import Derived.Test.YtdplicfopocacaaChecked
import GoSem.Claim
import GoSem.ClaimJoined
import GoSem.ClaimMapViews
import Derived.JoinedTies
import Derived.KernelRfl
namespace Go.Proofs.Ytdplicfopocacaa
/- THE CELL 'sum', in the pinned program and in every row, IS THE sha256 OF THE DUMP (.gsa) THAT YtdplicfopocacaaProg.lean LOADS. Nothing in Lean hashes anything: it is a label: what it is worth is what the hold of that sum in a sandbox is worth. -/
noncomputable def Try.pinned : Pinned := { name := "ytdplicfopocacaa", sum := "76914db1f76b1c5af7f62426d3f182dbc2b97ad8ad8125d09c7378f573f1241f", checked := Try.checked }
namespace Rows
def none {H : Type} : Left H := { results := [], args := [] }

/-- 'laws.FnExactIsSociety': WHATEVER THE INPUT: true; the input reads as it did. -/
def fnExactIsSocietySpec : ChangeSpec := { name := "fnExactIsSociety", fn := fun _ => fun
  | [d] => { results := [.lit (.bool true)], args := [d] }
  | _ => none }
def fnExactIsSocietyRow : OpenClaim := { program := "ytdplicfopocacaa", sum := "76914db1f76b1c5af7f62426d3f182dbc2b97ad8ad8125d09c7378f573f1241f", func := "loop.example/g01025/laws.FnExactIsSociety", spec := "fnExactIsSociety", unfollowed := true, recurses := true, apart := false }
def FnExactIsSocietySaid : Prop := fnExactIsSocietyRow.holds Try.pinned (OpenSpec.ofChange fnExactIsSocietySpec)

/-- ITS FALSE NEIGHBOUR: 'it returns false'. Refute it at one input. -/
def fnExactIsSocietyWrong : ChangeSpec := { name := "fnExactIsSociety", fn := fun _ => fun
  | [d] => { results := [.lit (.bool false)], args := [d] }
  | _ => none }
def FnExactIsSocietyWrongFalsely : Prop := fnExactIsSocietyRow.holds Try.pinned (OpenSpec.ofChange fnExactIsSocietyWrong)

/-- 'laws.FnExactYearClaims': WHATEVER THE INPUT: true; the input reads as it did. -/
def fnExactYearClaimsSpec : ChangeSpec := { name := "fnExactYearClaims", fn := fun _ => fun
  | [d1, d2, d3] => { results := [.lit (.bool true)], args := [d1, d2, d3] }
  | _ => none }
def fnExactYearClaimsRow : OpenClaim := { program := "ytdplicfopocacaa", sum := "76914db1f76b1c5af7f62426d3f182dbc2b97ad8ad8125d09c7378f573f1241f", func := "loop.example/g01025/laws.FnExactYearClaims", spec := "fnExactYearClaims", unfollowed := true, recurses := true, apart := false }
def FnExactYearClaimsSaid : Prop := fnExactYearClaimsRow.holds Try.pinned (OpenSpec.ofChange fnExactYearClaimsSpec)

/-- ITS FALSE NEIGHBOUR: 'it returns false'. Refute it at one input. -/
def fnExactYearClaimsWrong : ChangeSpec := { name := "fnExactYearClaims", fn := fun _ => fun
  | [d1, d2, d3] => { results := [.lit (.bool false)], args := [d1, d2, d3] }
  | _ => none }
def FnExactYearClaimsWrongFalsely : Prop := fnExactYearClaimsRow.holds Try.pinned (OpenSpec.ofChange fnExactYearClaimsWrong)

/-- 'laws.FnExactExpectedDeaths': WHATEVER THE INPUT: true; the input reads as it did. -/
def fnExactExpectedDeathsSpec : ChangeSpec := { name := "fnExactExpectedDeaths", fn := fun _ => fun
  | [d1, d2] => { results := [.lit (.bool true)], args := [d1, d2] }
  | _ => none }
def fnExactExpectedDeathsRow : OpenClaim := { program := "ytdplicfopocacaa", sum := "76914db1f76b1c5af7f62426d3f182dbc2b97ad8ad8125d09c7378f573f1241f", func := "loop.example/g01025/laws.FnExactExpectedDeaths", spec := "fnExactExpectedDeaths", unfollowed := true, recurses := true, apart := false }
def FnExactExpectedDeathsSaid : Prop := fnExactExpectedDeathsRow.holds Try.pinned (OpenSpec.ofChange fnExactExpectedDeathsSpec)

/-- ITS FALSE NEIGHBOUR: 'it returns false'. Refute it at one input. -/
def fnExactExpectedDeathsWrong : ChangeSpec := { name := "fnExactExpectedDeaths", fn := fun _ => fun
  | [d1, d2] => { results := [.lit (.bool false)], args := [d1, d2] }
  | _ => none }
def FnExactExpectedDeathsWrongFalsely : Prop := fnExactExpectedDeathsRow.holds Try.pinned (OpenSpec.ofChange fnExactExpectedDeathsWrong)

/- THE SECOND FORM. 'bulk': how many values and letters a reading holds, each counted each time it is reached (what is shared counts as often as it is met; a slice's spare places count too). A statement '..UptoSaid' is the law's where the arguments, and the package variables that the reading takes, are together of bulk at most 1048576: NARROWER than '..Said'. Prove '..Said' where nothing that the law and all that it calls make is longer than what came in: it says more and counts as full. Else prove '..UptoSaid'. A law counts once. -/
mutual
def uptoBulk {H : Type} : DataW H → Nat
  | .lit (.string bytes) => bytes.length + 1
  | .lit _ => 1
  | .nil => 1
  | .ptr d => uptoBulk d + 1
  | .slice elems spare => uptoBulkAll elems + uptoBulkAll spare + 1
  | .agg parts => uptoBulkAll parts + 1
  | .iface _ d => uptoBulk d + 1
  | .map entries => uptoBulkEntries entries + 1
  | .held _ => 1
def uptoBulkAll {H : Type} : List (DataW H) → Nat
  | [] => 0
  | d :: r => uptoBulk d + uptoBulkAll r
def uptoBulkEntries {H : Type} : List (Lit × DataW H) → Nat
  | [] => 0
  | x :: r => uptoBulkEntry x + uptoBulkEntries r
def uptoBulkEntry {H : Type} : Lit × DataW H → Nat
  | (.string bytes, d) => bytes.length + uptoBulk d + 1
  | (_, d) => uptoBulk d + 1
 end
def uptoSmall : (H : Type) → List (DataW H) → Bool := fun _ ds => decide (uptoBulkAll ds ≤ 1048576)
def OpenSpec.upto (s : _root_.Go.ChangeSpec) : _root_.Go.OpenSpec := { _root_.Go.OpenSpec.ofChange s with cond := some uptoSmall }

/-- 'laws.FnExactIsSociety', WHERE WHAT IT READS IS OF BULK AT MOST 1048576: true; the input reads as it did. -/
def fnExactIsSocietyUptoRow : OpenClaim := { program := "ytdplicfopocacaa", sum := "76914db1f76b1c5af7f62426d3f182dbc2b97ad8ad8125d09c7378f573f1241f", func := "loop.example/g01025/laws.FnExactIsSociety", spec := "fnExactIsSociety", unfollowed := true, recurses := true, apart := false, narrowed := true }
def FnExactIsSocietyUptoSaid : Prop := fnExactIsSocietyUptoRow.holds Try.pinned (OpenSpec.upto fnExactIsSocietySpec)

/-- 'laws.FnExactYearClaims', WHERE WHAT IT READS IS OF BULK AT MOST 1048576: true; the input reads as it did. -/
def fnExactYearClaimsUptoRow : OpenClaim := { program := "ytdplicfopocacaa", sum := "76914db1f76b1c5af7f62426d3f182dbc2b97ad8ad8125d09c7378f573f1241f", func := "loop.example/g01025/laws.FnExactYearClaims", spec := "fnExactYearClaims", unfollowed := true, recurses := true, apart := false, narrowed := true }
def FnExactYearClaimsUptoSaid : Prop := fnExactYearClaimsUptoRow.holds Try.pinned (OpenSpec.upto fnExactYearClaimsSpec)

/-- 'laws.FnExactExpectedDeaths', WHERE WHAT IT READS IS OF BULK AT MOST 1048576: true; the input reads as it did. -/
def fnExactExpectedDeathsUptoRow : OpenClaim := { program := "ytdplicfopocacaa", sum := "76914db1f76b1c5af7f62426d3f182dbc2b97ad8ad8125d09c7378f573f1241f", func := "loop.example/g01025/laws.FnExactExpectedDeaths", spec := "fnExactExpectedDeaths", unfollowed := true, recurses := true, apart := false, narrowed := true }
def FnExactExpectedDeathsUptoSaid : Prop := fnExactExpectedDeathsUptoRow.holds Try.pinned (OpenSpec.upto fnExactExpectedDeathsSpec)

end Rows
end Go.Proofs.Ytdplicfopocacaa
