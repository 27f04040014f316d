/-
  No cell of these rows narrows 'for every input' (looked for: loops, veiled, ifaces, maps, wideKeys, modest, calm, conditions, laid).
  DERIVED. THE GIVEN ROWS OF THIS SEAT. 5 by the template 'for every input the law returns true; each argument reads behind the call as it read before'; 0 by the template 'total and deterministic' (their statements: YtnfddmbnkbigmaaTotals.lean).
  GIVEN WITH THE SEED: the statements are not yours to turn. If you find one false, say at which input.
  Laid BY PROGRAM, IN A SANDBOX (cutbox-rows.mjs): the forced cells as the released guide's own fill.sh prints them over the translation f437203de2ead2d8… (all of the seat's roots in one cut). By AI agents, Wed Nov 11 2026. No macro, syntax, notation, axiom, sorry.
-/
import Derived.Test.YtnfddmbnkbigmaaChecked
import GoSem.Claim
import GoSem.ClaimJoined
import GoSem.ClaimMapViews
import Derived.JoinedTies
import Derived.KernelRfl
namespace Go.Proofs.Ytnfddmbnkbigmaa
/- THE CELL 'sum', in the pinned program and in every row, IS THE sha256 OF THE DUMP (.gsa) THAT YtnfddmbnkbigmaaProg.lean LOADS. Nothing in Lean hashes anything: it is a label: what it is worth is what the hold of that sum in a sandbox is worth. -/
noncomputable def Try.pinned : Pinned := { name := "ytnfddmbnkbigmaa", sum := "f437203de2ead2d81a51e4e1d7c8e3591d6ca2079b98534cd65079a5d7a0ba5a", checked := Try.checked }
namespace Rows
def none {H : Type} : Left H := { results := [], args := [] }

/-- 'laws.FnExactCountGaps': WHATEVER THE INPUT: true; the input reads as it did. -/
def fnExactCountGapsSpec : ChangeSpec := { name := "fnExactCountGaps", fn := fun _ => fun
  | [d] => { results := [.lit (.bool true)], args := [d] }
  | _ => none }
def fnExactCountGapsRow : OpenClaim := { program := "ytnfddmbnkbigmaa", sum := "f437203de2ead2d81a51e4e1d7c8e3591d6ca2079b98534cd65079a5d7a0ba5a", func := "loop.example/g01025/laws.FnExactCountGaps", spec := "fnExactCountGaps", unfollowed := true, recurses := true, apart := false }
def FnExactCountGapsSaid : Prop := fnExactCountGapsRow.holds Try.pinned (OpenSpec.ofChange fnExactCountGapsSpec)

/-- ITS FALSE NEIGHBOUR: 'it returns false'. Refute it at one input. -/
def fnExactCountGapsWrong : ChangeSpec := { name := "fnExactCountGaps", fn := fun _ => fun
  | [d] => { results := [.lit (.bool false)], args := [d] }
  | _ => none }
def FnExactCountGapsWrongFalsely : Prop := fnExactCountGapsRow.holds Try.pinned (OpenSpec.ofChange fnExactCountGapsWrong)

/-- 'laws.FnExactCountOutcome': WHATEVER THE INPUT: true; the input reads as it did. -/
def fnExactCountOutcomeSpec : ChangeSpec := { name := "fnExactCountOutcome", fn := fun _ => fun
  | [d1, d2] => { results := [.lit (.bool true)], args := [d1, d2] }
  | _ => none }
def fnExactCountOutcomeRow : OpenClaim := { program := "ytnfddmbnkbigmaa", sum := "f437203de2ead2d81a51e4e1d7c8e3591d6ca2079b98534cd65079a5d7a0ba5a", func := "loop.example/g01025/laws.FnExactCountOutcome", spec := "fnExactCountOutcome", unfollowed := true, recurses := true, apart := false }
def FnExactCountOutcomeSaid : Prop := fnExactCountOutcomeRow.holds Try.pinned (OpenSpec.ofChange fnExactCountOutcomeSpec)

/-- ITS FALSE NEIGHBOUR: 'it returns false'. Refute it at one input. -/
def fnExactCountOutcomeWrong : ChangeSpec := { name := "fnExactCountOutcome", fn := fun _ => fun
  | [d1, d2] => { results := [.lit (.bool false)], args := [d1, d2] }
  | _ => none }
def FnExactCountOutcomeWrongFalsely : Prop := fnExactCountOutcomeRow.holds Try.pinned (OpenSpec.ofChange fnExactCountOutcomeWrong)

/-- 'laws.FnExactFirstGap': WHATEVER THE INPUT: true; the input reads as it did. -/
def fnExactFirstGapSpec : ChangeSpec := { name := "fnExactFirstGap", fn := fun _ => fun
  | [d] => { results := [.lit (.bool true)], args := [d] }
  | _ => none }
def fnExactFirstGapRow : OpenClaim := { program := "ytnfddmbnkbigmaa", sum := "f437203de2ead2d81a51e4e1d7c8e3591d6ca2079b98534cd65079a5d7a0ba5a", func := "loop.example/g01025/laws.FnExactFirstGap", spec := "fnExactFirstGap", unfollowed := true, recurses := true, apart := false }
def FnExactFirstGapSaid : Prop := fnExactFirstGapRow.holds Try.pinned (OpenSpec.ofChange fnExactFirstGapSpec)

/-- ITS FALSE NEIGHBOUR: 'it returns false'. Refute it at one input. -/
def fnExactFirstGapWrong : ChangeSpec := { name := "fnExactFirstGap", fn := fun _ => fun
  | [d] => { results := [.lit (.bool false)], args := [d] }
  | _ => none }
def FnExactFirstGapWrongFalsely : Prop := fnExactFirstGapRow.holds Try.pinned (OpenSpec.ofChange fnExactFirstGapWrong)

/-- 'laws.FnExactIdleRules': WHATEVER THE INPUT: true; the input reads as it did. -/
def fnExactIdleRulesSpec : ChangeSpec := { name := "fnExactIdleRules", fn := fun _ => fun
  | [d] => { results := [.lit (.bool true)], args := [d] }
  | _ => none }
def fnExactIdleRulesRow : OpenClaim := { program := "ytnfddmbnkbigmaa", sum := "f437203de2ead2d81a51e4e1d7c8e3591d6ca2079b98534cd65079a5d7a0ba5a", func := "loop.example/g01025/laws.FnExactIdleRules", spec := "fnExactIdleRules", unfollowed := true, recurses := true, apart := false }
def FnExactIdleRulesSaid : Prop := fnExactIdleRulesRow.holds Try.pinned (OpenSpec.ofChange fnExactIdleRulesSpec)

/-- ITS FALSE NEIGHBOUR: 'it returns false'. Refute it at one input. -/
def fnExactIdleRulesWrong : ChangeSpec := { name := "fnExactIdleRules", fn := fun _ => fun
  | [d] => { results := [.lit (.bool false)], args := [d] }
  | _ => none }
def FnExactIdleRulesWrongFalsely : Prop := fnExactIdleRulesRow.holds Try.pinned (OpenSpec.ofChange fnExactIdleRulesWrong)

/-- 'laws.FnContradictions': WHATEVER THE INPUT: true; the input reads as it did. -/
def fnContradictionsSpec : ChangeSpec := { name := "fnContradictions", fn := fun _ => fun
  | [d] => { results := [.lit (.bool true)], args := [d] }
  | _ => none }
def fnContradictionsRow : OpenClaim := { program := "ytnfddmbnkbigmaa", sum := "f437203de2ead2d81a51e4e1d7c8e3591d6ca2079b98534cd65079a5d7a0ba5a", func := "loop.example/g01025/laws.FnContradictions", spec := "fnContradictions", unfollowed := true, recurses := true, apart := false }
def FnContradictionsSaid : Prop := fnContradictionsRow.holds Try.pinned (OpenSpec.ofChange fnContradictionsSpec)

/-- ITS FALSE NEIGHBOUR: 'it returns false'. Refute it at one input. -/
def fnContradictionsWrong : ChangeSpec := { name := "fnContradictions", fn := fun _ => fun
  | [d] => { results := [.lit (.bool false)], args := [d] }
  | _ => none }
def FnContradictionsWrongFalsely : Prop := fnContradictionsRow.holds Try.pinned (OpenSpec.ofChange fnContradictionsWrong)

/- THE SECOND FORM. 'bulk': how many values and letters a reading holds, each counted each time it is reached (what is shared counts as often as it is met; a slice's spare places count too). A statement '..UptoSaid' is the law's where the arguments, and the package variables that the reading takes, are together of bulk at most 1048576: NARROWER than '..Said'. Prove '..Said' where nothing that the law and all that it calls make is longer than what came in: it says more and counts as full. Else prove '..UptoSaid'. A law counts once. -/
mutual
def uptoBulk {H : Type} : DataW H → Nat
  | .lit (.string bytes) => bytes.length + 1
  | .lit _ => 1
  | .nil => 1
  | .ptr d => uptoBulk d + 1
  | .slice elems spare => uptoBulkAll elems + uptoBulkAll spare + 1
  | .agg parts => uptoBulkAll parts + 1
  | .iface _ d => uptoBulk d + 1
  | .map entries => uptoBulkEntries entries + 1
  | .held _ => 1
def uptoBulkAll {H : Type} : List (DataW H) → Nat
  | [] => 0
  | d :: r => uptoBulk d + uptoBulkAll r
def uptoBulkEntries {H : Type} : List (Lit × DataW H) → Nat
  | [] => 0
  | x :: r => uptoBulkEntry x + uptoBulkEntries r
def uptoBulkEntry {H : Type} : Lit × DataW H → Nat
  | (.string bytes, d) => bytes.length + uptoBulk d + 1
  | (_, d) => uptoBulk d + 1
 end
def uptoSmall : (H : Type) → List (DataW H) → Bool := fun _ ds => decide (uptoBulkAll ds ≤ 1048576)
def OpenSpec.upto (s : _root_.Go.ChangeSpec) : _root_.Go.OpenSpec := { _root_.Go.OpenSpec.ofChange s with cond := some uptoSmall }

/-- 'laws.FnExactCountGaps', WHERE WHAT IT READS IS OF BULK AT MOST 1048576: true; the input reads as it did. -/
def fnExactCountGapsUptoRow : OpenClaim := { program := "ytnfddmbnkbigmaa", sum := "f437203de2ead2d81a51e4e1d7c8e3591d6ca2079b98534cd65079a5d7a0ba5a", func := "loop.example/g01025/laws.FnExactCountGaps", spec := "fnExactCountGaps", unfollowed := true, recurses := true, apart := false, narrowed := true }
def FnExactCountGapsUptoSaid : Prop := fnExactCountGapsUptoRow.holds Try.pinned (OpenSpec.upto fnExactCountGapsSpec)

/-- 'laws.FnExactCountOutcome', WHERE WHAT IT READS IS OF BULK AT MOST 1048576: true; the input reads as it did. -/
def fnExactCountOutcomeUptoRow : OpenClaim := { program := "ytnfddmbnkbigmaa", sum := "f437203de2ead2d81a51e4e1d7c8e3591d6ca2079b98534cd65079a5d7a0ba5a", func := "loop.example/g01025/laws.FnExactCountOutcome", spec := "fnExactCountOutcome", unfollowed := true, recurses := true, apart := false, narrowed := true }
def FnExactCountOutcomeUptoSaid : Prop := fnExactCountOutcomeUptoRow.holds Try.pinned (OpenSpec.upto fnExactCountOutcomeSpec)

/-- 'laws.FnExactFirstGap', WHERE WHAT IT READS IS OF BULK AT MOST 1048576: true; the input reads as it did. -/
def fnExactFirstGapUptoRow : OpenClaim := { program := "ytnfddmbnkbigmaa", sum := "f437203de2ead2d81a51e4e1d7c8e3591d6ca2079b98534cd65079a5d7a0ba5a", func := "loop.example/g01025/laws.FnExactFirstGap", spec := "fnExactFirstGap", unfollowed := true, recurses := true, apart := false, narrowed := true }
def FnExactFirstGapUptoSaid : Prop := fnExactFirstGapUptoRow.holds Try.pinned (OpenSpec.upto fnExactFirstGapSpec)

/-- 'laws.FnExactIdleRules', WHERE WHAT IT READS IS OF BULK AT MOST 1048576: true; the input reads as it did. -/
def fnExactIdleRulesUptoRow : OpenClaim := { program := "ytnfddmbnkbigmaa", sum := "f437203de2ead2d81a51e4e1d7c8e3591d6ca2079b98534cd65079a5d7a0ba5a", func := "loop.example/g01025/laws.FnExactIdleRules", spec := "fnExactIdleRules", unfollowed := true, recurses := true, apart := false, narrowed := true }
def FnExactIdleRulesUptoSaid : Prop := fnExactIdleRulesUptoRow.holds Try.pinned (OpenSpec.upto fnExactIdleRulesSpec)

/-- 'laws.FnContradictions', WHERE WHAT IT READS IS OF BULK AT MOST 1048576: true; the input reads as it did. -/
def fnContradictionsUptoRow : OpenClaim := { program := "ytnfddmbnkbigmaa", sum := "f437203de2ead2d81a51e4e1d7c8e3591d6ca2079b98534cd65079a5d7a0ba5a", func := "loop.example/g01025/laws.FnContradictions", spec := "fnContradictions", unfollowed := true, recurses := true, apart := false, narrowed := true }
def FnContradictionsUptoSaid : Prop := fnContradictionsUptoRow.holds Try.pinned (OpenSpec.upto fnContradictionsSpec)

end Rows
end Go.Proofs.Ytnfddmbnkbigmaa
