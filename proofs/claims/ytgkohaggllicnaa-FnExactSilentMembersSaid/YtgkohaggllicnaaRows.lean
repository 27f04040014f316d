/-
  No cell of these rows narrows 'for every input' (looked for: loops, veiled, ifaces, maps, wideKeys, modest, calm, conditions, laid).
  DERIVED. THE GIVEN ROWS OF THIS SEAT. 4 by the template 'for every input the law returns true; each argument reads behind the call as it read before'; 0 by the template 'total and deterministic' (their statements: YtgkohaggllicnaaTotals.lean).
  GIVEN WITH THE SEED: the statements are not yours to turn. If you find one false, say at which input.
  Laid BY PROGRAM, IN A SANDBOX (cutbox-rows.mjs): the forced cells as the released guide's own fill.sh prints them over the translation 5f8b8cc4b863b029… (all of the seat's roots in one cut). By AI agents, Wed Nov 11 2026. No macro, syntax, notation, axiom, sorry.
-/
import Derived.Test.YtgkohaggllicnaaChecked
import GoSem.Claim
import GoSem.ClaimJoined
import GoSem.ClaimMapViews
import Derived.JoinedTies
import Derived.KernelRfl
namespace Go.Proofs.Ytgkohaggllicnaa
/- THE CELL 'sum', in the pinned program and in every row, IS THE sha256 OF THE DUMP (.gsa) THAT YtgkohaggllicnaaProg.lean LOADS. Nothing in Lean hashes anything: it is a label: what it is worth is what the hold of that sum in a sandbox is worth. -/
noncomputable def Try.pinned : Pinned := { name := "ytgkohaggllicnaa", sum := "5f8b8cc4b863b0296dfe5792e94db54fa9c84e6276606b26c797688e1eaeeba0", checked := Try.checked }
namespace Rows
def none {H : Type} : Left H := { results := [], args := [] }

/-- 'laws.FnExactIsRegister': WHATEVER THE INPUT: true; the input reads as it did. -/
def fnExactIsRegisterSpec : ChangeSpec := { name := "fnExactIsRegister", fn := fun _ => fun
  | [d] => { results := [.lit (.bool true)], args := [d] }
  | _ => none }
def fnExactIsRegisterRow : OpenClaim := { program := "ytgkohaggllicnaa", sum := "5f8b8cc4b863b0296dfe5792e94db54fa9c84e6276606b26c797688e1eaeeba0", func := "loop.example/g01025/laws.FnExactIsRegister", spec := "fnExactIsRegister", apart := false }
def FnExactIsRegisterSaid : Prop := fnExactIsRegisterRow.holds Try.pinned (OpenSpec.ofChange fnExactIsRegisterSpec)

/-- ITS FALSE NEIGHBOUR: 'it returns false'. Refute it at one input. -/
def fnExactIsRegisterWrong : ChangeSpec := { name := "fnExactIsRegister", fn := fun _ => fun
  | [d] => { results := [.lit (.bool false)], args := [d] }
  | _ => none }
def FnExactIsRegisterWrongFalsely : Prop := fnExactIsRegisterRow.holds Try.pinned (OpenSpec.ofChange fnExactIsRegisterWrong)

/-- 'laws.FnExactMembersIn': WHATEVER THE INPUT: true; the input reads as it did. -/
def fnExactMembersInSpec : ChangeSpec := { name := "fnExactMembersIn", fn := fun _ => fun
  | [d1, d2] => { results := [.lit (.bool true)], args := [d1, d2] }
  | _ => none }
def fnExactMembersInRow : OpenClaim := { program := "ytgkohaggllicnaa", sum := "5f8b8cc4b863b0296dfe5792e94db54fa9c84e6276606b26c797688e1eaeeba0", func := "loop.example/g01025/laws.FnExactMembersIn", spec := "fnExactMembersIn", unfollowed := true, recurses := true, apart := false }
def FnExactMembersInSaid : Prop := fnExactMembersInRow.holds Try.pinned (OpenSpec.ofChange fnExactMembersInSpec)

/-- ITS FALSE NEIGHBOUR: 'it returns false'. Refute it at one input. -/
def fnExactMembersInWrong : ChangeSpec := { name := "fnExactMembersIn", fn := fun _ => fun
  | [d1, d2] => { results := [.lit (.bool false)], args := [d1, d2] }
  | _ => none }
def FnExactMembersInWrongFalsely : Prop := fnExactMembersInRow.holds Try.pinned (OpenSpec.ofChange fnExactMembersInWrong)

/-- 'laws.FnExactAgesIn': WHATEVER THE INPUT: true; the input reads as it did. -/
def fnExactAgesInSpec : ChangeSpec := { name := "fnExactAgesIn", fn := fun _ => fun
  | [d1, d2] => { results := [.lit (.bool true)], args := [d1, d2] }
  | _ => none }
def fnExactAgesInRow : OpenClaim := { program := "ytgkohaggllicnaa", sum := "5f8b8cc4b863b0296dfe5792e94db54fa9c84e6276606b26c797688e1eaeeba0", func := "loop.example/g01025/laws.FnExactAgesIn", spec := "fnExactAgesIn", unfollowed := true, recurses := true, apart := false }
def FnExactAgesInSaid : Prop := fnExactAgesInRow.holds Try.pinned (OpenSpec.ofChange fnExactAgesInSpec)

/-- ITS FALSE NEIGHBOUR: 'it returns false'. Refute it at one input. -/
def fnExactAgesInWrong : ChangeSpec := { name := "fnExactAgesIn", fn := fun _ => fun
  | [d1, d2] => { results := [.lit (.bool false)], args := [d1, d2] }
  | _ => none }
def FnExactAgesInWrongFalsely : Prop := fnExactAgesInRow.holds Try.pinned (OpenSpec.ofChange fnExactAgesInWrong)

/-- 'laws.FnExactSilentMembers': WHATEVER THE INPUT: true; the input reads as it did. -/
def fnExactSilentMembersSpec : ChangeSpec := { name := "fnExactSilentMembers", fn := fun _ => fun
  | [d1, d2] => { results := [.lit (.bool true)], args := [d1, d2] }
  | _ => none }
def fnExactSilentMembersRow : OpenClaim := { program := "ytgkohaggllicnaa", sum := "5f8b8cc4b863b0296dfe5792e94db54fa9c84e6276606b26c797688e1eaeeba0", func := "loop.example/g01025/laws.FnExactSilentMembers", spec := "fnExactSilentMembers", unfollowed := true, recurses := true, apart := false }
def FnExactSilentMembersSaid : Prop := fnExactSilentMembersRow.holds Try.pinned (OpenSpec.ofChange fnExactSilentMembersSpec)

/-- ITS FALSE NEIGHBOUR: 'it returns false'. Refute it at one input. -/
def fnExactSilentMembersWrong : ChangeSpec := { name := "fnExactSilentMembers", fn := fun _ => fun
  | [d1, d2] => { results := [.lit (.bool false)], args := [d1, d2] }
  | _ => none }
def FnExactSilentMembersWrongFalsely : Prop := fnExactSilentMembersRow.holds Try.pinned (OpenSpec.ofChange fnExactSilentMembersWrong)

/- THE SECOND FORM. 'bulk': how many values and letters a reading holds, each counted each time it is reached (what is shared counts as often as it is met; a slice's spare places count too). A statement '..UptoSaid' is the law's where the arguments, and the package variables that the reading takes, are together of bulk at most 1048576: NARROWER than '..Said'. Prove '..Said' where nothing that the law and all that it calls make is longer than what came in: it says more and counts as full. Else prove '..UptoSaid'. A law counts once. -/
mutual
def uptoBulk {H : Type} : DataW H → Nat
  | .lit (.string bytes) => bytes.length + 1
  | .lit _ => 1
  | .nil => 1
  | .ptr d => uptoBulk d + 1
  | .slice elems spare => uptoBulkAll elems + uptoBulkAll spare + 1
  | .agg parts => uptoBulkAll parts + 1
  | .iface _ d => uptoBulk d + 1
  | .map entries => uptoBulkEntries entries + 1
  | .held _ => 1
def uptoBulkAll {H : Type} : List (DataW H) → Nat
  | [] => 0
  | d :: r => uptoBulk d + uptoBulkAll r
def uptoBulkEntries {H : Type} : List (Lit × DataW H) → Nat
  | [] => 0
  | x :: r => uptoBulkEntry x + uptoBulkEntries r
def uptoBulkEntry {H : Type} : Lit × DataW H → Nat
  | (.string bytes, d) => bytes.length + uptoBulk d + 1
  | (_, d) => uptoBulk d + 1
 end
def uptoSmall : (H : Type) → List (DataW H) → Bool := fun _ ds => decide (uptoBulkAll ds ≤ 1048576)
def OpenSpec.upto (s : _root_.Go.ChangeSpec) : _root_.Go.OpenSpec := { _root_.Go.OpenSpec.ofChange s with cond := some uptoSmall }

/-- 'laws.FnExactIsRegister', WHERE WHAT IT READS IS OF BULK AT MOST 1048576: true; the input reads as it did. -/
def fnExactIsRegisterUptoRow : OpenClaim := { program := "ytgkohaggllicnaa", sum := "5f8b8cc4b863b0296dfe5792e94db54fa9c84e6276606b26c797688e1eaeeba0", func := "loop.example/g01025/laws.FnExactIsRegister", spec := "fnExactIsRegister", apart := false, narrowed := true }
def FnExactIsRegisterUptoSaid : Prop := fnExactIsRegisterUptoRow.holds Try.pinned (OpenSpec.upto fnExactIsRegisterSpec)

/-- 'laws.FnExactMembersIn', WHERE WHAT IT READS IS OF BULK AT MOST 1048576: true; the input reads as it did. -/
def fnExactMembersInUptoRow : OpenClaim := { program := "ytgkohaggllicnaa", sum := "5f8b8cc4b863b0296dfe5792e94db54fa9c84e6276606b26c797688e1eaeeba0", func := "loop.example/g01025/laws.FnExactMembersIn", spec := "fnExactMembersIn", unfollowed := true, recurses := true, apart := false, narrowed := true }
def FnExactMembersInUptoSaid : Prop := fnExactMembersInUptoRow.holds Try.pinned (OpenSpec.upto fnExactMembersInSpec)

/-- 'laws.FnExactAgesIn', WHERE WHAT IT READS IS OF BULK AT MOST 1048576: true; the input reads as it did. -/
def fnExactAgesInUptoRow : OpenClaim := { program := "ytgkohaggllicnaa", sum := "5f8b8cc4b863b0296dfe5792e94db54fa9c84e6276606b26c797688e1eaeeba0", func := "loop.example/g01025/laws.FnExactAgesIn", spec := "fnExactAgesIn", unfollowed := true, recurses := true, apart := false, narrowed := true }
def FnExactAgesInUptoSaid : Prop := fnExactAgesInUptoRow.holds Try.pinned (OpenSpec.upto fnExactAgesInSpec)

/-- 'laws.FnExactSilentMembers', WHERE WHAT IT READS IS OF BULK AT MOST 1048576: true; the input reads as it did. -/
def fnExactSilentMembersUptoRow : OpenClaim := { program := "ytgkohaggllicnaa", sum := "5f8b8cc4b863b0296dfe5792e94db54fa9c84e6276606b26c797688e1eaeeba0", func := "loop.example/g01025/laws.FnExactSilentMembers", spec := "fnExactSilentMembers", unfollowed := true, recurses := true, apart := false, narrowed := true }
def FnExactSilentMembersUptoSaid : Prop := fnExactSilentMembersUptoRow.holds Try.pinned (OpenSpec.upto fnExactSilentMembersSpec)

end Rows
end Go.Proofs.Ytgkohaggllicnaa
