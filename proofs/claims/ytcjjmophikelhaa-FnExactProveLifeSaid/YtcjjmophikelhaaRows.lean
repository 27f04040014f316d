/-
  No cell of these rows narrows 'for every input' (looked for: loops, veiled, ifaces, maps, wideKeys, modest, calm, conditions, laid).
  DERIVED. THE GIVEN ROWS OF THIS SEAT. 4 by the template 'for every input the law returns true; each argument reads behind the call as it read before'; 0 by the template 'total and deterministic' (their statements: YtcjjmophikelhaaTotals.lean).
  GIVEN WITH THE SEED: the statements are not yours to turn. If you find one false, say at which input.
  Laid BY PROGRAM, IN A SANDBOX (cutbox-rows.mjs): the forced cells as the released guide's own fill.sh prints them over the translation 78722a5e1787cfe6… (all of the seat's roots in one cut). By AI agents, Wed Nov 11 2026. No macro, syntax, notation, axiom, sorry.
-/
import Derived.Test.YtcjjmophikelhaaChecked
import GoSem.Claim
import GoSem.ClaimJoined
import GoSem.ClaimMapViews
import Derived.JoinedTies
import Derived.KernelRfl
namespace Go.Proofs.Ytcjjmophikelhaa
/- THE CELL 'sum', in the pinned program and in every row, IS THE sha256 OF THE DUMP (.gsa) THAT YtcjjmophikelhaaProg.lean LOADS. Nothing in Lean hashes anything: it is a label: what it is worth is what the hold of that sum in a sandbox is worth. -/
noncomputable def Try.pinned : Pinned := { name := "ytcjjmophikelhaa", sum := "78722a5e1787cfe6a68e85e03a381e8efab458d402729bbe32d12b9dc0f43869", checked := Try.checked }
namespace Rows
def none {H : Type} : Left H := { results := [], args := [] }

/-- 'laws.FnExactLeaveRegister': WHATEVER THE INPUT: true; the input reads as it did. -/
def fnExactLeaveRegisterSpec : ChangeSpec := { name := "fnExactLeaveRegister", fn := fun _ => fun
  | [d1, d2, d3] => { results := [.lit (.bool true)], args := [d1, d2, d3] }
  | _ => none }
def fnExactLeaveRegisterRow : OpenClaim := { program := "ytcjjmophikelhaa", sum := "78722a5e1787cfe6a68e85e03a381e8efab458d402729bbe32d12b9dc0f43869", func := "loop.example/g01025/laws.FnExactLeaveRegister", spec := "fnExactLeaveRegister", unfollowed := true, recurses := true, apart := false }
def FnExactLeaveRegisterSaid : Prop := fnExactLeaveRegisterRow.holds Try.pinned (OpenSpec.ofChange fnExactLeaveRegisterSpec)

/-- ITS FALSE NEIGHBOUR: 'it returns false'. Refute it at one input. -/
def fnExactLeaveRegisterWrong : ChangeSpec := { name := "fnExactLeaveRegister", fn := fun _ => fun
  | [d1, d2, d3] => { results := [.lit (.bool false)], args := [d1, d2, d3] }
  | _ => none }
def FnExactLeaveRegisterWrongFalsely : Prop := fnExactLeaveRegisterRow.holds Try.pinned (OpenSpec.ofChange fnExactLeaveRegisterWrong)

/-- 'laws.FnExactProveLife': WHATEVER THE INPUT: true; the input reads as it did. -/
def fnExactProveLifeSpec : ChangeSpec := { name := "fnExactProveLife", fn := fun _ => fun
  | [d1, d2, d3] => { results := [.lit (.bool true)], args := [d1, d2, d3] }
  | _ => none }
def fnExactProveLifeRow : OpenClaim := { program := "ytcjjmophikelhaa", sum := "78722a5e1787cfe6a68e85e03a381e8efab458d402729bbe32d12b9dc0f43869", func := "loop.example/g01025/laws.FnExactProveLife", spec := "fnExactProveLife", unfollowed := true, recurses := true, apart := false }
def FnExactProveLifeSaid : Prop := fnExactProveLifeRow.holds Try.pinned (OpenSpec.ofChange fnExactProveLifeSpec)

/-- ITS FALSE NEIGHBOUR: 'it returns false'. Refute it at one input. -/
def fnExactProveLifeWrong : ChangeSpec := { name := "fnExactProveLife", fn := fun _ => fun
  | [d1, d2, d3] => { results := [.lit (.bool false)], args := [d1, d2, d3] }
  | _ => none }
def FnExactProveLifeWrongFalsely : Prop := fnExactProveLifeRow.holds Try.pinned (OpenSpec.ofChange fnExactProveLifeWrong)

/-- 'laws.FnExactEnrol': WHATEVER THE INPUT: true; the input reads as it did. -/
def fnExactEnrolSpec : ChangeSpec := { name := "fnExactEnrol", fn := fun _ => fun
  | [d1, d2, d3, d4] => { results := [.lit (.bool true)], args := [d1, d2, d3, d4] }
  | _ => none }
def fnExactEnrolRow : OpenClaim := { program := "ytcjjmophikelhaa", sum := "78722a5e1787cfe6a68e85e03a381e8efab458d402729bbe32d12b9dc0f43869", func := "loop.example/g01025/laws.FnExactEnrol", spec := "fnExactEnrol", inPlace := ["slices.overlaps[loop.example/g01025/impl.Member]"], unfollowed := true, recurses := true, apart := false }
def FnExactEnrolSaid : Prop := fnExactEnrolRow.holds Try.pinned (OpenSpec.ofChange fnExactEnrolSpec)

/-- ITS FALSE NEIGHBOUR: 'it returns false'. Refute it at one input. -/
def fnExactEnrolWrong : ChangeSpec := { name := "fnExactEnrol", fn := fun _ => fun
  | [d1, d2, d3, d4] => { results := [.lit (.bool false)], args := [d1, d2, d3, d4] }
  | _ => none }
def FnExactEnrolWrongFalsely : Prop := fnExactEnrolRow.holds Try.pinned (OpenSpec.ofChange fnExactEnrolWrong)

/-- 'laws.FnRegisters': WHATEVER THE INPUT: true; the input reads as it did. -/
def fnRegistersSpec : ChangeSpec := { name := "fnRegisters", fn := fun _ => fun
  | [d] => { results := [.lit (.bool true)], args := [d] }
  | _ => none }
def fnRegistersRow : OpenClaim := { program := "ytcjjmophikelhaa", sum := "78722a5e1787cfe6a68e85e03a381e8efab458d402729bbe32d12b9dc0f43869", func := "loop.example/g01025/laws.FnRegisters", spec := "fnRegisters", inPlace := ["slices.overlaps[loop.example/g01025/impl.Member]"], unfollowed := true, recurses := true, apart := false }
def FnRegistersSaid : Prop := fnRegistersRow.holds Try.pinned (OpenSpec.ofChange fnRegistersSpec)

/-- ITS FALSE NEIGHBOUR: 'it returns false'. Refute it at one input. -/
def fnRegistersWrong : ChangeSpec := { name := "fnRegisters", fn := fun _ => fun
  | [d] => { results := [.lit (.bool false)], args := [d] }
  | _ => none }
def FnRegistersWrongFalsely : Prop := fnRegistersRow.holds Try.pinned (OpenSpec.ofChange fnRegistersWrong)

/- THE SECOND FORM. 'bulk': how many values and letters a reading holds, each counted each time it is reached (what is shared counts as often as it is met; a slice's spare places count too). A statement '..UptoSaid' is the law's where the arguments, and the package variables that the reading takes, are together of bulk at most 1048576: NARROWER than '..Said'. Prove '..Said' where nothing that the law and all that it calls make is longer than what came in: it says more and counts as full. Else prove '..UptoSaid'. A law counts once. -/
mutual
def uptoBulk {H : Type} : DataW H → Nat
  | .lit (.string bytes) => bytes.length + 1
  | .lit _ => 1
  | .nil => 1
  | .ptr d => uptoBulk d + 1
  | .slice elems spare => uptoBulkAll elems + uptoBulkAll spare + 1
  | .agg parts => uptoBulkAll parts + 1
  | .iface _ d => uptoBulk d + 1
  | .map entries => uptoBulkEntries entries + 1
  | .held _ => 1
def uptoBulkAll {H : Type} : List (DataW H) → Nat
  | [] => 0
  | d :: r => uptoBulk d + uptoBulkAll r
def uptoBulkEntries {H : Type} : List (Lit × DataW H) → Nat
  | [] => 0
  | x :: r => uptoBulkEntry x + uptoBulkEntries r
def uptoBulkEntry {H : Type} : Lit × DataW H → Nat
  | (.string bytes, d) => bytes.length + uptoBulk d + 1
  | (_, d) => uptoBulk d + 1
 end
def uptoSmall : (H : Type) → List (DataW H) → Bool := fun _ ds => decide (uptoBulkAll ds ≤ 1048576)
def OpenSpec.upto (s : _root_.Go.ChangeSpec) : _root_.Go.OpenSpec := { _root_.Go.OpenSpec.ofChange s with cond := some uptoSmall }

/-- 'laws.FnExactLeaveRegister', WHERE WHAT IT READS IS OF BULK AT MOST 1048576: true; the input reads as it did. -/
def fnExactLeaveRegisterUptoRow : OpenClaim := { program := "ytcjjmophikelhaa", sum := "78722a5e1787cfe6a68e85e03a381e8efab458d402729bbe32d12b9dc0f43869", func := "loop.example/g01025/laws.FnExactLeaveRegister", spec := "fnExactLeaveRegister", unfollowed := true, recurses := true, apart := false, narrowed := true }
def FnExactLeaveRegisterUptoSaid : Prop := fnExactLeaveRegisterUptoRow.holds Try.pinned (OpenSpec.upto fnExactLeaveRegisterSpec)

/-- 'laws.FnExactProveLife', WHERE WHAT IT READS IS OF BULK AT MOST 1048576: true; the input reads as it did. -/
def fnExactProveLifeUptoRow : OpenClaim := { program := "ytcjjmophikelhaa", sum := "78722a5e1787cfe6a68e85e03a381e8efab458d402729bbe32d12b9dc0f43869", func := "loop.example/g01025/laws.FnExactProveLife", spec := "fnExactProveLife", unfollowed := true, recurses := true, apart := false, narrowed := true }
def FnExactProveLifeUptoSaid : Prop := fnExactProveLifeUptoRow.holds Try.pinned (OpenSpec.upto fnExactProveLifeSpec)

/-- 'laws.FnExactEnrol', WHERE WHAT IT READS IS OF BULK AT MOST 1048576: true; the input reads as it did. -/
def fnExactEnrolUptoRow : OpenClaim := { program := "ytcjjmophikelhaa", sum := "78722a5e1787cfe6a68e85e03a381e8efab458d402729bbe32d12b9dc0f43869", func := "loop.example/g01025/laws.FnExactEnrol", spec := "fnExactEnrol", inPlace := ["slices.overlaps[loop.example/g01025/impl.Member]"], unfollowed := true, recurses := true, apart := false, narrowed := true }
def FnExactEnrolUptoSaid : Prop := fnExactEnrolUptoRow.holds Try.pinned (OpenSpec.upto fnExactEnrolSpec)

/-- 'laws.FnRegisters', WHERE WHAT IT READS IS OF BULK AT MOST 1048576: true; the input reads as it did. -/
def fnRegistersUptoRow : OpenClaim := { program := "ytcjjmophikelhaa", sum := "78722a5e1787cfe6a68e85e03a381e8efab458d402729bbe32d12b9dc0f43869", func := "loop.example/g01025/laws.FnRegisters", spec := "fnRegisters", inPlace := ["slices.overlaps[loop.example/g01025/impl.Member]"], unfollowed := true, recurses := true, apart := false, narrowed := true }
def FnRegistersUptoSaid : Prop := fnRegistersUptoRow.holds Try.pinned (OpenSpec.upto fnRegistersSpec)

end Rows
end Go.Proofs.Ytcjjmophikelhaa
