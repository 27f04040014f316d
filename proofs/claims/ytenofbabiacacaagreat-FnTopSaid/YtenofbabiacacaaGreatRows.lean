/-
  No cell of these rows narrows 'for every input' (looked for: loops, veiled, ifaces, maps, wideKeys, modest, calm, conditions, laid).
  DERIVED. THE GIVEN ROWS OF THIS SEAT. 6 by the template 'for every input the law returns true; each argument reads behind the call as it read before'; 0 by the template 'total and deterministic' (their statements: YtenofbabiacacaaGreatTotals.lean).
  GIVEN WITH THE SEED: the statements are not yours to turn. If you find one false, say at which input.
  Laid BY PROGRAM, IN A SANDBOX (cutbox-rows.mjs): the forced cells as the released guide's own fill.sh prints them over the translation dcdd00250aeda650… (all of the seat's roots in one cut). By AI agents, Wed Nov 11 2026. No macro, syntax, notation, axiom, sorry.
-/
import Derived.Test.YtenofbabiacacaaGreatChecked
import GoSem.Claim
import GoSem.ClaimJoined
import GoSem.ClaimMapViews
import Derived.JoinedTies
import Derived.KernelRfl
namespace Go.Proofs.YtenofbabiacacaaGreat
/- THE CELL 'sum', in the pinned program and in every row, IS THE sha256 OF THE DUMP (.gsa) THAT YtenofbabiacacaaGreatProg.lean LOADS. Nothing in Lean hashes anything: it is a label: what it is worth is what the hold of that sum in a sandbox is worth. -/
noncomputable def Tryz.pinned : Pinned := { name := "ytenofbabiacacaagreat", sum := "dcdd00250aeda6502f925f6e1261eeb6d0ee14a9b9ddd85b4ae38bccdb4da3ab", checked := Tryz.checked }
namespace Rows
def none {H : Type} : Left H := { results := [], args := [] }

/-- 'laws.FnExactBreakEven': WHATEVER THE INPUT: true; the input reads as it did. -/
def fnExactBreakEvenSpec : ChangeSpec := { name := "fnExactBreakEven", fn := fun _ => fun
  | [d1, d2, d3, d4, d5] => { results := [.lit (.bool true)], args := [d1, d2, d3, d4, d5] }
  | _ => none }
def fnExactBreakEvenRow : OpenClaim := { program := "ytenofbabiacacaagreat", sum := "dcdd00250aeda6502f925f6e1261eeb6d0ee14a9b9ddd85b4ae38bccdb4da3ab", func := "loop.example/g01025/laws.FnExactBreakEven", spec := "fnExactBreakEven", unfollowed := true, recurses := true, named := ["math/bits.divideError", "math/bits.overflowError"], apart := false }
def FnExactBreakEvenSaid : Prop := fnExactBreakEvenRow.holds Tryz.pinned (OpenSpec.ofChange fnExactBreakEvenSpec)

/-- ITS FALSE NEIGHBOUR: 'it returns false'. Refute it at one input. -/
def fnExactBreakEvenWrong : ChangeSpec := { name := "fnExactBreakEven", fn := fun _ => fun
  | [d1, d2, d3, d4, d5] => { results := [.lit (.bool false)], args := [d1, d2, d3, d4, d5] }
  | _ => none }
def FnExactBreakEvenWrongFalsely : Prop := fnExactBreakEvenRow.holds Tryz.pinned (OpenSpec.ofChange fnExactBreakEvenWrong)

/-- 'laws.FnExactCloseYear': WHATEVER THE INPUT: true; the input reads as it did. -/
def fnExactCloseYearSpec : ChangeSpec := { name := "fnExactCloseYear", fn := fun _ => fun
  | [d1, d2, d3, d4, d5, d6] => { results := [.lit (.bool true)], args := [d1, d2, d3, d4, d5, d6] }
  | _ => none }
def fnExactCloseYearRow : OpenClaim := { program := "ytenofbabiacacaagreat", sum := "dcdd00250aeda6502f925f6e1261eeb6d0ee14a9b9ddd85b4ae38bccdb4da3ab", func := "loop.example/g01025/laws.FnExactCloseYear", spec := "fnExactCloseYear", unfollowed := true, recurses := true, named := ["math/bits.divideError", "math/bits.overflowError"], apart := false }
def FnExactCloseYearSaid : Prop := fnExactCloseYearRow.holds Tryz.pinned (OpenSpec.ofChange fnExactCloseYearSpec)

/-- ITS FALSE NEIGHBOUR: 'it returns false'. Refute it at one input. -/
def fnExactCloseYearWrong : ChangeSpec := { name := "fnExactCloseYear", fn := fun _ => fun
  | [d1, d2, d3, d4, d5, d6] => { results := [.lit (.bool false)], args := [d1, d2, d3, d4, d5, d6] }
  | _ => none }
def FnExactCloseYearWrongFalsely : Prop := fnExactCloseYearRow.holds Tryz.pinned (OpenSpec.ofChange fnExactCloseYearWrong)

/-- 'laws.FnExactRunYears': WHATEVER THE INPUT: true; the input reads as it did. -/
def fnExactRunYearsSpec : ChangeSpec := { name := "fnExactRunYears", fn := fun _ => fun
  | [d1, d2, d3, d4, d5, d6] => { results := [.lit (.bool true)], args := [d1, d2, d3, d4, d5, d6] }
  | _ => none }
def fnExactRunYearsRow : OpenClaim := { program := "ytenofbabiacacaagreat", sum := "dcdd00250aeda6502f925f6e1261eeb6d0ee14a9b9ddd85b4ae38bccdb4da3ab", func := "loop.example/g01025/laws.FnExactRunYears", spec := "fnExactRunYears", unfollowed := true, recurses := true, named := ["math/bits.divideError", "math/bits.overflowError"], apart := false }
def FnExactRunYearsSaid : Prop := fnExactRunYearsRow.holds Tryz.pinned (OpenSpec.ofChange fnExactRunYearsSpec)

/-- ITS FALSE NEIGHBOUR: 'it returns false'. Refute it at one input. -/
def fnExactRunYearsWrong : ChangeSpec := { name := "fnExactRunYears", fn := fun _ => fun
  | [d1, d2, d3, d4, d5, d6] => { results := [.lit (.bool false)], args := [d1, d2, d3, d4, d5, d6] }
  | _ => none }
def FnExactRunYearsWrongFalsely : Prop := fnExactRunYearsRow.holds Tryz.pinned (OpenSpec.ofChange fnExactRunYearsWrong)

/-- 'laws.FnRuns': WHATEVER THE INPUT: true; the input reads as it did. -/
def fnRunsSpec : ChangeSpec := { name := "fnRuns", fn := fun _ => fun
  | [d] => { results := [.lit (.bool true)], args := [d] }
  | _ => none }
def fnRunsRow : OpenClaim := { program := "ytenofbabiacacaagreat", sum := "dcdd00250aeda6502f925f6e1261eeb6d0ee14a9b9ddd85b4ae38bccdb4da3ab", func := "loop.example/g01025/laws.FnRuns", spec := "fnRuns", unfollowed := true, recurses := true, named := ["math/bits.divideError", "math/bits.overflowError"], apart := false }
def FnRunsSaid : Prop := fnRunsRow.holds Tryz.pinned (OpenSpec.ofChange fnRunsSpec)

/-- ITS FALSE NEIGHBOUR: 'it returns false'. Refute it at one input. -/
def fnRunsWrong : ChangeSpec := { name := "fnRuns", fn := fun _ => fun
  | [d] => { results := [.lit (.bool false)], args := [d] }
  | _ => none }
def FnRunsWrongFalsely : Prop := fnRunsRow.holds Tryz.pinned (OpenSpec.ofChange fnRunsWrong)

/-- 'laws.FnYearEnds': WHATEVER THE INPUT: true; the input reads as it did. -/
def fnYearEndsSpec : ChangeSpec := { name := "fnYearEnds", fn := fun _ => fun
  | [d] => { results := [.lit (.bool true)], args := [d] }
  | _ => none }
def fnYearEndsRow : OpenClaim := { program := "ytenofbabiacacaagreat", sum := "dcdd00250aeda6502f925f6e1261eeb6d0ee14a9b9ddd85b4ae38bccdb4da3ab", func := "loop.example/g01025/laws.FnYearEnds", spec := "fnYearEnds", unfollowed := true, recurses := true, named := ["math/bits.divideError", "math/bits.overflowError"], apart := false }
def FnYearEndsSaid : Prop := fnYearEndsRow.holds Tryz.pinned (OpenSpec.ofChange fnYearEndsSpec)

/-- ITS FALSE NEIGHBOUR: 'it returns false'. Refute it at one input. -/
def fnYearEndsWrong : ChangeSpec := { name := "fnYearEnds", fn := fun _ => fun
  | [d] => { results := [.lit (.bool false)], args := [d] }
  | _ => none }
def FnYearEndsWrongFalsely : Prop := fnYearEndsRow.holds Tryz.pinned (OpenSpec.ofChange fnYearEndsWrong)

/-- 'laws.FnTop': WHATEVER THE INPUT: true; the input reads as it did. -/
def fnTopSpec : ChangeSpec := { name := "fnTop", fn := fun _ => fun
  | [d] => { results := [.lit (.bool true)], args := [d] }
  | _ => none }
def fnTopRow : OpenClaim := { program := "ytenofbabiacacaagreat", sum := "dcdd00250aeda6502f925f6e1261eeb6d0ee14a9b9ddd85b4ae38bccdb4da3ab", func := "loop.example/g01025/laws.FnTop", spec := "fnTop", unfollowed := true, recurses := true, named := ["math/bits.divideError", "math/bits.overflowError"], apart := false }
def FnTopSaid : Prop := fnTopRow.holds Tryz.pinned (OpenSpec.ofChange fnTopSpec)

/-- ITS FALSE NEIGHBOUR: 'it returns false'. Refute it at one input. -/
def fnTopWrong : ChangeSpec := { name := "fnTop", fn := fun _ => fun
  | [d] => { results := [.lit (.bool false)], args := [d] }
  | _ => none }
def FnTopWrongFalsely : Prop := fnTopRow.holds Tryz.pinned (OpenSpec.ofChange fnTopWrong)

/- THE SECOND FORM. 'bulk': how many values and letters a reading holds, each counted each time it is reached (what is shared counts as often as it is met; a slice's spare places count too). A statement '..UptoSaid' is the law's where the arguments, and the package variables that the reading takes, are together of bulk at most 1048576: NARROWER than '..Said'. Prove '..Said' where nothing that the law and all that it calls make is longer than what came in: it says more and counts as full. Else prove '..UptoSaid'. A law counts once. -/
mutual
def uptoBulk {H : Type} : DataW H → Nat
  | .lit (.string bytes) => bytes.length + 1
  | .lit _ => 1
  | .nil => 1
  | .ptr d => uptoBulk d + 1
  | .slice elems spare => uptoBulkAll elems + uptoBulkAll spare + 1
  | .agg parts => uptoBulkAll parts + 1
  | .iface _ d => uptoBulk d + 1
  | .map entries => uptoBulkEntries entries + 1
  | .held _ => 1
def uptoBulkAll {H : Type} : List (DataW H) → Nat
  | [] => 0
  | d :: r => uptoBulk d + uptoBulkAll r
def uptoBulkEntries {H : Type} : List (Lit × DataW H) → Nat
  | [] => 0
  | x :: r => uptoBulkEntry x + uptoBulkEntries r
def uptoBulkEntry {H : Type} : Lit × DataW H → Nat
  | (.string bytes, d) => bytes.length + uptoBulk d + 1
  | (_, d) => uptoBulk d + 1
 end
def uptoSmall : (H : Type) → List (DataW H) → Bool := fun _ ds => decide (uptoBulkAll ds ≤ 1048576)
def OpenSpec.upto (s : _root_.Go.ChangeSpec) : _root_.Go.OpenSpec := { _root_.Go.OpenSpec.ofChange s with cond := some uptoSmall }

/-- 'laws.FnExactBreakEven', WHERE WHAT IT READS IS OF BULK AT MOST 1048576: true; the input reads as it did. -/
def fnExactBreakEvenUptoRow : OpenClaim := { program := "ytenofbabiacacaagreat", sum := "dcdd00250aeda6502f925f6e1261eeb6d0ee14a9b9ddd85b4ae38bccdb4da3ab", func := "loop.example/g01025/laws.FnExactBreakEven", spec := "fnExactBreakEven", unfollowed := true, recurses := true, named := ["math/bits.divideError", "math/bits.overflowError"], apart := false, narrowed := true }
def FnExactBreakEvenUptoSaid : Prop := fnExactBreakEvenUptoRow.holds Tryz.pinned (OpenSpec.upto fnExactBreakEvenSpec)

/-- 'laws.FnExactCloseYear', WHERE WHAT IT READS IS OF BULK AT MOST 1048576: true; the input reads as it did. -/
def fnExactCloseYearUptoRow : OpenClaim := { program := "ytenofbabiacacaagreat", sum := "dcdd00250aeda6502f925f6e1261eeb6d0ee14a9b9ddd85b4ae38bccdb4da3ab", func := "loop.example/g01025/laws.FnExactCloseYear", spec := "fnExactCloseYear", unfollowed := true, recurses := true, named := ["math/bits.divideError", "math/bits.overflowError"], apart := false, narrowed := true }
def FnExactCloseYearUptoSaid : Prop := fnExactCloseYearUptoRow.holds Tryz.pinned (OpenSpec.upto fnExactCloseYearSpec)

/-- 'laws.FnExactRunYears', WHERE WHAT IT READS IS OF BULK AT MOST 1048576: true; the input reads as it did. -/
def fnExactRunYearsUptoRow : OpenClaim := { program := "ytenofbabiacacaagreat", sum := "dcdd00250aeda6502f925f6e1261eeb6d0ee14a9b9ddd85b4ae38bccdb4da3ab", func := "loop.example/g01025/laws.FnExactRunYears", spec := "fnExactRunYears", unfollowed := true, recurses := true, named := ["math/bits.divideError", "math/bits.overflowError"], apart := false, narrowed := true }
def FnExactRunYearsUptoSaid : Prop := fnExactRunYearsUptoRow.holds Tryz.pinned (OpenSpec.upto fnExactRunYearsSpec)

/-- 'laws.FnRuns', WHERE WHAT IT READS IS OF BULK AT MOST 1048576: true; the input reads as it did. -/
def fnRunsUptoRow : OpenClaim := { program := "ytenofbabiacacaagreat", sum := "dcdd00250aeda6502f925f6e1261eeb6d0ee14a9b9ddd85b4ae38bccdb4da3ab", func := "loop.example/g01025/laws.FnRuns", spec := "fnRuns", unfollowed := true, recurses := true, named := ["math/bits.divideError", "math/bits.overflowError"], apart := false, narrowed := true }
def FnRunsUptoSaid : Prop := fnRunsUptoRow.holds Tryz.pinned (OpenSpec.upto fnRunsSpec)

/-- 'laws.FnYearEnds', WHERE WHAT IT READS IS OF BULK AT MOST 1048576: true; the input reads as it did. -/
def fnYearEndsUptoRow : OpenClaim := { program := "ytenofbabiacacaagreat", sum := "dcdd00250aeda6502f925f6e1261eeb6d0ee14a9b9ddd85b4ae38bccdb4da3ab", func := "loop.example/g01025/laws.FnYearEnds", spec := "fnYearEnds", unfollowed := true, recurses := true, named := ["math/bits.divideError", "math/bits.overflowError"], apart := false, narrowed := true }
def FnYearEndsUptoSaid : Prop := fnYearEndsUptoRow.holds Tryz.pinned (OpenSpec.upto fnYearEndsSpec)

/-- 'laws.FnTop', WHERE WHAT IT READS IS OF BULK AT MOST 1048576: true; the input reads as it did. -/
def fnTopUptoRow : OpenClaim := { program := "ytenofbabiacacaagreat", sum := "dcdd00250aeda6502f925f6e1261eeb6d0ee14a9b9ddd85b4ae38bccdb4da3ab", func := "loop.example/g01025/laws.FnTop", spec := "fnTop", unfollowed := true, recurses := true, named := ["math/bits.divideError", "math/bits.overflowError"], apart := false, narrowed := true }
def FnTopUptoSaid : Prop := fnTopUptoRow.holds Tryz.pinned (OpenSpec.upto fnTopSpec)

end Rows
end Go.Proofs.YtenofbabiacacaaGreat
