/-
  Lists of integers: copies, equality, marks, ranges. No conditions but those in the statements.
-/
import Derived.Test.YtgpgnhadmckmhaaGreatDoorBase
import Derived.Test.YtgpgnhadmckmhaaGreatDoorAeC
set_option linter.unusedVariables false
set_option linter.unusedSimpArgs false
namespace Go.Proofs.YtgpgnhadmckmhaaGreatDoor
open Go.AE

attribute [local irreducible] CallA LoopA DrawA CallQ arithK quoK remK eqK
abbrev Ri (xs : List Int) : AV := .ro (.ints .i64 xs)
abbrev Di (xs : List Int) : Blk := .data (.ints .i64 xs)
def marks (n k : Nat) : List Int := (List.range n).map fun i => ((k + i : Nat) : Int)
theorem marks_len (n k : Nat) : (marks n k).length = n := by simp [marks]
theorem marks_get {n k i : Nat} (h : i < n) : (marks n k).getD i 0 = ((k + i : Nat) : Int) := by
  rw [marks, List.getD_eq_getElem?_getD, List.getElem?_map, List.getElem?_range h]; rfl
end Go.Proofs.YtgpgnhadmckmhaaGreatDoor
