/-
  The types and the table of this seat as the abstract evaluator sees them, and that they are the program's. No conditions but those in the statements.
-/
import Derived.Test.YtgkohaggllicnaaAeB
import Derived.Test.YtgkohaggllicnaaChecked
set_option linter.unusedVariables false
set_option linter.unusedSimpArgs false
namespace Go.Proofs.Ytgkohaggllicnaa
open Go.AE

def T : TypeId → TD
  | 2 => .int .i64
  | 3 => .int .i64
  | 4 => .bool
  | 37 => .struct 5 [(0, 1, false), (1, 1, false), (2, 1, false), (3, 1, false), (4, 1, false)] [.int .i64 0, .int .i64 0, .int .i64 0, .int .i64 0, .int .i64 0]
  | 40 => .struct 5 [(0, 1, false), (1, 1, false), (2, 1, false), (3, 1, false), (4, 1, false)] [.int .i64 0, .int .i64 0, .int .i64 0, .int .i64 0, .int .i64 0]
  | 38 => .struct 5 [(0, 1, false), (1, 1, false), (2, 1, false), (3, 1, false), (4, 1, false)] [.int .i64 0, .int .i64 0, .int .i64 0, .int .i64 0, .int .i64 0]
  | 22 => .slice (.recs 5 []) 5 40
  | 25 => .slice (.recs 5 []) 5 40
  | 29 => .slice (.ints .i64 []) 1 8
  | _ => .other
theorem hT : TabOK Try.prog T := by
  intro t
  unfold T
  split
  · exact ⟨fun _ => ⟨by kernel_rfl, by kernel_rfl⟩, by kernel_rfl, by kernel_rfl⟩
  · exact ⟨fun _ => ⟨by kernel_rfl, by kernel_rfl⟩, by kernel_rfl, by kernel_rfl⟩
  · exact ⟨fun _ => ⟨by kernel_rfl, by kernel_rfl⟩, by kernel_rfl, by kernel_rfl⟩
  · exact ⟨fun _ => ⟨by kernel_rfl, by kernel_rfl⟩, by kernel_rfl, by kernel_rfl, (by first | exact fun h => absurd h (by decide) | exact imp_of (by kernel_rfl))⟩
  · exact ⟨fun _ => ⟨by kernel_rfl, by kernel_rfl⟩, by kernel_rfl, by kernel_rfl, (by first | exact fun h => absurd h (by decide) | exact imp_of (by kernel_rfl))⟩
  · exact ⟨fun _ => ⟨by kernel_rfl, by kernel_rfl⟩, by kernel_rfl, by kernel_rfl, (by first | exact fun h => absurd h (by decide) | exact imp_of (by kernel_rfl))⟩
  · exact ⟨fun _ => ⟨by kernel_rfl, by kernel_rfl⟩, by kernel_rfl, rfl, by decide, by decide, by kernel_rfl, trivial⟩
  · exact ⟨fun _ => ⟨by kernel_rfl, by kernel_rfl⟩, by kernel_rfl, rfl, by decide, by decide, by kernel_rfl, trivial⟩
  · exact ⟨fun _ => ⟨by kernel_rfl, by kernel_rfl⟩, by kernel_rfl, rfl, by decide, by decide, by kernel_rfl, by change elemP _ _ = some _; kernel_rfl⟩
  · exact ⟨fun h => (by simp [TD.ok] at h), trivial⟩
def G : Nat → Option D := fun _ => none
theorem mixed : Try.prog.follows .mixedOrders = true := Try.checked.mixed
end Go.Proofs.Ytgkohaggllicnaa
