/-
  The types and the table of this seat as the abstract evaluator sees them, and that they are the program's. No conditions but those in the statements.
-/
import Derived.Test.YtnfddmbnkbigmaaAeB
import Derived.Test.YtnfddmbnkbigmaaChecked
set_option linter.unusedVariables false
set_option linter.unusedSimpArgs false
namespace Go.Proofs.Ytnfddmbnkbigmaa
open Go.AE

def T : TypeId → TD
  | 2 => .int .i64
  | 3 => .int .i64
  | 79 => .int .u64
  | 4 => .bool
  | 5 => .int .u8
  | 51 => .struct 6 [(0, 1, false), (1, 1, false), (2, 1, false), (3, 1, false), (4, 1, false), (5, 1, false)] [.int .i64 0, .int .i64 0, .int .i64 0, .int .i64 0, .int .i64 0, .int .i64 0]
  | 59 => .struct 6 [(0, 1, false), (1, 1, false), (2, 1, false), (3, 1, false), (4, 1, false), (5, 1, false)] [.int .i64 0, .int .i64 0, .int .i64 0, .int .i64 0, .int .i64 0, .int .i64 0]
  | 52 => .struct 6 [(0, 1, false), (1, 1, false), (2, 1, false), (3, 1, false), (4, 1, false), (5, 1, false)] [.int .i64 0, .int .i64 0, .int .i64 0, .int .i64 0, .int .i64 0, .int .i64 0]
  | 22 => .slice (.recs 6 []) 6 48
  | 26 => .slice (.recs 6 []) 6 48
  | 32 => .struct 3 [(0, 1, false), (1, 1, false), (2, 1, false)] [.int .i64 0, .int .i64 0, .int .i64 0]
  | 33 => .struct 3 [(0, 1, false), (1, 1, false), (2, 1, false)] [.int .i64 0, .int .i64 0, .int .i64 0]
  | 37 => .slice (.ints .i64 []) 1 8
  | 43 => .slice (.ints .u8 []) 1 1
  | 64 => .slice (.bools []) 1 1
  | 75 => .struct 3 [(0, 1, false), (1, 1, false), (2, 1, false)] [.slice none 0 0, .int .i64 0, .int .i64 0]
  | 76 => .struct 3 [(0, 1, false), (1, 1, false), (2, 1, false)] [.slice none 0 0, .int .i64 0, .int .i64 0]
  | _ => .other
theorem hT : TabOK Try.prog T := by
  intro t
  unfold T
  split
  · exact ⟨fun _ => ⟨by kernel_rfl, by kernel_rfl⟩, by kernel_rfl, by kernel_rfl⟩
  · exact ⟨fun _ => ⟨by kernel_rfl, by kernel_rfl⟩, by kernel_rfl, by kernel_rfl⟩
  · exact ⟨fun _ => ⟨by kernel_rfl, by kernel_rfl⟩, by kernel_rfl, by kernel_rfl⟩
  · exact ⟨fun _ => ⟨by kernel_rfl, by kernel_rfl⟩, by kernel_rfl, by kernel_rfl⟩
  · exact ⟨fun _ => ⟨by kernel_rfl, by kernel_rfl⟩, by kernel_rfl, by kernel_rfl⟩
  · exact ⟨fun _ => ⟨by kernel_rfl, by kernel_rfl⟩, by kernel_rfl, by kernel_rfl, (by first | exact fun h => absurd h (by decide) | exact imp_of (by kernel_rfl))⟩
  · exact ⟨fun _ => ⟨by kernel_rfl, by kernel_rfl⟩, by kernel_rfl, by kernel_rfl, (by first | exact fun h => absurd h (by decide) | exact imp_of (by kernel_rfl))⟩
  · exact ⟨fun _ => ⟨by kernel_rfl, by kernel_rfl⟩, by kernel_rfl, by kernel_rfl, (by first | exact fun h => absurd h (by decide) | exact imp_of (by kernel_rfl))⟩
  · exact ⟨fun _ => ⟨by kernel_rfl, by kernel_rfl⟩, by kernel_rfl, rfl, by decide, by decide, by kernel_rfl, trivial⟩
  · exact ⟨fun _ => ⟨by kernel_rfl, by kernel_rfl⟩, by kernel_rfl, rfl, by decide, by decide, by kernel_rfl, trivial⟩
  · exact ⟨fun _ => ⟨by kernel_rfl, by kernel_rfl⟩, by kernel_rfl, by kernel_rfl, (by first | exact fun h => absurd h (by decide) | exact imp_of (by kernel_rfl))⟩
  · exact ⟨fun _ => ⟨by kernel_rfl, by kernel_rfl⟩, by kernel_rfl, by kernel_rfl, (by first | exact fun h => absurd h (by decide) | exact imp_of (by kernel_rfl))⟩
  · exact ⟨fun _ => ⟨by kernel_rfl, by kernel_rfl⟩, by kernel_rfl, rfl, by decide, by decide, by kernel_rfl, by change elemP _ _ = some _; kernel_rfl⟩
  · exact ⟨fun _ => ⟨by kernel_rfl, by kernel_rfl⟩, by kernel_rfl, rfl, by decide, by decide, by kernel_rfl, by change elemP _ _ = some _; kernel_rfl⟩
  · exact ⟨fun _ => ⟨by kernel_rfl, by kernel_rfl⟩, by kernel_rfl, rfl, by decide, by decide, by kernel_rfl, trivial⟩
  · exact ⟨fun _ => ⟨by kernel_rfl, by kernel_rfl⟩, by kernel_rfl, by kernel_rfl, (by first | exact fun h => absurd h (by decide) | exact imp_of (by kernel_rfl))⟩
  · exact ⟨fun _ => ⟨by kernel_rfl, by kernel_rfl⟩, by kernel_rfl, by kernel_rfl, (by first | exact fun h => absurd h (by decide) | exact imp_of (by kernel_rfl))⟩
  · exact ⟨fun h => (by simp [TD.ok] at h), trivial⟩
def G : Nat → Option D := fun _ => none
theorem mixed : Try.prog.follows .mixedOrders = true := Try.checked.mixed
end Go.Proofs.Ytnfddmbnkbigmaa
