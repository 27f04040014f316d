/-
  The types and the table of this seat as the abstract evaluator sees them, and that they are the program's. No conditions but those in the statements.
-/
import Derived.Test.YtenofbabiacacaaGreatAeB
import Derived.Test.YtenofbabiacacaaGreatChecked
set_option linter.unusedVariables false
set_option linter.unusedSimpArgs false
namespace Go.Proofs.YtenofbabiacacaaGreat
open Go.AE

def T : TypeId → TD
  | 2 => .int .i64
  | 3 => .int .i64
  | 4 => .bool
  | 5 => .int .u8
  | 195 => .int .u64
  | 202 => .int .u64
  | 9 => .str
  | 22 => .slice (.ints .i64 []) 1 8
  | 58 => .slice (.ints .u8 []) 1 1
  | 23 => .struct 2 [(0, 1, false), (1, 1, false)] [.int .i64 0, .slice none 0 0]
  | 24 => .struct 2 [(0, 1, false), (1, 1, false)] [.int .i64 0, .slice none 0 0]
  | 32 => .struct 2 [(0, 1, false), (1, 1, false)] [.int .i64 0, .slice none 0 0]
  | 25 => .struct 3 [(0, 2, true), (2, 1, false)] [.int .i64 0, .slice none 0 0, .int .i64 0]
  | 26 => .struct 3 [(0, 2, true), (2, 1, false)] [.int .i64 0, .slice none 0 0, .int .i64 0]
  | 33 => .struct 3 [(0, 2, true), (2, 1, false)] [.int .i64 0, .slice none 0 0, .int .i64 0]
  | 34 => .struct 3 [(0, 2, true), (2, 1, false)] [.int .i64 0, .slice none 0 0, .int .i64 0]
  | 27 => .slice (.recs 7 []) 7 56
  | 36 => .slice (.recs 7 []) 7 56
  | 77 => .struct 5 [(0, 1, false), (1, 1, false), (2, 1, false), (3, 1, false), (4, 1, false)] [.int .i64 0, .int .i64 0, .int .i64 0, .int .i64 0, .int .i64 0]
  | 78 => .struct 5 [(0, 1, false), (1, 1, false), (2, 1, false), (3, 1, false), (4, 1, false)] [.int .i64 0, .int .i64 0, .int .i64 0, .int .i64 0, .int .i64 0]
  | 102 => .struct 5 [(0, 1, false), (1, 1, false), (2, 1, false), (3, 1, false), (4, 1, false)] [.int .i64 0, .int .i64 0, .int .i64 0, .int .i64 0, .int .i64 0]
  | 99 => .struct 7 [(0, 5, true), (5, 1, false), (6, 1, false)] [.int .i64 0, .int .i64 0, .int .i64 0, .int .i64 0, .int .i64 0, .int .i64 0, .int .i64 0]
  | 100 => .struct 7 [(0, 5, true), (5, 1, false), (6, 1, false)] [.int .i64 0, .int .i64 0, .int .i64 0, .int .i64 0, .int .i64 0, .int .i64 0, .int .i64 0]
  | 103 => .struct 7 [(0, 5, true), (5, 1, false), (6, 1, false)] [.int .i64 0, .int .i64 0, .int .i64 0, .int .i64 0, .int .i64 0, .int .i64 0, .int .i64 0]
  | 104 => .struct 7 [(0, 5, true), (5, 1, false), (6, 1, false)] [.int .i64 0, .int .i64 0, .int .i64 0, .int .i64 0, .int .i64 0, .int .i64 0, .int .i64 0]
  | 189 => .struct 4 [(0, 1, false), (1, 1, false), (2, 1, false), (3, 1, false)] [.int .i64 0, .int .i64 0, .int .i64 0, .int .i64 0]
  | 190 => .struct 4 [(0, 1, false), (1, 1, false), (2, 1, false), (3, 1, false)] [.int .i64 0, .int .i64 0, .int .i64 0, .int .i64 0]
  | 162 => .slice (.recs 4 []) 4 32
  | 132 => .struct 3 [(0, 1, false), (1, 1, false), (2, 1, false)] [.int .i64 0, .int .i64 0, .int .i64 0]
  | 133 => .struct 3 [(0, 1, false), (1, 1, false), (2, 1, false)] [.int .i64 0, .int .i64 0, .int .i64 0]
  | 169 => .struct 3 [(0, 1, false), (1, 1, false), (2, 1, false)] [.int .i64 0, .int .i64 0, .int .i64 0]
  | 170 => .struct 3 [(0, 1, false), (1, 1, false), (2, 1, false)] [.int .i64 0, .int .i64 0, .int .i64 0]
  | 43 => .struct 7 [(0, 1, false), (1, 1, false), (2, 1, false), (3, 1, false), (4, 1, false), (5, 1, false), (6, 1, false)] [.int .i64 0, .int .i64 0, .int .i64 0, .int .i64 0, .int .i64 0, .int .i64 0, .int .i64 0]
  | 44 => .struct 7 [(0, 1, false), (1, 1, false), (2, 1, false), (3, 1, false), (4, 1, false), (5, 1, false), (6, 1, false)] [.int .i64 0, .int .i64 0, .int .i64 0, .int .i64 0, .int .i64 0, .int .i64 0, .int .i64 0]
  | 52 => .slice (.recs 7 []) 7 56
  | 127 => .struct 4 [(0, 1, false), (1, 1, false), (2, 1, false), (3, 1, false)] [.int .i64 0, .int .i64 0, .int .i64 0, .int .i64 0]
  | 128 => .struct 4 [(0, 1, false), (1, 1, false), (2, 1, false), (3, 1, false)] [.int .i64 0, .int .i64 0, .int .i64 0, .int .i64 0]
  | 67 => .slice (.recs 4 []) 4 32
  | 89 => .struct 3 [(0, 1, false), (1, 1, false), (2, 1, false)] [.slice none 0 0, .slice none 0 0, .int .i64 0]
  | 90 => .struct 3 [(0, 1, false), (1, 1, false), (2, 1, false)] [.slice none 0 0, .slice none 0 0, .int .i64 0]
  | 154 => .struct 3 [(0, 1, false), (1, 1, false), (2, 1, false)] [.slice none 0 0, .int .i64 0, .int .i64 0]
  | 155 => .struct 3 [(0, 1, false), (1, 1, false), (2, 1, false)] [.slice none 0 0, .int .i64 0, .int .i64 0]
  | _ => .other
theorem hT : TabOK Tryz.prog T := by
  intro t
  unfold T
  split
  · exact ⟨fun _ => ⟨by kernel_rfl, by kernel_rfl⟩, by kernel_rfl, by kernel_rfl⟩
  · exact ⟨fun _ => ⟨by kernel_rfl, by kernel_rfl⟩, by kernel_rfl, by kernel_rfl⟩
  · exact ⟨fun _ => ⟨by kernel_rfl, by kernel_rfl⟩, by kernel_rfl, by kernel_rfl⟩
  · exact ⟨fun _ => ⟨by kernel_rfl, by kernel_rfl⟩, by kernel_rfl, by kernel_rfl⟩
  · exact ⟨fun _ => ⟨by kernel_rfl, by kernel_rfl⟩, by kernel_rfl, by kernel_rfl⟩
  · exact ⟨fun _ => ⟨by kernel_rfl, by kernel_rfl⟩, by kernel_rfl, by kernel_rfl⟩
  · exact ⟨fun _ => ⟨by kernel_rfl, by kernel_rfl⟩, by kernel_rfl, by kernel_rfl⟩
  · exact ⟨fun _ => ⟨by kernel_rfl, by kernel_rfl⟩, by kernel_rfl, rfl, by decide, by decide, by kernel_rfl, by change elemP _ _ = some _; kernel_rfl⟩
  · exact ⟨fun _ => ⟨by kernel_rfl, by kernel_rfl⟩, by kernel_rfl, rfl, by decide, by decide, by kernel_rfl, by change elemP _ _ = some _; kernel_rfl⟩
  · exact ⟨fun _ => ⟨by kernel_rfl, by kernel_rfl⟩, by kernel_rfl, by kernel_rfl, (by first | exact fun h => absurd h (by decide) | exact imp_of (by kernel_rfl))⟩
  · exact ⟨fun _ => ⟨by kernel_rfl, by kernel_rfl⟩, by kernel_rfl, by kernel_rfl, (by first | exact fun h => absurd h (by decide) | exact imp_of (by kernel_rfl))⟩
  · exact ⟨fun _ => ⟨by kernel_rfl, by kernel_rfl⟩, by kernel_rfl, by kernel_rfl, (by first | exact fun h => absurd h (by decide) | exact imp_of (by kernel_rfl))⟩
  · exact ⟨fun _ => ⟨by kernel_rfl, by kernel_rfl⟩, by kernel_rfl, by kernel_rfl, (by first | exact fun h => absurd h (by decide) | exact imp_of (by kernel_rfl))⟩
  · exact ⟨fun _ => ⟨by kernel_rfl, by kernel_rfl⟩, by kernel_rfl, by kernel_rfl, (by first | exact fun h => absurd h (by decide) | exact imp_of (by kernel_rfl))⟩
  · exact ⟨fun _ => ⟨by kernel_rfl, by kernel_rfl⟩, by kernel_rfl, by kernel_rfl, (by first | exact fun h => absurd h (by decide) | exact imp_of (by kernel_rfl))⟩
  · exact ⟨fun _ => ⟨by kernel_rfl, by kernel_rfl⟩, by kernel_rfl, by kernel_rfl, (by first | exact fun h => absurd h (by decide) | exact imp_of (by kernel_rfl))⟩
  · exact ⟨fun _ => ⟨by kernel_rfl, by kernel_rfl⟩, by kernel_rfl, rfl, by decide, by decide, by kernel_rfl, trivial⟩
  · exact ⟨fun _ => ⟨by kernel_rfl, by kernel_rfl⟩, by kernel_rfl, rfl, by decide, by decide, by kernel_rfl, trivial⟩
  · exact ⟨fun _ => ⟨by kernel_rfl, by kernel_rfl⟩, by kernel_rfl, by kernel_rfl, (by first | exact fun h => absurd h (by decide) | exact imp_of (by kernel_rfl))⟩
  · exact ⟨fun _ => ⟨by kernel_rfl, by kernel_rfl⟩, by kernel_rfl, by kernel_rfl, (by first | exact fun h => absurd h (by decide) | exact imp_of (by kernel_rfl))⟩
  · exact ⟨fun _ => ⟨by kernel_rfl, by kernel_rfl⟩, by kernel_rfl, by kernel_rfl, (by first | exact fun h => absurd h (by decide) | exact imp_of (by kernel_rfl))⟩
  · exact ⟨fun _ => ⟨by kernel_rfl, by kernel_rfl⟩, by kernel_rfl, by kernel_rfl, (by first | exact fun h => absurd h (by decide) | exact imp_of (by kernel_rfl))⟩
  · exact ⟨fun _ => ⟨by kernel_rfl, by kernel_rfl⟩, by kernel_rfl, by kernel_rfl, (by first | exact fun h => absurd h (by decide) | exact imp_of (by kernel_rfl))⟩
  · exact ⟨fun _ => ⟨by kernel_rfl, by kernel_rfl⟩, by kernel_rfl, by kernel_rfl, (by first | exact fun h => absurd h (by decide) | exact imp_of (by kernel_rfl))⟩
  · exact ⟨fun _ => ⟨by kernel_rfl, by kernel_rfl⟩, by kernel_rfl, by kernel_rfl, (by first | exact fun h => absurd h (by decide) | exact imp_of (by kernel_rfl))⟩
  · exact ⟨fun _ => ⟨by kernel_rfl, by kernel_rfl⟩, by kernel_rfl, by kernel_rfl, (by first | exact fun h => absurd h (by decide) | exact imp_of (by kernel_rfl))⟩
  · exact ⟨fun _ => ⟨by kernel_rfl, by kernel_rfl⟩, by kernel_rfl, by kernel_rfl, (by first | exact fun h => absurd h (by decide) | exact imp_of (by kernel_rfl))⟩
  · exact ⟨fun _ => ⟨by kernel_rfl, by kernel_rfl⟩, by kernel_rfl, rfl, by decide, by decide, by kernel_rfl, trivial⟩
  · exact ⟨fun _ => ⟨by kernel_rfl, by kernel_rfl⟩, by kernel_rfl, by kernel_rfl, (by first | exact fun h => absurd h (by decide) | exact imp_of (by kernel_rfl))⟩
  · exact ⟨fun _ => ⟨by kernel_rfl, by kernel_rfl⟩, by kernel_rfl, by kernel_rfl, (by first | exact fun h => absurd h (by decide) | exact imp_of (by kernel_rfl))⟩
  · exact ⟨fun _ => ⟨by kernel_rfl, by kernel_rfl⟩, by kernel_rfl, by kernel_rfl, (by first | exact fun h => absurd h (by decide) | exact imp_of (by kernel_rfl))⟩
  · exact ⟨fun _ => ⟨by kernel_rfl, by kernel_rfl⟩, by kernel_rfl, by kernel_rfl, (by first | exact fun h => absurd h (by decide) | exact imp_of (by kernel_rfl))⟩
  · exact ⟨fun _ => ⟨by kernel_rfl, by kernel_rfl⟩, by kernel_rfl, by kernel_rfl, (by first | exact fun h => absurd h (by decide) | exact imp_of (by kernel_rfl))⟩
  · exact ⟨fun _ => ⟨by kernel_rfl, by kernel_rfl⟩, by kernel_rfl, by kernel_rfl, (by first | exact fun h => absurd h (by decide) | exact imp_of (by kernel_rfl))⟩
  · exact ⟨fun _ => ⟨by kernel_rfl, by kernel_rfl⟩, by kernel_rfl, rfl, by decide, by decide, by kernel_rfl, trivial⟩
  · exact ⟨fun _ => ⟨by kernel_rfl, by kernel_rfl⟩, by kernel_rfl, by kernel_rfl, (by first | exact fun h => absurd h (by decide) | exact imp_of (by kernel_rfl))⟩
  · exact ⟨fun _ => ⟨by kernel_rfl, by kernel_rfl⟩, by kernel_rfl, by kernel_rfl, (by first | exact fun h => absurd h (by decide) | exact imp_of (by kernel_rfl))⟩
  · exact ⟨fun _ => ⟨by kernel_rfl, by kernel_rfl⟩, by kernel_rfl, rfl, by decide, by decide, by kernel_rfl, trivial⟩
  · exact ⟨fun _ => ⟨by kernel_rfl, by kernel_rfl⟩, by kernel_rfl, by kernel_rfl, (by first | exact fun h => absurd h (by decide) | exact imp_of (by kernel_rfl))⟩
  · exact ⟨fun _ => ⟨by kernel_rfl, by kernel_rfl⟩, by kernel_rfl, by kernel_rfl, (by first | exact fun h => absurd h (by decide) | exact imp_of (by kernel_rfl))⟩
  · exact ⟨fun _ => ⟨by kernel_rfl, by kernel_rfl⟩, by kernel_rfl, by kernel_rfl, (by first | exact fun h => absurd h (by decide) | exact imp_of (by kernel_rfl))⟩
  · exact ⟨fun _ => ⟨by kernel_rfl, by kernel_rfl⟩, by kernel_rfl, by kernel_rfl, (by first | exact fun h => absurd h (by decide) | exact imp_of (by kernel_rfl))⟩
  · exact ⟨fun h => (by simp [TD.ok] at h), trivial⟩
def G : Nat → Option D := fun _ => none
theorem mixed : Tryz.prog.follows .mixedOrders = true := Tryz.checked.mixed
end Go.Proofs.YtenofbabiacacaaGreat
