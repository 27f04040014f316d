/-
  The types and the table of this seat as the abstract evaluator sees them, and that they are the program's. No conditions.
-/
import Derived.Test.YthnbncooplkbmaaAeUse
import Derived.Test.YthnbncooplkbmaaChecked
namespace Go.Proofs.Ythnbncooplkbmaa
open Go.AE

def z5 : List Value := [.int .i64 0, .int .i64 0, .int .i64 0, .int .i64 0, .int .i64 0]
def o5 : List (Nat × Nat × Bool) := [(0, 1, false), (1, 1, false), (2, 1, false), (3, 1, false), (4, 1, false)]
def T : TypeId → TD
  | 2 => .int .i64
  | 3 => .int .i64
  | 4 => .bool
  | 5 => .int .u8
  | 50 => .struct 5 o5 z5
  | 53 => .struct 5 o5 z5
  | 51 => .struct 5 o5 z5
  | 22 => .slice (.recs 5 []) 5 40
  | 24 => .slice (.recs 5 []) 5 40
  | 35 => .slice (.ints .i64 []) 1 8
  | 41 => .slice (.ints .u8 []) 1 1
  | 78 => .struct 3 [(0, 1, false), (1, 1, false), (2, 1, false)] [.slice none 0 0, .int .i64 0, .int .i64 0]
  | 79 => .struct 3 [(0, 1, false), (1, 1, false), (2, 1, false)] [.slice none 0 0, .int .i64 0, .int .i64 0]
  | _ => .other
theorem hT : TabOK Try.prog T := by
  intro t
  unfold T
  split
  · exact ⟨fun _ => ⟨by kernel_rfl, by kernel_rfl⟩, by kernel_rfl, by kernel_rfl⟩
  · exact ⟨fun _ => ⟨by kernel_rfl, by kernel_rfl⟩, by kernel_rfl, by kernel_rfl⟩
  · exact ⟨fun _ => ⟨by kernel_rfl, by kernel_rfl⟩, by kernel_rfl, by kernel_rfl⟩
  · exact ⟨fun _ => ⟨by kernel_rfl, by kernel_rfl⟩, by kernel_rfl, by kernel_rfl⟩
  · exact ⟨fun _ => ⟨by kernel_rfl, by kernel_rfl⟩, by kernel_rfl, by kernel_rfl⟩
  · exact ⟨fun _ => ⟨by kernel_rfl, by kernel_rfl⟩, by kernel_rfl, by kernel_rfl⟩
  · exact ⟨fun _ => ⟨by kernel_rfl, by kernel_rfl⟩, by kernel_rfl, by kernel_rfl⟩
  · exact ⟨fun _ => ⟨by kernel_rfl, by kernel_rfl⟩, by kernel_rfl, rfl, by decide, by decide, by kernel_rfl, trivial⟩
  · exact ⟨fun _ => ⟨by kernel_rfl, by kernel_rfl⟩, by kernel_rfl, rfl, by decide, by decide, by kernel_rfl, trivial⟩
  · exact ⟨fun _ => ⟨by kernel_rfl, by kernel_rfl⟩, by kernel_rfl, rfl, by decide, by decide, by kernel_rfl, by change elemP _ _ = some _; kernel_rfl⟩
  · exact ⟨fun _ => ⟨by kernel_rfl, by kernel_rfl⟩, by kernel_rfl, rfl, by decide, by decide, by kernel_rfl, by change elemP _ _ = some _; kernel_rfl⟩
  · exact ⟨fun _ => ⟨by kernel_rfl, by kernel_rfl⟩, by kernel_rfl, by kernel_rfl⟩
  · exact ⟨fun _ => ⟨by kernel_rfl, by kernel_rfl⟩, by kernel_rfl, by kernel_rfl⟩
  · exact ⟨fun h => (by simp [TD.ok] at h), trivial⟩
def G : Nat → Option D := fun _ => none
theorem mixed : Try.prog.follows .mixedOrders = true := Try.checked.mixed
end Go.Proofs.Ythnbncooplkbmaa
