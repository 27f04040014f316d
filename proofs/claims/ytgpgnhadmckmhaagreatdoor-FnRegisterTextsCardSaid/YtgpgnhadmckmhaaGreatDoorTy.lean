/-
  The types and the table of this seat as the abstract evaluator sees them, and that they are the program's. No conditions but those in the statements.
-/
import Derived.Test.YtgpgnhadmckmhaaGreatDoorAeB
import Derived.Test.YtgpgnhadmckmhaaGreatDoorChecked
import Derived.Lib.ItoaNum
set_option linter.unusedVariables false
set_option linter.unusedSimpArgs false
namespace Go.Proofs.YtgpgnhadmckmhaaGreatDoor
open Go.AE

def ifaceMs : Option TypeDesc → Array (String × TypeId)
  | some (.interface ms) => ms
  | _ => #[]
def T : TypeId → TD
  | 2 => .int .i64
  | 3 => .int .i64
  | 4 => .bool
  | 5 => .int .u8
  | 9 => .str
  | 106 => .iface
  | 110 => .flat
  | 111 => .slice (.told (fun _ => true) 0) 1 8
  | 80 => .struct 5 [(0, 1, false), (1, 1, false), (2, 1, false), (3, 1, false), (4, 1, false)] [.int .i64 0, .int .i64 0, .int .i64 0, .int .i64 0, .int .i64 0]
  | 81 => .struct 5 [(0, 1, false), (1, 1, false), (2, 1, false), (3, 1, false), (4, 1, false)] [.int .i64 0, .int .i64 0, .int .i64 0, .int .i64 0, .int .i64 0]
  | 37 => .slice (.recs 5 []) 5 40
  | 62 => .struct 6 [(0, 1, false), (1, 1, false), (2, 1, false), (3, 1, false), (4, 1, false), (5, 1, false)] [.int .i64 0, .int .i64 0, .int .i64 0, .int .i64 0, .int .i64 0, .int .i64 0]
  | 63 => .struct 6 [(0, 1, false), (1, 1, false), (2, 1, false), (3, 1, false), (4, 1, false), (5, 1, false)] [.int .i64 0, .int .i64 0, .int .i64 0, .int .i64 0, .int .i64 0, .int .i64 0]
  | 24 => .slice (.recs 6 []) 6 48
  | 43 => .slice (.ints .i64 []) 1 8
  | 22 => .slice (.ints .u8 []) 1 1
  | 67 => .slice (.strs []) 1 16
  | 53 => .struct 3 [(0, 1, false), (1, 1, false), (2, 1, false)] [.int .i64 0, .int .i64 0, .int .i64 0]
  | 54 => .struct 3 [(0, 1, false), (1, 1, false), (2, 1, false)] [.int .i64 0, .int .i64 0, .int .i64 0]
  | 94 => .struct 3 [(0, 1, false), (1, 1, false), (2, 1, false)] [.slice none 0 0, .int .i64 0, .int .i64 0]
  | 95 => .struct 3 [(0, 1, false), (1, 1, false), (2, 1, false)] [.slice none 0 0, .int .i64 0, .int .i64 0]
  | 113 => .int .u64
  | 104 => .obj [.pointer none, .slice none 0 0]
  | _ => .other
theorem hT : TabOK Tryz.prog T := by
  intro t
  unfold T
  split
  · exact ⟨fun _ => ⟨by kernel_rfl, by kernel_rfl⟩, by kernel_rfl, by kernel_rfl⟩
  · exact ⟨fun _ => ⟨by kernel_rfl, by kernel_rfl⟩, by kernel_rfl, by kernel_rfl⟩
  · exact ⟨fun _ => ⟨by kernel_rfl, by kernel_rfl⟩, by kernel_rfl, by kernel_rfl⟩
  · exact ⟨fun _ => ⟨by kernel_rfl, by kernel_rfl⟩, by kernel_rfl, by kernel_rfl⟩
  · exact ⟨fun _ => ⟨by kernel_rfl, by kernel_rfl⟩, by kernel_rfl, by kernel_rfl⟩
  · exact ⟨fun _ => ⟨by kernel_rfl, by kernel_rfl⟩, ⟨ifaceMs (Tryz.prog.underlying 106), by kernel_rfl⟩, by kernel_rfl⟩
  · exact ⟨fun _ => ⟨by kernel_rfl, by kernel_rfl⟩, trivial⟩
  · exact ⟨fun _ => ⟨by kernel_rfl, by kernel_rfl⟩, by kernel_rfl, rfl, by decide, by decide, by kernel_rfl, trivial⟩
  · exact ⟨fun _ => ⟨by kernel_rfl, by kernel_rfl⟩, by kernel_rfl, by kernel_rfl, (by first | exact fun h => absurd h (by decide) | exact imp_of (by kernel_rfl))⟩
  · exact ⟨fun _ => ⟨by kernel_rfl, by kernel_rfl⟩, by kernel_rfl, by kernel_rfl, (by first | exact fun h => absurd h (by decide) | exact imp_of (by kernel_rfl))⟩
  · exact ⟨fun _ => ⟨by kernel_rfl, by kernel_rfl⟩, by kernel_rfl, rfl, by decide, by decide, by kernel_rfl, trivial⟩
  · exact ⟨fun _ => ⟨by kernel_rfl, by kernel_rfl⟩, by kernel_rfl, by kernel_rfl, (by first | exact fun h => absurd h (by decide) | exact imp_of (by kernel_rfl))⟩
  · exact ⟨fun _ => ⟨by kernel_rfl, by kernel_rfl⟩, by kernel_rfl, by kernel_rfl, (by first | exact fun h => absurd h (by decide) | exact imp_of (by kernel_rfl))⟩
  · exact ⟨fun _ => ⟨by kernel_rfl, by kernel_rfl⟩, by kernel_rfl, rfl, by decide, by decide, by kernel_rfl, trivial⟩
  · exact ⟨fun _ => ⟨by kernel_rfl, by kernel_rfl⟩, by kernel_rfl, rfl, by decide, by decide, by kernel_rfl, by change elemP _ _ = some _; kernel_rfl⟩
  · exact ⟨fun _ => ⟨by kernel_rfl, by kernel_rfl⟩, by kernel_rfl, rfl, by decide, by decide, by kernel_rfl, by change elemP _ _ = some _; kernel_rfl⟩
  · exact ⟨fun _ => ⟨by kernel_rfl, by kernel_rfl⟩, by kernel_rfl, rfl, by decide, by decide, by kernel_rfl, trivial⟩
  · exact ⟨fun _ => ⟨by kernel_rfl, by kernel_rfl⟩, by kernel_rfl, by kernel_rfl, (by first | exact fun h => absurd h (by decide) | exact imp_of (by kernel_rfl))⟩
  · exact ⟨fun _ => ⟨by kernel_rfl, by kernel_rfl⟩, by kernel_rfl, by kernel_rfl, (by first | exact fun h => absurd h (by decide) | exact imp_of (by kernel_rfl))⟩
  · exact ⟨fun _ => ⟨by kernel_rfl, by kernel_rfl⟩, by kernel_rfl, by kernel_rfl, (by first | exact fun h => absurd h (by decide) | exact imp_of (by kernel_rfl))⟩
  · exact ⟨fun _ => ⟨by kernel_rfl, by kernel_rfl⟩, by kernel_rfl, by kernel_rfl, (by first | exact fun h => absurd h (by decide) | exact imp_of (by kernel_rfl))⟩
  · exact ⟨fun _ => ⟨by kernel_rfl, by kernel_rfl⟩, by kernel_rfl, by kernel_rfl⟩
  · exact ⟨fun h => (by simp [TD.ok] at h), by change zeroP _ _ = some _; kernel_rfl⟩
  · exact ⟨fun h => (by simp [TD.ok] at h), trivial⟩
def isI64 : Value → Bool
  | .int .i64 _ => true
  | _ => false
def isErr : Value → Bool
  | .nilIface => true
  | .iface _ _ => true
  | _ => false
def G : Nat → Option D
  | 5 => some (.ints .u64 Go.Lib.pow10Tab)
  | 0 => some (.told isI64 1)
  | _ => none
/-- .. and the errors, where numbers are read. -/
def G2 : Nat → Option D
  | 5 => some (.ints .u64 Go.Lib.pow10Tab)
  | 0 => some (.told isI64 1)
  | 3 => some (.told isErr 1)
  | 4 => some (.told isErr 1)
  | _ => none
theorem G_G2 : ∀ g d, G g = some d → G2 g = some d := by
  intro g d h
  unfold G at h
  split at h
  · exact h
  · exact h
  · cases h
theorem mixed : Tryz.prog.follows .mixedOrders = true := Tryz.checked.mixed
end Go.Proofs.YtgpgnhadmckmhaaGreatDoor
