/-
  Lists of structs (Member): copies, equality, marks. No conditions but those in the statements.
-/
import Derived.Test.YtgpgnhadmckmhaaGreatDoorInts
import Derived.Test.YtgpgnhadmckmhaaGreatDoorMonth
set_option linter.unusedVariables false
set_option linter.unusedSimpArgs false
namespace Go.Proofs.YtgpgnhadmckmhaaGreatDoor
open Go.AE

attribute [local irreducible] CallA LoopA DrawA CallQ arithK quoK remK eqK
abbrev VMember (a0 a1 a2 a3 a4 : Int) : AV := .agg [I a0, I a1, I a2, I a3, I a4]
abbrev WMember (r : List Int) : AV := .agg [I (r.getD 0 0), I (r.getD 1 0), I (r.getD 2 0), I (r.getD 3 0), I (r.getD 4 0)]
abbrev RMember (xss : List (List Int)) : AV := .ro (.recs 5 xss)
abbrev DMember (xss : List (List Int)) : Blk := .data (.recs 5 xss)
theorem lenMember {r : List Int} (h : r.length = 5) : ∃ a0 a1 a2 a3 a4, r = [a0, a1, a2, a3, a4] := by
  match r, h with
  | [a0, a1, a2, a3, a4], _ => exact ⟨_, _, _, _, _, rfl⟩
theorem etaMember {r : List Int} (h : r.length = 5) : [r.getD 0 0, r.getD 1 0, r.getD 2 0, r.getD 3 0, r.getD 4 0] = r := by
  obtain ⟨a0, a1, a2, a3, a4, rfl⟩ := lenMember h
  rfl
def marksMember (m k : Nat) : List (List Int) := (List.range m).map fun i => [((k + i * 5 + 0 : Nat) : Int), ((k + i * 5 + 1 : Nat) : Int), ((k + i * 5 + 2 : Nat) : Int), ((k + i * 5 + 3 : Nat) : Int), ((k + i * 5 + 4 : Nat) : Int)]
theorem marksMember_len (m k : Nat) : (marksMember m k).length = m := by simp [marksMember]
theorem marksMember_get {m k i : Nat} (h : i < m) : (marksMember m k).getD i [] = [((k + i * 5 + 0 : Nat) : Int), ((k + i * 5 + 1 : Nat) : Int), ((k + i * 5 + 2 : Nat) : Int), ((k + i * 5 + 3 : Nat) : Int), ((k + i * 5 + 4 : Nat) : Int)] := by
  rw [marksMember, List.getD_eq_getElem?_getD, List.getElem?_map, List.getElem?_range h]; rfl
theorem marksMember_row (m k : Nat) : ∀ r ∈ marksMember m k, r.length = 5 := fun r hr => by
  obtain ⟨i, _, rfl⟩ := List.mem_map.1 hr
  rfl
end Go.Proofs.YtgpgnhadmckmhaaGreatDoor
