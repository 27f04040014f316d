/-
  The types and the table of this seat as the abstract evaluator sees them, and that they are the program's. Small functions that many seats share: ranges and months. Lists of integers: copies, equality, marks, ranges. Lists of integers in a range; the first place of which a function holds. No conditions but those in the statements.
-/
import Derived.Test.YtglbamncajileaaGreatDoorAeC
import Derived.Test.YtglbamncajileaaGreatDoorChecked
import Derived.Lib.ItoaNum
set_option linter.unusedVariables false
set_option linter.unusedSimpArgs false
set_option maxRecDepth 100000
set_option maxHeartbeats 400000
namespace Go.Proofs.YtglbamncajileaaGreatDoor
open Go.AE
section
def ifaceMs : Option TypeDesc → Array (String × TypeId)
 | some (.interface ms) => ms
 | _ => #[]
def T : TypeId → TD
 | 2 => .int .i64
 | 3 => .int .i64
 | 4 => .bool
 | 5 => .int .u8
 | 220 => .int .u64
 | 217 => .int .u64
 | 9 => .str
 | 116 => .iface
 | 31 => .slice (.ints .i64 []) 1 8
 | 295 => .slice (.ints .i64 []) 1 8
 | 28 => .slice (.ints .u8 []) 1 1
 | 22 => .slice (.strs []) 1 16
 | 254 => .slice (.nest []) 1 24
 | 32 => .struct 2 [(0, 1, false), (1, 1, false)] [.int .i64 0, .slice none 0 0]
 | 33 => .struct 2 [(0, 1, false), (1, 1, false)] [.int .i64 0, .slice none 0 0]
 | 34 => .struct 3 [(0, 2, true), (2, 1, false)] [.int .i64 0, .slice none 0 0, .int .i64 0]
 | 35 => .struct 3 [(0, 2, true), (2, 1, false)] [.int .i64 0, .slice none 0 0, .int .i64 0]
 | 36 => .slice (.recs 7 []) 7 56
 | 37 => .struct 5 [(0, 3, true), (3, 1, false), (4, 1, false)] [.int .i64 0, .slice none 0 0, .int .i64 0, .slice none 0 0, .int .i64 0]
 | 38 => .struct 5 [(0, 3, true), (3, 1, false), (4, 1, false)] [.int .i64 0, .slice none 0 0, .int .i64 0, .slice none 0 0, .int .i64 0]
 | 72 => .struct 5 [(0, 1, false), (1, 1, false), (2, 1, false), (3, 1, false), (4, 1, false)] [.int .i64 0, .int .i64 0, .int .i64 0, .int .i64 0, .int .i64 0]
 | 73 => .struct 5 [(0, 1, false), (1, 1, false), (2, 1, false), (3, 1, false), (4, 1, false)] [.int .i64 0, .int .i64 0, .int .i64 0, .int .i64 0, .int .i64 0]
 | 74 => .struct 7 [(0, 5, true), (5, 1, false), (6, 1, false)] [.int .i64 0, .int .i64 0, .int .i64 0, .int .i64 0, .int .i64 0, .int .i64 0, .int .i64 0]
 | 75 => .struct 7 [(0, 5, true), (5, 1, false), (6, 1, false)] [.int .i64 0, .int .i64 0, .int .i64 0, .int .i64 0, .int .i64 0, .int .i64 0, .int .i64 0]
 | 226 => .struct 4 [(0, 1, false), (1, 1, false), (2, 1, false), (3, 1, false)] [.int .i64 0, .int .i64 0, .int .i64 0, .int .i64 0]
 | 227 => .struct 4 [(0, 1, false), (1, 1, false), (2, 1, false), (3, 1, false)] [.int .i64 0, .int .i64 0, .int .i64 0, .int .i64 0]
 | 183 => .slice (.recs 4 []) 4 32
 | 129 => .struct 3 [(0, 1, false), (1, 1, false), (2, 1, false)] [.int .i64 0, .int .i64 0, .int .i64 0]
 | 130 => .struct 3 [(0, 1, false), (1, 1, false), (2, 1, false)] [.int .i64 0, .int .i64 0, .int .i64 0]
 | 262 => .struct 5 [(0, 3, true), (3, 1, false), (4, 1, false)] [.int .i64 0, .int .i64 0, .int .i64 0, .int .i64 0, .int .i64 0]
 | 263 => .struct 5 [(0, 3, true), (3, 1, false), (4, 1, false)] [.int .i64 0, .int .i64 0, .int .i64 0, .int .i64 0, .int .i64 0]
 | 205 => .struct 3 [(0, 1, false), (1, 1, false), (2, 1, false)] [.int .i64 0, .int .i64 0, .int .i64 0]
 | 206 => .struct 3 [(0, 1, false), (1, 1, false), (2, 1, false)] [.int .i64 0, .int .i64 0, .int .i64 0]
 | 156 => .struct 2 [(0, 1, false), (1, 1, false)] [.int .i64 0, .int .i64 0]
 | 157 => .struct 2 [(0, 1, false), (1, 1, false)] [.int .i64 0, .int .i64 0]
 | 138 => .struct 7 [(0, 1, false), (1, 1, false), (2, 1, false), (3, 1, false), (4, 1, false), (5, 1, false), (6, 1, false)] [.int .i64 0, .int .i64 0, .int .i64 0, .int .i64 0, .int .i64 0, .int .i64 0, .int .i64 0]
 | 139 => .struct 7 [(0, 1, false), (1, 1, false), (2, 1, false), (3, 1, false), (4, 1, false), (5, 1, false), (6, 1, false)] [.int .i64 0, .int .i64 0, .int .i64 0, .int .i64 0, .int .i64 0, .int .i64 0, .int .i64 0]
 | 83 => .struct 3 [(0, 1, false), (1, 1, false), (2, 1, false)] [.slice none 0 0, .int .i64 0, .int .i64 0]
 | 84 => .struct 3 [(0, 1, false), (1, 1, false), (2, 1, false)] [.slice none 0 0, .int .i64 0, .int .i64 0]
 | 59 => .struct 3 [(0, 1, false), (1, 1, false), (2, 1, false)] [.string ByteArray.empty, .slice none 0 0, .string ByteArray.empty]
 | 60 => .struct 3 [(0, 1, false), (1, 1, false), (2, 1, false)] [.string ByteArray.empty, .slice none 0 0, .string ByteArray.empty]
 | _ => .other
theorem hT : TabOK Tryz.prog T := by
 intro t
 unfold T
 split
 · exact ⟨fun _ => ⟨by kernel_rfl, by kernel_rfl⟩, by kernel_rfl, by kernel_rfl⟩
 · exact ⟨fun _ => ⟨by kernel_rfl, by kernel_rfl⟩, by kernel_rfl, by kernel_rfl⟩
 · exact ⟨fun _ => ⟨by kernel_rfl, by kernel_rfl⟩, by kernel_rfl, by kernel_rfl⟩
 · exact ⟨fun _ => ⟨by kernel_rfl, by kernel_rfl⟩, by kernel_rfl, by kernel_rfl⟩
 · exact ⟨fun _ => ⟨by kernel_rfl, by kernel_rfl⟩, by kernel_rfl, by kernel_rfl⟩
 · exact ⟨fun _ => ⟨by kernel_rfl, by kernel_rfl⟩, by kernel_rfl, by kernel_rfl⟩
 · exact ⟨fun _ => ⟨by kernel_rfl, by kernel_rfl⟩, by kernel_rfl, by kernel_rfl⟩
 · exact ⟨fun _ => ⟨by kernel_rfl, by kernel_rfl⟩, ⟨ifaceMs (Tryz.prog.underlying 116), by kernel_rfl⟩, by kernel_rfl⟩
 · exact ⟨fun _ => ⟨by kernel_rfl, by kernel_rfl⟩, by kernel_rfl, rfl, by decide, by decide, by kernel_rfl, by change elemP _ _ = some _; kernel_rfl⟩
 · exact ⟨fun _ => ⟨by kernel_rfl, by kernel_rfl⟩, by kernel_rfl, rfl, by decide, by decide, by kernel_rfl, by change elemP _ _ = some _; kernel_rfl⟩
 · exact ⟨fun _ => ⟨by kernel_rfl, by kernel_rfl⟩, by kernel_rfl, rfl, by decide, by decide, by kernel_rfl, by change elemP _ _ = some _; kernel_rfl⟩
 · exact ⟨fun _ => ⟨by kernel_rfl, by kernel_rfl⟩, by kernel_rfl, rfl, by decide, by decide, by kernel_rfl, trivial⟩
 · exact ⟨fun _ => ⟨by kernel_rfl, by kernel_rfl⟩, by kernel_rfl, rfl, by decide, by decide, by kernel_rfl, trivial⟩
 · exact ⟨fun _ => ⟨by kernel_rfl, by kernel_rfl⟩, by kernel_rfl, by kernel_rfl, (by first | exact fun h => absurd h (by decide) | exact imp_of (by kernel_rfl))⟩
 · exact ⟨fun _ => ⟨by kernel_rfl, by kernel_rfl⟩, by kernel_rfl, by kernel_rfl, (by first | exact fun h => absurd h (by decide) | exact imp_of (by kernel_rfl))⟩
 · exact ⟨fun _ => ⟨by kernel_rfl, by kernel_rfl⟩, by kernel_rfl, by kernel_rfl, (by first | exact fun h => absurd h (by decide) | exact imp_of (by kernel_rfl))⟩
 · exact ⟨fun _ => ⟨by kernel_rfl, by kernel_rfl⟩, by kernel_rfl, by kernel_rfl, (by first | exact fun h => absurd h (by decide) | exact imp_of (by kernel_rfl))⟩
 · exact ⟨fun _ => ⟨by kernel_rfl, by kernel_rfl⟩, by kernel_rfl, rfl, by decide, by decide, by kernel_rfl, trivial⟩
 · exact ⟨fun _ => ⟨by kernel_rfl, by kernel_rfl⟩, by kernel_rfl, by kernel_rfl, (by first | exact fun h => absurd h (by decide) | exact imp_of (by kernel_rfl))⟩
 · exact ⟨fun _ => ⟨by kernel_rfl, by kernel_rfl⟩, by kernel_rfl, by kernel_rfl, (by first | exact fun h => absurd h (by decide) | exact imp_of (by kernel_rfl))⟩
 · exact ⟨fun _ => ⟨by kernel_rfl, by kernel_rfl⟩, by kernel_rfl, by kernel_rfl, (by first | exact fun h => absurd h (by decide) | exact imp_of (by kernel_rfl))⟩
 · exact ⟨fun _ => ⟨by kernel_rfl, by kernel_rfl⟩, by kernel_rfl, by kernel_rfl, (by first | exact fun h => absurd h (by decide) | exact imp_of (by kernel_rfl))⟩
 · exact ⟨fun _ => ⟨by kernel_rfl, by kernel_rfl⟩, by kernel_rfl, by kernel_rfl, (by first | exact fun h => absurd h (by decide) | exact imp_of (by kernel_rfl))⟩
 · exact ⟨fun _ => ⟨by kernel_rfl, by kernel_rfl⟩, by kernel_rfl, by kernel_rfl, (by first | exact fun h => absurd h (by decide) | exact imp_of (by kernel_rfl))⟩
 · exact ⟨fun _ => ⟨by kernel_rfl, by kernel_rfl⟩, by kernel_rfl, by kernel_rfl, (by first | exact fun h => absurd h (by decide) | exact imp_of (by kernel_rfl))⟩
 · exact ⟨fun _ => ⟨by kernel_rfl, by kernel_rfl⟩, by kernel_rfl, by kernel_rfl, (by first | exact fun h => absurd h (by decide) | exact imp_of (by kernel_rfl))⟩
 · exact ⟨fun _ => ⟨by kernel_rfl, by kernel_rfl⟩, by kernel_rfl, rfl, by decide, by decide, by kernel_rfl, trivial⟩
 · exact ⟨fun _ => ⟨by kernel_rfl, by kernel_rfl⟩, by kernel_rfl, by kernel_rfl, (by first | exact fun h => absurd h (by decide) | exact imp_of (by kernel_rfl))⟩
 · exact ⟨fun _ => ⟨by kernel_rfl, by kernel_rfl⟩, by kernel_rfl, by kernel_rfl, (by first | exact fun h => absurd h (by decide) | exact imp_of (by kernel_rfl))⟩
 · exact ⟨fun _ => ⟨by kernel_rfl, by kernel_rfl⟩, by kernel_rfl, by kernel_rfl, (by first | exact fun h => absurd h (by decide) | exact imp_of (by kernel_rfl))⟩
 · exact ⟨fun _ => ⟨by kernel_rfl, by kernel_rfl⟩, by kernel_rfl, by kernel_rfl, (by first | exact fun h => absurd h (by decide) | exact imp_of (by kernel_rfl))⟩
 · exact ⟨fun _ => ⟨by kernel_rfl, by kernel_rfl⟩, by kernel_rfl, by kernel_rfl, (by first | exact fun h => absurd h (by decide) | exact imp_of (by kernel_rfl))⟩
 · exact ⟨fun _ => ⟨by kernel_rfl, by kernel_rfl⟩, by kernel_rfl, by kernel_rfl, (by first | exact fun h => absurd h (by decide) | exact imp_of (by kernel_rfl))⟩
 · exact ⟨fun _ => ⟨by kernel_rfl, by kernel_rfl⟩, by kernel_rfl, by kernel_rfl, (by first | exact fun h => absurd h (by decide) | exact imp_of (by kernel_rfl))⟩
 · exact ⟨fun _ => ⟨by kernel_rfl, by kernel_rfl⟩, by kernel_rfl, by kernel_rfl, (by first | exact fun h => absurd h (by decide) | exact imp_of (by kernel_rfl))⟩
 · exact ⟨fun _ => ⟨by kernel_rfl, by kernel_rfl⟩, by kernel_rfl, by kernel_rfl, (by first | exact fun h => absurd h (by decide) | exact imp_of (by kernel_rfl))⟩
 · exact ⟨fun _ => ⟨by kernel_rfl, by kernel_rfl⟩, by kernel_rfl, by kernel_rfl, (by first | exact fun h => absurd h (by decide) | exact imp_of (by kernel_rfl))⟩
 · exact ⟨fun _ => ⟨by kernel_rfl, by kernel_rfl⟩, by kernel_rfl, by kernel_rfl, (by first | exact fun h => absurd h (by decide) | exact imp_of (by kernel_rfl))⟩
 · exact ⟨fun _ => ⟨by kernel_rfl, by kernel_rfl⟩, by kernel_rfl, by kernel_rfl, (by first | exact fun h => absurd h (by decide) | exact imp_of (by kernel_rfl))⟩
 · exact ⟨fun _ => ⟨by kernel_rfl, by kernel_rfl⟩, by kernel_rfl, by kernel_rfl, (by first | exact fun h => absurd h (by decide) | exact imp_of (by kernel_rfl))⟩
 · exact ⟨fun _ => ⟨by kernel_rfl, by kernel_rfl⟩, by kernel_rfl, by kernel_rfl, (by first | exact fun h => absurd h (by decide) | exact imp_of (by kernel_rfl))⟩
 · exact ⟨fun h => (by simp [TD.ok] at h), trivial⟩
def isI64 : Value → Bool
 | .int .i64 _ => true
 | _ => false
def isErr : Value → Bool
 | .nilIface => true
 | .iface _ _ => true
 | _ => false
def G : Nat → Option D
 | 5 => some (.ints .u64 Go.Lib.pow10Tab)
 | 0 => some (.told isI64 1)
 | 1 => some (.told isErr 1)
 | 2 => some (.told isErr 1)
 | _ => none
abbrev G2 : Nat → Option D := G
theorem G_G2 : ∀ g d, G g = some d → G2 g = some d := fun _ _ h => h
theorem mixed : Tryz.prog.follows .mixedOrders = true := Tryz.checked.mixed
abbrev Ca (f : FuncId) (a : List AV) (H : List Blk) (K : AV → List Blk → Prop) : Prop := CallA Tryz.prog G f a H K
abbrev Rt (f : FuncId) (a : List AV) (r : AV) : Prop := Ret Tryz.prog G f a r
theorem dZ {ops : List Oper} {fr : List AV} {H : List Blk} {K : List AV → List Blk → Prop} (h : treeA T G (CallQ Tryz.prog G) (CallA Tryz.prog G) ops (allOf ops 0) (autoT (allOf ops 0) ops) fr H K) (hB : treeOk ops.toArray (hardOf ops.toArray (allOf ops 0)) (autoT (allOf ops 0) ops) = true := by decide +kernel) : DrawA Tryz.prog G ops fr H K := draw_quiet hT mixed hB h
instance {ops : List Oper} {fr : List AV} {H : List Blk} {K : List AV → List Blk → Prop} : St (DrawA Tryz.prog G ops fr H K) (treeA T G (CallQ Tryz.prog G) (CallA Tryz.prog G) ops [] (autoT [] ops) fr H K) (treeOk ops.toArray (hardOf ops.toArray []) (autoT [] ops) = true) := ⟨draw_hard hT mixed⟩
theorem cZ {f : FuncId} {fn : Func} {a : List AV} {H : List Blk} {K : AV → List Blk → Prop} (hf : Tryz.prog.funcs[f]? = some fn) (h : bodyA T G (CallA Tryz.prog G) (LoopA Tryz.prog G) (DrawA Tryz.prog G) fn a H (Go.AE.Ends H.length K)) (hn : (fn.name == "runtime.NumGoroutine") = false := by exact rfl) : CallA Tryz.prog G f a H K := CallA.ends (callA_of_body hT hf hn h)
theorem bZ {f : FuncId} {fn : Func} {a : List AV} {r : AV} (hf : Tryz.prog.funcs[f]? = some fn) (h : bodyA T G (CallA Tryz.prog G) (LoopA Tryz.prog G) (DrawA Tryz.prog G) fn a [] fun v _ => v = r) (hn : (fn.name == "runtime.NumGoroutine") = false := by exact rfl) (hr : (solid r).isSome = true := by exact rfl) : Ret Tryz.prog G f a r := ret_of_body hT hf hn h hr
end
section
attribute [local irreducible] CallA LoopA DrawA CallQ arithK quoK remK eqK
abbrev I (n : Int) : AV := .v (.int .i64 n)
abbrev Bo (b : Bool) : AV := .v (.bool b)
theorem l01In_ret (n lo hi : Int) : Rt 82 [I n, I lo, I hi] (Bo (decide (lo ≤ n ∧ n ≤ hi))) := by
 refine bZ Tryz.func82 ?_
 repeat' (conv => whnf); first | (intro h; try exact nZ) | apply And.intro | refine sZ ?_ | fail
 all_goals (first | exact bv_true (by omega) | exact bv_false (by omega))
theorem inRange_ret (n lo hi : Int) : Rt 81 [I n, I lo, I hi] (Bo (decide (lo ≤ n ∧ n ≤ hi))) := by
 refine bZ Tryz.func81 ?_
 repeat' (conv => whnf); first | (intro h; try exact nZ) | apply And.intro | refine sZ ?_ | fail
 all_goals (first | exact bv_true (by omega) | exact bv_false (by omega))
end
section
attribute [local irreducible] CallA LoopA DrawA CallQ arithK quoK remK eqK
abbrev Ri (xs : List Int) : AV := .ro (.ints .i64 xs)
abbrev Di (xs : List Int) : Blk := .data (.ints .i64 xs)
def marks (n k : Nat) : List Int := (List.range n).map fun i => ((k + i : Nat) : Int)
theorem marks_len (n k : Nat) : (marks n k).length = n := by simp [marks]
theorem marks_get {n k i : Nat} (h : i < n) : (marks n k).getD i 0 = ((k + i : Nat) : Int) := by
 rw [marks, List.getD_eq_getElem?_getD, List.getElem?_map, List.getElem?_range h]; rfl
end
section
attribute [local irreducible] CallA LoopA DrawA CallQ arithK quoK remK eqK
def allR (xs : List Int) (lo hi : Int) : Prop := ∀ x ∈ xs, lo ≤ x ∧ x ≤ hi
instance (xs : List Int) (lo hi : Int) : Decidable (allR xs lo hi) := by unfold allR; infer_instance
theorem l01Within_ret (xs : List Int) (most lo hi : Int) (hn : xs.length ≤ 2305843009213693952) : Rt 152 [Ri xs, I most, I lo, I hi] (Bo (decide (allR xs lo hi ∧ (xs.length : Int) ≤ most))) := by
 refine bZ Tryz.func152 ?_
 repeat' (conv => whnf); first | (intro h; try exact nZ) | apply And.intro | refine dZ ?_ | refine sZ ?_ | fail
 refine loop_rule hT (fun i : Nat => i ≤ xs.length ∧ ∀ x ∈ xs.take i, lo ≤ x ∧ x ≤ hi) 28 0 [0, 1, 2, 3, 9] (fun i => [Ri xs, I most, I lo, I hi, I i]) (fun _ => []) (fun i => xs.length - i) (0) (Nat.le_of_ble_eq_true rfl) ?_ ?_ ?_
 · exact ⟨Nat.zero_le _, by simp⟩
 · (refine ⟨rfl, [], ?_, ?_⟩; all_goals (repeat' (first | exact rfl | exact trivial | (with_reducible assumption) | refine And.intro ?_ ?_ | omega)))
 · rintro i ⟨h1, h2⟩
   repeat' (conv => whnf); first | (intro h; try exact nZ) | apply And.intro | refine dZ ?_ | refine sZ ?_ | (refine Ret.goP (l01In_ret _ _ _) rfl ?_) | (refine Ret.goQP (l01In_ret _ _ _) rfl ?_) | fail
   all_goals try omega
   · refine ⟨i + 1, ⟨by omega, all_snoc 0 (by omega) h2 ‹_›⟩, ?_, by omega⟩
     (refine ⟨rfl, [], ?_, ?_⟩; all_goals (repeat' (first | exact rfl | exact trivial | (with_reducible assumption) | refine And.intro ?_ ?_ | omega)))
   · refine bv_false fun h => ?_
     have := h.1 (xs.getD i 0) (getD_mem (by omega))
     contradiction
   · exact bv_true ⟨all_end (by omega) h2, by assumption⟩
   · exact bv_false fun h => absurd h.2 ‹_›
def idxOf (p : Int → Bool) (xs : List Int) : Int := if firstOf p xs < xs.length then (firstOf p xs : Int) else -1
theorem indexFuncI_ret (f : FuncId) (caps : List AV) (p : Int → Bool) (xs : List Int) (hn : xs.length ≤ 2305843009213693952) (hc : capsOk caps = true) (hp : ∀ i, i < xs.length → Rt f (I (xs.getD i 0) :: caps) (Bo (p (xs.getD i 0)))) :
   Rt 315 [Ri xs, .fn f caps] (I (idxOf p xs)) := by
 refine bZ Tryz.func315 ?_
 repeat' (conv => whnf); first | (intro h; try exact nZ) | apply And.intro | refine dZ ?_ | refine sZ ?_ | fail
 refine loop_rule hT (fun i : Nat => i ≤ xs.length ∧ ∀ j, j < i → p (xs.getD j 0) = false) 19 0 [0, 1, 7, 8] (fun i => [Ri xs, .fn f caps, I xs.length, I i]) (fun _ => []) (fun i => xs.length - i) (0) (Nat.le_of_ble_eq_true rfl) ?_ ?_ ?_
 · exact ⟨Nat.zero_le _, fun j h => absurd h (Nat.not_lt_zero j)⟩
 · (refine ⟨rfl, [], ?_, ?_⟩; all_goals (repeat' (first | exact rfl | exact trivial | (with_reducible assumption) | refine And.intro ?_ ?_ | omega)))
   all_goals exact caps_vm hc
 · rintro i ⟨h1, h2⟩
   repeat' (conv => whnf); first | (intro h; try exact nZ) | apply And.intro | refine dZ ?_ | refine sZ ?_ | (refine Ret.goB (hp i (by omega)) (caps_self hc) ?_) | fail
   all_goals try omega
   · have : firstOf p xs = i := firstOf_eq 0 (by omega) h2 fun _ => h
     exact iv (by unfold idxOf; rw [if_pos (by omega), this])
   · refine ⟨i + 1, ⟨by omega, fun j hj => ?_⟩, ?_, by omega⟩
     · by_cases hji : j = i
       · rw [hji]; exact h
       · exact h2 j (by omega)
     · (refine ⟨rfl, [], ?_, ?_⟩; all_goals (repeat' (first | exact rfl | exact trivial | (with_reducible assumption) | refine And.intro ?_ ?_ | omega)))
       all_goals exact caps_vm hc
   · have : firstOf p xs = xs.length := firstOf_eq 0 (Nat.le_refl _) (fun j hj => h2 j (by omega)) fun h => absurd h (Nat.lt_irrefl _)
     exact iv (by unfold idxOf; rw [if_neg (by omega)])
theorem containsFuncI_ret (f : FuncId) (caps : List AV) (p : Int → Bool) (xs : List Int) (hn : xs.length ≤ 2305843009213693952) (hc : capsOk caps = true) (hp : ∀ i, i < xs.length → Rt f (I (xs.getD i 0) :: caps) (Bo (p (xs.getD i 0)))) :
   Rt 277 [Ri xs, .fn f caps] (Bo (xs.any p)) := by
 refine bZ Tryz.func277 ?_
 have h0 := indexFuncI_ret f caps p xs hn hc hp
 have hiff := firstOf_lt_iff p xs
 have hs : ([Ri xs, .fn f caps] : List AV).all selfV = true := by
   simp only [List.all_cons, List.all_nil, Bool.and_true, Bool.and_eq_true]
   exact ⟨rfl, List.all_eq_true.2 fun c h => by have := List.all_eq_true.1 hc c h; simp only [Bool.and_eq_true] at this; exact this.1⟩
 repeat' (conv => whnf); first | (intro h; try exact nZ) | apply And.intro | refine dZ ?_ | refine sZ ?_ | (refine Ret.go h0 hs rfl ?_) | fail
 all_goals
   refine bv ?_
   unfold idxOf at h
   split at h
   · rename_i hlt
     first | omega | (symm; rw [List.any_eq_true]; exact hiff.1 hlt)
   · rename_i hlt
     first | omega | (symm; rw [Bool.eq_false_iff]; intro hany; exact hlt (hiff.2 (List.any_eq_true.1 hany)))
theorem allIn1_ret (n lo hi : Int) : Rt 308 [I n, .rpc [I lo] 0, .rpc [I hi] 0] (Bo (!decide (lo ≤ n ∧ n ≤ hi))) := by
 refine bZ Tryz.func308 ?_
 repeat' (conv => whnf); first | (intro h; try exact nZ) | apply And.intro | refine dZ ?_ | refine sZ ?_ | (refine Ret.goP (inRange_ret _ _ _) rfl ?_) | (refine Ret.goQP (inRange_ret _ _ _) rfl ?_) | fail
 all_goals (exact bv (by simp; omega))
theorem any_not (xs : List Int) (lo hi : Int) : (xs.any fun n => !decide (lo ≤ n ∧ n ≤ hi)) = !decide (allR xs lo hi) := by
 cases h : (xs.any fun n => !decide (lo ≤ n ∧ n ≤ hi)) with
 | true =>
   obtain ⟨x, h1, h2⟩ := List.any_eq_true.1 h
   have : ¬ allR xs lo hi := fun ha => by simp [ha x h1] at h2
   simp [this]
 | false =>
   have : allR xs lo hi := fun x hx => by simpa using List.any_eq_false.1 h x hx
   simp [this]
theorem allIn_ret (xs : List Int) (lo hi : Int) (hn : xs.length ≤ 2305843009213693952) : Rt 263 [Ri xs, I lo, I hi] (Bo (decide (allR xs lo hi))) := by
 refine bZ Tryz.func263 ?_
 have h0 := containsFuncI_ret 308 [.rpc [I lo] 0, .rpc [I hi] 0] (fun n => !decide (lo ≤ n ∧ n ≤ hi)) xs hn rfl fun i _ => allIn1_ret _ _ _
 rw [any_not] at h0
 repeat' (conv => whnf); first | (intro h; try exact nZ) | apply And.intro | refine dZ ?_ | refine sZ ?_ | refine Ret.uB (h0) ?_ | refine Ret.uQB (h0) ?_ | fail
 all_goals exact bv (by simpa using h.symm)
end
end Go.Proofs.YtglbamncajileaaGreatDoor
