/-
  Small functions that many seats share: ranges and months. No conditions but those in the statements. Lists of integers: copies, equality, marks, ranges. No conditions but those in the statements. Months: what the functions return. No conditions but those in the statements. Lists of structs (Member): copies, equality, marks. No conditions but those in the statements. Members: what the functions on one member return. No conditions. Registers: whether a list is one, and the law. No conditions but those in the statements.
-/
import Derived.Test.YtgpgnhadmckmhaaGreatDoorTy
import Derived.Test.YtgpgnhadmckmhaaGreatDoorAeList
namespace Go.Proofs.YtgpgnhadmckmhaaGreatDoor
open Go.AE

attribute [local irreducible] CallA LoopA DrawA CallQ arithK quoK remK eqK
abbrev I (n : Int) : AV := .v (.int .i64 n)
abbrev Bo (b : Bool) : AV := .v (.bool b)
set_option maxRecDepth 100000 in
theorem l01In_ret (n lo hi : Int) : Ret Tryz.prog G 47 [I n, I lo, I hi] (Bo (decide (lo ≤ n ∧ n ≤ hi))) := by
  refine ret_of_body hT Tryz.func47 rfl ?_ rfl
  repeat' (first | (intro h; first | contradiction | omega | (conv => whnf) | skip) | (refine And.intro ?_ ?_) | (refine arith_ok ⟨by omega, by omega⟩ ?_) | fail)
  all_goals (first | exact bv_true (by omega) | exact bv_false (by omega))
set_option maxRecDepth 100000 in
theorem inRange_ret (n lo hi : Int) : Ret Tryz.prog G 45 [I n, I lo, I hi] (Bo (decide (lo ≤ n ∧ n ≤ hi))) := by
  refine ret_of_body hT Tryz.func45 rfl ?_ rfl
  repeat' (first | (intro h; first | contradiction | omega | (conv => whnf) | skip) | (refine And.intro ?_ ?_) | (refine arith_ok ⟨by omega, by omega⟩ ?_) | fail)
  all_goals (first | exact bv_true (by omega) | exact bv_false (by omega))
end Go.Proofs.YtgpgnhadmckmhaaGreatDoor
namespace Go.Proofs.YtgpgnhadmckmhaaGreatDoor
open Go.AE

attribute [local irreducible] CallA LoopA DrawA CallQ arithK quoK remK eqK
abbrev Ri (xs : List Int) : AV := .ro (.ints .i64 xs)
abbrev Di (xs : List Int) : Blk := .data (.ints .i64 xs)
def marks (n k : Nat) : List Int := (List.range n).map fun i => ((k + i : Nat) : Int)
theorem marks_len (n k : Nat) : (marks n k).length = n := by simp [marks]
theorem marks_get {n k i : Nat} (h : i < n) : (marks n k).getD i 0 = ((k + i : Nat) : Int) := by
  rw [marks, List.getD_eq_getElem?_getD, List.getElem?_map, List.getElem?_range h]; rfl
end Go.Proofs.YtgpgnhadmckmhaaGreatDoor
namespace Go.Proofs.YtgpgnhadmckmhaaGreatDoor
open Go.AE

attribute [local irreducible] CallA LoopA DrawA CallQ arithK quoK remK eqK
set_option maxRecDepth 100000 in
theorem l02Month_ret (n : Int) : Ret Tryz.prog G 71 [I n] (Bo (decide (0 ≤ n ∧ n ≤ 35999))) := by
  refine ret_of_body hT Tryz.func71 rfl ?_ rfl
  repeat' (first | (intro h; first | contradiction | omega | (conv => whnf) | skip) | (refine And.intro ?_ ?_) | (refine arith_ok ⟨by omega, by omega⟩ ?_) | (refine Ret.goP (l01In_ret _ _ _) rfl ?_))
  all_goals (first | exact bv_true (by omega) | exact bv_false (by omega))
set_option maxRecDepth 100000 in
theorem isMonth_ret (n : Int) : Ret Tryz.prog G 97 [I n] (Bo (decide (0 ≤ n ∧ n ≤ 35999))) := by
  refine ret_of_body hT Tryz.func97 rfl ?_ rfl
  repeat' (first | (intro h; first | contradiction | omega | (conv => whnf) | skip) | (refine And.intro ?_ ?_) | (refine arith_ok ⟨by omega, by omega⟩ ?_) | (refine Ret.goP (inRange_ret _ _ _) rfl ?_))
  all_goals (first | exact bv_true (by omega) | exact bv_false (by omega))
end Go.Proofs.YtgpgnhadmckmhaaGreatDoor
namespace Go.Proofs.YtgpgnhadmckmhaaGreatDoor
open Go.AE

attribute [local irreducible] CallA LoopA DrawA CallQ arithK quoK remK eqK
abbrev VMember (a0 a1 a2 a3 a4 : Int) : AV := .agg [I a0, I a1, I a2, I a3, I a4]
abbrev WMember (r : List Int) : AV := .agg [I (r.getD 0 0), I (r.getD 1 0), I (r.getD 2 0), I (r.getD 3 0), I (r.getD 4 0)]
abbrev RMember (xss : List (List Int)) : AV := .ro (.recs 5 xss)
abbrev DMember (xss : List (List Int)) : Blk := .data (.recs 5 xss)
theorem lenMember {r : List Int} (h : r.length = 5) : ∃ a0 a1 a2 a3 a4, r = [a0, a1, a2, a3, a4] := by
  match r, h with
  | [a0, a1, a2, a3, a4], _ => exact ⟨_, _, _, _, _, rfl⟩
theorem etaMember {r : List Int} (h : r.length = 5) : [r.getD 0 0, r.getD 1 0, r.getD 2 0, r.getD 3 0, r.getD 4 0] = r := by
  obtain ⟨a0, a1, a2, a3, a4, rfl⟩ := lenMember h
  rfl
def marksMember (m k : Nat) : List (List Int) := (List.range m).map fun i => [((k + i * 5 + 0 : Nat) : Int), ((k + i * 5 + 1 : Nat) : Int), ((k + i * 5 + 2 : Nat) : Int), ((k + i * 5 + 3 : Nat) : Int), ((k + i * 5 + 4 : Nat) : Int)]
theorem marksMember_len (m k : Nat) : (marksMember m k).length = m := by simp [marksMember]
theorem marksMember_get {m k i : Nat} (h : i < m) : (marksMember m k).getD i [] = [((k + i * 5 + 0 : Nat) : Int), ((k + i * 5 + 1 : Nat) : Int), ((k + i * 5 + 2 : Nat) : Int), ((k + i * 5 + 3 : Nat) : Int), ((k + i * 5 + 4 : Nat) : Int)] := by
  rw [marksMember, List.getD_eq_getElem?_getD, List.getElem?_map, List.getElem?_range h]; rfl
theorem marksMember_row (m k : Nat) : ∀ r ∈ marksMember m k, r.length = 5 := fun r hr => by
  obtain ⟨i, _, rfl⟩ := List.mem_map.1 hr
  rfl
end Go.Proofs.YtgpgnhadmckmhaaGreatDoor
namespace Go.Proofs.YtgpgnhadmckmhaaGreatDoor
open Go.AE

attribute [local irreducible] CallA LoopA DrawA CallQ arithK quoK remK eqK
/-- A member as it should be. -/
def rowM (a b c d e : Int) : Prop := (1 ≤ a ∧ a ≤ 1000000) ∧ (0 ≤ b ∧ b ≤ 35999) ∧ (0 ≤ c ∧ c ≤ 35999) ∧ (0 ≤ e ∧ e ≤ 35999) ∧ (d = -1 ∨ (0 ≤ d ∧ d ≤ 35999)) ∧ b ≤ c ∧ c ≤ e ∧ (d = -1 ∨ e ≤ d)
instance (a b c d e : Int) : Decidable (rowM a b c d e) := by unfold rowM; infer_instance
/-- Who is a member in a month. -/
def isIn (c d n : Int) : Prop := c ≤ n ∧ (d = -1 ∨ n < d)
instance (c d n : Int) : Decidable (isIn c d n) := by unfold isIn; infer_instance
set_option maxRecDepth 100000 in
theorem l14Open_ret (n : Int) : Ret Tryz.prog G 95 [I n] (Bo (decide (n = -1 ∨ (0 ≤ n ∧ n ≤ 35999)))) := by
  refine ret_of_body hT Tryz.func95 rfl ?_ rfl
  repeat' (first | (intro h; first | contradiction | omega | (conv => whnf) | skip) | (refine And.intro ?_ ?_) | (refine arith_ok ⟨by omega, by omega⟩ ?_) | (first | (refine draw_quiet hT mixed (by decide +kernel) ?_) | (refine draw_hard hT mixed (by decide +kernel) ?_)) | (refine Ret.goP (l02Month_ret _) rfl ?_) | (refine Ret.goQP (l02Month_ret _) rfl ?_))
  all_goals (first | exact bv_true (by omega) | exact bv_false (by omega))
set_option maxRecDepth 100000 in
theorem l26Member_ret (a b c d e : Int) : Ret Tryz.prog G 66 [VMember a b c d e] (Bo (decide (rowM a b c d e))) := by
  refine ret_of_body hT Tryz.func66 rfl ?_ rfl
  repeat' (first | (intro h; first | contradiction | omega | (conv => whnf) | skip) | (refine And.intro ?_ ?_) | (refine arith_ok ⟨by omega, by omega⟩ ?_) | (first | (refine draw_quiet hT mixed (by decide +kernel) ?_) | (refine draw_hard hT mixed (by decide +kernel) ?_)) | (refine Ret.goP (l01In_ret _ _ _) rfl ?_) | (refine Ret.goQP (l01In_ret _ _ _) rfl ?_) | (refine Ret.goP (l02Month_ret _) rfl ?_) | (refine Ret.goQP (l02Month_ret _) rfl ?_) | (refine Ret.goP (l14Open_ret _) rfl ?_) | (refine Ret.goQP (l14Open_ret _) rfl ?_))
  all_goals first | exact bv_true (by unfold rowM; omega) | exact bv_false (by unfold rowM; omega)
set_option maxRecDepth 100000 in
theorem isMember_ret (a b c d e : Int) : Ret Tryz.prog G 86 [VMember a b c d e] (Bo (decide (rowM a b c d e))) := by
  refine ret_of_body hT Tryz.func86 rfl ?_ rfl
  repeat' (first | (intro h; first | contradiction | omega | (conv => whnf) | skip) | (refine And.intro ?_ ?_) | (refine arith_ok ⟨by omega, by omega⟩ ?_) | (first | (refine draw_quiet hT mixed (by decide +kernel) ?_) | (refine draw_hard hT mixed (by decide +kernel) ?_)) | (refine Ret.goP (inRange_ret _ _ _) rfl ?_) | (refine Ret.goQP (inRange_ret _ _ _) rfl ?_) | (refine Ret.goP (isMonth_ret _) rfl ?_) | (refine Ret.goQP (isMonth_ret _) rfl ?_))
  all_goals first | exact bv_true (by unfold rowM; omega) | exact bv_false (by unfold rowM; omega)
end Go.Proofs.YtgpgnhadmckmhaaGreatDoor
namespace Go.Proofs.YtgpgnhadmckmhaaGreatDoor
open Go.AE

attribute [local irreducible] CallA LoopA DrawA CallQ arithK quoK remK eqK
def rowR (r : List Int) : Prop := rowM (r.getD 0 0) (r.getD 1 0) (r.getD 2 0) (r.getD 3 0) (r.getD 4 0)
instance (r : List Int) : Decidable (rowR r) := by unfold rowR; infer_instance
def regAt (xss : List (List Int)) (i : Nat) : Prop := rowR (xss.getD ((i : Int)).toNat []) ∧ (0 < (i : Int) → (xss.getD ((i : Int) - 1).toNat []).getD 0 0 < (xss.getD ((i : Int)).toNat []).getD 0 0)
instance (xss : List (List Int)) (i : Nat) : Decidable (regAt xss i) := by unfold regAt; infer_instance
def isReg (xss : List (List Int)) : Prop := (∀ i, i < xss.length → regAt xss i) ∧ xss.length ≤ 60
instance (xss : List (List Int)) : Decidable (isReg xss) := by unfold isReg; infer_instance
theorem regTo_next {xss : List (List Int)} {i : Nat} (h : ∀ j, j < i → regAt xss j) (h1 : rowR (xss.getD ((i : Int)).toNat [])) (h2 : 0 < (i : Int) → (xss.getD ((i : Int) - 1).toNat []).getD 0 0 < (xss.getD ((i : Int)).toNat []).getD 0 0) : ∀ j, j < i + 1 → regAt xss j := fun j hj => by
  by_cases e : j = i
  · subst e; exact ⟨h1, h2⟩
  · exact h j (by omega)
set_option maxRecDepth 100000 in
theorem implReg_ret (xss : List (List Int)) (hn : xss.length ≤ 2305843009213693952) : Ret Tryz.prog G 59 [RMember xss] (Bo (decide (isReg xss))) := by
  refine ret_of_body hT Tryz.func59 rfl ?_ rfl
  repeat' (first | (intro h; first | contradiction | omega | (conv => whnf) | skip) | (refine And.intro ?_ ?_) | (refine arith_ok ⟨by omega, by omega⟩ ?_) | (first | (refine draw_quiet hT mixed (by decide +kernel) ?_) | (refine draw_hard hT mixed (by decide +kernel) ?_)) | fail)
  · exact bv_false fun hh => by have := hh.2; omega
  all_goals first | rfl | omega | skip
  refine loop_rule hT (fun i : Nat => i ≤ xss.length ∧ ∀ j, j < i → regAt xss j) 34 0 [0, 8, 9, 10] (fun i => [RMember xss, RMember xss, I xss.length, I i]) (fun _ => []) (fun i => xss.length - i) (0) (Nat.le_of_ble_eq_true rfl) ?_ ?_ ?_
  · exact ⟨Nat.zero_le _, fun j h => absurd h (Nat.not_lt_zero j)⟩
  · (first | (refine ⟨rfl, [], ?_, ?_⟩; all_goals (repeat' (first | exact rfl | exact trivial | (with_reducible assumption) | refine And.intro ?_ ?_)); all_goals (first | omega | assumption); done) | (refine ⟨rfl, [some 1], ?_, ?_⟩; all_goals (repeat' (first | exact rfl | exact trivial | (with_reducible assumption) | refine And.intro ?_ ?_)); all_goals (first | omega | assumption); done) | (refine ⟨rfl, [some 2], ?_, ?_⟩; all_goals (repeat' (first | exact rfl | exact trivial | (with_reducible assumption) | refine And.intro ?_ ?_)); all_goals (first | omega | assumption); done) | (refine ⟨rfl, [some 3], ?_, ?_⟩; all_goals (repeat' (first | exact rfl | exact trivial | (with_reducible assumption) | refine And.intro ?_ ?_)); all_goals (first | omega | assumption); done) | (refine ⟨rfl, [some 0], ?_, ?_⟩; all_goals (repeat' (first | exact rfl | exact trivial | (with_reducible assumption) | refine And.intro ?_ ?_)); all_goals (first | omega | assumption); done) | (refine ⟨rfl, [some 4], ?_, ?_⟩; all_goals (repeat' (first | exact rfl | exact trivial | (with_reducible assumption) | refine And.intro ?_ ?_)); all_goals (first | omega | assumption); done) | (refine ⟨rfl, [some 5], ?_, ?_⟩; all_goals (repeat' (first | exact rfl | exact trivial | (with_reducible assumption) | refine And.intro ?_ ?_)); all_goals (first | omega | assumption); done) | (refine ⟨rfl, [some 6], ?_, ?_⟩; all_goals (repeat' (first | exact rfl | exact trivial | (with_reducible assumption) | refine And.intro ?_ ?_)); all_goals (first | omega | assumption); done))
  · rintro i ⟨h1, h2⟩
    repeat' (first | (intro h; first | contradiction | omega | (conv => whnf) | skip) | (refine And.intro ?_ ?_) | (refine arith_ok ⟨by omega, by omega⟩ ?_) | (first | (refine draw_quiet hT mixed (by decide +kernel) ?_) | (refine draw_hard hT mixed (by decide +kernel) ?_)) | (refine Ret.goP (isMember_ret _ _ _ _ _) rfl ?_) | (refine Ret.goQP (isMember_ret _ _ _ _ _) rfl ?_))
    all_goals first | omega | (show _ < xss.length; omega) | skip
    all_goals first
      | (refine ⟨i + 1, ⟨by omega, regTo_next h2 (by assumption) (fun _ => by omega)⟩, ?_, by omega⟩; (first | (refine ⟨rfl, [], ?_, ?_⟩; all_goals (repeat' (first | exact rfl | exact trivial | (with_reducible assumption) | refine And.intro ?_ ?_)); all_goals (first | omega | assumption); done) | (refine ⟨rfl, [some 1], ?_, ?_⟩; all_goals (repeat' (first | exact rfl | exact trivial | (with_reducible assumption) | refine And.intro ?_ ?_)); all_goals (first | omega | assumption); done) | (refine ⟨rfl, [some 2], ?_, ?_⟩; all_goals (repeat' (first | exact rfl | exact trivial | (with_reducible assumption) | refine And.intro ?_ ?_)); all_goals (first | omega | assumption); done) | (refine ⟨rfl, [some 3], ?_, ?_⟩; all_goals (repeat' (first | exact rfl | exact trivial | (with_reducible assumption) | refine And.intro ?_ ?_)); all_goals (first | omega | assumption); done) | (refine ⟨rfl, [some 0], ?_, ?_⟩; all_goals (repeat' (first | exact rfl | exact trivial | (with_reducible assumption) | refine And.intro ?_ ?_)); all_goals (first | omega | assumption); done) | (refine ⟨rfl, [some 4], ?_, ?_⟩; all_goals (repeat' (first | exact rfl | exact trivial | (with_reducible assumption) | refine And.intro ?_ ?_)); all_goals (first | omega | assumption); done) | (refine ⟨rfl, [some 5], ?_, ?_⟩; all_goals (repeat' (first | exact rfl | exact trivial | (with_reducible assumption) | refine And.intro ?_ ?_)); all_goals (first | omega | assumption); done) | (refine ⟨rfl, [some 6], ?_, ?_⟩; all_goals (repeat' (first | exact rfl | exact trivial | (with_reducible assumption) | refine And.intro ?_ ?_)); all_goals (first | omega | assumption); done)))
      | (refine bv_true ⟨fun j hj => h2 j (by omega), by omega⟩)
      | (refine bv_false fun hh => ?_; first | exact absurd (hh.1 i (by omega)).1 h | exact absurd ((hh.1 i (by omega)).2 (by omega)) (by omega) | (have := hh.2; omega))
      | trace_state
set_option maxRecDepth 100000 in
theorem specReg_ret (xss : List (List Int)) (hn : xss.length ≤ 2305843009213693952) : Ret Tryz.prog G 61 [RMember xss] (Bo (decide (isReg xss))) := by
  refine ret_of_body hT Tryz.func61 rfl ?_ rfl
  repeat' (first | (intro h; first | contradiction | omega | (conv => whnf) | skip) | (refine And.intro ?_ ?_) | (refine arith_ok ⟨by omega, by omega⟩ ?_) | (first | (refine draw_quiet hT mixed (by decide +kernel) ?_) | (refine draw_hard hT mixed (by decide +kernel) ?_)) | fail)
  refine loop_rule hT (fun i : Nat => i ≤ xss.length ∧ ∀ j, j < i → regAt xss j) 37 0 [0, 3] (fun i => [RMember xss, I i]) (fun _ => []) (fun i => xss.length - i) (0) (Nat.le_of_ble_eq_true rfl) ?_ ?_ ?_
  · exact ⟨Nat.zero_le _, fun j h => absurd h (Nat.not_lt_zero j)⟩
  · (first | (refine ⟨rfl, [], ?_, ?_⟩; all_goals (repeat' (first | exact rfl | exact trivial | (with_reducible assumption) | refine And.intro ?_ ?_)); all_goals (first | omega | assumption); done) | (refine ⟨rfl, [some 1], ?_, ?_⟩; all_goals (repeat' (first | exact rfl | exact trivial | (with_reducible assumption) | refine And.intro ?_ ?_)); all_goals (first | omega | assumption); done) | (refine ⟨rfl, [some 2], ?_, ?_⟩; all_goals (repeat' (first | exact rfl | exact trivial | (with_reducible assumption) | refine And.intro ?_ ?_)); all_goals (first | omega | assumption); done) | (refine ⟨rfl, [some 3], ?_, ?_⟩; all_goals (repeat' (first | exact rfl | exact trivial | (with_reducible assumption) | refine And.intro ?_ ?_)); all_goals (first | omega | assumption); done) | (refine ⟨rfl, [some 0], ?_, ?_⟩; all_goals (repeat' (first | exact rfl | exact trivial | (with_reducible assumption) | refine And.intro ?_ ?_)); all_goals (first | omega | assumption); done) | (refine ⟨rfl, [some 4], ?_, ?_⟩; all_goals (repeat' (first | exact rfl | exact trivial | (with_reducible assumption) | refine And.intro ?_ ?_)); all_goals (first | omega | assumption); done) | (refine ⟨rfl, [some 5], ?_, ?_⟩; all_goals (repeat' (first | exact rfl | exact trivial | (with_reducible assumption) | refine And.intro ?_ ?_)); all_goals (first | omega | assumption); done) | (refine ⟨rfl, [some 6], ?_, ?_⟩; all_goals (repeat' (first | exact rfl | exact trivial | (with_reducible assumption) | refine And.intro ?_ ?_)); all_goals (first | omega | assumption); done))
  · rintro i ⟨h1, h2⟩
    repeat' (first | (intro h; first | contradiction | omega | (conv => whnf) | skip) | (refine And.intro ?_ ?_) | (refine arith_ok ⟨by omega, by omega⟩ ?_) | (first | (refine draw_quiet hT mixed (by decide +kernel) ?_) | (refine draw_hard hT mixed (by decide +kernel) ?_)) | (refine Ret.goP (l26Member_ret _ _ _ _ _) rfl ?_) | (refine Ret.goQP (l26Member_ret _ _ _ _ _) rfl ?_))
    all_goals first | omega | (show _ < xss.length; omega) | skip
    all_goals first
      | (refine ⟨i + 1, ⟨by omega, regTo_next h2 (by assumption) (fun _ => by omega)⟩, ?_, by omega⟩; (first | (refine ⟨rfl, [], ?_, ?_⟩; all_goals (repeat' (first | exact rfl | exact trivial | (with_reducible assumption) | refine And.intro ?_ ?_)); all_goals (first | omega | assumption); done) | (refine ⟨rfl, [some 1], ?_, ?_⟩; all_goals (repeat' (first | exact rfl | exact trivial | (with_reducible assumption) | refine And.intro ?_ ?_)); all_goals (first | omega | assumption); done) | (refine ⟨rfl, [some 2], ?_, ?_⟩; all_goals (repeat' (first | exact rfl | exact trivial | (with_reducible assumption) | refine And.intro ?_ ?_)); all_goals (first | omega | assumption); done) | (refine ⟨rfl, [some 3], ?_, ?_⟩; all_goals (repeat' (first | exact rfl | exact trivial | (with_reducible assumption) | refine And.intro ?_ ?_)); all_goals (first | omega | assumption); done) | (refine ⟨rfl, [some 0], ?_, ?_⟩; all_goals (repeat' (first | exact rfl | exact trivial | (with_reducible assumption) | refine And.intro ?_ ?_)); all_goals (first | omega | assumption); done) | (refine ⟨rfl, [some 4], ?_, ?_⟩; all_goals (repeat' (first | exact rfl | exact trivial | (with_reducible assumption) | refine And.intro ?_ ?_)); all_goals (first | omega | assumption); done) | (refine ⟨rfl, [some 5], ?_, ?_⟩; all_goals (repeat' (first | exact rfl | exact trivial | (with_reducible assumption) | refine And.intro ?_ ?_)); all_goals (first | omega | assumption); done) | (refine ⟨rfl, [some 6], ?_, ?_⟩; all_goals (repeat' (first | exact rfl | exact trivial | (with_reducible assumption) | refine And.intro ?_ ?_)); all_goals (first | omega | assumption); done)))
      | (refine bv_true ⟨fun j hj => h2 j (by omega), by omega⟩)
      | (refine bv_false fun hh => ?_; first | exact absurd (hh.1 i (by omega)).1 h | exact absurd ((hh.1 i (by omega)).2 (by omega)) (by omega) | (have := hh.2; omega))
      | trace_state
end Go.Proofs.YtgpgnhadmckmhaaGreatDoor
