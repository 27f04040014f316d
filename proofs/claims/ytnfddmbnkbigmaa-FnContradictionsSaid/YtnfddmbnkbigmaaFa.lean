/-
  Rules of statutes: what the functions on rules, cases and lists of rules return. No conditions but those in the statements.
-/
import Derived.Test.YtnfddmbnkbigmaaRecs
set_option linter.unusedVariables false
set_option linter.unusedSimpArgs false
namespace Go.Proofs.Ytnfddmbnkbigmaa
open Go.AE

attribute [local irreducible] CallA LoopA DrawA CallQ arithK quoK remK eqK
/-- A rule as it should be. -/
def rowRl (a b c d e f : Int) : Prop := (0 ≤ a ∧ a ≤ b) ∧ b ≤ 150 ∧ (0 ≤ c ∧ c ≤ d) ∧ d ≤ 99 ∧ (1 ≤ e ∧ e ≤ 15) ∧ (0 ≤ f ∧ f ≤ 9)
instance (a b c d e f : Int) : Decidable (rowRl a b c d e f) := by unfold rowRl; infer_instance
set_option maxRecDepth 100000 in
theorem l23Rule_ret (a b c d e f : Int) : Ret Try.prog G 53 [VRule a b c d e f] (Bo (decide (rowRl a b c d e f))) := by
  refine ret_of_body hT Try.func53 rfl ?_ rfl
  repeat' (first | (intro h; first | contradiction | omega | (conv => whnf) | skip) | (refine And.intro ?_ ?_) | (refine arith_ok ⟨by omega, by omega⟩ ?_) | (first | (refine draw_quiet hT mixed (by decide +kernel) ?_) | (refine draw_hard hT mixed (by decide +kernel) ?_)) | (refine Ret.goP (l01In_ret _ _ _) rfl ?_) | (refine Ret.goQP (l01In_ret _ _ _) rfl ?_))
  all_goals first | exact bv_true (by unfold rowRl; omega) | exact bv_false (by unfold rowRl; omega)
set_option maxRecDepth 100000 in
theorem isRule_ret (a b c d e f : Int) : Ret Try.prog G 55 [VRule a b c d e f] (Bo (decide (rowRl a b c d e f))) := by
  refine ret_of_body hT Try.func55 rfl ?_ rfl
  repeat' (first | (intro h; first | contradiction | omega | (conv => whnf) | skip) | (refine And.intro ?_ ?_) | (refine arith_ok ⟨by omega, by omega⟩ ?_) | (first | (refine draw_quiet hT mixed (by decide +kernel) ?_) | (refine draw_hard hT mixed (by decide +kernel) ?_)) | (refine Ret.goP (inRange_ret _ _ _) rfl ?_) | (refine Ret.goQP (inRange_ret _ _ _) rfl ?_))
  all_goals first | exact bv_true (by unfold rowRl; omega) | exact bv_false (by unfold rowRl; omega)
def rowL (r : List Int) : Prop := rowRl (r.getD 0 0) (r.getD 1 0) (r.getD 2 0) (r.getD 3 0) (r.getD 4 0) (r.getD 5 0)
instance (r : List Int) : Decidable (rowL r) := by unfold rowL; infer_instance
def allRl (xss : List (List Int)) : Prop := ∀ r ∈ xss, rowL r
instance (xss : List (List Int)) : Decidable (allRl xss) := by unfold allRl; infer_instance
/-- A list of rules as it should be. -/
def areRl (xss : List (List Int)) : Prop := allRl xss ∧ 1 ≤ xss.length ∧ xss.length ≤ 20
instance (xss : List (List Int)) : Decidable (areRl xss) := by unfold areRl; infer_instance
theorem areRl.at {xss : List (List Int)} (h : areRl xss) {i : Nat} (hi : i < xss.length) : rowL (xss.getD i []) := h.1 _ (getD_mem hi)
set_option maxRecDepth 100000 in
theorem length_ret (xss : List (List Int)) : Ret Try.prog G 56 [RRule xss] (I xss.length) := by
  refine ret_of_body hT Try.func56 rfl ?_ rfl
  repeat' (first | (intro h; first | contradiction | omega | (conv => whnf) | skip) | (refine And.intro ?_ ?_) | (refine arith_ok ⟨by omega, by omega⟩ ?_) | (first | (refine draw_quiet hT mixed (by decide +kernel) ?_) | (refine draw_hard hT mixed (by decide +kernel) ?_)) | fail)
  all_goals rfl
set_option maxRecDepth 100000 in
theorem specAre_ret (xss : List (List Int)) (hn : xss.length ≤ 2305843009213693952) : Ret Try.prog G 32 [RRule xss] (Bo (decide (areRl xss))) := by
  refine ret_of_body hT Try.func32 rfl ?_ rfl
  repeat' (first | (intro h; first | contradiction | omega | (conv => whnf) | skip) | (refine And.intro ?_ ?_) | (refine arith_ok ⟨by omega, by omega⟩ ?_) | (first | (refine draw_quiet hT mixed (by decide +kernel) ?_) | (refine draw_hard hT mixed (by decide +kernel) ?_)) | fail)
  refine loop_rule hT (fun i : Nat => i ≤ xss.length ∧ ∀ r ∈ xss.take i, rowL r) 24 0 [0, 3] (fun i => [RRule xss, I i]) (fun _ => []) (fun i => xss.length - i) (0) (Nat.le_of_ble_eq_true rfl) ?_ ?_ ?_
  · exact ⟨Nat.zero_le _, by simp⟩
  · (refine ⟨rfl, [], ?_, ?_⟩; all_goals (repeat' (first | exact rfl | exact trivial | (with_reducible assumption) | refine And.intro ?_ ?_ | omega)))
  · rintro i ⟨h1, h2⟩
    repeat' (first | (intro h; first | contradiction | omega | (conv => whnf) | skip) | (refine And.intro ?_ ?_) | (refine arith_ok ⟨by omega, by omega⟩ ?_) | (first | (refine draw_quiet hT mixed (by decide +kernel) ?_) | (refine draw_hard hT mixed (by decide +kernel) ?_)) | (refine Ret.goP (l23Rule_ret _ _ _ _ _ _) rfl ?_) | (refine Ret.goQP (l23Rule_ret _ _ _ _ _ _) rfl ?_))
    all_goals first | omega | skip
    all_goals first
      | (refine ⟨i + 1, ⟨by omega, all_snoc [] (by omega) h2 h⟩, ?_, by omega⟩; (refine ⟨rfl, [], ?_, ?_⟩; all_goals (repeat' (first | exact rfl | exact trivial | (with_reducible assumption) | refine And.intro ?_ ?_ | omega))); done)
      | (refine bv_false fun hh => ?_; have := hh.1 (xss.getD i []) (getD_mem (by omega)); contradiction)
      | exact bv_true ⟨all_end (by omega) h2, by omega, by omega⟩
      | (exact bv_false fun hh => by have := hh.2; omega)
      | trace_state
set_option maxRecDepth 100000 in
theorem implAre_ret (xss : List (List Int)) (hn : xss.length ≤ 2305843009213693952) : Ret Try.prog G 37 [RRule xss] (Bo (decide (areRl xss))) := by
  refine ret_of_body hT Try.func37 rfl ?_ rfl
  repeat' (first | (intro h; first | contradiction | omega | (conv => whnf) | skip) | (refine And.intro ?_ ?_) | (refine arith_ok ⟨by omega, by omega⟩ ?_) | (first | (refine draw_quiet hT mixed (by decide +kernel) ?_) | (refine draw_hard hT mixed (by decide +kernel) ?_)) | fail)
  refine loop_rule hT (fun i : Nat => i ≤ xss.length ∧ ∀ r ∈ xss.take i, rowL r) 18 0 [0, 5, 6, 7] (fun i => [RRule xss, RRule xss, I xss.length, I i]) (fun _ => []) (fun i => xss.length - i) (0) (Nat.le_of_ble_eq_true rfl) ?_ ?_ ?_
  · exact ⟨Nat.zero_le _, by simp⟩
  · (refine ⟨rfl, [], ?_, ?_⟩; all_goals (repeat' (first | exact rfl | exact trivial | (with_reducible assumption) | refine And.intro ?_ ?_ | omega)))
  · rintro i ⟨h1, h2⟩
    repeat' (first | (intro h; first | contradiction | omega | (conv => whnf) | skip) | (refine And.intro ?_ ?_) | (refine arith_ok ⟨by omega, by omega⟩ ?_) | (first | (refine draw_quiet hT mixed (by decide +kernel) ?_) | (refine draw_hard hT mixed (by decide +kernel) ?_)) | (refine Ret.goP (isRule_ret _ _ _ _ _ _) rfl ?_) | (refine Ret.goQP (isRule_ret _ _ _ _ _ _) rfl ?_) | (refine Ret.go (length_ret xss) rfl rfl ?_) | (refine Ret.goQ (length_ret xss) rfl rfl ?_) | (refine Ret.goP (inRange_ret _ _ _) rfl ?_) | (refine Ret.goQP (inRange_ret _ _ _) rfl ?_))
    all_goals first | omega | skip
    all_goals first
      | (refine ⟨i + 1, ⟨by omega, all_snoc [] (by omega) h2 h⟩, ?_, by omega⟩; (refine ⟨rfl, [], ?_, ?_⟩; all_goals (repeat' (first | exact rfl | exact trivial | (with_reducible assumption) | refine And.intro ?_ ?_ | omega))); done)
      | (refine bv_false fun hh => ?_; have := hh.1 (xss.getD i []) (getD_mem (by omega)); contradiction)
      | exact bv_true ⟨all_end (by omega) h2, by omega, by omega⟩
      | (exact bv_false fun hh => by have := hh.2; omega)
      | trace_state
/-! ### Which rule applies -/
def sh (e k : Int) : Int := e.fdiv (2 ^ (min k.toNat 64))
theorem sh_in {e k : Int} (h : 1 ≤ e ∧ e ≤ 15) : 0 ≤ sh e k ∧ sh e k ≤ 15 := by
  unfold sh
  have hp : (0 : Int) < 2 ^ (min k.toNat 64) := Int.pow_pos (by decide)
  rw [Int.fdiv_eq_ediv_of_nonneg _ (Int.le_of_lt hp)]
  exact ⟨Int.ediv_nonneg (by omega) (Int.le_of_lt hp), Int.le_trans (Int.ediv_le_self _ (by omega)) (by omega)⟩
theorem and_one {x : Int} (h : 0 ≤ x ∧ x ≤ 15) : bitsI .and .i64 x 1 = x % 2 := by
  obtain ⟨n, rfl⟩ := Int.eq_ofNat_of_zero_le h.1
  have hn : n < 16 := by omega
  have key : ∀ m : Fin 16, bitsI .and .i64 ((m.val : Nat) : Int) 1 = ((m.val : Nat) : Int) % 2 := by decide
  exact key ⟨n, hn⟩
/-- A rule applies to a case. -/
def appl (r : List Int) (a y k : Int) : Prop := (r.getD 0 0 ≤ a ∧ a ≤ r.getD 1 0) ∧ (r.getD 2 0 ≤ y ∧ y ≤ r.getD 3 0) ∧ sh (r.getD 4 0) k % 2 = 1
instance (r : List Int) (a y k : Int) : Decidable (appl r a y k) := by unfold appl; infer_instance
abbrev VCase (a y k : Int) : AV := .agg [I a, I y, I k]
set_option maxRecDepth 100000 in
theorem l23Applies_ret (r : List Int) (a y k : Int) (hr : rowL r) (hk : 0 ≤ k ∧ k ≤ 3) : Ret Try.prog G 54 [WRule r, VCase a y k] (Bo (decide (appl r a y k))) := by
  refine ret_of_body hT Try.func54 rfl ?_ rfl
  have h4 := sh_in (k := k) hr.2.2.2.2.1
  repeat' (first | (intro h; first | contradiction | omega | (conv => whnf) | skip) | (refine And.intro ?_ ?_) | (refine arith_ok ⟨by omega, by omega⟩ ?_) | (first | (refine draw_quiet hT mixed (by decide +kernel) ?_) | (refine draw_hard hT mixed (by decide +kernel) ?_)) | (refine Ret.goP (l01In_ret _ _ _) rfl ?_) | (refine Ret.goQP (l01In_ret _ _ _) rfl ?_) | (refine eq_ok ?_) | (refine rem_ok h4.1 (by omega) ?_))
  all_goals first | omega | exact bv_true (And.intro (by assumption) (And.intro (by assumption) (by assumption))) | (refine bv_false ?_; rintro ⟨h7, h8, h9⟩; contradiction) | trace_state
set_option maxRecDepth 100000 in
theorem applies_ret (r : List Int) (a y k : Int) (hr : rowL r) (hk : 0 ≤ k ∧ k ≤ 3) : Ret Try.prog G 58 [WRule r, VCase a y k] (Bo (decide (appl r a y k))) := by
  refine ret_of_body hT Try.func58 rfl ?_ rfl
  have h4 := sh_in (k := k) hr.2.2.2.2.1
  have h5 := and_one h4
  repeat' (first | (intro h; first | contradiction | omega | (conv => whnf) | skip) | (refine And.intro ?_ ?_) | (refine arith_ok ⟨by omega, by omega⟩ ?_) | (first | (refine draw_quiet hT mixed (by decide +kernel) ?_) | (refine draw_hard hT mixed (by decide +kernel) ?_)) | (refine Ret.goP (inRange_ret _ _ _) rfl ?_) | (refine Ret.goQP (inRange_ret _ _ _) rfl ?_) | (refine eq_ok ?_))
  all_goals first | omega | exact bv_true (And.intro (by assumption) (And.intro (by assumption) (h5.symm.trans (by assumption)))) | (refine bv_false ?_; rintro ⟨h7, h8, h9⟩; first | contradiction | exact h (h5.trans h9)) | trace_state
/-- The place of the first rule that applies, or -1. -/
def fst (xss : List (List Int)) (a y k : Int) : Int := if firstOf (fun r => decide (appl r a y k)) xss < xss.length then (firstOf (fun r => decide (appl r a y k)) xss : Int) else -1
theorem fst_in (xss : List (List Int)) (a y k : Int) : fst xss a y k = -1 ∨ (0 ≤ fst xss a y k ∧ fst xss a y k < xss.length) := by
  unfold fst
  split
  · right; omega
  · left; rfl
theorem fst_hit {xss : List (List Int)} {a y k : Int} {i : Nat} (hi : i < xss.length) (h2 : ∀ j, j < i → ¬ appl (xss.getD j []) a y k) (h : appl (xss.getD i []) a y k) : fst xss a y k = i := by
  have : firstOf (fun r => decide (appl r a y k)) xss = i := firstOf_eq [] (by omega) (fun j hj => decide_eq_false (h2 j hj)) fun _ => decide_eq_true h
  unfold fst
  rw [if_pos (by omega), this]
theorem fst_miss {xss : List (List Int)} {a y k : Int} (h2 : ∀ j, j < xss.length → ¬ appl (xss.getD j []) a y k) : fst xss a y k = -1 := by
  have : firstOf (fun r => decide (appl r a y k)) xss = xss.length := firstOf_eq [] (Nat.le_refl _) (fun j hj => decide_eq_false (h2 j hj)) fun h => absurd h (Nat.lt_irrefl _)
  unfold fst
  rw [if_neg (by omega)]
theorem fst_step {p : Nat → Prop} {i : Nat} (h2 : ∀ j, j < i → ¬ p j) (h : ¬ p i) : ∀ j, j < i + 1 → ¬ p j := fun j hj => by
  by_cases hji : j = i
  · rw [hji]; exact h
  · exact h2 j (by omega)
set_option maxRecDepth 100000 in
theorem l23First_ret (xss : List (List Int)) (a y k : Int) (ha : areRl xss) (hk : 0 ≤ k ∧ k ≤ 3) : Ret Try.prog G 34 [RRule xss, VCase a y k] (I (fst xss a y k)) := by
  refine ret_of_body hT Try.func34 rfl ?_ rfl
  have hn := ha.2.2
  repeat' (first | (intro h; first | contradiction | omega | (conv => whnf) | skip) | (refine And.intro ?_ ?_) | (refine arith_ok ⟨by omega, by omega⟩ ?_) | (first | (refine draw_quiet hT mixed (by decide +kernel) ?_) | (refine draw_hard hT mixed (by decide +kernel) ?_)) | fail)
  refine loop_rule hT (fun i : Nat => i ≤ xss.length ∧ ∀ j, j < i → ¬ appl (xss.getD j []) a y k) 19 1 [0, 3, 5] (fun i => [RRule xss, .ptr 0 0, I i]) (fun _ => [.cells [I a, I y, I k]]) (fun i => xss.length - i) (0) (Nat.le_of_ble_eq_true rfl) ?_ ?_ ?_
  · exact ⟨Nat.zero_le _, fun j h => absurd h (Nat.not_lt_zero j)⟩
  · (first | (refine ⟨rfl, [], ?_, ?_⟩; all_goals (repeat' (first | exact rfl | exact trivial | (with_reducible assumption) | refine And.intro ?_ ?_)); all_goals (first | omega | assumption); done) | (refine ⟨rfl, [some 1], ?_, ?_⟩; all_goals (repeat' (first | exact rfl | exact trivial | (with_reducible assumption) | refine And.intro ?_ ?_)); all_goals (first | omega | assumption); done) | (refine ⟨rfl, [some 2], ?_, ?_⟩; all_goals (repeat' (first | exact rfl | exact trivial | (with_reducible assumption) | refine And.intro ?_ ?_)); all_goals (first | omega | assumption); done) | (refine ⟨rfl, [some 3], ?_, ?_⟩; all_goals (repeat' (first | exact rfl | exact trivial | (with_reducible assumption) | refine And.intro ?_ ?_)); all_goals (first | omega | assumption); done) | (refine ⟨rfl, [some 0], ?_, ?_⟩; all_goals (repeat' (first | exact rfl | exact trivial | (with_reducible assumption) | refine And.intro ?_ ?_)); all_goals (first | omega | assumption); done) | (refine ⟨rfl, [some 4], ?_, ?_⟩; all_goals (repeat' (first | exact rfl | exact trivial | (with_reducible assumption) | refine And.intro ?_ ?_)); all_goals (first | omega | assumption); done) | (refine ⟨rfl, [some 5], ?_, ?_⟩; all_goals (repeat' (first | exact rfl | exact trivial | (with_reducible assumption) | refine And.intro ?_ ?_)); all_goals (first | omega | assumption); done) | (refine ⟨rfl, [some 6], ?_, ?_⟩; all_goals (repeat' (first | exact rfl | exact trivial | (with_reducible assumption) | refine And.intro ?_ ?_)); all_goals (first | omega | assumption); done))
  · rintro i ⟨h1, h2⟩
    by_cases hi : i < xss.length
    · have hr : rowL (xss.getD ((i : Int)).toNat []) := ha.at hi
      repeat' (first | (intro h; first | contradiction | omega | (conv => whnf) | skip) | (refine And.intro ?_ ?_) | (refine arith_ok ⟨by omega, by omega⟩ ?_) | (first | (refine draw_quiet hT mixed (by decide +kernel) ?_) | (refine draw_hard hT mixed (by decide +kernel) ?_)) | (refine Ret.goP (l23Applies_ret (xss.getD ((i : Int)).toNat []) a y k hr hk) rfl ?_) | (refine Ret.goQP (l23Applies_ret (xss.getD ((i : Int)).toNat []) a y k hr hk) rfl ?_))
      all_goals first | omega | skip
      all_goals first
        | (refine ⟨i + 1, ⟨by omega, fst_step h2 h⟩, ?_, by omega⟩; (first | (refine ⟨rfl, [], ?_, ?_⟩; all_goals (repeat' (first | exact rfl | exact trivial | (with_reducible assumption) | refine And.intro ?_ ?_)); all_goals (first | omega | assumption); done) | (refine ⟨rfl, [some 1], ?_, ?_⟩; all_goals (repeat' (first | exact rfl | exact trivial | (with_reducible assumption) | refine And.intro ?_ ?_)); all_goals (first | omega | assumption); done) | (refine ⟨rfl, [some 2], ?_, ?_⟩; all_goals (repeat' (first | exact rfl | exact trivial | (with_reducible assumption) | refine And.intro ?_ ?_)); all_goals (first | omega | assumption); done) | (refine ⟨rfl, [some 3], ?_, ?_⟩; all_goals (repeat' (first | exact rfl | exact trivial | (with_reducible assumption) | refine And.intro ?_ ?_)); all_goals (first | omega | assumption); done) | (refine ⟨rfl, [some 0], ?_, ?_⟩; all_goals (repeat' (first | exact rfl | exact trivial | (with_reducible assumption) | refine And.intro ?_ ?_)); all_goals (first | omega | assumption); done) | (refine ⟨rfl, [some 4], ?_, ?_⟩; all_goals (repeat' (first | exact rfl | exact trivial | (with_reducible assumption) | refine And.intro ?_ ?_)); all_goals (first | omega | assumption); done) | (refine ⟨rfl, [some 5], ?_, ?_⟩; all_goals (repeat' (first | exact rfl | exact trivial | (with_reducible assumption) | refine And.intro ?_ ?_)); all_goals (first | omega | assumption); done) | (refine ⟨rfl, [some 6], ?_, ?_⟩; all_goals (repeat' (first | exact rfl | exact trivial | (with_reducible assumption) | refine And.intro ?_ ?_)); all_goals (first | omega | assumption); done)))
        | exact iv (fst_hit hi h2 h).symm
        | trace_state
    · obtain rfl : i = xss.length := by omega
      repeat' (first | (intro h; first | contradiction | omega | (conv => whnf) | skip) | (refine And.intro ?_ ?_) | (refine arith_ok ⟨by omega, by omega⟩ ?_) | (first | (refine draw_quiet hT mixed (by decide +kernel) ?_) | (refine draw_hard hT mixed (by decide +kernel) ?_)) | fail)
      all_goals first | omega | exact iv (fst_miss h2).symm | trace_state
set_option maxRecDepth 100000 in
theorem decides_ret (xss : List (List Int)) (a y k : Int) (ha : areRl xss) (hk : 0 ≤ k ∧ k ≤ 3) : Ret Try.prog G 50 [RRule xss, VCase a y k] (I (fst xss a y k)) := by
  refine ret_of_body hT Try.func50 rfl ?_ rfl
  have hn := ha.2.2
  repeat' (first | (intro h; first | contradiction | omega | (conv => whnf) | skip) | (refine And.intro ?_ ?_) | (refine arith_ok ⟨by omega, by omega⟩ ?_) | (first | (refine draw_quiet hT mixed (by decide +kernel) ?_) | (refine draw_hard hT mixed (by decide +kernel) ?_)) | fail)
  refine loop_rule hT (fun i : Nat => i ≤ xss.length ∧ ∀ j, j < i → ¬ appl (xss.getD j []) a y k) 19 1 [0, 3, 7, 8, 9] (fun i => [RRule xss, .ptr 0 0, RRule xss, I xss.length, I i]) (fun _ => [.cells [I a, I y, I k]]) (fun i => xss.length - i) (0) (Nat.le_of_ble_eq_true rfl) ?_ ?_ ?_
  · exact ⟨Nat.zero_le _, fun j h => absurd h (Nat.not_lt_zero j)⟩
  · (first | (refine ⟨rfl, [], ?_, ?_⟩; all_goals (repeat' (first | exact rfl | exact trivial | (with_reducible assumption) | refine And.intro ?_ ?_)); all_goals (first | omega | assumption); done) | (refine ⟨rfl, [some 1], ?_, ?_⟩; all_goals (repeat' (first | exact rfl | exact trivial | (with_reducible assumption) | refine And.intro ?_ ?_)); all_goals (first | omega | assumption); done) | (refine ⟨rfl, [some 2], ?_, ?_⟩; all_goals (repeat' (first | exact rfl | exact trivial | (with_reducible assumption) | refine And.intro ?_ ?_)); all_goals (first | omega | assumption); done) | (refine ⟨rfl, [some 3], ?_, ?_⟩; all_goals (repeat' (first | exact rfl | exact trivial | (with_reducible assumption) | refine And.intro ?_ ?_)); all_goals (first | omega | assumption); done) | (refine ⟨rfl, [some 0], ?_, ?_⟩; all_goals (repeat' (first | exact rfl | exact trivial | (with_reducible assumption) | refine And.intro ?_ ?_)); all_goals (first | omega | assumption); done) | (refine ⟨rfl, [some 4], ?_, ?_⟩; all_goals (repeat' (first | exact rfl | exact trivial | (with_reducible assumption) | refine And.intro ?_ ?_)); all_goals (first | omega | assumption); done) | (refine ⟨rfl, [some 5], ?_, ?_⟩; all_goals (repeat' (first | exact rfl | exact trivial | (with_reducible assumption) | refine And.intro ?_ ?_)); all_goals (first | omega | assumption); done) | (refine ⟨rfl, [some 6], ?_, ?_⟩; all_goals (repeat' (first | exact rfl | exact trivial | (with_reducible assumption) | refine And.intro ?_ ?_)); all_goals (first | omega | assumption); done))
  · rintro i ⟨h1, h2⟩
    by_cases hi : i < xss.length
    · have hr : rowL (xss.getD ((i : Int)).toNat []) := ha.at hi
      repeat' (first | (intro h; first | contradiction | omega | (conv => whnf) | skip) | (refine And.intro ?_ ?_) | (refine arith_ok ⟨by omega, by omega⟩ ?_) | (first | (refine draw_quiet hT mixed (by decide +kernel) ?_) | (refine draw_hard hT mixed (by decide +kernel) ?_)) | (refine Ret.goP (applies_ret (xss.getD ((i : Int)).toNat []) a y k hr hk) rfl ?_) | (refine Ret.goQP (applies_ret (xss.getD ((i : Int)).toNat []) a y k hr hk) rfl ?_))
      all_goals first | omega | skip
      all_goals first
        | (refine ⟨i + 1, ⟨by omega, fst_step h2 h⟩, ?_, by omega⟩; (first | (refine ⟨rfl, [], ?_, ?_⟩; all_goals (repeat' (first | exact rfl | exact trivial | (with_reducible assumption) | refine And.intro ?_ ?_)); all_goals (first | omega | assumption); done) | (refine ⟨rfl, [some 1], ?_, ?_⟩; all_goals (repeat' (first | exact rfl | exact trivial | (with_reducible assumption) | refine And.intro ?_ ?_)); all_goals (first | omega | assumption); done) | (refine ⟨rfl, [some 2], ?_, ?_⟩; all_goals (repeat' (first | exact rfl | exact trivial | (with_reducible assumption) | refine And.intro ?_ ?_)); all_goals (first | omega | assumption); done) | (refine ⟨rfl, [some 3], ?_, ?_⟩; all_goals (repeat' (first | exact rfl | exact trivial | (with_reducible assumption) | refine And.intro ?_ ?_)); all_goals (first | omega | assumption); done) | (refine ⟨rfl, [some 0], ?_, ?_⟩; all_goals (repeat' (first | exact rfl | exact trivial | (with_reducible assumption) | refine And.intro ?_ ?_)); all_goals (first | omega | assumption); done) | (refine ⟨rfl, [some 4], ?_, ?_⟩; all_goals (repeat' (first | exact rfl | exact trivial | (with_reducible assumption) | refine And.intro ?_ ?_)); all_goals (first | omega | assumption); done) | (refine ⟨rfl, [some 5], ?_, ?_⟩; all_goals (repeat' (first | exact rfl | exact trivial | (with_reducible assumption) | refine And.intro ?_ ?_)); all_goals (first | omega | assumption); done) | (refine ⟨rfl, [some 6], ?_, ?_⟩; all_goals (repeat' (first | exact rfl | exact trivial | (with_reducible assumption) | refine And.intro ?_ ?_)); all_goals (first | omega | assumption); done)))
        | exact iv (fst_hit hi h2 h).symm
        | trace_state
    · obtain rfl : i = xss.length := by omega
      repeat' (first | (intro h; first | contradiction | omega | (conv => whnf) | skip) | (refine And.intro ?_ ?_) | (refine arith_ok ⟨by omega, by omega⟩ ?_) | (first | (refine draw_quiet hT mixed (by decide +kernel) ?_) | (refine draw_hard hT mixed (by decide +kernel) ?_)) | fail)
      all_goals first | omega | exact iv (fst_miss h2).symm | trace_state
end Go.Proofs.Ytnfddmbnkbigmaa
