/-
  Rules of statutes: what the functions on rules, cases and lists of rules return. No conditions but those in the statements.
-/
import Derived.Test.YtgpgnhadmckmhaaDoorRul
set_option linter.unusedVariables false
set_option linter.unusedSimpArgs false
namespace Go.Proofs.YtgpgnhadmckmhaaDoor
open Go.AE

attribute [local irreducible] CallA LoopA DrawA CallQ arithK quoK remK eqK
/-- A rule as it should be. -/
def rowRl (a b c d e f : Int) : Prop := (0 ≤ a ∧ a ≤ b) ∧ b ≤ 150 ∧ (0 ≤ c ∧ c ≤ d) ∧ d ≤ 99 ∧ (1 ≤ e ∧ e ≤ 15) ∧ (0 ≤ f ∧ f ≤ 9)
instance (a b c d e f : Int) : Decidable (rowRl a b c d e f) := by unfold rowRl; infer_instance
set_option maxRecDepth 100000 in
theorem l23Rule_ret (a b c d e f : Int) : Ret Tryd.prog G 59 [VRule a b c d e f] (Bo (decide (rowRl a b c d e f))) := by
  refine ret_of_body hT Tryd.func59 rfl ?_ rfl
  repeat' (first | (intro h; first | contradiction | omega | (conv => whnf) | skip) | (refine And.intro ?_ ?_) | (refine arith_ok ⟨by omega, by omega⟩ ?_) | (first | (refine draw_quiet hT mixed (by decide +kernel) ?_) | (refine draw_hard hT mixed (by decide +kernel) ?_)) | (refine Ret.goP (l01In_ret _ _ _) rfl ?_) | (refine Ret.goQP (l01In_ret _ _ _) rfl ?_))
  all_goals first | exact bv_true (by unfold rowRl; omega) | exact bv_false (by unfold rowRl; omega)
set_option maxRecDepth 100000 in
theorem isRule_ret (a b c d e f : Int) : Ret Tryd.prog G 61 [VRule a b c d e f] (Bo (decide (rowRl a b c d e f))) := by
  refine ret_of_body hT Tryd.func61 rfl ?_ rfl
  repeat' (first | (intro h; first | contradiction | omega | (conv => whnf) | skip) | (refine And.intro ?_ ?_) | (refine arith_ok ⟨by omega, by omega⟩ ?_) | (first | (refine draw_quiet hT mixed (by decide +kernel) ?_) | (refine draw_hard hT mixed (by decide +kernel) ?_)) | (refine Ret.goP (inRange_ret _ _ _) rfl ?_) | (refine Ret.goQP (inRange_ret _ _ _) rfl ?_))
  all_goals first | exact bv_true (by unfold rowRl; omega) | exact bv_false (by unfold rowRl; omega)
def rowL (r : List Int) : Prop := rowRl (r.getD 0 0) (r.getD 1 0) (r.getD 2 0) (r.getD 3 0) (r.getD 4 0) (r.getD 5 0)
instance (r : List Int) : Decidable (rowL r) := by unfold rowL; infer_instance
def allRl (xss : List (List Int)) : Prop := ∀ r ∈ xss, rowL r
instance (xss : List (List Int)) : Decidable (allRl xss) := by unfold allRl; infer_instance
/-- A list of rules as it should be. -/
def areRl (xss : List (List Int)) : Prop := allRl xss ∧ 1 ≤ xss.length ∧ xss.length ≤ 20
instance (xss : List (List Int)) : Decidable (areRl xss) := by unfold areRl; infer_instance
theorem areRl.at {xss : List (List Int)} (h : areRl xss) {i : Nat} (hi : i < xss.length) : rowL (xss.getD i []) := h.1 _ (getD_mem hi)
set_option maxRecDepth 100000 in
theorem length_ret (xss : List (List Int)) : Ret Tryd.prog G 63 [RRule xss] (I xss.length) := by
  refine ret_of_body hT Tryd.func63 rfl ?_ rfl
  repeat' (first | (intro h; first | contradiction | omega | (conv => whnf) | skip) | (refine And.intro ?_ ?_) | (refine arith_ok ⟨by omega, by omega⟩ ?_) | (first | (refine draw_quiet hT mixed (by decide +kernel) ?_) | (refine draw_hard hT mixed (by decide +kernel) ?_)) | fail)
  all_goals rfl
set_option maxRecDepth 100000 in
theorem specAre_ret (xss : List (List Int)) (hn : xss.length ≤ 2305843009213693952) : Ret Tryd.prog G 34 [RRule xss] (Bo (decide (areRl xss))) := by
  refine ret_of_body hT Tryd.func34 rfl ?_ rfl
  repeat' (first | (intro h; first | contradiction | omega | (conv => whnf) | skip) | (refine And.intro ?_ ?_) | (refine arith_ok ⟨by omega, by omega⟩ ?_) | (first | (refine draw_quiet hT mixed (by decide +kernel) ?_) | (refine draw_hard hT mixed (by decide +kernel) ?_)) | fail)
  refine loop_rule hT (fun i : Nat => i ≤ xss.length ∧ ∀ r ∈ xss.take i, rowL r) 24 0 [0, 3] (fun i => [RRule xss, I i]) (fun _ => []) (fun i => xss.length - i) (0) (Nat.le_of_ble_eq_true rfl) ?_ ?_ ?_
  · exact ⟨Nat.zero_le _, by simp⟩
  · (refine ⟨rfl, [], ?_, ?_⟩; all_goals (repeat' (first | exact rfl | exact trivial | (with_reducible assumption) | refine And.intro ?_ ?_ | omega)))
  · rintro i ⟨h1, h2⟩
    repeat' (first | (intro h; first | contradiction | omega | (conv => whnf) | skip) | (refine And.intro ?_ ?_) | (refine arith_ok ⟨by omega, by omega⟩ ?_) | (first | (refine draw_quiet hT mixed (by decide +kernel) ?_) | (refine draw_hard hT mixed (by decide +kernel) ?_)) | (refine Ret.goP (l23Rule_ret _ _ _ _ _ _) rfl ?_) | (refine Ret.goQP (l23Rule_ret _ _ _ _ _ _) rfl ?_))
    all_goals first | omega | skip
    all_goals first
      | (refine ⟨i + 1, ⟨by omega, all_snoc [] (by omega) h2 h⟩, ?_, by omega⟩; (refine ⟨rfl, [], ?_, ?_⟩; all_goals (repeat' (first | exact rfl | exact trivial | (with_reducible assumption) | refine And.intro ?_ ?_ | omega))); done)
      | (refine bv_false fun hh => ?_; have := hh.1 (xss.getD i []) (getD_mem (by omega)); contradiction)
      | exact bv_true ⟨all_end (by omega) h2, by omega, by omega⟩
      | (exact bv_false fun hh => by have := hh.2; omega)
      | trace_state
set_option maxRecDepth 100000 in
theorem implAre_ret (xss : List (List Int)) (hn : xss.length ≤ 2305843009213693952) : Ret Tryd.prog G 37 [RRule xss] (Bo (decide (areRl xss))) := by
  refine ret_of_body hT Tryd.func37 rfl ?_ rfl
  repeat' (first | (intro h; first | contradiction | omega | (conv => whnf) | skip) | (refine And.intro ?_ ?_) | (refine arith_ok ⟨by omega, by omega⟩ ?_) | (first | (refine draw_quiet hT mixed (by decide +kernel) ?_) | (refine draw_hard hT mixed (by decide +kernel) ?_)) | fail)
  refine loop_rule hT (fun i : Nat => i ≤ xss.length ∧ ∀ r ∈ xss.take i, rowL r) 18 0 [0, 5, 6, 7] (fun i => [RRule xss, RRule xss, I xss.length, I i]) (fun _ => []) (fun i => xss.length - i) (0) (Nat.le_of_ble_eq_true rfl) ?_ ?_ ?_
  · exact ⟨Nat.zero_le _, by simp⟩
  · (refine ⟨rfl, [], ?_, ?_⟩; all_goals (repeat' (first | exact rfl | exact trivial | (with_reducible assumption) | refine And.intro ?_ ?_ | omega)))
  · rintro i ⟨h1, h2⟩
    repeat' (first | (intro h; first | contradiction | omega | (conv => whnf) | skip) | (refine And.intro ?_ ?_) | (refine arith_ok ⟨by omega, by omega⟩ ?_) | (first | (refine draw_quiet hT mixed (by decide +kernel) ?_) | (refine draw_hard hT mixed (by decide +kernel) ?_)) | (refine Ret.goP (isRule_ret _ _ _ _ _ _) rfl ?_) | (refine Ret.goQP (isRule_ret _ _ _ _ _ _) rfl ?_) | (refine Ret.go (length_ret xss) rfl rfl ?_) | (refine Ret.goQ (length_ret xss) rfl rfl ?_) | (refine Ret.goP (inRange_ret _ _ _) rfl ?_) | (refine Ret.goQP (inRange_ret _ _ _) rfl ?_))
    all_goals first | omega | skip
    all_goals first
      | (refine ⟨i + 1, ⟨by omega, all_snoc [] (by omega) h2 h⟩, ?_, by omega⟩; (refine ⟨rfl, [], ?_, ?_⟩; all_goals (repeat' (first | exact rfl | exact trivial | (with_reducible assumption) | refine And.intro ?_ ?_ | omega))); done)
      | (refine bv_false fun hh => ?_; have := hh.1 (xss.getD i []) (getD_mem (by omega)); contradiction)
      | exact bv_true ⟨all_end (by omega) h2, by omega, by omega⟩
      | (exact bv_false fun hh => by have := hh.2; omega)
      | trace_state
end Go.Proofs.YtgpgnhadmckmhaaDoor
