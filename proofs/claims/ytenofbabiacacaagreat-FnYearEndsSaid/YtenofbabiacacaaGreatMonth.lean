/-
  Months: what the functions return. No conditions but those in the statements.
-/
import Derived.Test.YtenofbabiacacaaGreatBase
set_option linter.unusedVariables false
set_option linter.unusedSimpArgs false
namespace Go.Proofs.YtenofbabiacacaaGreat
open Go.AE

attribute [local irreducible] CallA LoopA DrawA CallQ arithK quoK remK eqK
set_option maxRecDepth 100000 in
theorem l02Month_ret (n : Int) : Ret Tryz.prog G 101 [I n] (Bo (decide (0 ≤ n ∧ n ≤ 35999))) := by
  refine ret_of_body hT Tryz.func101 rfl ?_ rfl
  repeat' (first | (intro h; first | contradiction | omega | (conv => whnf) | skip) | (refine And.intro ?_ ?_) | (refine arith_ok ⟨by omega, by omega⟩ ?_) | (refine Ret.goP (l01In_ret _ _ _) rfl ?_))
  all_goals (first | exact bv_true (by omega) | exact bv_false (by omega))
set_option maxRecDepth 100000 in
theorem isMonth_ret (n : Int) : Ret Tryz.prog G 99 [I n] (Bo (decide (0 ≤ n ∧ n ≤ 35999))) := by
  refine ret_of_body hT Tryz.func99 rfl ?_ rfl
  repeat' (first | (intro h; first | contradiction | omega | (conv => whnf) | skip) | (refine And.intro ?_ ?_) | (refine arith_ok ⟨by omega, by omega⟩ ?_) | (refine Ret.goP (inRange_ret _ _ _) rfl ?_))
  all_goals (first | exact bv_true (by omega) | exact bv_false (by omega))
end Go.Proofs.YtenofbabiacacaaGreat
