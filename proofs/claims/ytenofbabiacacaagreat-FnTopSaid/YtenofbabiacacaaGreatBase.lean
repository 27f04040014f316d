/-
  Small functions that many seats share: ranges and months. No conditions but those in the statements.
-/
import Derived.Test.YtenofbabiacacaaGreatTy
set_option linter.unusedVariables false
set_option linter.unusedSimpArgs false
namespace Go.Proofs.YtenofbabiacacaaGreat
open Go.AE

attribute [local irreducible] CallA LoopA DrawA CallQ arithK quoK remK eqK
abbrev I (n : Int) : AV := .v (.int .i64 n)
abbrev Bo (b : Bool) : AV := .v (.bool b)
set_option maxRecDepth 100000 in
theorem l01In_ret (n lo hi : Int) : Ret Tryz.prog G 84 [I n, I lo, I hi] (Bo (decide (lo ≤ n ∧ n ≤ hi))) := by
  refine ret_of_body hT Tryz.func84 rfl ?_ rfl
  repeat' (first | (intro h; first | contradiction | omega | (conv => whnf) | skip) | (refine And.intro ?_ ?_) | (refine arith_ok ⟨by omega, by omega⟩ ?_) | fail)
  all_goals (first | exact bv_true (by omega) | exact bv_false (by omega))
set_option maxRecDepth 100000 in
theorem inRange_ret (n lo hi : Int) : Ret Tryz.prog G 89 [I n, I lo, I hi] (Bo (decide (lo ≤ n ∧ n ≤ hi))) := by
  refine ret_of_body hT Tryz.func89 rfl ?_ rfl
  repeat' (first | (intro h; first | contradiction | omega | (conv => whnf) | skip) | (refine And.intro ?_ ?_) | (refine arith_ok ⟨by omega, by omega⟩ ?_) | fail)
  all_goals (first | exact bv_true (by omega) | exact bv_false (by omega))
end Go.Proofs.YtenofbabiacacaaGreat
