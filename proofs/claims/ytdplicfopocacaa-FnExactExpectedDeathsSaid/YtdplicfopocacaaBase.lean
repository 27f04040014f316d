/-
  Small functions that many seats share: ranges and months. No conditions but those in the statements.
-/
import Derived.Test.YtdplicfopocacaaTy
set_option linter.unusedVariables false
set_option linter.unusedSimpArgs false
namespace Go.Proofs.Ytdplicfopocacaa
open Go.AE

attribute [local irreducible] CallA LoopA DrawA CallQ arithK quoK remK eqK
abbrev I (n : Int) : AV := .v (.int .i64 n)
abbrev Bo (b : Bool) : AV := .v (.bool b)
set_option maxRecDepth 100000 in
theorem l01In_ret (n lo hi : Int) : Ret Try.prog G 44 [I n, I lo, I hi] (Bo (decide (lo ≤ n ∧ n ≤ hi))) := by
  refine ret_of_body hT Try.func44 rfl ?_ rfl
  repeat' (first | (intro h; first | contradiction | omega | (conv => whnf) | skip) | (refine And.intro ?_ ?_) | (refine arith_ok ⟨by omega, by omega⟩ ?_) | fail)
  all_goals (first | exact bv_true (by omega) | exact bv_false (by omega))
set_option maxRecDepth 100000 in
theorem inRange_ret (n lo hi : Int) : Ret Try.prog G 50 [I n, I lo, I hi] (Bo (decide (lo ≤ n ∧ n ≤ hi))) := by
  refine ret_of_body hT Try.func50 rfl ?_ rfl
  repeat' (first | (intro h; first | contradiction | omega | (conv => whnf) | skip) | (refine And.intro ?_ ?_) | (refine arith_ok ⟨by omega, by omega⟩ ?_) | fail)
  all_goals (first | exact bv_true (by omega) | exact bv_false (by omega))
end Go.Proofs.Ytdplicfopocacaa
