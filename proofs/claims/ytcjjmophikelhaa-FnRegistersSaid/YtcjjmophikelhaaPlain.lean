/-
  The small functions of the laws: what they return. No conditions but those in the statements.
-/
import Derived.Test.YtcjjmophikelhaaInts
import Derived.Test.YtcjjmophikelhaaDraw
set_option linter.unusedVariables false
set_option linter.unusedSimpArgs false
namespace Go.Proofs.Ytcjjmophikelhaa
open Go.AE

attribute [local irreducible] CallA LoopA DrawA CallQ arithK quoK remK eqK
set_option maxRecDepth 100000 in
theorem big_ret (code : List Int) : Ret Try.prog G 18 [Rb code] (Bo (decide ((4096 : Int) < code.length))) := by
  refine ret_of_body hT Try.func18 rfl ?_ rfl
  repeat' (first | (intro h; first | contradiction | omega | (conv => whnf) | skip) | (refine And.intro ?_ ?_) | (refine arith_ok ⟨by omega, by omega⟩ ?_) | (first | (refine draw_quiet hT mixed (by decide +kernel) ?_) | (refine draw_hard hT mixed (by decide +kernel) ?_)) | fail)
  all_goals first | exact bv_true (by assumption) | exact bv_false (by assumption)
end Go.Proofs.Ytcjjmophikelhaa
