/-
  Who is a member in a month: what the functions return. No conditions but those in the statements.
-/
import Derived.Test.YtgpgnhadmckmhaaGreatDoorMfa
set_option linter.unusedVariables false
set_option linter.unusedSimpArgs false
namespace Go.Proofs.YtgpgnhadmckmhaaGreatDoor
open Go.AE

attribute [local irreducible] CallA LoopA DrawA CallQ arithK quoK remK eqK
set_option maxRecDepth 100000 in
theorem l26Is_ret (a b c d e n : Int) : Ret Tryz.prog G 72 [VMember a b c d e, I n] (Bo (decide (isIn c d n))) := by
  refine ret_of_body hT Tryz.func72 rfl ?_ rfl
  repeat' (first | (intro h; first | contradiction | omega | (conv => whnf) | skip) | (refine And.intro ?_ ?_) | (refine arith_ok ⟨by omega, by omega⟩ ?_) | (first | (refine draw_quiet hT mixed (by decide +kernel) ?_) | (refine draw_hard hT mixed (by decide +kernel) ?_)) | fail)
  all_goals first | exact bv_true (by unfold isIn; omega) | exact bv_false (by unfold isIn; omega)
set_option maxRecDepth 100000 in
theorem isIn_ret (a b c d e n : Int) : Ret Tryz.prog G 98 [VMember a b c d e, I n] (Bo (decide (isIn c d n))) := by
  refine ret_of_body hT Tryz.func98 rfl ?_ rfl
  repeat' (first | (intro h; first | contradiction | omega | (conv => whnf) | skip) | (refine And.intro ?_ ?_) | (refine arith_ok ⟨by omega, by omega⟩ ?_) | (first | (refine draw_quiet hT mixed (by decide +kernel) ?_) | (refine draw_hard hT mixed (by decide +kernel) ?_)) | fail)
  all_goals first | exact bv_true (by unfold isIn; omega) | exact bv_false (by unfold isIn; omega)
end Go.Proofs.YtgpgnhadmckmhaaGreatDoor
