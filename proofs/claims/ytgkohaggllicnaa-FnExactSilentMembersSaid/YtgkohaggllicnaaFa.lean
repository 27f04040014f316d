/-
  Members: what the functions on one member return. No conditions but those in the statements.
-/
import Derived.Test.YtgkohaggllicnaaRecs
set_option linter.unusedVariables false
set_option linter.unusedSimpArgs false
namespace Go.Proofs.Ytgkohaggllicnaa
open Go.AE

attribute [local irreducible] CallA LoopA DrawA CallQ arithK quoK remK eqK
/-- A member as it should be. -/
def rowM (a b c d e : Int) : Prop := (1 ≤ a ∧ a ≤ 1000000) ∧ (0 ≤ b ∧ b ≤ 35999) ∧ (0 ≤ c ∧ c ≤ 35999) ∧ (0 ≤ e ∧ e ≤ 35999) ∧ (d = -1 ∨ (0 ≤ d ∧ d ≤ 35999)) ∧ b ≤ c ∧ c ≤ e ∧ (d = -1 ∨ e ≤ d)
instance (a b c d e : Int) : Decidable (rowM a b c d e) := by unfold rowM; infer_instance
/-- Who is a member in a month. -/
def isIn (c d n : Int) : Prop := c ≤ n ∧ (d = -1 ∨ n < d)
instance (c d n : Int) : Decidable (isIn c d n) := by unfold isIn; infer_instance
set_option maxRecDepth 100000 in
theorem l14Open_ret (n : Int) : Ret Try.prog G 34 [I n] (Bo (decide (n = -1 ∨ (0 ≤ n ∧ n ≤ 35999)))) := by
  refine ret_of_body hT Try.func34 rfl ?_ rfl
  repeat' (first | (intro h; first | contradiction | omega | (conv => whnf) | skip) | (refine And.intro ?_ ?_) | (refine arith_ok ⟨by omega, by omega⟩ ?_) | (first | (refine draw_quiet hT mixed (by decide +kernel) ?_) | (refine draw_hard hT mixed (by decide +kernel) ?_)) | (refine Ret.goP (l02Month_ret _) rfl ?_) | (refine Ret.goQP (l02Month_ret _) rfl ?_))
  all_goals (first | exact bv_true (by omega) | exact bv_false (by omega))
set_option maxRecDepth 100000 in
theorem l26Member_ret (a b c d e : Int) : Ret Try.prog G 22 [VMember a b c d e] (Bo (decide (rowM a b c d e))) := by
  refine ret_of_body hT Try.func22 rfl ?_ rfl
  repeat' (first | (intro h; first | contradiction | omega | (conv => whnf) | skip) | (refine And.intro ?_ ?_) | (refine arith_ok ⟨by omega, by omega⟩ ?_) | (first | (refine draw_quiet hT mixed (by decide +kernel) ?_) | (refine draw_hard hT mixed (by decide +kernel) ?_)) | (refine Ret.goP (l01In_ret _ _ _) rfl ?_) | (refine Ret.goQP (l01In_ret _ _ _) rfl ?_) | (refine Ret.goP (l02Month_ret _) rfl ?_) | (refine Ret.goQP (l02Month_ret _) rfl ?_) | (refine Ret.goP (l14Open_ret _) rfl ?_) | (refine Ret.goQP (l14Open_ret _) rfl ?_))
  all_goals first | exact bv_true (by unfold rowM; omega) | exact bv_false (by unfold rowM; omega)
set_option maxRecDepth 100000 in
theorem isMember_ret (a b c d e : Int) : Ret Try.prog G 24 [VMember a b c d e] (Bo (decide (rowM a b c d e))) := by
  refine ret_of_body hT Try.func24 rfl ?_ rfl
  repeat' (first | (intro h; first | contradiction | omega | (conv => whnf) | skip) | (refine And.intro ?_ ?_) | (refine arith_ok ⟨by omega, by omega⟩ ?_) | (first | (refine draw_quiet hT mixed (by decide +kernel) ?_) | (refine draw_hard hT mixed (by decide +kernel) ?_)) | (refine Ret.goP (inRange_ret _ _ _) rfl ?_) | (refine Ret.goQP (inRange_ret _ _ _) rfl ?_) | (refine Ret.goP (isMonth_ret _) rfl ?_) | (refine Ret.goQP (isMonth_ret _) rfl ?_))
  all_goals first | exact bv_true (by unfold rowM; omega) | exact bv_false (by unfold rowM; omega)
set_option maxRecDepth 100000 in
theorem l26Is_ret (a b c d e n : Int) : Ret Try.prog G 28 [VMember a b c d e, I n] (Bo (decide (isIn c d n))) := by
  refine ret_of_body hT Try.func28 rfl ?_ rfl
  repeat' (first | (intro h; first | contradiction | omega | (conv => whnf) | skip) | (refine And.intro ?_ ?_) | (refine arith_ok ⟨by omega, by omega⟩ ?_) | (first | (refine draw_quiet hT mixed (by decide +kernel) ?_) | (refine draw_hard hT mixed (by decide +kernel) ?_)) | fail)
  all_goals first | exact bv_true (by unfold isIn; omega) | exact bv_false (by unfold isIn; omega)
set_option maxRecDepth 100000 in
theorem isIn_ret (a b c d e n : Int) : Ret Try.prog G 37 [VMember a b c d e, I n] (Bo (decide (isIn c d n))) := by
  refine ret_of_body hT Try.func37 rfl ?_ rfl
  repeat' (first | (intro h; first | contradiction | omega | (conv => whnf) | skip) | (refine And.intro ?_ ?_) | (refine arith_ok ⟨by omega, by omega⟩ ?_) | (first | (refine draw_quiet hT mixed (by decide +kernel) ?_) | (refine draw_hard hT mixed (by decide +kernel) ?_)) | fail)
  all_goals first | exact bv_true (by unfold isIn; omega) | exact bv_false (by unfold isIn; omega)
end Go.Proofs.Ytgkohaggllicnaa
