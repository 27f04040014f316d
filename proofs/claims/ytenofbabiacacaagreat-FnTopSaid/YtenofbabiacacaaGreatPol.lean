/-
  Lists of structs (Policy): copies, equality, marks. No conditions but those in the statements.
-/
import Derived.Test.YtenofbabiacacaaGreatIn
set_option linter.unusedVariables false
set_option linter.unusedSimpArgs false
namespace Go.Proofs.YtenofbabiacacaaGreat
open Go.AE

attribute [local irreducible] CallA LoopA DrawA CallQ arithK quoK remK eqK
abbrev VPolicy (a0 a1 a2 a3 a4 : Int) : AV := .agg [I a0, I a1, I a2, I a3, I a4]
abbrev WPolicy (r : List Int) : AV := .agg [I (r.getD 0 0), I (r.getD 1 0), I (r.getD 2 0), I (r.getD 3 0), I (r.getD 4 0)]
abbrev RPolicy (xss : List (List Int)) : AV := .ro (.recs 5 xss)
abbrev DPolicy (xss : List (List Int)) : Blk := .data (.recs 5 xss)
theorem lenPolicy {r : List Int} (h : r.length = 5) : ∃ a0 a1 a2 a3 a4, r = [a0, a1, a2, a3, a4] := by
  match r, h with
  | [a0, a1, a2, a3, a4], _ => exact ⟨_, _, _, _, _, rfl⟩
theorem etaPolicy {r : List Int} (h : r.length = 5) : [r.getD 0 0, r.getD 1 0, r.getD 2 0, r.getD 3 0, r.getD 4 0] = r := by
  obtain ⟨a0, a1, a2, a3, a4, rfl⟩ := lenPolicy h
  rfl
set_option maxRecDepth 100000 in
theorem toPolicy_ret (a0 a1 a2 a3 a4 : Int) : Ret Tryz.prog G 123 [VPolicy a0 a1 a2 a3 a4] (VPolicy a0 a1 a2 a3 a4) := by
  refine ret_of_body hT Tryz.func123 rfl ?_ rfl
  repeat' (first | (intro h; first | contradiction | omega | (conv => whnf) | skip) | (refine And.intro ?_ ?_) | (refine arith_ok ⟨by omega, by omega⟩ ?_) | (first | (refine draw_quiet hT mixed (by decide +kernel) ?_) | (refine draw_hard hT mixed (by decide +kernel) ?_)) | fail)
  all_goals rfl
set_option maxRecDepth 100000 in
theorem eqPolicy_ret (a0 a1 a2 a3 a4 b0 b1 b2 b3 b4 : Int) : Ret Tryz.prog G 124 [VPolicy a0 a1 a2 a3 a4, VPolicy b0 b1 b2 b3 b4] (Bo (decide (a0 = b0 ∧ a1 = b1 ∧ a2 = b2 ∧ a3 = b3 ∧ a4 = b4))) := by
  refine ret_of_body hT Tryz.func124 rfl ?_ rfl
  repeat' (first | (intro h; first | contradiction | omega | (conv => whnf) | skip) | (refine And.intro ?_ ?_) | (refine arith_ok ⟨by omega, by omega⟩ ?_) | (first | (refine draw_quiet hT mixed (by decide +kernel) ?_) | (refine draw_hard hT mixed (by decide +kernel) ?_)) | fail)
  all_goals (first | exact bv_true (by omega) | exact bv_false (by omega))
end Go.Proofs.YtenofbabiacacaaGreat
