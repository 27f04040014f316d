/-
  The small functions of the laws: what they return. No conditions but those in the statements.
-/
import Derived.Test.YtnfddmbnkbigmaaInts
import Derived.Test.YtnfddmbnkbigmaaDraw
set_option linter.unusedVariables false
set_option linter.unusedSimpArgs false
namespace Go.Proofs.Ytnfddmbnkbigmaa
open Go.AE

attribute [local irreducible] CallA LoopA DrawA CallQ arithK quoK remK eqK
set_option maxRecDepth 100000 in
theorem big_ret (code : List Int) : Ret Try.prog G 24 [Rb code] (Bo (decide ((4096 : Int) < code.length))) := by
  refine ret_of_body hT Try.func24 rfl ?_ rfl
  repeat' (first | (intro h; first | contradiction | omega | (conv => whnf) | skip) | (refine And.intro ?_ ?_) | (refine arith_ok ⟨by omega, by omega⟩ ?_) | (first | (refine draw_quiet hT mixed (by decide +kernel) ?_) | (refine draw_hard hT mixed (by decide +kernel) ?_)) | fail)
  all_goals first | exact bv_true (by assumption) | exact bv_false (by assumption)
set_option maxRecDepth 100000 in
theorem likeInts_ret (xs ys : List Int) (hn : xs.length ≤ 2305843009213693952) : Ret Try.prog G 30 [Ri xs, Ri ys] (Bo (decide (xs = ys))) := by
  refine ret_of_body hT Try.func30 rfl ?_ rfl
  repeat' (first | (intro h; first | contradiction | omega | (conv => whnf) | skip) | (refine And.intro ?_ ?_) | (refine arith_ok ⟨by omega, by omega⟩ ?_) | (first | (refine draw_quiet hT mixed (by decide +kernel) ?_) | (refine draw_hard hT mixed (by decide +kernel) ?_)) | fail)
  · exact bv_false (fun e => by subst e; omega)
  refine loop_rule hT (fun i : Nat => i ≤ xs.length ∧ xs.take i = ys.take i) 26 0 [0, 1, 5] (fun i => [Ri xs, Ri ys, I i]) (fun _ => []) (fun i => xs.length - i) (0) (Nat.le_of_ble_eq_true rfl) ?_ ?_ ?_
  · exact ⟨Nat.zero_le _, rfl⟩
  · (refine ⟨rfl, [], ?_, ?_⟩; all_goals (repeat' (first | exact rfl | exact trivial | (with_reducible assumption) | refine And.intro ?_ ?_ | omega)))
  · rintro i ⟨h1, h2⟩
    repeat' (first | (intro h; first | contradiction | omega | (conv => whnf) | skip) | (refine And.intro ?_ ?_) | (refine arith_ok ⟨by omega, by omega⟩ ?_) | (first | (refine draw_quiet hT mixed (by decide +kernel) ?_) | (refine draw_hard hT mixed (by decide +kernel) ?_)) | fail)
    all_goals first | omega | skip
    · refine bv_false (fun e => ?_)
      subst e
      contradiction
    · have he : xs.getD i 0 = ys.getD i 0 := Decidable.of_not_not (by assumption)
      refine ⟨i + 1, ⟨by omega, ?_⟩, ?_, by omega⟩
      · rw [take_snoc 0 (by omega), take_snoc 0 (by omega), h2, he]
      · (refine ⟨rfl, [], ?_, ?_⟩; all_goals (repeat' (first | exact rfl | exact trivial | (with_reducible assumption) | refine And.intro ?_ ?_ | omega)))
    · refine bv_true ?_
      rwa [take_all (by omega), take_all (by omega)] at h2
end Go.Proofs.Ytnfddmbnkbigmaa
