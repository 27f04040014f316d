/-
  Single claims: what the small functions return. No conditions but those in the statements.
-/
import Derived.Test.YtpgckkoogicplaaDoorMonth
set_option linter.unusedVariables false
set_option linter.unusedSimpArgs false
namespace Go.Proofs.YtpgckkoogicplaaDoor
open Go.AE

attribute [local irreducible] CallA LoopA DrawA CallQ arithK quoK remK eqK
abbrev C6 (m k f a p s : Int) : AV := .agg [I m, I k, I f, I a, I p, I s]
def need (k : Int) : Int := needs.getD k.toNat 0
def miss (k p : Int) : Int := bitsI .andNot .i64 (need k) p
def isCl (m k f a p s : Int) : Prop := (1 ≤ m ∧ m ≤ 1000000) ∧ (0 ≤ k ∧ k ≤ 3) ∧ (0 ≤ f ∧ f ≤ 35999) ∧ (1 ≤ a ∧ a ≤ 100000000) ∧ (0 ≤ p ∧ p ≤ 31) ∧ (0 ≤ s ∧ s ≤ 3) ∧ (s = 0 ∨ s = 2 ∨ miss k p = 0)
instance (m k f a p s : Int) : Decidable (isCl m k f a p s) := by unfold isCl; infer_instance
set_option maxRecDepth 100000 in
theorem l07Sum_ret (n : Int) : Ret Tryd.prog G 46 [I n] (Bo (decide (1 ≤ n ∧ n ≤ 100000000))) := by
  refine ret_of_body hT Tryd.func46 rfl ?_ rfl
  repeat' (first | (intro h; first | contradiction | omega | (conv => whnf) | skip) | (refine And.intro ?_ ?_) | (refine arith_ok ⟨by omega, by omega⟩ ?_) | (first | (refine draw_quiet hT mixed (by decide +kernel) ?_) | (refine draw_hard hT mixed (by decide +kernel) ?_)) | (refine Ret.goP (l01In_ret _ _ _) rfl ?_) | (refine Ret.goQP (l01In_ret _ _ _) rfl ?_))
  all_goals (first | exact bv_true (by omega) | exact bv_false (by omega))
set_option maxRecDepth 100000 in
theorem l25Needed_ret (k : Int) (hk : 0 ≤ k ∧ k ≤ 3) : Ret Tryd.prog G 43 [I k] (I (need k)) := by
  refine ret_of_body hT Tryd.func43 rfl ?_ rfl
  repeat' (first | (intro h; first | contradiction | omega | (conv => whnf) | skip) | (refine And.intro ?_ ?_) | (refine arith_ok ⟨by omega, by omega⟩ ?_) | (first | (refine draw_quiet hT mixed (by decide +kernel) ?_) | (refine draw_hard hT mixed (by decide +kernel) ?_)) | fail)
  all_goals first | omega | rfl | (show _ < ([19, 18, 4, 25] : List Int).length; simp; omega)
set_option maxRecDepth 100000 in
theorem l25Missing_ret (m k f a p s : Int) (hk : 0 ≤ k ∧ k ≤ 3) : Ret Tryd.prog G 47 [C6 m k f a p s] (I (miss k p)) := by
  refine ret_of_body hT Tryd.func47 rfl ?_ rfl
  repeat' (first | (intro h; first | contradiction | omega | (conv => whnf) | skip) | (refine And.intro ?_ ?_) | (refine arith_ok ⟨by omega, by omega⟩ ?_) | (first | (refine draw_quiet hT mixed (by decide +kernel) ?_) | (refine draw_hard hT mixed (by decide +kernel) ?_)) | (refine Ret.go (l25Needed_ret _ hk) rfl rfl ?_) | (refine Ret.goQ (l25Needed_ret _ hk) rfl rfl ?_) | (refine eq_ok ?_))
  all_goals first | omega | rfl
set_option maxRecDepth 100000 in
theorem missing_ret (m k f a p s : Int) (hk : 0 ≤ k ∧ k ≤ 3) : Ret Tryd.prog G 49 [C6 m k f a p s] (I (miss k p)) := by
  refine ret_of_body hT Tryd.func49 rfl ?_ rfl
  repeat' (first | (intro h; first | contradiction | omega | (conv => whnf) | skip) | (refine And.intro ?_ ?_) | (refine arith_ok ⟨by omega, by omega⟩ ?_) | (first | (refine draw_quiet hT mixed (by decide +kernel) ?_) | (refine draw_hard hT mixed (by decide +kernel) ?_)) | (refine eq_ok ?_))
  all_goals first | omega | rfl | (show _ < needs.length; simp [needs]; omega)
set_option maxRecDepth 100000 in
theorem specIsClaim_ret (m k f a p s : Int) : Ret Tryd.prog G 14 [C6 m k f a p s] (Bo (decide (isCl m k f a p s))) := by
  refine ret_of_body hT Tryd.func14 rfl ?_ rfl
  repeat' (first | (intro h; first | contradiction | omega | (conv => whnf) | skip) | (refine And.intro ?_ ?_) | (refine arith_ok ⟨by omega, by omega⟩ ?_) | (first | (refine draw_quiet hT mixed (by decide +kernel) ?_) | (refine draw_hard hT mixed (by decide +kernel) ?_)) | (refine Ret.goP (l01In_ret _ _ _) rfl ?_) | (refine Ret.goQP (l01In_ret _ _ _) rfl ?_) | (refine Ret.goP (l02Month_ret _) rfl ?_) | (refine Ret.goQP (l02Month_ret _) rfl ?_) | (refine Ret.goP (l07Sum_ret _) rfl ?_) | (refine Ret.goQP (l07Sum_ret _) rfl ?_) | (refine Ret.go (l25Missing_ret _ _ _ _ _ _ (by omega)) rfl rfl ?_) | (refine Ret.goQ (l25Missing_ret _ _ _ _ _ _ (by omega)) rfl rfl ?_))
  all_goals (first | exact bv_true (by unfold isCl; omega) | exact bv_false (by unfold isCl; omega))
set_option maxRecDepth 100000 in
theorem implIsClaim_ret (m k f a p s : Int) : Ret Tryd.prog G 16 [C6 m k f a p s] (Bo (decide (isCl m k f a p s))) := by
  refine ret_of_body hT Tryd.func16 rfl ?_ rfl
  repeat' (first | (intro h; first | contradiction | omega | (conv => whnf) | skip) | (refine And.intro ?_ ?_) | (refine arith_ok ⟨by omega, by omega⟩ ?_) | (first | (refine draw_quiet hT mixed (by decide +kernel) ?_) | (refine draw_hard hT mixed (by decide +kernel) ?_)) | (refine Ret.goP (inRange_ret _ _ _) rfl ?_) | (refine Ret.goQP (inRange_ret _ _ _) rfl ?_) | (refine Ret.goP (isMonth_ret _) rfl ?_) | (refine Ret.goQP (isMonth_ret _) rfl ?_) | (refine Ret.go (missing_ret _ _ _ _ _ _ (by omega)) rfl rfl ?_) | (refine Ret.goQ (missing_ret _ _ _ _ _ _ (by omega)) rfl rfl ?_))
  all_goals (first | exact bv_true (by unfold isCl; omega) | exact bv_false (by unfold isCl; omega))
set_option maxRecDepth 100000 in
theorem toClaim_ret (m k f a p s : Int) : Ret Tryd.prog G 15 [C6 m k f a p s] (C6 m k f a p s) := by
  refine ret_of_body hT Tryd.func15 rfl ?_ rfl
  repeat' (first | (intro h; first | contradiction | omega | (conv => whnf) | skip) | (refine And.intro ?_ ?_) | (refine arith_ok ⟨by omega, by omega⟩ ?_) | (first | (refine draw_quiet hT mixed (by decide +kernel) ?_) | (refine draw_hard hT mixed (by decide +kernel) ?_)) | fail)
  all_goals rfl
set_option maxRecDepth 100000 in
theorem eqClaim_ret (m k f a p s m' k' f' a' p' s' : Int) : Ret Tryd.prog G 21 [C6 m k f a p s, C6 m' k' f' a' p' s'] (Bo (decide (m = m' ∧ k = k' ∧ f = f' ∧ a = a' ∧ p = p' ∧ s = s'))) := by
  refine ret_of_body hT Tryd.func21 rfl ?_ rfl
  repeat' (first | (intro h; first | contradiction | omega | (conv => whnf) | skip) | (refine And.intro ?_ ?_) | (refine arith_ok ⟨by omega, by omega⟩ ?_) | (first | (refine draw_quiet hT mixed (by decide +kernel) ?_) | (refine draw_hard hT mixed (by decide +kernel) ?_)) | fail)
  all_goals (first | exact bv_true (by omega) | exact bv_false (by omega))
/-! ### Needed and missing papers -/
def needP (k : Int) : Int × Int := if 0 ≤ k ∧ k ≤ 3 then (need k, 0) else (0, 2)
set_option maxRecDepth 100000 in
theorem specNeeded_ret (k : Int) : Ret Tryd.prog G 12 [I k] (.tup [I (needP k).1, I (needP k).2]) := by
  refine ret_of_body hT Tryd.func12 rfl ?_ rfl
  repeat' (first | (intro h; first | contradiction | omega | (conv => whnf) | skip) | (refine And.intro ?_ ?_) | (refine arith_ok ⟨by omega, by omega⟩ ?_) | (first | (refine draw_quiet hT mixed (by decide +kernel) ?_) | (refine draw_hard hT mixed (by decide +kernel) ?_)) | (refine Ret.goP (l01In_ret _ _ _) rfl ?_) | (refine Ret.goQP (l01In_ret _ _ _) rfl ?_) | (refine Ret.go (l25Needed_ret _ (by omega)) rfl rfl ?_) | (refine Ret.goQ (l25Needed_ret _ (by omega)) rfl rfl ?_))
  all_goals (show (_ : AV) = _; unfold needP; first | (rw [if_pos (by omega)] <;> rfl) | (rw [if_neg (by omega)] <;> rfl))
set_option maxRecDepth 100000 in
theorem implNeeded_ret (k : Int) : Ret Tryd.prog G 13 [I k] (.tup [I (needP k).1, I (needP k).2]) := by
  refine ret_of_body hT Tryd.func13 rfl ?_ rfl
  repeat' (first | (intro h; first | contradiction | omega | (conv => whnf) | skip) | (refine And.intro ?_ ?_) | (refine arith_ok ⟨by omega, by omega⟩ ?_) | (first | (refine draw_quiet hT mixed (by decide +kernel) ?_) | (refine draw_hard hT mixed (by decide +kernel) ?_)) | (refine Ret.goP (inRange_ret _ _ _) rfl ?_) | (refine Ret.goQP (inRange_ret _ _ _) rfl ?_))
  all_goals first | omega | (show _ < needs.length; simp [needs]; omega) | (show (_ : AV) = _; unfold needP; first | (rw [if_pos (by omega)] <;> rfl) | (rw [if_neg (by omega)] <;> rfl))
set_option maxRecDepth 100000 in
theorem lawNeeded_ret (k : Int) : Ret Tryd.prog G 3 [I k] (Bo true) := by
  refine ret_of_body hT Tryd.func3 rfl ?_ rfl
  repeat' (first | (intro h; first | contradiction | omega | (conv => whnf) | skip) | (refine And.intro ?_ ?_) | (refine arith_ok ⟨by omega, by omega⟩ ?_) | (first | (refine draw_quiet hT mixed (by decide +kernel) ?_) | (refine draw_hard hT mixed (by decide +kernel) ?_)) | (refine Ret.go (specNeeded_ret _) rfl rfl ?_) | (refine Ret.goQ (specNeeded_ret _) rfl rfl ?_) | (refine Ret.go (implNeeded_ret _) rfl rfl ?_) | (refine Ret.goQ (implNeeded_ret _) rfl rfl ?_))
  all_goals rfl
set_option maxRecDepth 100000 in
theorem lawIsClaim_ret (m k f a p s : Int) : Ret Tryd.prog G 4 [C6 m k f a p s] (Bo true) := by
  refine ret_of_body hT Tryd.func4 rfl ?_ rfl
  repeat' (first | (intro h; first | contradiction | omega | (conv => whnf) | skip) | (refine And.intro ?_ ?_) | (refine arith_ok ⟨by omega, by omega⟩ ?_) | (first | (refine draw_quiet hT mixed (by decide +kernel) ?_) | (refine draw_hard hT mixed (by decide +kernel) ?_)) | (refine Ret.go (toClaim_ret _ _ _ _ _ _) rfl rfl ?_) | (refine Ret.goQ (toClaim_ret _ _ _ _ _ _) rfl rfl ?_) | (refine Ret.goP (specIsClaim_ret _ _ _ _ _ _) rfl ?_) | (refine Ret.goQP (specIsClaim_ret _ _ _ _ _ _) rfl ?_) | (refine Ret.goP (implIsClaim_ret _ _ _ _ _ _) rfl ?_) | (refine Ret.goQP (implIsClaim_ret _ _ _ _ _ _) rfl ?_))
  all_goals rfl
end Go.Proofs.YtpgckkoogicplaaDoor
