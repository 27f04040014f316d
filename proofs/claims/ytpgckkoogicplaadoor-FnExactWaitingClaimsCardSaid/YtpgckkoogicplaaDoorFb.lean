/-
  Single claims: missing papers, payment, papers handed in, decisions: what the functions return. No conditions but those in the statements.
-/
import Derived.Test.YtpgckkoogicplaaDoorFa
set_option linter.unusedVariables false
set_option linter.unusedSimpArgs false
namespace Go.Proofs.YtpgckkoogicplaaDoor
open Go.AE

attribute [local irreducible] CallA LoopA DrawA CallQ arithK quoK remK eqK
def sel (c : Prop) [Decidable c] (x : Int) : Int := if c then x else 0
/-! ### Missing papers -/
abbrev missR (m k f a p s : Int) : AV := .tup [I (if isCl m k f a p s then miss k p else 0), I (if isCl m k f a p s then 0 else 1)]
theorem isCl_kind {m k f a p s : Int} (h : isCl m k f a p s) : 0 ≤ k ∧ k ≤ 3 := h.2.1
set_option maxRecDepth 100000 in
theorem specMissing_ret (m k f a p s : Int) : Ret Tryd.prog G 17 [C6 m k f a p s] (missR m k f a p s) := by
  refine ret_of_body hT Tryd.func17 rfl ?_ rfl
  repeat' (first | (intro h; first | contradiction | omega | (conv => whnf) | skip) | (refine And.intro ?_ ?_) | (refine arith_ok ⟨by omega, by omega⟩ ?_) | (first | (refine draw_quiet hT mixed (by decide +kernel) ?_) | (refine draw_hard hT mixed (by decide +kernel) ?_)) | (refine Ret.goP (specIsClaim_ret _ _ _ _ _ _) rfl ?_) | (refine Ret.goQP (specIsClaim_ret _ _ _ _ _ _) rfl ?_) | (refine Ret.go (l25Missing_ret _ _ _ _ _ _ (isCl_kind (by assumption))) rfl rfl ?_) | (refine Ret.goQ (l25Missing_ret _ _ _ _ _ _ (isCl_kind (by assumption))) rfl rfl ?_))
  all_goals first | omega | (show (_ : AV) = _; simp [*]; done)
set_option maxRecDepth 100000 in
theorem implMissing_ret (m k f a p s : Int) : Ret Tryd.prog G 18 [C6 m k f a p s] (missR m k f a p s) := by
  refine ret_of_body hT Tryd.func18 rfl ?_ rfl
  repeat' (first | (intro h; first | contradiction | omega | (conv => whnf) | skip) | (refine And.intro ?_ ?_) | (refine arith_ok ⟨by omega, by omega⟩ ?_) | (first | (refine draw_quiet hT mixed (by decide +kernel) ?_) | (refine draw_hard hT mixed (by decide +kernel) ?_)) | (refine Ret.goP (implIsClaim_ret _ _ _ _ _ _) rfl ?_) | (refine Ret.goQP (implIsClaim_ret _ _ _ _ _ _) rfl ?_) | (refine Ret.go (missing_ret _ _ _ _ _ _ (isCl_kind (by assumption))) rfl rfl ?_) | (refine Ret.goQ (missing_ret _ _ _ _ _ _ (isCl_kind (by assumption))) rfl rfl ?_))
  all_goals first | omega | (show (_ : AV) = _; simp [*]; done)
set_option maxRecDepth 100000 in
theorem lawMissing_ret (m k f a p s : Int) : Ret Tryd.prog G 5 [C6 m k f a p s] (Bo true) := by
  refine ret_of_body hT Tryd.func5 rfl ?_ rfl
  repeat' (first | (intro h; first | contradiction | omega | (conv => whnf) | skip) | (refine And.intro ?_ ?_) | (refine arith_ok ⟨by omega, by omega⟩ ?_) | (first | (refine draw_quiet hT mixed (by decide +kernel) ?_) | (refine draw_hard hT mixed (by decide +kernel) ?_)) | (refine Ret.go (toClaim_ret _ _ _ _ _ _) rfl rfl ?_) | (refine Ret.goQ (toClaim_ret _ _ _ _ _ _) rfl rfl ?_) | (refine Ret.go (specMissing_ret _ _ _ _ _ _) rfl rfl ?_) | (refine Ret.goQ (specMissing_ret _ _ _ _ _ _) rfl rfl ?_) | (refine Ret.go (implMissing_ret _ _ _ _ _ _) rfl rfl ?_) | (refine Ret.goQ (implMissing_ret _ _ _ _ _ _) rfl rfl ?_))
  all_goals rfl
/-! ### Payment -/
def payOk (m k f a p s : Int) : Prop := isCl m k f a p s ∧ s = 1
instance (m k f a p s : Int) : Decidable (payOk m k f a p s) := by unfold payOk; infer_instance
abbrev payR (m k f a p s : Int) : AV := .tup [C6 (sel (payOk m k f a p s) m) (sel (payOk m k f a p s) k) (sel (payOk m k f a p s) f) (sel (payOk m k f a p s) a) (sel (payOk m k f a p s) p) (sel (payOk m k f a p s) 3),
  I (sel (payOk m k f a p s) a), I (if isCl m k f a p s then (if s = 1 then 0 else 5) else 1)]
set_option maxRecDepth 100000 in
theorem specPay_ret (m k f a p s : Int) : Ret Tryd.prog G 19 [C6 m k f a p s] (payR m k f a p s) := by
  refine ret_of_body hT Tryd.func19 rfl ?_ rfl
  repeat' (first | (intro h; first | contradiction | omega | (conv => whnf) | skip) | (refine And.intro ?_ ?_) | (refine arith_ok ⟨by omega, by omega⟩ ?_) | (first | (refine draw_quiet hT mixed (by decide +kernel) ?_) | (refine draw_hard hT mixed (by decide +kernel) ?_)) | (refine Ret.goP (specIsClaim_ret _ _ _ _ _ _) rfl ?_) | (refine Ret.goQP (specIsClaim_ret _ _ _ _ _ _) rfl ?_))
  all_goals first | omega | (show (_ : AV) = _; simp [sel, payOk, *]; done)
set_option maxRecDepth 100000 in
theorem implPay_ret (m k f a p s : Int) : Ret Tryd.prog G 20 [C6 m k f a p s] (payR m k f a p s) := by
  refine ret_of_body hT Tryd.func20 rfl ?_ rfl
  repeat' (first | (intro h; first | contradiction | omega | (conv => whnf) | skip) | (refine And.intro ?_ ?_) | (refine arith_ok ⟨by omega, by omega⟩ ?_) | (first | (refine draw_quiet hT mixed (by decide +kernel) ?_) | (refine draw_hard hT mixed (by decide +kernel) ?_)) | (refine Ret.goP (implIsClaim_ret _ _ _ _ _ _) rfl ?_) | (refine Ret.goQP (implIsClaim_ret _ _ _ _ _ _) rfl ?_))
  all_goals first | omega | (show (_ : AV) = _; simp [sel, payOk, *]; done)
set_option maxRecDepth 100000 in
theorem lawPay_ret (m k f a p s : Int) : Ret Tryd.prog G 6 [C6 m k f a p s] (Bo true) := by
  refine ret_of_body hT Tryd.func6 rfl ?_ rfl
  repeat' (first | (intro h; first | contradiction | omega | (conv => whnf) | skip) | (refine And.intro ?_ ?_) | (refine arith_ok ⟨by omega, by omega⟩ ?_) | (first | (refine draw_quiet hT mixed (by decide +kernel) ?_) | (refine draw_hard hT mixed (by decide +kernel) ?_)) | (refine Ret.go (toClaim_ret _ _ _ _ _ _) rfl rfl ?_) | (refine Ret.goQ (toClaim_ret _ _ _ _ _ _) rfl rfl ?_) | (refine Ret.go (specPay_ret _ _ _ _ _ _) rfl rfl ?_) | (refine Ret.goQ (specPay_ret _ _ _ _ _ _) rfl rfl ?_) | (refine Ret.go (implPay_ret _ _ _ _ _ _) rfl rfl ?_) | (refine Ret.goQ (implPay_ret _ _ _ _ _ _) rfl rfl ?_) | (refine Ret.goP (eqClaim_ret _ _ _ _ _ _ _ _ _ _ _ _) rfl ?_) | (refine Ret.goQP (eqClaim_ret _ _ _ _ _ _ _ _ _ _ _ _) rfl ?_))
  all_goals rfl
/-! ### Papers handed in -/
def handOk (m k f a p s q : Int) : Prop := isCl m k f a p s ∧ (0 ≤ q ∧ q ≤ 31) ∧ s = 0
instance (m k f a p s q : Int) : Decidable (handOk m k f a p s q) := by unfold handOk; infer_instance
abbrev handR (m k f a p s q : Int) : AV := .tup [C6 (sel (handOk m k f a p s q) m) (sel (handOk m k f a p s q) k) (sel (handOk m k f a p s q) f) (sel (handOk m k f a p s q) a) (sel (handOk m k f a p s q) (bitsI .or .i64 p q)) (sel (handOk m k f a p s q) s),
  I (if isCl m k f a p s then (if 0 ≤ q ∧ q ≤ 31 then (if s = 0 then 0 else 5) else 2) else 1)]
set_option maxRecDepth 100000 in
theorem specHand_ret (m k f a p s q : Int) : Ret Tryd.prog G 22 [C6 m k f a p s, I q] (handR m k f a p s q) := by
  refine ret_of_body hT Tryd.func22 rfl ?_ rfl
  repeat' (first | (intro h; first | contradiction | omega | (conv => whnf) | skip) | (refine And.intro ?_ ?_) | (refine arith_ok ⟨by omega, by omega⟩ ?_) | (first | (refine draw_quiet hT mixed (by decide +kernel) ?_) | (refine draw_hard hT mixed (by decide +kernel) ?_)) | (refine Ret.goP (specIsClaim_ret _ _ _ _ _ _) rfl ?_) | (refine Ret.goQP (specIsClaim_ret _ _ _ _ _ _) rfl ?_) | (refine Ret.goP (l01In_ret _ _ _) rfl ?_) | (refine Ret.goQP (l01In_ret _ _ _) rfl ?_) | (refine eq_ok ?_))
  all_goals first | omega | (show (_ : AV) = _; simp [sel, handOk, *]; done)
set_option maxRecDepth 100000 in
theorem implHand_ret (m k f a p s q : Int) : Ret Tryd.prog G 23 [C6 m k f a p s, I q] (handR m k f a p s q) := by
  refine ret_of_body hT Tryd.func23 rfl ?_ rfl
  repeat' (first | (intro h; first | contradiction | omega | (conv => whnf) | skip) | (refine And.intro ?_ ?_) | (refine arith_ok ⟨by omega, by omega⟩ ?_) | (first | (refine draw_quiet hT mixed (by decide +kernel) ?_) | (refine draw_hard hT mixed (by decide +kernel) ?_)) | (refine Ret.goP (implIsClaim_ret _ _ _ _ _ _) rfl ?_) | (refine Ret.goQP (implIsClaim_ret _ _ _ _ _ _) rfl ?_) | (refine Ret.goP (inRange_ret _ _ _) rfl ?_) | (refine Ret.goQP (inRange_ret _ _ _) rfl ?_) | (refine eq_ok ?_))
  all_goals first | omega | (show (_ : AV) = _; simp [sel, handOk, *]; done)
set_option maxRecDepth 100000 in
theorem lawHand_ret (m k f a p s q : Int) : Ret Tryd.prog G 7 [C6 m k f a p s, I q] (Bo true) := by
  refine ret_of_body hT Tryd.func7 rfl ?_ rfl
  repeat' (first | (intro h; first | contradiction | omega | (conv => whnf) | skip) | (refine And.intro ?_ ?_) | (refine arith_ok ⟨by omega, by omega⟩ ?_) | (first | (refine draw_quiet hT mixed (by decide +kernel) ?_) | (refine draw_hard hT mixed (by decide +kernel) ?_)) | (refine Ret.go (toClaim_ret _ _ _ _ _ _) rfl rfl ?_) | (refine Ret.goQ (toClaim_ret _ _ _ _ _ _) rfl rfl ?_) | (refine Ret.go (specHand_ret _ _ _ _ _ _ _) rfl rfl ?_) | (refine Ret.goQ (specHand_ret _ _ _ _ _ _ _) rfl rfl ?_) | (refine Ret.go (implHand_ret _ _ _ _ _ _ _) rfl rfl ?_) | (refine Ret.goQ (implHand_ret _ _ _ _ _ _ _) rfl rfl ?_) | (refine Ret.goP (eqClaim_ret _ _ _ _ _ _ _ _ _ _ _ _) rfl ?_) | (refine Ret.goQP (eqClaim_ret _ _ _ _ _ _ _ _ _ _ _ _) rfl ?_))
  all_goals rfl
/-! ### Decisions -/
set_option maxRecDepth 100000 in
theorem l25Late_ret (m k f a p s n : Int) (h : 0 ≤ n ∧ n ≤ 35999) (hf : 0 ≤ f ∧ f ≤ 35999) : Ret Tryd.prog G 50 [C6 m k f a p s, I n] (Bo (decide (24 < n - f))) := by
  refine ret_of_body hT Tryd.func50 rfl ?_ rfl
  repeat' (first | (intro h; first | contradiction | omega | (conv => whnf) | skip) | (refine And.intro ?_ ?_) | (refine arith_ok ⟨by omega, by omega⟩ ?_) | (first | (refine draw_quiet hT mixed (by decide +kernel) ?_) | (refine draw_hard hT mixed (by decide +kernel) ?_)) | fail)
  all_goals (first | exact bv_true (by omega) | exact bv_false (by omega))
set_option maxRecDepth 100000 in
theorem grantable_ret (m k f a p s n : Int) (h : 0 ≤ n ∧ n ≤ 35999) (hf : 0 ≤ f ∧ f ≤ 35999) (hk : 0 ≤ k ∧ k ≤ 3) : Ret Tryd.prog G 51 [C6 m k f a p s, I n] (Bo (decide (miss k p = 0 ∧ n - f ≤ 24))) := by
  refine ret_of_body hT Tryd.func51 rfl ?_ rfl
  repeat' (first | (intro h; first | contradiction | omega | (conv => whnf) | skip) | (refine And.intro ?_ ?_) | (refine arith_ok ⟨by omega, by omega⟩ ?_) | (first | (refine draw_quiet hT mixed (by decide +kernel) ?_) | (refine draw_hard hT mixed (by decide +kernel) ?_)) | (refine Ret.go (missing_ret _ _ _ _ _ _ hk) rfl rfl ?_) | (refine Ret.goQ (missing_ret _ _ _ _ _ _ hk) rfl rfl ?_))
  all_goals (first | exact bv_true (by omega) | exact bv_false (by omega))
def decOk (m k f a p s n : Int) (g : Bool) : Prop := isCl m k f a p s ∧ (0 ≤ n ∧ n ≤ 35999) ∧ s = 0 ∧ f ≤ n ∧ (g = true → miss k p = 0 ∧ n - f ≤ 24)
instance (m k f a p s n : Int) (g : Bool) : Decidable (decOk m k f a p s n g) := by unfold decOk; infer_instance
def decCode (m k f a p s n : Int) (g : Bool) : Int := if ¬ isCl m k f a p s then 1 else if ¬ (0 ≤ n ∧ n ≤ 35999) then 2 else if decOk m k f a p s n g then 0 else 5
abbrev decR (m k f a p s n : Int) (g : Bool) : AV := .tup [C6 (sel (decOk m k f a p s n g) m) (sel (decOk m k f a p s n g) k) (sel (decOk m k f a p s n g) f) (sel (decOk m k f a p s n g) a) (sel (decOk m k f a p s n g) p) (sel (decOk m k f a p s n g) (if g then 1 else 2)),
  I (decCode m k f a p s n g)]
theorem isCl_filed {m k f a p s : Int} (h : isCl m k f a p s) : 0 ≤ f ∧ f ≤ 35999 := h.2.2.1
set_option maxRecDepth 100000 in
theorem specDecide_ret (m k f a p s n : Int) (g : Bool) : Ret Tryd.prog G 24 [C6 m k f a p s, Bo g, I n] (decR m k f a p s n g) := by
  refine ret_of_body hT Tryd.func24 rfl ?_ rfl
  cases g
  all_goals
    repeat' (first | (intro h; first | contradiction | omega | (conv => whnf) | skip) | (refine And.intro ?_ ?_) | (refine arith_ok ⟨by omega, by omega⟩ ?_) | (first | (refine draw_quiet hT mixed (by decide +kernel) ?_) | (refine draw_hard hT mixed (by decide +kernel) ?_)) | (refine Ret.goP (specIsClaim_ret _ _ _ _ _ _) rfl ?_) | (refine Ret.goQP (specIsClaim_ret _ _ _ _ _ _) rfl ?_) | (refine Ret.goP (l02Month_ret _) rfl ?_) | (refine Ret.goQP (l02Month_ret _) rfl ?_) | (refine Ret.go (l25Missing_ret _ _ _ _ _ _ (isCl_kind (by assumption))) rfl rfl ?_) | (refine Ret.goQ (l25Missing_ret _ _ _ _ _ _ (isCl_kind (by assumption))) rfl rfl ?_) | (refine Ret.goP (l25Late_ret _ _ _ _ _ _ _ (by assumption) (isCl_filed (by assumption))) rfl ?_) | (refine Ret.goQP (l25Late_ret _ _ _ _ _ _ _ (by assumption) (isCl_filed (by assumption))) rfl ?_))
  all_goals first | omega | (show (_ : AV) = _; simp [sel, decOk, decCode, *] <;> omega)
set_option maxRecDepth 100000 in
theorem implDecide_ret (m k f a p s n : Int) (g : Bool) : Ret Tryd.prog G 25 [C6 m k f a p s, Bo g, I n] (decR m k f a p s n g) := by
  refine ret_of_body hT Tryd.func25 rfl ?_ rfl
  cases g
  all_goals
    repeat' (first | (intro h; first | contradiction | omega | (conv => whnf) | skip) | (refine And.intro ?_ ?_) | (refine arith_ok ⟨by omega, by omega⟩ ?_) | (first | (refine draw_quiet hT mixed (by decide +kernel) ?_) | (refine draw_hard hT mixed (by decide +kernel) ?_)) | (refine Ret.goP (implIsClaim_ret _ _ _ _ _ _) rfl ?_) | (refine Ret.goQP (implIsClaim_ret _ _ _ _ _ _) rfl ?_) | (refine Ret.goP (isMonth_ret _) rfl ?_) | (refine Ret.goQP (isMonth_ret _) rfl ?_) | (refine Ret.goP (grantable_ret _ _ _ _ _ _ _ (by assumption) (isCl_filed (by assumption)) (isCl_kind (by assumption))) rfl ?_) | (refine Ret.goQP (grantable_ret _ _ _ _ _ _ _ (by assumption) (isCl_filed (by assumption)) (isCl_kind (by assumption))) rfl ?_))
  all_goals first | omega | (show (_ : AV) = _; simp [sel, decOk, decCode, *] <;> omega)
set_option maxRecDepth 100000 in
theorem lawDecide_ret (m k f a p s n : Int) (g : Bool) : Ret Tryd.prog G 8 [C6 m k f a p s, Bo g, I n] (Bo true) := by
  refine ret_of_body hT Tryd.func8 rfl ?_ rfl
  repeat' (first | (intro h; first | contradiction | omega | (conv => whnf) | skip) | (refine And.intro ?_ ?_) | (refine arith_ok ⟨by omega, by omega⟩ ?_) | (first | (refine draw_quiet hT mixed (by decide +kernel) ?_) | (refine draw_hard hT mixed (by decide +kernel) ?_)) | (refine Ret.go (toClaim_ret _ _ _ _ _ _) rfl rfl ?_) | (refine Ret.goQ (toClaim_ret _ _ _ _ _ _) rfl rfl ?_) | (refine Ret.go (specDecide_ret _ _ _ _ _ _ _ _) rfl rfl ?_) | (refine Ret.goQ (specDecide_ret _ _ _ _ _ _ _ _) rfl rfl ?_) | (refine Ret.go (implDecide_ret _ _ _ _ _ _ _ _) rfl rfl ?_) | (refine Ret.goQ (implDecide_ret _ _ _ _ _ _ _ _) rfl rfl ?_) | (refine Ret.goP (eqClaim_ret _ _ _ _ _ _ _ _ _ _ _ _) rfl ?_) | (refine Ret.goQP (eqClaim_ret _ _ _ _ _ _ _ _ _ _ _ _) rfl ?_))
  all_goals rfl
end Go.Proofs.YtpgckkoogicplaaDoor
