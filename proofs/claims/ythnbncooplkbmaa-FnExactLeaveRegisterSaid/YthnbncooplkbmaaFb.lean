/-
  Registers: whether a list is one, and the law. No conditions but those in the statements.
-/
import Derived.Test.YthnbncooplkbmaaFa
namespace Go.Proofs.Ythnbncooplkbmaa
open Go.AE

attribute [local irreducible] CallA LoopA DrawA CallQ arithK quoK remK eqK
def rowR (r : List Int) : Prop := rowM (r.getD 0 0) (r.getD 1 0) (r.getD 2 0) (r.getD 3 0) (r.getD 4 0)
instance (r : List Int) : Decidable (rowR r) := by unfold rowR; infer_instance
def regAt (xss : List (List Int)) (i : Nat) : Prop := rowR (xss.getD ((i : Int)).toNat []) ∧ (0 < (i : Int) → (xss.getD ((i : Int) - 1).toNat []).getD 0 0 < (xss.getD ((i : Int)).toNat []).getD 0 0)
instance (xss : List (List Int)) (i : Nat) : Decidable (regAt xss i) := by unfold regAt; infer_instance
def isReg (xss : List (List Int)) : Prop := (∀ i, i < xss.length → regAt xss i) ∧ xss.length ≤ 60
instance (xss : List (List Int)) : Decidable (isReg xss) := by unfold isReg; infer_instance
theorem regTo_next {xss : List (List Int)} {i : Nat} (h : ∀ j, j < i → regAt xss j) (h1 : rowR (xss.getD ((i : Int)).toNat [])) (h2 : 0 < (i : Int) → (xss.getD ((i : Int) - 1).toNat []).getD 0 0 < (xss.getD ((i : Int)).toNat []).getD 0 0) : ∀ j, j < i + 1 → regAt xss j := fun j hj => by
  by_cases e : j = i
  · subst e; exact ⟨h1, h2⟩
  · exact h j (by omega)
set_option maxRecDepth 100000 in
theorem implReg_ret (xss : List (List Int)) (hn : xss.length ≤ 2305843009213693952) : Ret Try.prog G 23 [RMember xss] (Bo (decide (isReg xss))) := by
  refine ret_of_body hT Try.func23 rfl ?_ rfl
  repeat' (first | (intro h; first | contradiction | omega | (conv => whnf) | skip) | (refine And.intro ?_ ?_) | (refine arith_ok ⟨by omega, by omega⟩ ?_) | (first | (refine draw_quiet hT mixed (by decide +kernel) ?_) | (refine draw_hard hT mixed (by decide +kernel) ?_)) | fail)
  · exact bv_false fun hh => by have := hh.2; omega
  all_goals first | rfl | omega | skip
  refine loop_rule hT (fun i : Nat => i ≤ xss.length ∧ ∀ j, j < i → regAt xss j) 34 0 [0, 8, 9, 10] (fun i => [RMember xss, RMember xss, I xss.length, I i]) (fun _ => []) (fun i => xss.length - i) (0) (Nat.le_of_ble_eq_true rfl) ?_ ?_ ?_
  · exact ⟨Nat.zero_le _, fun j h => absurd h (Nat.not_lt_zero j)⟩
  · (first | (refine ⟨rfl, [], ?_, ?_⟩; all_goals (repeat' (first | exact rfl | exact trivial | omega | assumption | fail | refine And.intro ?_ ?_)); done) | (refine ⟨rfl, [some 1], ?_, ?_⟩; all_goals (repeat' (first | exact rfl | exact trivial | omega | assumption | fail | refine And.intro ?_ ?_)); done) | (refine ⟨rfl, [some 2], ?_, ?_⟩; all_goals (repeat' (first | exact rfl | exact trivial | omega | assumption | fail | refine And.intro ?_ ?_)); done) | (refine ⟨rfl, [some 3], ?_, ?_⟩; all_goals (repeat' (first | exact rfl | exact trivial | omega | assumption | fail | refine And.intro ?_ ?_)); done) | (refine ⟨rfl, [some 0], ?_, ?_⟩; all_goals (repeat' (first | exact rfl | exact trivial | omega | assumption | fail | refine And.intro ?_ ?_)); done) | (refine ⟨rfl, [some 4], ?_, ?_⟩; all_goals (repeat' (first | exact rfl | exact trivial | omega | assumption | fail | refine And.intro ?_ ?_)); done))
  · rintro i ⟨h1, h2⟩
    repeat' (first | (intro h; first | contradiction | omega | (conv => whnf) | skip) | (refine And.intro ?_ ?_) | (refine arith_ok ⟨by omega, by omega⟩ ?_) | (first | (refine draw_quiet hT mixed (by decide +kernel) ?_) | (refine draw_hard hT mixed (by decide +kernel) ?_)) | (refine Ret.goP (isMember_ret _ _ _ _ _) rfl ?_) | (refine Ret.goQP (isMember_ret _ _ _ _ _) rfl ?_))
    all_goals first | omega | (show _ < xss.length; omega) | skip
    all_goals first
      | (refine ⟨i + 1, ⟨by omega, regTo_next h2 (by assumption) (fun _ => by omega)⟩, ?_, by omega⟩; (first | (refine ⟨rfl, [], ?_, ?_⟩; all_goals (repeat' (first | exact rfl | exact trivial | omega | assumption | fail | refine And.intro ?_ ?_)); done) | (refine ⟨rfl, [some 1], ?_, ?_⟩; all_goals (repeat' (first | exact rfl | exact trivial | omega | assumption | fail | refine And.intro ?_ ?_)); done) | (refine ⟨rfl, [some 2], ?_, ?_⟩; all_goals (repeat' (first | exact rfl | exact trivial | omega | assumption | fail | refine And.intro ?_ ?_)); done) | (refine ⟨rfl, [some 3], ?_, ?_⟩; all_goals (repeat' (first | exact rfl | exact trivial | omega | assumption | fail | refine And.intro ?_ ?_)); done) | (refine ⟨rfl, [some 0], ?_, ?_⟩; all_goals (repeat' (first | exact rfl | exact trivial | omega | assumption | fail | refine And.intro ?_ ?_)); done) | (refine ⟨rfl, [some 4], ?_, ?_⟩; all_goals (repeat' (first | exact rfl | exact trivial | omega | assumption | fail | refine And.intro ?_ ?_)); done)))
      | (refine bv_true ⟨fun j hj => h2 j (by omega), by omega⟩)
      | (refine bv_false fun hh => ?_; first | exact absurd (hh.1 i (by omega)).1 h | exact absurd ((hh.1 i (by omega)).2 (by omega)) (by omega) | (have := hh.2; omega))
      | trace_state
set_option maxRecDepth 100000 in
theorem specReg_ret (xss : List (List Int)) (hn : xss.length ≤ 2305843009213693952) : Ret Try.prog G 22 [RMember xss] (Bo (decide (isReg xss))) := by
  refine ret_of_body hT Try.func22 rfl ?_ rfl
  repeat' (first | (intro h; first | contradiction | omega | (conv => whnf) | skip) | (refine And.intro ?_ ?_) | (refine arith_ok ⟨by omega, by omega⟩ ?_) | (first | (refine draw_quiet hT mixed (by decide +kernel) ?_) | (refine draw_hard hT mixed (by decide +kernel) ?_)) | fail)
  refine loop_rule hT (fun i : Nat => i ≤ xss.length ∧ ∀ j, j < i → regAt xss j) 37 0 [0, 3] (fun i => [RMember xss, I i]) (fun _ => []) (fun i => xss.length - i) (0) (Nat.le_of_ble_eq_true rfl) ?_ ?_ ?_
  · exact ⟨Nat.zero_le _, fun j h => absurd h (Nat.not_lt_zero j)⟩
  · (first | (refine ⟨rfl, [], ?_, ?_⟩; all_goals (repeat' (first | exact rfl | exact trivial | omega | assumption | fail | refine And.intro ?_ ?_)); done) | (refine ⟨rfl, [some 1], ?_, ?_⟩; all_goals (repeat' (first | exact rfl | exact trivial | omega | assumption | fail | refine And.intro ?_ ?_)); done) | (refine ⟨rfl, [some 2], ?_, ?_⟩; all_goals (repeat' (first | exact rfl | exact trivial | omega | assumption | fail | refine And.intro ?_ ?_)); done) | (refine ⟨rfl, [some 3], ?_, ?_⟩; all_goals (repeat' (first | exact rfl | exact trivial | omega | assumption | fail | refine And.intro ?_ ?_)); done) | (refine ⟨rfl, [some 0], ?_, ?_⟩; all_goals (repeat' (first | exact rfl | exact trivial | omega | assumption | fail | refine And.intro ?_ ?_)); done) | (refine ⟨rfl, [some 4], ?_, ?_⟩; all_goals (repeat' (first | exact rfl | exact trivial | omega | assumption | fail | refine And.intro ?_ ?_)); done))
  · rintro i ⟨h1, h2⟩
    repeat' (first | (intro h; first | contradiction | omega | (conv => whnf) | skip) | (refine And.intro ?_ ?_) | (refine arith_ok ⟨by omega, by omega⟩ ?_) | (first | (refine draw_quiet hT mixed (by decide +kernel) ?_) | (refine draw_hard hT mixed (by decide +kernel) ?_)) | (refine Ret.goP (l26Member_ret _ _ _ _ _) rfl ?_) | (refine Ret.goQP (l26Member_ret _ _ _ _ _) rfl ?_))
    all_goals first | omega | (show _ < xss.length; omega) | skip
    all_goals first
      | (refine ⟨i + 1, ⟨by omega, regTo_next h2 (by assumption) (fun _ => by omega)⟩, ?_, by omega⟩; (first | (refine ⟨rfl, [], ?_, ?_⟩; all_goals (repeat' (first | exact rfl | exact trivial | omega | assumption | fail | refine And.intro ?_ ?_)); done) | (refine ⟨rfl, [some 1], ?_, ?_⟩; all_goals (repeat' (first | exact rfl | exact trivial | omega | assumption | fail | refine And.intro ?_ ?_)); done) | (refine ⟨rfl, [some 2], ?_, ?_⟩; all_goals (repeat' (first | exact rfl | exact trivial | omega | assumption | fail | refine And.intro ?_ ?_)); done) | (refine ⟨rfl, [some 3], ?_, ?_⟩; all_goals (repeat' (first | exact rfl | exact trivial | omega | assumption | fail | refine And.intro ?_ ?_)); done) | (refine ⟨rfl, [some 0], ?_, ?_⟩; all_goals (repeat' (first | exact rfl | exact trivial | omega | assumption | fail | refine And.intro ?_ ?_)); done) | (refine ⟨rfl, [some 4], ?_, ?_⟩; all_goals (repeat' (first | exact rfl | exact trivial | omega | assumption | fail | refine And.intro ?_ ?_)); done)))
      | (refine bv_true ⟨fun j hj => h2 j (by omega), by omega⟩)
      | (refine bv_false fun hh => ?_; first | exact absurd (hh.1 i (by omega)).1 h | exact absurd ((hh.1 i (by omega)).2 (by omega)) (by omega) | (have := hh.2; omega))
      | trace_state
set_option maxRecDepth 100000 in
theorem lawIsRegister_ret (xss : List (List Int)) (hn : xss.length ≤ 9223372036854775807) (hr : ∀ r ∈ xss, r.length = 5) : Ret Try.prog G 6 [RMember xss] (Bo true) := by
  refine ret_of_body hT Try.func6 rfl ?_ rfl
  by_cases hbig : xss.length ≤ 1048576
  · have hsz := szMemberS_ret xss 1048576 (by omega) (by omega)
    rw [if_pos (by omega)] at hsz
    repeat' (first | (intro h; first | contradiction | omega | (conv => whnf) | skip) | (refine And.intro ?_ ?_) | (refine arith_ok ⟨by omega, by omega⟩ ?_) | (first | (refine draw_quiet hT mixed (by decide +kernel) ?_) | (refine draw_hard hT mixed (by decide +kernel) ?_)) | (refine Ret.use (hsz) (by first | ((repeat' (first | exact rfl | exact trivial | refine And.intro ?_ ?_ | omega | assumption)); done) | fail) ?_) | (refine Ret.useQ (hsz) (by first | ((repeat' (first | exact rfl | exact trivial | refine And.intro ?_ ?_ | omega | assumption)); done) | fail) rfl ?_) | (refine CallA.go [] (toMemberS_call xss (by omega) hr) rfl (by first | ((repeat' (first | exact rfl | exact trivial | refine And.intro ?_ ?_ | omega | assumption)); done) | fail) trivial ?_) | (refine Ret.useP (specReg_ret xss (by omega)) (by first | ((repeat' (first | exact rfl | exact trivial | refine And.intro ?_ ?_ | omega | assumption)); done) | fail) ?_) | (refine Ret.useQP (specReg_ret xss (by omega)) (by first | ((repeat' (first | exact rfl | exact trivial | refine And.intro ?_ ?_ | omega | assumption)); done) | fail) ?_) | (refine Ret.useP (implReg_ret xss (by omega)) (by first | ((repeat' (first | exact rfl | exact trivial | refine And.intro ?_ ?_ | omega | assumption)); done) | fail) ?_) | (refine Ret.useQP (implReg_ret xss (by omega)) (by first | ((repeat' (first | exact rfl | exact trivial | refine And.intro ?_ ?_ | omega | assumption)); done) | fail) ?_) | (refine Ret.useP (eqMemberS_ret xss xss (by omega) hr hr) (by first | ((repeat' (first | exact rfl | exact trivial | refine And.intro ?_ ?_ | omega | assumption)); done) | fail) ?_) | (refine Ret.useQP (eqMemberS_ret xss xss (by omega) hr hr) (by first | ((repeat' (first | exact rfl | exact trivial | refine And.intro ?_ ?_ | omega | assumption)); done) | fail) ?_))
    all_goals first | rfl | omega | contradiction
  · have hsz := szMemberS_ret xss 1048576 hn (by omega)
    rw [if_neg (by omega)] at hsz
    repeat' (first | (intro h; first | contradiction | omega | (conv => whnf) | skip) | (refine And.intro ?_ ?_) | (refine arith_ok ⟨by omega, by omega⟩ ?_) | (first | (refine draw_quiet hT mixed (by decide +kernel) ?_) | (refine draw_hard hT mixed (by decide +kernel) ?_)) | (refine Ret.use (hsz) (by first | ((repeat' (first | exact rfl | exact trivial | refine And.intro ?_ ?_ | omega | assumption)); done) | fail) ?_) | (refine Ret.useQ (hsz) (by first | ((repeat' (first | exact rfl | exact trivial | refine And.intro ?_ ?_ | omega | assumption)); done) | fail) rfl ?_))
    all_goals first | rfl | omega
end Go.Proofs.Ythnbncooplkbmaa
