/-
  Sources of a surplus, total reserves: what the functions return. No conditions but those in the statements.
-/
import Derived.Test.YtenofbabiacacaaGreatTa
import Derived.Test.YtenofbabiacacaaGreatTe
import Derived.Test.YtenofbabiacacaaGreatMr
set_option linter.unusedVariables false
set_option linter.unusedSimpArgs false
namespace Go.Proofs.YtenofbabiacacaaGreat
open Go.AE

attribute [local irreducible] CallA LoopA DrawA CallQ arithK quoK remK eqK
set_option maxRecDepth 100000 in
theorem implSurp_ret (a b c d e f g : Int) (h : isYr a b c d e f g) : Ret Tryz.prog G 47 [V7 a b c d e f g] (.tup [I (a + b + c - d + e - f - g), I 0]) := by
  refine ret_of_body hT Tryz.func47 rfl ?_ rfl
  have hb := yr_bd h
  repeat' ((first | (conv => whnf) | skip); (first | ((with_reducible intro h); first | contradiction | omega | (conv => whnf) | skip) | (with_reducible refine And.intro ?_ ?_) | ((with_reducible show arithK _ _ _); refine arith_ok ⟨by omega, by omega⟩ ?_) | ((with_reducible show quoK _ _ _ _); refine quo_ok ⟨by omega, by omega⟩ (by omega) (by omega) ?_) | ((with_reducible show remK _ _ _ _); refine rem_ok (by omega) (by omega) ?_) | ((first | (with_reducible show CallA _ _ _ _ _ _) | (with_reducible show CallQ _ _ _ _ _ _)); first | (refine Ret.goP (implYear_ret _ _ _ _ _ _ _) rfl ?_) | (refine Ret.goQP (implYear_ret _ _ _ _ _ _ _) rfl ?_) | (refine Ret.go (implEndF_ret _ _ _ _ _ _ _ h) rfl rfl ?_) | (refine Ret.goQ (implEndF_ret _ _ _ _ _ _ _ h) rfl rfl ?_)) | ((with_reducible show DrawA _ _ _ _ _ _); first | (first | (refine draw_quiet hT mixed (by decide +kernel) ?_) | (refine draw_hard hT mixed (by decide +kernel) ?_)))))
  all_goals first | rfl | omega | contradiction | trace_state
set_option maxRecDepth 100000 in
theorem expected_ret (a b c d e f g r : Int) (h : isYr a b c d e f g) (hr : okR r) : Ret Tryz.prog G 114 [V7 a b c d e f g, I r] (I ((a + b) * r / 1000)) := by
  refine ret_of_body hT Tryz.func114 rfl ?_ rfl
  have hb := yr_bd h
  have hm := mul_in (a := a + b) (A := 2000000000000) (b := r) (B := 200) (by omega) (by omega) hr.1 hr.2
  repeat' ((first | (conv => whnf) | skip); (first | ((with_reducible intro h); first | contradiction | omega | (conv => whnf) | skip) | (with_reducible refine And.intro ?_ ?_) | ((with_reducible show arithK _ _ _); refine arith_ok ⟨by omega, by omega⟩ ?_) | ((with_reducible show quoK _ _ _ _); refine quo_ok ⟨by omega, by omega⟩ (by omega) (by omega) ?_) | ((with_reducible show remK _ _ _ _); refine rem_ok (by omega) (by omega) ?_) | ((first | (with_reducible show CallA _ _ _ _ _ _) | (with_reducible show CallQ _ _ _ _ _ _)); first | fail) | ((with_reducible show DrawA _ _ _ _ _ _); first | (first | (refine draw_quiet hT mixed (by decide +kernel) ?_) | (refine draw_hard hT mixed (by decide +kernel) ?_)))))
  all_goals first | rfl | omega | trace_state
abbrev srcL (a b c d e f g r : Int) : List Int := [e - (a + b) * r / 1000, c - d, a + b + (a + b) * r / 1000 - f - g]
set_option maxRecDepth 100000 in
theorem sources_call (a b c d e f g r : Int) (h : isYr a b c d e f g) (hr : okR r) : CallA Tryz.prog G 56 [V7 a b c d e f g, I r] [] (fun v J => v = .tup [.sl 0 1 3, I 0] ∧ J = [Di (srcL a b c d e f g r)]) := by
  refine CallA.ends (callA_of_body hT Tryz.func56 rfl ?_)
  have hb := yr_bd h
  have hm := mul_in (a := a + b) (A := 2000000000000) (b := r) (B := 200) (by omega) (by omega) hr.1 hr.2
  have hx := expected_ret a b c d e f g r h hr
  repeat' ((first | (conv => whnf) | skip); (first | ((with_reducible intro h); first | contradiction | omega | (conv => whnf) | skip) | (with_reducible refine And.intro ?_ ?_) | ((with_reducible show arithK _ _ _); refine arith_ok ⟨by omega, by omega⟩ ?_) | ((with_reducible show quoK _ _ _ _); refine quo_ok ⟨by omega, by omega⟩ (by omega) (by omega) ?_) | ((with_reducible show remK _ _ _ _); refine rem_ok (by omega) (by omega) ?_) | ((first | (with_reducible show CallA _ _ _ _ _ _) | (with_reducible show CallQ _ _ _ _ _ _)); first | (refine Ret.goP (implYear_ret _ _ _ _ _ _ _) rfl ?_) | (refine Ret.goQP (implYear_ret _ _ _ _ _ _ _) rfl ?_) | (refine Ret.goP (implRate_ret _) rfl ?_) | (refine Ret.goQP (implRate_ret _) rfl ?_) | (refine Ret.go (hx) rfl rfl ?_) | (refine Ret.goQ (hx) rfl rfl ?_)) | ((with_reducible show DrawA _ _ _ _ _ _); first | (refine draw_hard hT mixed (by decide +kernel) ?_))))
  all_goals first | rfl | omega | contradiction | skip
  all_goals ((conv => whnf); first | (refine ⟨[some 1], .tup [.sl 0 1 3, I 0], [Di (srcL a b c d e f g r)], ?_, ?_, ?_⟩; all_goals (repeat' (first | exact rfl | exact trivial | (with_reducible assumption) | refine And.intro ?_ ?_)); all_goals (first | omega | assumption); done) | trace_state)
set_option maxRecDepth 100000 in
theorem implTotal_ret (f : Int) (ls : List Int) (r : Int) (hs : List (List Int)) (hn : ls.length ≤ 1048576) (hh : hs.length ≤ 1048576) (ho : okF f ls r hs) : Ret Tryz.prog G 57 [Bs f ls r, Rh hs] (.tup [I (tot f ls r hs), I 0]) := by
  refine ret_of_body hT Tryz.func57 rfl ?_ rfl
  repeat' ((first | (conv => whnf) | skip); (first | ((with_reducible intro h); first | contradiction | omega | (conv => whnf) | skip) | (with_reducible refine And.intro ?_ ?_) | ((with_reducible show arithK _ _ _); refine arith_ok ⟨by omega, by omega⟩ ?_) | ((with_reducible show quoK _ _ _ _); refine quo_ok ⟨by omega, by omega⟩ (by omega) (by omega) ?_) | ((with_reducible show remK _ _ _ _); refine rem_ok (by omega) (by omega) ?_) | ((first | (with_reducible show CallA _ _ _ _ _ _) | (with_reducible show CallQ _ _ _ _ _ _)); first | (refine Ret.goP (implPortfolio_ret f ls r hs hn hh) rfl ?_) | (refine Ret.goQP (implPortfolio_ret f ls r hs hn hh) rfl ?_) | (refine CallA.go [] (reserves_call2 f ls r hs ho) rfl (by first | ((repeat' (first | exact rfl | exact trivial | (with_reducible assumption) | refine And.intro ?_ ?_ | omega | assumption)); done) | fail) trivial ?_) | (refine Ret.use (total_res f ls r hs ho) (by first | ((repeat' (first | exact rfl | exact trivial | (with_reducible assumption) | refine And.intro ?_ ?_ | omega | assumption)); done) | fail) ?_) | (refine Ret.useQ (total_res f ls r hs ho) (by first | ((repeat' (first | exact rfl | exact trivial | (with_reducible assumption) | refine And.intro ?_ ?_ | omega | assumption)); done) | fail) rfl ?_)) | ((with_reducible show DrawA _ _ _ _ _ _); first | (refine draw_hard hT mixed (by decide +kernel) ?_))))
  all_goals first | rfl | omega | contradiction | trace_state
set_option maxRecDepth 100000 in
theorem likeHoldings_ret (xss : List (List Int)) (hn : xss.length ≤ 1048576) : Ret Tryz.prog G 55 [Rh xss, Rh xss] (Bo true) := by
  refine ret_of_body hT Tryz.func55 rfl ?_ rfl
  repeat' ((first | (conv => whnf) | skip); (first | ((with_reducible intro h); first | contradiction | omega | (conv => whnf) | skip) | (with_reducible refine And.intro ?_ ?_) | ((with_reducible show arithK _ _ _); refine arith_ok ⟨by omega, by omega⟩ ?_) | ((with_reducible show quoK _ _ _ _); refine quo_ok ⟨by omega, by omega⟩ (by omega) (by omega) ?_) | ((with_reducible show remK _ _ _ _); refine rem_ok (by omega) (by omega) ?_) | ((first | (with_reducible show CallA _ _ _ _ _ _) | (with_reducible show CallQ _ _ _ _ _ _)); first | fail) | ((with_reducible show DrawA _ _ _ _ _ _); first | (first | (refine draw_quiet hT mixed (by decide +kernel) ?_) | (refine draw_hard hT mixed (by decide +kernel) ?_)))))
  all_goals first | omega | skip
  refine loop_rule hT (fun i : Nat => i ≤ xss.length) 26 0 [0, 1, 5] (fun i => [Rh xss, Rh xss, I i]) (fun _ => []) (fun i => xss.length - i) (0) (Nat.le_of_ble_eq_true rfl) ?_ ?_ ?_
  · exact Nat.zero_le _
  · (refine ⟨rfl, [], ?_, ?_⟩; all_goals (repeat' (first | exact rfl | exact trivial | (with_reducible assumption) | refine And.intro ?_ ?_ | omega)))
  · intro i h1
    repeat' ((first | (conv => whnf) | skip); (first | ((with_reducible intro h); first | contradiction | omega | (conv => whnf) | skip) | (with_reducible refine And.intro ?_ ?_) | ((with_reducible show arithK _ _ _); refine arith_ok ⟨by omega, by omega⟩ ?_) | ((with_reducible show quoK _ _ _ _); refine quo_ok ⟨by omega, by omega⟩ (by omega) (by omega) ?_) | ((with_reducible show remK _ _ _ _); refine rem_ok (by omega) (by omega) ?_) | ((first | (with_reducible show CallA _ _ _ _ _ _) | (with_reducible show CallQ _ _ _ _ _ _)); first | fail) | ((with_reducible show DrawA _ _ _ _ _ _); first | (first | (refine draw_quiet hT mixed (by decide +kernel) ?_) | (refine draw_hard hT mixed (by decide +kernel) ?_)))))
    all_goals first | rfl | omega | contradiction | skip
    all_goals ((conv => whnf); first | (refine ⟨i + 1, by omega, ?_, by omega⟩; (refine ⟨rfl, [], ?_, ?_⟩; all_goals (repeat' (first | exact rfl | exact trivial | (with_reducible assumption) | refine And.intro ?_ ?_ | omega)))) | trace_state)
end Go.Proofs.YtenofbabiacacaaGreat
