/-
  Members, ages, the silent of a register: what the functions return, and the laws. No conditions but those in the statements.
-/
import Derived.Test.YtcjjmophikelhaaFc
set_option linter.unusedVariables false
set_option linter.unusedSimpArgs false
namespace Go.Proofs.Ytcjjmophikelhaa
open Go.AE

attribute [local irreducible] CallA LoopA DrawA CallQ arithK quoK remK eqK
set_option maxRecDepth 100000 in
theorem l26Code_ret (xss : List (List Int)) (b : Bool) (hn : xss.length ≤ 2305843009213693952) : Ret Try.prog G 33 [RMember xss, Bo b] (I (if isReg xss then (if b then 0 else 2) else 1)) := by
  refine ret_of_body hT Try.func33 rfl ?_ rfl
  by_cases ha : isReg xss
  · rw [if_pos ha]
    cases b
    · repeat' (first | (intro h; first | contradiction | omega | (conv => whnf) | skip) | (refine And.intro ?_ ?_) | (refine arith_ok ⟨by omega, by omega⟩ ?_) | (first | (refine draw_quiet hT mixed (by decide +kernel) ?_) | (refine draw_hard hT mixed (by decide +kernel) ?_)) | (refine Ret.goP (specReg_ret xss hn) rfl ?_) | (refine Ret.goQP (specReg_ret xss hn) rfl ?_))
      all_goals rfl
    · repeat' (first | (intro h; first | contradiction | omega | (conv => whnf) | skip) | (refine And.intro ?_ ?_) | (refine arith_ok ⟨by omega, by omega⟩ ?_) | (first | (refine draw_quiet hT mixed (by decide +kernel) ?_) | (refine draw_hard hT mixed (by decide +kernel) ?_)) | (refine Ret.goP (specReg_ret xss hn) rfl ?_) | (refine Ret.goQP (specReg_ret xss hn) rfl ?_))
      all_goals rfl
  · rw [if_neg ha]
    cases b
    · repeat' (first | (intro h; first | contradiction | omega | (conv => whnf) | skip) | (refine And.intro ?_ ?_) | (refine arith_ok ⟨by omega, by omega⟩ ?_) | (first | (refine draw_quiet hT mixed (by decide +kernel) ?_) | (refine draw_hard hT mixed (by decide +kernel) ?_)) | (refine Ret.goP (specReg_ret xss hn) rfl ?_) | (refine Ret.goQP (specReg_ret xss hn) rfl ?_))
      all_goals rfl
    · repeat' (first | (intro h; first | contradiction | omega | (conv => whnf) | skip) | (refine And.intro ?_ ?_) | (refine arith_ok ⟨by omega, by omega⟩ ?_) | (first | (refine draw_quiet hT mixed (by decide +kernel) ?_) | (refine draw_hard hT mixed (by decide +kernel) ?_)) | (refine Ret.goP (specReg_ret xss hn) rfl ?_) | (refine Ret.goQP (specReg_ret xss hn) rfl ?_))
      all_goals rfl
theorem code_ok {xss : List (List Int)} (h : isReg xss) : Ret Try.prog G 33 [RMember xss, Bo true] (I 0) := by
  have := l26Code_ret xss true (by have := h.2; omega)
  rwa [if_pos h] at this
theorem code_no2 {xss : List (List Int)} (h : isReg xss) : Ret Try.prog G 33 [RMember xss, Bo false] (I 2) := by
  have := l26Code_ret xss false (by have := h.2; omega)
  rwa [if_pos h] at this
theorem code_no1 {xss : List (List Int)} (b : Bool) (h : ¬ isReg xss) (hn : xss.length ≤ 2305843009213693952) : Ret Try.prog G 33 [RMember xss, Bo b] (I 1) := by
  have := l26Code_ret xss b hn
  rwa [if_neg h] at this
def numOf (r : List Int) : Int := r.getD 0 0
def ageOf (n : Int) (r : List Int) : Int := IntKind.i64.wrap ((n - r.getD 1 0).tdiv 12)
def allW (_ : List Int) : Bool := true
def silW (n : Int) (r : List Int) : Bool := decide (12 < n - r.getD 4 0)
set_option maxRecDepth 100000 in
theorem mem1_ret (r : List Int) : Ret Try.prog G 51 [WMember r] (.tup [I (numOf r), Bo (allW r)]) := by
  refine ret_of_body hT Try.func51 rfl ?_ rfl
  repeat' (first | (intro h; first | contradiction | omega | (conv => whnf) | skip) | (refine And.intro ?_ ?_) | (refine arith_ok ⟨by omega, by omega⟩ ?_) | (first | (refine draw_quiet hT mixed (by decide +kernel) ?_) | (refine draw_hard hT mixed (by decide +kernel) ?_)) | fail)
  all_goals rfl
set_option maxRecDepth 100000 in
theorem sil1_ret (r : List Int) (n : Int) (hr : rowR r) (hn : 0 ≤ n ∧ n ≤ 35999) : Ret Try.prog G 52 [WMember r, .rpc [I n] 0] (.tup [I (numOf r), Bo (silW n r)]) := by
  refine ret_of_body hT Try.func52 rfl ?_ rfl
  have hb := hr.2.2.2.1
  repeat' (first | (intro h; first | contradiction | omega | (conv => whnf) | skip) | (refine And.intro ?_ ?_) | (refine arith_ok ⟨by omega, by omega⟩ ?_) | (first | (refine draw_quiet hT mixed (by decide +kernel) ?_) | (refine draw_hard hT mixed (by decide +kernel) ?_)) | fail)
  all_goals first
    | (rw [show silW n r = true from decide_eq_true (by omega)]; rfl)
    | (rw [show silW n r = false from decide_eq_false (by omega)]; rfl)
    | trace_state
set_option maxRecDepth 100000 in
theorem implMem_call (xss : List (List Int)) (n : Int) (hx : xss.length ≤ 1048576) : CallA Try.prog G 24 [RMember xss, I n] [] (fun v J => v = mbT (telQ allW xss n) (fun i => numOf (xss.getD i [])) xss n ∧ J = [Di (mbR (telQ allW xss n) (fun i => numOf (xss.getD i [])) xss n)]) := by
  refine CallA.ends (callA_of_body hT Try.func24 rfl ?_)
  have hc := membersBy_call 51 [] allW numOf xss n hx rfl (fun _ _ i _ => mem1_ret _)
  repeat' (first | (intro h; first | contradiction | omega | (conv => whnf) | skip) | (refine And.intro ?_ ?_) | (refine arith_ok ⟨by omega, by omega⟩ ?_) | (first | (refine draw_quiet hT mixed (by decide +kernel) ?_) | (refine draw_hard hT mixed (by decide +kernel) ?_)) | (refine CallA.go [] (hc) rfl (by first | ((repeat' (first | exact rfl | exact trivial | (with_reducible assumption) | refine And.intro ?_ ?_ | omega | assumption)); done) | fail) trivial ?_))
  all_goals first | omega | skip
  (first | (refine ⟨[], mbT (telQ allW xss n) (fun i => numOf (xss.getD i [])) xss n, [Di (mbR (telQ allW xss n) (fun i => numOf (xss.getD i [])) xss n)], ?_, ?_, ?_⟩; all_goals (repeat' (first | exact rfl | exact trivial | (with_reducible assumption) | refine And.intro ?_ ?_)); all_goals (first | omega | assumption); done) | (refine ⟨[some 1], mbT (telQ allW xss n) (fun i => numOf (xss.getD i [])) xss n, [Di (mbR (telQ allW xss n) (fun i => numOf (xss.getD i [])) xss n)], ?_, ?_, ?_⟩; all_goals (repeat' (first | exact rfl | exact trivial | (with_reducible assumption) | refine And.intro ?_ ?_)); all_goals (first | omega | assumption); done) | (refine ⟨[some 0], mbT (telQ allW xss n) (fun i => numOf (xss.getD i [])) xss n, [Di (mbR (telQ allW xss n) (fun i => numOf (xss.getD i [])) xss n)], ?_, ?_, ?_⟩; all_goals (repeat' (first | exact rfl | exact trivial | (with_reducible assumption) | refine And.intro ?_ ?_)); all_goals (first | omega | assumption); done) | (refine ⟨[some 2], mbT (telQ allW xss n) (fun i => numOf (xss.getD i [])) xss n, [Di (mbR (telQ allW xss n) (fun i => numOf (xss.getD i [])) xss n)], ?_, ?_, ?_⟩; all_goals (repeat' (first | exact rfl | exact trivial | (with_reducible assumption) | refine And.intro ?_ ?_)); all_goals (first | omega | assumption); done) | (refine ⟨[some 3], mbT (telQ allW xss n) (fun i => numOf (xss.getD i [])) xss n, [Di (mbR (telQ allW xss n) (fun i => numOf (xss.getD i [])) xss n)], ?_, ?_, ?_⟩; all_goals (repeat' (first | exact rfl | exact trivial | (with_reducible assumption) | refine And.intro ?_ ?_)); all_goals (first | omega | assumption); done) | (refine ⟨[some 4], mbT (telQ allW xss n) (fun i => numOf (xss.getD i [])) xss n, [Di (mbR (telQ allW xss n) (fun i => numOf (xss.getD i [])) xss n)], ?_, ?_, ?_⟩; all_goals (repeat' (first | exact rfl | exact trivial | (with_reducible assumption) | refine And.intro ?_ ?_)); all_goals (first | omega | assumption); done) | (refine ⟨[some 5], mbT (telQ allW xss n) (fun i => numOf (xss.getD i [])) xss n, [Di (mbR (telQ allW xss n) (fun i => numOf (xss.getD i [])) xss n)], ?_, ?_, ?_⟩; all_goals (repeat' (first | exact rfl | exact trivial | (with_reducible assumption) | refine And.intro ?_ ?_)); all_goals (first | omega | assumption); done))
set_option maxRecDepth 100000 in
theorem implSil_call (xss : List (List Int)) (n : Int) (hx : xss.length ≤ 1048576) : CallA Try.prog G 26 [RMember xss, I n] [] (fun v J => v = mbT (telQ (silW n) xss n) (fun i => numOf (xss.getD i [])) xss n ∧ J = [Di (mbR (telQ (silW n) xss n) (fun i => numOf (xss.getD i [])) xss n)]) := by
  refine CallA.ends (callA_of_body hT Try.func26 rfl ?_)
  have hc := membersBy_call 52 [.rpc [I n] 0] (silW n) numOf xss n hx rfl (fun ha hn i hi => sil1_ret _ _ (ha.1 i hi).1 hn)
  repeat' (first | (intro h; first | contradiction | omega | (conv => whnf) | skip) | (refine And.intro ?_ ?_) | (refine arith_ok ⟨by omega, by omega⟩ ?_) | (first | (refine draw_quiet hT mixed (by decide +kernel) ?_) | (refine draw_hard hT mixed (by decide +kernel) ?_)) | (refine CallA.go [] (hc) rfl (by first | ((repeat' (first | exact rfl | exact trivial | (with_reducible assumption) | refine And.intro ?_ ?_ | omega | assumption)); done) | fail) trivial ?_))
  all_goals first | omega | skip
  (first | (refine ⟨[], mbT (telQ (silW n) xss n) (fun i => numOf (xss.getD i [])) xss n, [Di (mbR (telQ (silW n) xss n) (fun i => numOf (xss.getD i [])) xss n)], ?_, ?_, ?_⟩; all_goals (repeat' (first | exact rfl | exact trivial | (with_reducible assumption) | refine And.intro ?_ ?_)); all_goals (first | omega | assumption); done) | (refine ⟨[some 1], mbT (telQ (silW n) xss n) (fun i => numOf (xss.getD i [])) xss n, [Di (mbR (telQ (silW n) xss n) (fun i => numOf (xss.getD i [])) xss n)], ?_, ?_, ?_⟩; all_goals (repeat' (first | exact rfl | exact trivial | (with_reducible assumption) | refine And.intro ?_ ?_)); all_goals (first | omega | assumption); done) | (refine ⟨[some 0], mbT (telQ (silW n) xss n) (fun i => numOf (xss.getD i [])) xss n, [Di (mbR (telQ (silW n) xss n) (fun i => numOf (xss.getD i [])) xss n)], ?_, ?_, ?_⟩; all_goals (repeat' (first | exact rfl | exact trivial | (with_reducible assumption) | refine And.intro ?_ ?_)); all_goals (first | omega | assumption); done) | (refine ⟨[some 2], mbT (telQ (silW n) xss n) (fun i => numOf (xss.getD i [])) xss n, [Di (mbR (telQ (silW n) xss n) (fun i => numOf (xss.getD i [])) xss n)], ?_, ?_, ?_⟩; all_goals (repeat' (first | exact rfl | exact trivial | (with_reducible assumption) | refine And.intro ?_ ?_)); all_goals (first | omega | assumption); done) | (refine ⟨[some 3], mbT (telQ (silW n) xss n) (fun i => numOf (xss.getD i [])) xss n, [Di (mbR (telQ (silW n) xss n) (fun i => numOf (xss.getD i [])) xss n)], ?_, ?_, ?_⟩; all_goals (repeat' (first | exact rfl | exact trivial | (with_reducible assumption) | refine And.intro ?_ ?_)); all_goals (first | omega | assumption); done) | (refine ⟨[some 4], mbT (telQ (silW n) xss n) (fun i => numOf (xss.getD i [])) xss n, [Di (mbR (telQ (silW n) xss n) (fun i => numOf (xss.getD i [])) xss n)], ?_, ?_, ?_⟩; all_goals (repeat' (first | exact rfl | exact trivial | (with_reducible assumption) | refine And.intro ?_ ?_)); all_goals (first | omega | assumption); done) | (refine ⟨[some 5], mbT (telQ (silW n) xss n) (fun i => numOf (xss.getD i [])) xss n, [Di (mbR (telQ (silW n) xss n) (fun i => numOf (xss.getD i [])) xss n)], ?_, ?_, ?_⟩; all_goals (repeat' (first | exact rfl | exact trivial | (with_reducible assumption) | refine And.intro ?_ ?_)); all_goals (first | omega | assumption); done))
end Go.Proofs.Ytcjjmophikelhaa
