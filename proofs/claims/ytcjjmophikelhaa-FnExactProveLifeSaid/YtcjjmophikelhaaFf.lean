/-
  Who leaves a register, who proves to be alive: the two functions and the laws. No conditions but those in the statements.
-/
import Derived.Test.YtcjjmophikelhaaFe
set_option linter.unusedVariables false
set_option linter.unusedSimpArgs false
namespace Go.Proofs.Ytcjjmophikelhaa
open Go.AE

attribute [local irreducible] CallA LoopA DrawA CallQ arithK quoK remK eqK
theorem chL_len (j : Nat) (n : Int) (xss : List (List Int)) (i : Nat) : (chL j n xss i).length = xss.length := by simp [chL]
set_option maxRecDepth 100000 in
theorem changed_call (f : FuncId) (j : Nat) (xss : List (List Int)) (num n : Int) (hx : xss.length ≤ 1048576)
    (hp : ∀ i, i < xss.length → CallA Try.prog G f [.eptr 0 5 i 0, .rpc [I n] 0] [DMember xss] (fun v J => v = .tup [] ∧ J = [DMember (chL j n xss i)])) :
    CallA Try.prog G 29 [RMember xss, I num, I n, .fn f [.rpc [I n] 0]] [] (fun v J => v = chT j num n xss ∧ J = [DMember (chR j num n xss)]) := by
  refine CallA.ends (callA_of_body hT Try.func29 rfl ?_)
  have hlo := lo_le num xss
  by_cases ha : isReg xss
  · by_cases hb : argsOk num n
    · by_cases hc : hasM num xss
      · have hc1 := hc.1
        have hix := indexOf_ret num xss (by omega)
        rw [idx_yes hc] at hix
        by_cases hd : openM n (rowLo num xss)
        · have h0 := chC_ok ha hb hc hd
          rw [chT, chR_ok h0, h0, chL_len]
          have hd1 : (xss.getD ((lo num xss : Nat) : Int).toNat []).getD 3 0 = -1 := hd.1
          have hd2 : (xss.getD ((lo num xss : Nat) : Int).toNat []).getD 4 0 ≤ n := hd.2
          have hb1 := hb.1
          have hb2 := hb.2
          have hpi := hp (lo num xss) hc1
          repeat' (first | (intro h; first | contradiction | omega | (conv => whnf) | skip) | (refine And.intro ?_ ?_) | (refine arith_ok ⟨by omega, by omega⟩ ?_) | (first | (refine draw_quiet hT mixed (by decide +kernel) ?_) | (refine draw_hard hT mixed (by decide +kernel) ?_)) | (refine Ret.goP (implReg_ret xss (by omega)) rfl ?_) | (refine Ret.goQP (implReg_ret xss (by omega)) rfl ?_) | (refine Ret.goP (isMonth_ret _) rfl ?_) | (refine Ret.goQP (isMonth_ret _) rfl ?_) | (refine Ret.goP (inRange_ret _ _ _) rfl ?_) | (refine Ret.goQP (inRange_ret _ _ _) rfl ?_) | (refine Ret.go (hix) rfl rfl ?_) | (refine Ret.goQ (hix) rfl rfl ?_) | (refine CallA.go [] (clone_call xss hx) rfl (by first | ((repeat' (first | exact rfl | exact trivial | (with_reducible assumption) | refine And.intro ?_ ?_ | omega | assumption)); done) | fail) trivial ?_) | (refine CallA.go [0] (hpi) rfl (by first | ((repeat' (first | exact rfl | exact trivial | (with_reducible assumption) | refine And.intro ?_ ?_ | omega | assumption)); done) | fail) (by first | ((repeat' (first | exact rfl | exact trivial | (with_reducible assumption) | refine And.intro ?_ ?_ | omega | assumption)); done) | fail) ?_))
          all_goals first | rfl | omega | skip
          (first | (refine ⟨[], .tup [.sl 0 5 xss.length, I 0], [DMember (chL j n xss (lo num xss))], ?_, ?_, ?_⟩; all_goals (repeat' (first | exact rfl | exact trivial | (with_reducible assumption) | refine And.intro ?_ ?_)); all_goals (first | omega | assumption); done) | (refine ⟨[some 1], .tup [.sl 0 5 xss.length, I 0], [DMember (chL j n xss (lo num xss))], ?_, ?_, ?_⟩; all_goals (repeat' (first | exact rfl | exact trivial | (with_reducible assumption) | refine And.intro ?_ ?_)); all_goals (first | omega | assumption); done) | (refine ⟨[some 0], .tup [.sl 0 5 xss.length, I 0], [DMember (chL j n xss (lo num xss))], ?_, ?_, ?_⟩; all_goals (repeat' (first | exact rfl | exact trivial | (with_reducible assumption) | refine And.intro ?_ ?_)); all_goals (first | omega | assumption); done) | (refine ⟨[some 2], .tup [.sl 0 5 xss.length, I 0], [DMember (chL j n xss (lo num xss))], ?_, ?_, ?_⟩; all_goals (repeat' (first | exact rfl | exact trivial | (with_reducible assumption) | refine And.intro ?_ ?_)); all_goals (first | omega | assumption); done) | (refine ⟨[some 3], .tup [.sl 0 5 xss.length, I 0], [DMember (chL j n xss (lo num xss))], ?_, ?_, ?_⟩; all_goals (repeat' (first | exact rfl | exact trivial | (with_reducible assumption) | refine And.intro ?_ ?_)); all_goals (first | omega | assumption); done) | (refine ⟨[some 4], .tup [.sl 0 5 xss.length, I 0], [DMember (chL j n xss (lo num xss))], ?_, ?_, ?_⟩; all_goals (repeat' (first | exact rfl | exact trivial | (with_reducible assumption) | refine And.intro ?_ ?_)); all_goals (first | omega | assumption); done) | (refine ⟨[some 5], .tup [.sl 0 5 xss.length, I 0], [DMember (chL j n xss (lo num xss))], ?_, ?_, ?_⟩; all_goals (repeat' (first | exact rfl | exact trivial | (with_reducible assumption) | refine And.intro ?_ ?_)); all_goals (first | omega | assumption); done))
        · have h0 := chC_5 ha hb hc hd
          rw [chT, chR_no h0 (by decide), h0]
          have hb1 := hb.1
          have hb2 := hb.2
          repeat' (first | (intro h; first | contradiction | omega | (conv => whnf) | skip) | (refine And.intro ?_ ?_) | (refine arith_ok ⟨by omega, by omega⟩ ?_) | (first | (refine draw_quiet hT mixed (by decide +kernel) ?_) | (refine draw_hard hT mixed (by decide +kernel) ?_)) | (refine Ret.goP (implReg_ret xss (by omega)) rfl ?_) | (refine Ret.goQP (implReg_ret xss (by omega)) rfl ?_) | (refine Ret.goP (isMonth_ret _) rfl ?_) | (refine Ret.goQP (isMonth_ret _) rfl ?_) | (refine Ret.goP (inRange_ret _ _ _) rfl ?_) | (refine Ret.goQP (inRange_ret _ _ _) rfl ?_) | (refine Ret.go (hix) rfl rfl ?_) | (refine Ret.goQ (hix) rfl rfl ?_))
          all_goals first | omega | exact absurd (show openM n (rowLo num xss) from ⟨Classical.not_not.1 (by assumption), Int.not_lt.1 (by assumption)⟩) hd | (refine ⟨[none], .tup [.sl 0 5 0, I 5], [DMember []], ?_, ?_, ?_⟩; all_goals (repeat' (first | exact rfl | exact trivial | (with_reducible assumption) | refine And.intro ?_ ?_ | omega)))
      · have h0 := chC_4 ha hb hc
        rw [chT, chR_no h0 (by decide), h0]
        have hb1 := hb.1
        have hb2 := hb.2
        have hix := indexOf_ret num xss (by omega)
        rw [idx_no ha hc] at hix
        repeat' (first | (intro h; first | contradiction | omega | (conv => whnf) | skip) | (refine And.intro ?_ ?_) | (refine arith_ok ⟨by omega, by omega⟩ ?_) | (first | (refine draw_quiet hT mixed (by decide +kernel) ?_) | (refine draw_hard hT mixed (by decide +kernel) ?_)) | (refine Ret.goP (implReg_ret xss (by omega)) rfl ?_) | (refine Ret.goQP (implReg_ret xss (by omega)) rfl ?_) | (refine Ret.goP (isMonth_ret _) rfl ?_) | (refine Ret.goQP (isMonth_ret _) rfl ?_) | (refine Ret.goP (inRange_ret _ _ _) rfl ?_) | (refine Ret.goQP (inRange_ret _ _ _) rfl ?_) | (refine Ret.go (hix) rfl rfl ?_) | (refine Ret.goQ (hix) rfl rfl ?_))
        all_goals first | omega | (refine ⟨[none], .tup [.sl 0 5 0, I 4], [DMember []], ?_, ?_, ?_⟩; all_goals (repeat' (first | exact rfl | exact trivial | (with_reducible assumption) | refine And.intro ?_ ?_ | omega)))
    · have h0 := chC_2 ha hb
      rw [chT, chR_no h0 (by decide), h0]
      repeat' (first | (intro h; first | contradiction | omega | (conv => whnf) | skip) | (refine And.intro ?_ ?_) | (refine arith_ok ⟨by omega, by omega⟩ ?_) | (first | (refine draw_quiet hT mixed (by decide +kernel) ?_) | (refine draw_hard hT mixed (by decide +kernel) ?_)) | (refine Ret.goP (implReg_ret xss (by omega)) rfl ?_) | (refine Ret.goQP (implReg_ret xss (by omega)) rfl ?_) | (refine Ret.goP (isMonth_ret _) rfl ?_) | (refine Ret.goQP (isMonth_ret _) rfl ?_) | (refine Ret.goP (inRange_ret _ _ _) rfl ?_) | (refine Ret.goQP (inRange_ret _ _ _) rfl ?_))
      all_goals first | omega | exact absurd (show argsOk num n from ⟨by assumption, by assumption⟩) hb | (refine ⟨[none], .tup [.sl 0 5 0, I 2], [DMember []], ?_, ?_, ?_⟩; all_goals (repeat' (first | exact rfl | exact trivial | (with_reducible assumption) | refine And.intro ?_ ?_ | omega)))
  · have h0 := chC_1 (num := num) (n := n) ha
    rw [chT, chR_no h0 (by decide), h0]
    repeat' (first | (intro h; first | contradiction | omega | (conv => whnf) | skip) | (refine And.intro ?_ ?_) | (refine arith_ok ⟨by omega, by omega⟩ ?_) | (first | (refine draw_quiet hT mixed (by decide +kernel) ?_) | (refine draw_hard hT mixed (by decide +kernel) ?_)) | (refine Ret.goP (implReg_ret xss (by omega)) rfl ?_) | (refine Ret.goQP (implReg_ret xss (by omega)) rfl ?_))
    (refine ⟨[none], .tup [.sl 0 5 0, I 1], [DMember []], ?_, ?_, ?_⟩; all_goals (repeat' (first | exact rfl | exact trivial | (with_reducible assumption) | refine And.intro ?_ ?_ | omega)))
set_option maxRecDepth 100000 in
theorem implLeave_call (xss : List (List Int)) (num n : Int) (hx : xss.length ≤ 1048576) (hr : ∀ r ∈ xss, r.length = 5) : CallA Try.prog G 10 [RMember xss, I num, I n] [] (fun v J => v = chT 3 num n xss ∧ J = [DMember (chR 3 num n xss)]) := by
  refine CallA.ends (callA_of_body hT Try.func10 rfl ?_)
  have hc := changed_call 30 3 xss num n hx (fun i hi => leave1_call xss n i hi hr)
  repeat' (first | (intro h; first | contradiction | omega | (conv => whnf) | skip) | (refine And.intro ?_ ?_) | (refine arith_ok ⟨by omega, by omega⟩ ?_) | (first | (refine draw_quiet hT mixed (by decide +kernel) ?_) | (refine draw_hard hT mixed (by decide +kernel) ?_)) | (refine CallA.go [] (hc) rfl (by first | ((repeat' (first | exact rfl | exact trivial | (with_reducible assumption) | refine And.intro ?_ ?_ | omega | assumption)); done) | fail) trivial ?_))
  all_goals first | omega | skip
  (first | (refine ⟨[], chT 3 num n xss, [DMember (chR 3 num n xss)], ?_, ?_, ?_⟩; all_goals (repeat' (first | exact rfl | exact trivial | (with_reducible assumption) | refine And.intro ?_ ?_)); all_goals (first | omega | assumption); done) | (refine ⟨[some 1], chT 3 num n xss, [DMember (chR 3 num n xss)], ?_, ?_, ?_⟩; all_goals (repeat' (first | exact rfl | exact trivial | (with_reducible assumption) | refine And.intro ?_ ?_)); all_goals (first | omega | assumption); done) | (refine ⟨[some 0], chT 3 num n xss, [DMember (chR 3 num n xss)], ?_, ?_, ?_⟩; all_goals (repeat' (first | exact rfl | exact trivial | (with_reducible assumption) | refine And.intro ?_ ?_)); all_goals (first | omega | assumption); done) | (refine ⟨[some 2], chT 3 num n xss, [DMember (chR 3 num n xss)], ?_, ?_, ?_⟩; all_goals (repeat' (first | exact rfl | exact trivial | (with_reducible assumption) | refine And.intro ?_ ?_)); all_goals (first | omega | assumption); done) | (refine ⟨[some 3], chT 3 num n xss, [DMember (chR 3 num n xss)], ?_, ?_, ?_⟩; all_goals (repeat' (first | exact rfl | exact trivial | (with_reducible assumption) | refine And.intro ?_ ?_)); all_goals (first | omega | assumption); done) | (refine ⟨[some 4], chT 3 num n xss, [DMember (chR 3 num n xss)], ?_, ?_, ?_⟩; all_goals (repeat' (first | exact rfl | exact trivial | (with_reducible assumption) | refine And.intro ?_ ?_)); all_goals (first | omega | assumption); done) | (refine ⟨[some 5], chT 3 num n xss, [DMember (chR 3 num n xss)], ?_, ?_, ?_⟩; all_goals (repeat' (first | exact rfl | exact trivial | (with_reducible assumption) | refine And.intro ?_ ?_)); all_goals (first | omega | assumption); done))
set_option maxRecDepth 100000 in
theorem specLeave_call (xss : List (List Int)) (num n : Int) (hx : xss.length ≤ 1048576) (hr : ∀ r ∈ xss, r.length = 5) : CallA Try.prog G 8 [RMember xss, I num, I n] [] (fun v J => v = chT 3 num n xss ∧ J = [DMember (chR 3 num n xss)]) := by
  refine CallA.ends (callA_of_body hT Try.func8 rfl ?_)
  have hf := l26Find_ret num n xss (by omega)
  by_cases h0 : chC num n xss = 0
  · have hc : hasM num xss := by
      unfold chC at h0
      repeat' split at h0
      all_goals first | assumption | omega
    have hc1 := hc.1
    have hl : (xss.getD ((lo num xss : Nat) : Int).toNat []).length = 5 := hr (xss.getD (lo num xss) []) (getD_mem hc1)
    rw [chAt_ok h0, h0] at hf
    rw [chT, chR_ok h0, h0, chL_len]
    repeat' (first | (intro h; first | contradiction | omega | (conv => whnf) | skip) | (refine And.intro ?_ ?_) | (refine arith_ok ⟨by omega, by omega⟩ ?_) | (first | (refine draw_quiet hT mixed (by decide +kernel) ?_) | (refine draw_hard hT mixed (by decide +kernel) ?_)) | (refine Ret.go (hf) rfl rfl ?_) | (refine Ret.goQ (hf) rfl rfl ?_))
    all_goals first | rfl | omega | assumption | (show (0 + xss.length) * 40 ≤ 1099511627776; omega) | (show (_ : Int) < (xss.length : Int); omega) | (show _ < xss.length; omega) | skip
    (first | (refine ⟨[], .tup [.sl 0 5 xss.length, I 0], [DMember (chL 3 n xss (lo num xss))], ?_, ?_, ?_⟩; all_goals (repeat' (first | exact rfl | exact trivial | (with_reducible assumption) | refine And.intro ?_ ?_)); all_goals (first | omega | assumption); done) | (refine ⟨[some 1], .tup [.sl 0 5 xss.length, I 0], [DMember (chL 3 n xss (lo num xss))], ?_, ?_, ?_⟩; all_goals (repeat' (first | exact rfl | exact trivial | (with_reducible assumption) | refine And.intro ?_ ?_)); all_goals (first | omega | assumption); done) | (refine ⟨[some 0], .tup [.sl 0 5 xss.length, I 0], [DMember (chL 3 n xss (lo num xss))], ?_, ?_, ?_⟩; all_goals (repeat' (first | exact rfl | exact trivial | (with_reducible assumption) | refine And.intro ?_ ?_)); all_goals (first | omega | assumption); done) | (refine ⟨[some 2], .tup [.sl 0 5 xss.length, I 0], [DMember (chL 3 n xss (lo num xss))], ?_, ?_, ?_⟩; all_goals (repeat' (first | exact rfl | exact trivial | (with_reducible assumption) | refine And.intro ?_ ?_)); all_goals (first | omega | assumption); done) | (refine ⟨[some 3], .tup [.sl 0 5 xss.length, I 0], [DMember (chL 3 n xss (lo num xss))], ?_, ?_, ?_⟩; all_goals (repeat' (first | exact rfl | exact trivial | (with_reducible assumption) | refine And.intro ?_ ?_)); all_goals (first | omega | assumption); done) | (refine ⟨[some 4], .tup [.sl 0 5 xss.length, I 0], [DMember (chL 3 n xss (lo num xss))], ?_, ?_, ?_⟩; all_goals (repeat' (first | exact rfl | exact trivial | (with_reducible assumption) | refine And.intro ?_ ?_)); all_goals (first | omega | assumption); done) | (refine ⟨[some 5], .tup [.sl 0 5 xss.length, I 0], [DMember (chL 3 n xss (lo num xss))], ?_, ?_, ?_⟩; all_goals (repeat' (first | exact rfl | exact trivial | (with_reducible assumption) | refine And.intro ?_ ?_)); all_goals (first | omega | assumption); done))
  · rw [chAt_no rfl h0] at hf
    rw [chT, chR_no rfl h0]
    repeat' (first | (intro h; first | contradiction | omega | (conv => whnf) | skip) | (refine And.intro ?_ ?_) | (refine arith_ok ⟨by omega, by omega⟩ ?_) | (first | (refine draw_quiet hT mixed (by decide +kernel) ?_) | (refine draw_hard hT mixed (by decide +kernel) ?_)) | (refine Ret.go (hf) rfl rfl ?_) | (refine Ret.goQ (hf) rfl rfl ?_))
    all_goals first | omega | (refine ⟨[none], .tup [.sl 0 5 0, I (chC num n xss)], [DMember []], ?_, ?_, ?_⟩; all_goals (repeat' (first | exact rfl | exact trivial | (with_reducible assumption) | refine And.intro ?_ ?_ | omega)))
set_option maxRecDepth 100000 in
theorem implProve_call (xss : List (List Int)) (num n : Int) (hx : xss.length ≤ 1048576) (hr : ∀ r ∈ xss, r.length = 5) : CallA Try.prog G 15 [RMember xss, I num, I n] [] (fun v J => v = chT 4 num n xss ∧ J = [DMember (chR 4 num n xss)]) := by
  refine CallA.ends (callA_of_body hT Try.func15 rfl ?_)
  have hc := changed_call 32 4 xss num n hx (fun i hi => prove1_call xss n i hi hr)
  repeat' (first | (intro h; first | contradiction | omega | (conv => whnf) | skip) | (refine And.intro ?_ ?_) | (refine arith_ok ⟨by omega, by omega⟩ ?_) | (first | (refine draw_quiet hT mixed (by decide +kernel) ?_) | (refine draw_hard hT mixed (by decide +kernel) ?_)) | (refine CallA.go [] (hc) rfl (by first | ((repeat' (first | exact rfl | exact trivial | (with_reducible assumption) | refine And.intro ?_ ?_ | omega | assumption)); done) | fail) trivial ?_))
  all_goals first | omega | skip
  (first | (refine ⟨[], chT 4 num n xss, [DMember (chR 4 num n xss)], ?_, ?_, ?_⟩; all_goals (repeat' (first | exact rfl | exact trivial | (with_reducible assumption) | refine And.intro ?_ ?_)); all_goals (first | omega | assumption); done) | (refine ⟨[some 1], chT 4 num n xss, [DMember (chR 4 num n xss)], ?_, ?_, ?_⟩; all_goals (repeat' (first | exact rfl | exact trivial | (with_reducible assumption) | refine And.intro ?_ ?_)); all_goals (first | omega | assumption); done) | (refine ⟨[some 0], chT 4 num n xss, [DMember (chR 4 num n xss)], ?_, ?_, ?_⟩; all_goals (repeat' (first | exact rfl | exact trivial | (with_reducible assumption) | refine And.intro ?_ ?_)); all_goals (first | omega | assumption); done) | (refine ⟨[some 2], chT 4 num n xss, [DMember (chR 4 num n xss)], ?_, ?_, ?_⟩; all_goals (repeat' (first | exact rfl | exact trivial | (with_reducible assumption) | refine And.intro ?_ ?_)); all_goals (first | omega | assumption); done) | (refine ⟨[some 3], chT 4 num n xss, [DMember (chR 4 num n xss)], ?_, ?_, ?_⟩; all_goals (repeat' (first | exact rfl | exact trivial | (with_reducible assumption) | refine And.intro ?_ ?_)); all_goals (first | omega | assumption); done) | (refine ⟨[some 4], chT 4 num n xss, [DMember (chR 4 num n xss)], ?_, ?_, ?_⟩; all_goals (repeat' (first | exact rfl | exact trivial | (with_reducible assumption) | refine And.intro ?_ ?_)); all_goals (first | omega | assumption); done) | (refine ⟨[some 5], chT 4 num n xss, [DMember (chR 4 num n xss)], ?_, ?_, ?_⟩; all_goals (repeat' (first | exact rfl | exact trivial | (with_reducible assumption) | refine And.intro ?_ ?_)); all_goals (first | omega | assumption); done))
set_option maxRecDepth 100000 in
theorem specProve_call (xss : List (List Int)) (num n : Int) (hx : xss.length ≤ 1048576) (hr : ∀ r ∈ xss, r.length = 5) : CallA Try.prog G 14 [RMember xss, I num, I n] [] (fun v J => v = chT 4 num n xss ∧ J = [DMember (chR 4 num n xss)]) := by
  refine CallA.ends (callA_of_body hT Try.func14 rfl ?_)
  have hf := l26Find_ret num n xss (by omega)
  by_cases h0 : chC num n xss = 0
  · have hc : hasM num xss := by
      unfold chC at h0
      repeat' split at h0
      all_goals first | assumption | omega
    have hc1 := hc.1
    have hl : (xss.getD ((lo num xss : Nat) : Int).toNat []).length = 5 := hr (xss.getD (lo num xss) []) (getD_mem hc1)
    rw [chAt_ok h0, h0] at hf
    rw [chT, chR_ok h0, h0, chL_len]
    repeat' (first | (intro h; first | contradiction | omega | (conv => whnf) | skip) | (refine And.intro ?_ ?_) | (refine arith_ok ⟨by omega, by omega⟩ ?_) | (first | (refine draw_quiet hT mixed (by decide +kernel) ?_) | (refine draw_hard hT mixed (by decide +kernel) ?_)) | (refine Ret.go (hf) rfl rfl ?_) | (refine Ret.goQ (hf) rfl rfl ?_))
    all_goals first | rfl | omega | assumption | (show (0 + xss.length) * 40 ≤ 1099511627776; omega) | (show (_ : Int) < (xss.length : Int); omega) | (show _ < xss.length; omega) | skip
    (first | (refine ⟨[], .tup [.sl 0 5 xss.length, I 0], [DMember (chL 4 n xss (lo num xss))], ?_, ?_, ?_⟩; all_goals (repeat' (first | exact rfl | exact trivial | (with_reducible assumption) | refine And.intro ?_ ?_)); all_goals (first | omega | assumption); done) | (refine ⟨[some 1], .tup [.sl 0 5 xss.length, I 0], [DMember (chL 4 n xss (lo num xss))], ?_, ?_, ?_⟩; all_goals (repeat' (first | exact rfl | exact trivial | (with_reducible assumption) | refine And.intro ?_ ?_)); all_goals (first | omega | assumption); done) | (refine ⟨[some 0], .tup [.sl 0 5 xss.length, I 0], [DMember (chL 4 n xss (lo num xss))], ?_, ?_, ?_⟩; all_goals (repeat' (first | exact rfl | exact trivial | (with_reducible assumption) | refine And.intro ?_ ?_)); all_goals (first | omega | assumption); done) | (refine ⟨[some 2], .tup [.sl 0 5 xss.length, I 0], [DMember (chL 4 n xss (lo num xss))], ?_, ?_, ?_⟩; all_goals (repeat' (first | exact rfl | exact trivial | (with_reducible assumption) | refine And.intro ?_ ?_)); all_goals (first | omega | assumption); done) | (refine ⟨[some 3], .tup [.sl 0 5 xss.length, I 0], [DMember (chL 4 n xss (lo num xss))], ?_, ?_, ?_⟩; all_goals (repeat' (first | exact rfl | exact trivial | (with_reducible assumption) | refine And.intro ?_ ?_)); all_goals (first | omega | assumption); done) | (refine ⟨[some 4], .tup [.sl 0 5 xss.length, I 0], [DMember (chL 4 n xss (lo num xss))], ?_, ?_, ?_⟩; all_goals (repeat' (first | exact rfl | exact trivial | (with_reducible assumption) | refine And.intro ?_ ?_)); all_goals (first | omega | assumption); done) | (refine ⟨[some 5], .tup [.sl 0 5 xss.length, I 0], [DMember (chL 4 n xss (lo num xss))], ?_, ?_, ?_⟩; all_goals (repeat' (first | exact rfl | exact trivial | (with_reducible assumption) | refine And.intro ?_ ?_)); all_goals (first | omega | assumption); done))
  · rw [chAt_no rfl h0] at hf
    rw [chT, chR_no rfl h0]
    repeat' (first | (intro h; first | contradiction | omega | (conv => whnf) | skip) | (refine And.intro ?_ ?_) | (refine arith_ok ⟨by omega, by omega⟩ ?_) | (first | (refine draw_quiet hT mixed (by decide +kernel) ?_) | (refine draw_hard hT mixed (by decide +kernel) ?_)) | (refine Ret.go (hf) rfl rfl ?_) | (refine Ret.goQ (hf) rfl rfl ?_))
    all_goals first | omega | (refine ⟨[none], .tup [.sl 0 5 0, I (chC num n xss)], [DMember []], ?_, ?_, ?_⟩; all_goals (repeat' (first | exact rfl | exact trivial | (with_reducible assumption) | refine And.intro ?_ ?_ | omega)))
theorem chR_len (j : Nat) (num n : Int) (xss : List (List Int)) : (chR j num n xss).length ≤ 60 := by
  unfold chR
  split
  · rename_i h0
    rw [chL_len]
    unfold chC at h0
    repeat' split at h0
    all_goals first | omega | (rename_i h1 _ _ _; exact h1.2)
  · simp
theorem chR_row (j : Nat) (num n : Int) (xss : List (List Int)) (hr : ∀ r ∈ xss, r.length = 5) : ∀ r ∈ chR j num n xss, r.length = 5 := by
  unfold chR
  split
  · rename_i h0
    have hc : hasM num xss := by
      unfold chC at h0
      repeat' split at h0
      all_goals first | assumption | omega
    intro r hm
    rcases List.mem_or_eq_of_mem_set hm with hm | rfl
    · exact hr r hm
    · rw [setInts_len]; exact hr _ (getD_mem hc.1)
  · intro r hm; cases hm
set_option maxRecDepth 100000 in
theorem lawLeave_ret (xss : List (List Int)) (num n : Int) (hn : xss.length ≤ 9223372036854775807) (hr : ∀ r ∈ xss, r.length = 5) : Ret Try.prog G 3 [RMember xss, I num, I n] (Bo true) := by
  refine ret_of_body hT Try.func3 rfl ?_ rfl
  have hl := chR_len 3 num n xss
  have hR := chR_row 3 num n xss hr
  have hm : (chR 3 num n xss).length = (D.recs 5 (marksMember (chR 3 num n xss).length 1)).len := (marksMember_len _ _).symm
  by_cases hbig : xss.length ≤ 1048576
  · have hsz := szMemberS_ret xss 1048576 (by omega) (by omega)
    rw [if_pos (by omega)] at hsz
    repeat' (first | (intro h; first | contradiction | omega | (conv => whnf) | skip) | (refine And.intro ?_ ?_) | (refine arith_ok ⟨by omega, by omega⟩ ?_) | (first | (refine draw_quiet hT mixed (by decide +kernel) ?_) | (refine draw_hard hT mixed (by decide +kernel) ?_)) | (refine Ret.use (hsz) (by first | ((repeat' (first | exact rfl | exact trivial | (with_reducible assumption) | refine And.intro ?_ ?_ | omega | assumption)); done) | fail) ?_) | (refine Ret.useQ (hsz) (by first | ((repeat' (first | exact rfl | exact trivial | (with_reducible assumption) | refine And.intro ?_ ?_ | omega | assumption)); done) | fail) rfl ?_) | (refine CallA.go [] (toMemberS_call xss (by omega) hr) rfl (by first | ((repeat' (first | exact rfl | exact trivial | (with_reducible assumption) | refine And.intro ?_ ?_ | omega | assumption)); done) | fail) trivial ?_) | (refine CallA.go [] (specLeave_call xss num n (by omega) hr) rfl (by first | ((repeat' (first | exact rfl | exact trivial | (with_reducible assumption) | refine And.intro ?_ ?_ | omega | assumption)); done) | fail) trivial ?_) | (refine CallA.go [] (implLeave_call xss num n (by omega) hr) rfl (by first | ((repeat' (first | exact rfl | exact trivial | (with_reducible assumption) | refine And.intro ?_ ?_ | omega | assumption)); done) | fail) trivial ?_) | (refine Ret.useP (eqMemberS_ret (chR 3 num n xss) (chR 3 num n xss) (by omega) hR hR) (by first | ((repeat' (first | exact rfl | exact trivial | (with_reducible assumption) | refine And.intro ?_ ?_ | omega | assumption)); done) | fail) ?_) | (refine Ret.useQP (eqMemberS_ret (chR 3 num n xss) (chR 3 num n xss) (by omega) hR hR) (by first | ((repeat' (first | exact rfl | exact trivial | (with_reducible assumption) | refine And.intro ?_ ?_ | omega | assumption)); done) | fail) ?_) | (refine Ret.useP (eqMemberS_ret xss xss (by omega) hr hr) (by first | ((repeat' (first | exact rfl | exact trivial | (with_reducible assumption) | refine And.intro ?_ ?_ | omega | assumption)); done) | fail) ?_) | (refine Ret.useQP (eqMemberS_ret xss xss (by omega) hr hr) (by first | ((repeat' (first | exact rfl | exact trivial | (with_reducible assumption) | refine And.intro ?_ ?_ | omega | assumption)); done) | fail) ?_) | (refine CallA.go [2] (markMemberS_call xss 1 (by omega) (by omega) hr) rfl (by first | ((repeat' (first | exact rfl | exact trivial | (with_reducible assumption) | refine And.intro ?_ ?_ | omega | assumption)); done) | fail) (by first | ((repeat' (first | exact rfl | exact trivial | (with_reducible assumption) | refine And.intro ?_ ?_ | omega | assumption)); done) | fail) ?_) | (refine CallA.go [3] (markMemberS_call (chR 3 num n xss) 1 (by omega) (by omega) hR) rfl (by first | ((repeat' (first | exact rfl | exact trivial | (with_reducible assumption) | refine And.intro ?_ ?_ | omega | assumption)); done) | fail) (by first | ((repeat' (first | exact rfl | exact trivial | (with_reducible assumption) | refine And.intro ?_ ?_ | omega | assumption)); done) | fail) ?_) | (refine Ret.use (heldMemberS_ret (chR 3 num n xss).length 1 (by omega) (by omega)) (by first | ((repeat' (first | exact rfl | exact trivial | (with_reducible assumption) | refine And.intro ?_ ?_ | omega | assumption)); done) | fail) ?_) | (refine Ret.useQ (heldMemberS_ret (chR 3 num n xss).length 1 (by omega) (by omega)) (by first | ((repeat' (first | exact rfl | exact trivial | (with_reducible assumption) | refine And.intro ?_ ?_ | omega | assumption)); done) | fail) rfl ?_))
    all_goals first | rfl | omega
  · have hsz := szMemberS_ret xss 1048576 hn (by omega)
    rw [if_neg (by omega)] at hsz
    repeat' (first | (intro h; first | contradiction | omega | (conv => whnf) | skip) | (refine And.intro ?_ ?_) | (refine arith_ok ⟨by omega, by omega⟩ ?_) | (first | (refine draw_quiet hT mixed (by decide +kernel) ?_) | (refine draw_hard hT mixed (by decide +kernel) ?_)) | (refine Ret.use (hsz) (by first | ((repeat' (first | exact rfl | exact trivial | (with_reducible assumption) | refine And.intro ?_ ?_ | omega | assumption)); done) | fail) ?_) | (refine Ret.useQ (hsz) (by first | ((repeat' (first | exact rfl | exact trivial | (with_reducible assumption) | refine And.intro ?_ ?_ | omega | assumption)); done) | fail) rfl ?_))
    all_goals first | rfl | omega
set_option maxRecDepth 100000 in
theorem lawProve_ret (xss : List (List Int)) (num n : Int) (hn : xss.length ≤ 9223372036854775807) (hr : ∀ r ∈ xss, r.length = 5) : Ret Try.prog G 4 [RMember xss, I num, I n] (Bo true) := by
  refine ret_of_body hT Try.func4 rfl ?_ rfl
  have hl := chR_len 4 num n xss
  have hR := chR_row 4 num n xss hr
  have hm : (chR 4 num n xss).length = (D.recs 5 (marksMember (chR 4 num n xss).length 1)).len := (marksMember_len _ _).symm
  by_cases hbig : xss.length ≤ 1048576
  · have hsz := szMemberS_ret xss 1048576 (by omega) (by omega)
    rw [if_pos (by omega)] at hsz
    repeat' (first | (intro h; first | contradiction | omega | (conv => whnf) | skip) | (refine And.intro ?_ ?_) | (refine arith_ok ⟨by omega, by omega⟩ ?_) | (first | (refine draw_quiet hT mixed (by decide +kernel) ?_) | (refine draw_hard hT mixed (by decide +kernel) ?_)) | (refine Ret.use (hsz) (by first | ((repeat' (first | exact rfl | exact trivial | (with_reducible assumption) | refine And.intro ?_ ?_ | omega | assumption)); done) | fail) ?_) | (refine Ret.useQ (hsz) (by first | ((repeat' (first | exact rfl | exact trivial | (with_reducible assumption) | refine And.intro ?_ ?_ | omega | assumption)); done) | fail) rfl ?_) | (refine CallA.go [] (toMemberS_call xss (by omega) hr) rfl (by first | ((repeat' (first | exact rfl | exact trivial | (with_reducible assumption) | refine And.intro ?_ ?_ | omega | assumption)); done) | fail) trivial ?_) | (refine CallA.go [] (specProve_call xss num n (by omega) hr) rfl (by first | ((repeat' (first | exact rfl | exact trivial | (with_reducible assumption) | refine And.intro ?_ ?_ | omega | assumption)); done) | fail) trivial ?_) | (refine CallA.go [] (implProve_call xss num n (by omega) hr) rfl (by first | ((repeat' (first | exact rfl | exact trivial | (with_reducible assumption) | refine And.intro ?_ ?_ | omega | assumption)); done) | fail) trivial ?_) | (refine Ret.useP (eqMemberS_ret (chR 4 num n xss) (chR 4 num n xss) (by omega) hR hR) (by first | ((repeat' (first | exact rfl | exact trivial | (with_reducible assumption) | refine And.intro ?_ ?_ | omega | assumption)); done) | fail) ?_) | (refine Ret.useQP (eqMemberS_ret (chR 4 num n xss) (chR 4 num n xss) (by omega) hR hR) (by first | ((repeat' (first | exact rfl | exact trivial | (with_reducible assumption) | refine And.intro ?_ ?_ | omega | assumption)); done) | fail) ?_) | (refine Ret.useP (eqMemberS_ret xss xss (by omega) hr hr) (by first | ((repeat' (first | exact rfl | exact trivial | (with_reducible assumption) | refine And.intro ?_ ?_ | omega | assumption)); done) | fail) ?_) | (refine Ret.useQP (eqMemberS_ret xss xss (by omega) hr hr) (by first | ((repeat' (first | exact rfl | exact trivial | (with_reducible assumption) | refine And.intro ?_ ?_ | omega | assumption)); done) | fail) ?_) | (refine CallA.go [2] (markMemberS_call xss 1 (by omega) (by omega) hr) rfl (by first | ((repeat' (first | exact rfl | exact trivial | (with_reducible assumption) | refine And.intro ?_ ?_ | omega | assumption)); done) | fail) (by first | ((repeat' (first | exact rfl | exact trivial | (with_reducible assumption) | refine And.intro ?_ ?_ | omega | assumption)); done) | fail) ?_) | (refine CallA.go [3] (markMemberS_call (chR 4 num n xss) 1 (by omega) (by omega) hR) rfl (by first | ((repeat' (first | exact rfl | exact trivial | (with_reducible assumption) | refine And.intro ?_ ?_ | omega | assumption)); done) | fail) (by first | ((repeat' (first | exact rfl | exact trivial | (with_reducible assumption) | refine And.intro ?_ ?_ | omega | assumption)); done) | fail) ?_) | (refine Ret.use (heldMemberS_ret (chR 4 num n xss).length 1 (by omega) (by omega)) (by first | ((repeat' (first | exact rfl | exact trivial | (with_reducible assumption) | refine And.intro ?_ ?_ | omega | assumption)); done) | fail) ?_) | (refine Ret.useQ (heldMemberS_ret (chR 4 num n xss).length 1 (by omega) (by omega)) (by first | ((repeat' (first | exact rfl | exact trivial | (with_reducible assumption) | refine And.intro ?_ ?_ | omega | assumption)); done) | fail) rfl ?_))
    all_goals first | rfl | omega
  · have hsz := szMemberS_ret xss 1048576 hn (by omega)
    rw [if_neg (by omega)] at hsz
    repeat' (first | (intro h; first | contradiction | omega | (conv => whnf) | skip) | (refine And.intro ?_ ?_) | (refine arith_ok ⟨by omega, by omega⟩ ?_) | (first | (refine draw_quiet hT mixed (by decide +kernel) ?_) | (refine draw_hard hT mixed (by decide +kernel) ?_)) | (refine Ret.use (hsz) (by first | ((repeat' (first | exact rfl | exact trivial | (with_reducible assumption) | refine And.intro ?_ ?_ | omega | assumption)); done) | fail) ?_) | (refine Ret.useQ (hsz) (by first | ((repeat' (first | exact rfl | exact trivial | (with_reducible assumption) | refine And.intro ?_ ?_ | omega | assumption)); done) | fail) rfl ?_))
    all_goals first | rfl | omega
end Go.Proofs.Ytcjjmophikelhaa
