/-
  Sums of claims by their states: what the functions return, and the law. No conditions but those in the statements.
-/
import Derived.Test.YtgmganleejjeeaaDoorGa
namespace Go.Proofs.YtgmganleejjeeaaDoor
open Go.AE

attribute [local irreducible] CallA LoopA DrawA CallQ arithK quoK remK eqK
set_option maxRecDepth 100000 in
theorem implClaimSums_call (xss : List (List Int)) (hn : xss.length ≤ 1048576) : CallA Tryd.prog G 27 [RClaim xss] [] (fun v J => v = csT xss ∧ J = [Di (csR xss)]) := by
  refine CallA.ends (callA_of_body hT Tryd.func27 rfl ?_)
  by_cases ha : areCl xss
  · obtain ⟨h1, h2⟩ := cs_yes ha
    rw [csT, h1, h2, sumsL_len]
    have hlen := ha.2
    repeat' (first | (intro h; first | contradiction | omega | (conv => whnf) | skip) | (refine And.intro ?_ ?_) | (refine arith_ok ⟨by omega, by omega⟩ ?_) | (first | (refine draw_quiet hT mixed (by decide +kernel) ?_) | (refine draw_hard hT mixed (by decide +kernel) ?_)) | (refine Ret.goP (areClaims_ret xss (by omega)) rfl ?_) | (refine Ret.goQP (areClaims_ret xss (by omega)) rfl ?_))
    all_goals first | rfl | omega | skip
    refine loop_rule hT (fun i : Nat => i ≤ xss.length) 28 1 [4, 11, 12, 13] (fun i => [.sl 0 1 4, RClaim xss, I xss.length, I i]) (fun i => [Di (sumsL (xss.take i))]) (fun i => xss.length - i) (0) (Nat.le_of_ble_eq_true rfl) ?_ ?_ ?_
    · exact Nat.zero_le _
    · (refine ⟨rfl, [], ?_, ?_⟩; all_goals (repeat' (first | exact rfl | exact trivial | omega | refine And.intro ?_ ?_)))
    · rintro i h1
      by_cases hi : i < xss.length
      · have hi : i < xss.length := by omega
        have hr : rowCl (xss.getD ((i : Int)).toNat []) := ha.1 (xss.getD i []) (getD_mem hi)
        have hs : 0 ≤ (xss.getD ((i : Int)).toNat []).getD 5 0 ∧ (xss.getD ((i : Int)).toNat []).getD 5 0 ≤ 3 := hr.2.2.2.2.2.1
        have hm : 1 ≤ (xss.getD ((i : Int)).toNat []).getD 3 0 ∧ (xss.getD ((i : Int)).toNat []).getD 3 0 ≤ 100000000 := hr.2.2.2.1
        have hb := sumsL_bd (xss.take i) (fun r hm => ha.1 r (List.mem_of_mem_take hm)) ((xss.getD ((i : Int)).toNat []).getD 5 0).toNat
        have hl := sumsL_len (xss.take i)
        have hlen : (xss.take i).length ≤ 40 := Nat.le_trans (List.length_take_le _ _) (by omega)
        have hst : sumsL (xss.take (i + 1)) = addCl (sumsL (xss.take i)) (xss.getD i []) := by rw [take_snoc [] hi, sumsL_snoc]
        repeat' (first | (intro h; first | contradiction | omega | (conv => whnf) | skip) | (refine And.intro ?_ ?_) | (refine arith_ok ⟨by omega, by omega⟩ ?_) | (first | (refine draw_quiet hT mixed (by decide +kernel) ?_) | (refine draw_hard hT mixed (by decide +kernel) ?_)) | fail)
        all_goals first | omega | (show _ < (sumsL (xss.take i)).length; omega) | skip
        all_goals (refine ⟨i + 1, by omega, ?_, by omega⟩; (first | (refine ⟨rfl, [], ?_, ?_⟩; all_goals (repeat' (first | exact rfl | exact trivial | omega | assumption | exact congrArg (D.ints .i64) hst.symm | refine And.intro ?_ ?_)); done) | (refine ⟨rfl, [some 1], ?_, ?_⟩; all_goals (repeat' (first | exact rfl | exact trivial | omega | assumption | exact congrArg (D.ints .i64) hst.symm | refine And.intro ?_ ?_)); done) | (refine ⟨rfl, [some 2], ?_, ?_⟩; all_goals (repeat' (first | exact rfl | exact trivial | omega | assumption | exact congrArg (D.ints .i64) hst.symm | refine And.intro ?_ ?_)); done) | (refine ⟨rfl, [some 3], ?_, ?_⟩; all_goals (repeat' (first | exact rfl | exact trivial | omega | assumption | exact congrArg (D.ints .i64) hst.symm | refine And.intro ?_ ?_)); done) | (refine ⟨rfl, [some 0], ?_, ?_⟩; all_goals (repeat' (first | exact rfl | exact trivial | omega | assumption | exact congrArg (D.ints .i64) hst.symm | refine And.intro ?_ ?_)); done) | (refine ⟨rfl, [some 4], ?_, ?_⟩; all_goals (repeat' (first | exact rfl | exact trivial | omega | assumption | exact congrArg (D.ints .i64) hst.symm | refine And.intro ?_ ?_)); done) | (refine ⟨rfl, [some 5], ?_, ?_⟩; all_goals (repeat' (first | exact rfl | exact trivial | omega | assumption | exact congrArg (D.ints .i64) hst.symm | refine And.intro ?_ ?_)); done) | (refine ⟨rfl, [some 6], ?_, ?_⟩; all_goals (repeat' (first | exact rfl | exact trivial | omega | assumption | exact congrArg (D.ints .i64) hst.symm | refine And.intro ?_ ?_)); done)))
      · have ht : xss.take i = xss := take_all (by omega)
        repeat' (first | (intro h; first | contradiction | omega | (conv => whnf) | skip) | (refine And.intro ?_ ?_) | (refine arith_ok ⟨by omega, by omega⟩ ?_) | (first | (refine draw_quiet hT mixed (by decide +kernel) ?_) | (refine draw_hard hT mixed (by decide +kernel) ?_)) | fail)
        all_goals first | omega | skip
        (first | (refine ⟨[], .tup [.sl 0 1 4, I 0], [Di (sumsL xss)], ?_, ?_, ?_⟩; all_goals (repeat' (first | exact rfl | exact trivial | omega | assumption | exact congrArg (fun l => D.ints .i64 (sumsL l)) ht | refine And.intro ?_ ?_)); done) | (refine ⟨[some 1], .tup [.sl 0 1 4, I 0], [Di (sumsL xss)], ?_, ?_, ?_⟩; all_goals (repeat' (first | exact rfl | exact trivial | omega | assumption | exact congrArg (fun l => D.ints .i64 (sumsL l)) ht | refine And.intro ?_ ?_)); done) | (refine ⟨[some 0], .tup [.sl 0 1 4, I 0], [Di (sumsL xss)], ?_, ?_, ?_⟩; all_goals (repeat' (first | exact rfl | exact trivial | omega | assumption | exact congrArg (fun l => D.ints .i64 (sumsL l)) ht | refine And.intro ?_ ?_)); done) | (refine ⟨[some 2], .tup [.sl 0 1 4, I 0], [Di (sumsL xss)], ?_, ?_, ?_⟩; all_goals (repeat' (first | exact rfl | exact trivial | omega | assumption | exact congrArg (fun l => D.ints .i64 (sumsL l)) ht | refine And.intro ?_ ?_)); done) | (refine ⟨[some 3], .tup [.sl 0 1 4, I 0], [Di (sumsL xss)], ?_, ?_, ?_⟩; all_goals (repeat' (first | exact rfl | exact trivial | omega | assumption | exact congrArg (fun l => D.ints .i64 (sumsL l)) ht | refine And.intro ?_ ?_)); done) | (refine ⟨[some 4], .tup [.sl 0 1 4, I 0], [Di (sumsL xss)], ?_, ?_, ?_⟩; all_goals (repeat' (first | exact rfl | exact trivial | omega | assumption | exact congrArg (fun l => D.ints .i64 (sumsL l)) ht | refine And.intro ?_ ?_)); done) | (refine ⟨[some 5], .tup [.sl 0 1 4, I 0], [Di (sumsL xss)], ?_, ?_, ?_⟩; all_goals (repeat' (first | exact rfl | exact trivial | omega | assumption | exact congrArg (fun l => D.ints .i64 (sumsL l)) ht | refine And.intro ?_ ?_)); done))
  · obtain ⟨h1, h2⟩ := cs_no ha
    rw [csT, h1, h2]
    repeat' (first | (intro h; first | contradiction | omega | (conv => whnf) | skip) | (refine And.intro ?_ ?_) | (refine arith_ok ⟨by omega, by omega⟩ ?_) | (first | (refine draw_quiet hT mixed (by decide +kernel) ?_) | (refine draw_hard hT mixed (by decide +kernel) ?_)) | (refine Ret.goP (areClaims_ret xss (by omega)) rfl ?_) | (refine Ret.goQP (areClaims_ret xss (by omega)) rfl ?_))
    (refine ⟨[none], .tup [.sl 0 1 0, I 1], [Di []], ?_, ?_, ?_⟩; all_goals (repeat' (first | exact rfl | exact trivial | omega | refine And.intro ?_ ?_)))
set_option maxRecDepth 100000 in
theorem specClaimSums_call (xss : List (List Int)) (hn : xss.length ≤ 1048576) : CallA Tryd.prog G 28 [RClaim xss] [] (fun v J => v = csT xss ∧ J = [Di (csR xss)]) := by
  refine CallA.ends (callA_of_body hT Tryd.func28 rfl ?_)
  by_cases ha : areCl xss
  · obtain ⟨h1, h2⟩ := cs_yes ha
    rw [csT, h1, h2, sumsL_len]
    have hlen := ha.2
    repeat' (first | (intro h; first | contradiction | omega | (conv => whnf) | skip) | (refine And.intro ?_ ?_) | (refine arith_ok ⟨by omega, by omega⟩ ?_) | (first | (refine draw_quiet hT mixed (by decide +kernel) ?_) | (refine draw_hard hT mixed (by decide +kernel) ?_)) | (refine Ret.goP (l25Claims_ret xss (by omega)) rfl ?_) | (refine Ret.goQP (l25Claims_ret xss (by omega)) rfl ?_))
    all_goals first | rfl | omega | skip
    refine loop_rule hT (fun i : Nat => i ≤ xss.length) 36 1 [0, 4, 5] (fun i => [RClaim xss, .sl 0 1 4, I i]) (fun i => [Di (sumsL (xss.take i))]) (fun i => xss.length - i) (0) (Nat.le_of_ble_eq_true rfl) ?_ ?_ ?_
    · exact Nat.zero_le _
    · (refine ⟨rfl, [], ?_, ?_⟩; all_goals (repeat' (first | exact rfl | exact trivial | omega | refine And.intro ?_ ?_)))
    · rintro i h1
      by_cases hi : i < xss.length
      · have hi : i < xss.length := by omega
        have hr : rowCl (xss.getD ((i : Int)).toNat []) := ha.1 (xss.getD i []) (getD_mem hi)
        have hs : 0 ≤ (xss.getD ((i : Int)).toNat []).getD 5 0 ∧ (xss.getD ((i : Int)).toNat []).getD 5 0 ≤ 3 := hr.2.2.2.2.2.1
        have hm : 1 ≤ (xss.getD ((i : Int)).toNat []).getD 3 0 ∧ (xss.getD ((i : Int)).toNat []).getD 3 0 ≤ 100000000 := hr.2.2.2.1
        have hb := sumsL_bd (xss.take i) (fun r hm => ha.1 r (List.mem_of_mem_take hm)) ((xss.getD ((i : Int)).toNat []).getD 5 0).toNat
        have hl := sumsL_len (xss.take i)
        have hlen : (xss.take i).length ≤ 40 := Nat.le_trans (List.length_take_le _ _) (by omega)
        have hst : sumsL (xss.take (i + 1)) = addCl (sumsL (xss.take i)) (xss.getD i []) := by rw [take_snoc [] hi, sumsL_snoc]
        repeat' (first | (intro h; first | contradiction | omega | (conv => whnf) | skip) | (refine And.intro ?_ ?_) | (refine arith_ok ⟨by omega, by omega⟩ ?_) | (first | (refine draw_quiet hT mixed (by decide +kernel) ?_) | (refine draw_hard hT mixed (by decide +kernel) ?_)) | fail)
        all_goals first | omega | (show _ < (sumsL (xss.take i)).length; omega) | skip
        all_goals (refine ⟨i + 1, by omega, ?_, by omega⟩; (first | (refine ⟨rfl, [], ?_, ?_⟩; all_goals (repeat' (first | exact rfl | exact trivial | omega | assumption | exact congrArg (D.ints .i64) hst.symm | refine And.intro ?_ ?_)); done) | (refine ⟨rfl, [some 1], ?_, ?_⟩; all_goals (repeat' (first | exact rfl | exact trivial | omega | assumption | exact congrArg (D.ints .i64) hst.symm | refine And.intro ?_ ?_)); done) | (refine ⟨rfl, [some 2], ?_, ?_⟩; all_goals (repeat' (first | exact rfl | exact trivial | omega | assumption | exact congrArg (D.ints .i64) hst.symm | refine And.intro ?_ ?_)); done) | (refine ⟨rfl, [some 3], ?_, ?_⟩; all_goals (repeat' (first | exact rfl | exact trivial | omega | assumption | exact congrArg (D.ints .i64) hst.symm | refine And.intro ?_ ?_)); done) | (refine ⟨rfl, [some 0], ?_, ?_⟩; all_goals (repeat' (first | exact rfl | exact trivial | omega | assumption | exact congrArg (D.ints .i64) hst.symm | refine And.intro ?_ ?_)); done) | (refine ⟨rfl, [some 4], ?_, ?_⟩; all_goals (repeat' (first | exact rfl | exact trivial | omega | assumption | exact congrArg (D.ints .i64) hst.symm | refine And.intro ?_ ?_)); done) | (refine ⟨rfl, [some 5], ?_, ?_⟩; all_goals (repeat' (first | exact rfl | exact trivial | omega | assumption | exact congrArg (D.ints .i64) hst.symm | refine And.intro ?_ ?_)); done) | (refine ⟨rfl, [some 6], ?_, ?_⟩; all_goals (repeat' (first | exact rfl | exact trivial | omega | assumption | exact congrArg (D.ints .i64) hst.symm | refine And.intro ?_ ?_)); done)))
      · have ht : xss.take i = xss := take_all (by omega)
        repeat' (first | (intro h; first | contradiction | omega | (conv => whnf) | skip) | (refine And.intro ?_ ?_) | (refine arith_ok ⟨by omega, by omega⟩ ?_) | (first | (refine draw_quiet hT mixed (by decide +kernel) ?_) | (refine draw_hard hT mixed (by decide +kernel) ?_)) | fail)
        all_goals first | omega | skip
        (first | (refine ⟨[], .tup [.sl 0 1 4, I 0], [Di (sumsL xss)], ?_, ?_, ?_⟩; all_goals (repeat' (first | exact rfl | exact trivial | omega | assumption | exact congrArg (fun l => D.ints .i64 (sumsL l)) ht | refine And.intro ?_ ?_)); done) | (refine ⟨[some 1], .tup [.sl 0 1 4, I 0], [Di (sumsL xss)], ?_, ?_, ?_⟩; all_goals (repeat' (first | exact rfl | exact trivial | omega | assumption | exact congrArg (fun l => D.ints .i64 (sumsL l)) ht | refine And.intro ?_ ?_)); done) | (refine ⟨[some 0], .tup [.sl 0 1 4, I 0], [Di (sumsL xss)], ?_, ?_, ?_⟩; all_goals (repeat' (first | exact rfl | exact trivial | omega | assumption | exact congrArg (fun l => D.ints .i64 (sumsL l)) ht | refine And.intro ?_ ?_)); done) | (refine ⟨[some 2], .tup [.sl 0 1 4, I 0], [Di (sumsL xss)], ?_, ?_, ?_⟩; all_goals (repeat' (first | exact rfl | exact trivial | omega | assumption | exact congrArg (fun l => D.ints .i64 (sumsL l)) ht | refine And.intro ?_ ?_)); done) | (refine ⟨[some 3], .tup [.sl 0 1 4, I 0], [Di (sumsL xss)], ?_, ?_, ?_⟩; all_goals (repeat' (first | exact rfl | exact trivial | omega | assumption | exact congrArg (fun l => D.ints .i64 (sumsL l)) ht | refine And.intro ?_ ?_)); done) | (refine ⟨[some 4], .tup [.sl 0 1 4, I 0], [Di (sumsL xss)], ?_, ?_, ?_⟩; all_goals (repeat' (first | exact rfl | exact trivial | omega | assumption | exact congrArg (fun l => D.ints .i64 (sumsL l)) ht | refine And.intro ?_ ?_)); done) | (refine ⟨[some 5], .tup [.sl 0 1 4, I 0], [Di (sumsL xss)], ?_, ?_, ?_⟩; all_goals (repeat' (first | exact rfl | exact trivial | omega | assumption | exact congrArg (fun l => D.ints .i64 (sumsL l)) ht | refine And.intro ?_ ?_)); done))
  · obtain ⟨h1, h2⟩ := cs_no ha
    rw [csT, h1, h2]
    repeat' (first | (intro h; first | contradiction | omega | (conv => whnf) | skip) | (refine And.intro ?_ ?_) | (refine arith_ok ⟨by omega, by omega⟩ ?_) | (first | (refine draw_quiet hT mixed (by decide +kernel) ?_) | (refine draw_hard hT mixed (by decide +kernel) ?_)) | (refine Ret.goP (l25Claims_ret xss (by omega)) rfl ?_) | (refine Ret.goQP (l25Claims_ret xss (by omega)) rfl ?_))
    (refine ⟨[none], .tup [.sl 0 1 0, I 1], [Di []], ?_, ?_, ?_⟩; all_goals (repeat' (first | exact rfl | exact trivial | omega | refine And.intro ?_ ?_)))
end Go.Proofs.YtgmganleejjeeaaDoor
