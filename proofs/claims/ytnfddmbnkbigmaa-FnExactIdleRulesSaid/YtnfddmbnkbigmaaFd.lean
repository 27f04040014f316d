/-
  How many cases have an outcome: what the functions return, and the law. No conditions but those in the statements.
-/
import Derived.Test.YtnfddmbnkbigmaaFc
namespace Go.Proofs.Ytnfddmbnkbigmaa
open Go.AE

attribute [local irreducible] CallA LoopA DrawA CallQ arithK quoK remK eqK
attribute [local irreducible] cnt fst fstN
abbrev outAt (xss : List (List Int)) (i : Int) : Int := (xss.getD i.toNat []).getD 5 0
def outQ (xss : List (List Int)) (o n : Int) : Bool := decide (0 ≤ fstN xss n ∧ outAt xss (fstN xss n) = o)
def outT (xss : List (List Int)) (o c i : Int) : Int := if 0 ≤ i ∧ outAt xss i = o then c + 1 else c
theorem outT_next (xss : List (List Int)) (o : Int) {n : Int} (h0 : 0 ≤ n) : outT xss o (cnt (outQ xss o) n) (fstN xss n) = cnt (outQ xss o) (n + 1) := by
  unfold outT
  split
  · rename_i h; rw [cnt_yes h0 (decide_eq_true h)]
  · rename_i h; rw [cnt_no h0 (decide_eq_false h)]
theorem outT_yes {xss : List (List Int)} {o c i : Int} (h : 0 ≤ i) (h2 : outAt xss i = o) : outT xss o c i = c + 1 := if_pos ⟨h, h2⟩
theorem outT_no {xss : List (List Int)} {o c i : Int} (h : ¬ (0 ≤ i ∧ outAt xss i = o)) : outT xss o c i = c := if_neg h
set_option maxRecDepth 100000 in
theorem out1_call (xss : List (List Int)) (o a y k i c : Int) (hi : i = -1 ∨ (0 ≤ i ∧ i < xss.length)) (hc : 0 ≤ c ∧ c ≤ 60400) : CallA Try.prog G 43 [VCase a y k, I i, .rpc [RRule xss] 0, .rpc [I o] 0, .ptr 0 0] [.cells [I c]] (fun v J => v = Bo false ∧ J = [.cells [I (outT xss o c i)]]) := by
  refine CallA.ends (callA_of_body hT Try.func43 rfl ?_)
  repeat' (first | (intro h; first | contradiction | omega | (conv => whnf) | skip) | (refine And.intro ?_ ?_) | (refine arith_ok ⟨by omega, by omega⟩ ?_) | (first | (refine draw_quiet hT mixed (by decide +kernel) ?_) | (refine draw_hard hT mixed (by decide +kernel) ?_)) | fail)
  all_goals first
    | omega
    | (have ht : outT xss o c i = c + 1 := outT_yes (by assumption) (by assumption); rw [ht]; (first | (refine ⟨[], Bo false, [.cells [I (c + 1)]], ?_, ?_, ?_⟩; all_goals (repeat' (first | exact rfl | exact trivial | omega | assumption | fail | refine And.intro ?_ ?_)); done) | (refine ⟨[some 1], Bo false, [.cells [I (c + 1)]], ?_, ?_, ?_⟩; all_goals (repeat' (first | exact rfl | exact trivial | omega | assumption | fail | refine And.intro ?_ ?_)); done) | (refine ⟨[some 0], Bo false, [.cells [I (c + 1)]], ?_, ?_, ?_⟩; all_goals (repeat' (first | exact rfl | exact trivial | omega | assumption | fail | refine And.intro ?_ ?_)); done) | (refine ⟨[some 2], Bo false, [.cells [I (c + 1)]], ?_, ?_, ?_⟩; all_goals (repeat' (first | exact rfl | exact trivial | omega | assumption | fail | refine And.intro ?_ ?_)); done) | (refine ⟨[some 3], Bo false, [.cells [I (c + 1)]], ?_, ?_, ?_⟩; all_goals (repeat' (first | exact rfl | exact trivial | omega | assumption | fail | refine And.intro ?_ ?_)); done)))
    | (have ht : outT xss o c i = c := outT_no (fun hh => by first | exact absurd hh.1 (by assumption) | exact absurd hh.2 (by assumption)); rw [ht]; (first | (refine ⟨[], Bo false, [.cells [I c]], ?_, ?_, ?_⟩; all_goals (repeat' (first | exact rfl | exact trivial | omega | assumption | fail | refine And.intro ?_ ?_)); done) | (refine ⟨[some 1], Bo false, [.cells [I c]], ?_, ?_, ?_⟩; all_goals (repeat' (first | exact rfl | exact trivial | omega | assumption | fail | refine And.intro ?_ ?_)); done) | (refine ⟨[some 0], Bo false, [.cells [I c]], ?_, ?_, ?_⟩; all_goals (repeat' (first | exact rfl | exact trivial | omega | assumption | fail | refine And.intro ?_ ?_)); done) | (refine ⟨[some 2], Bo false, [.cells [I c]], ?_, ?_, ?_⟩; all_goals (repeat' (first | exact rfl | exact trivial | omega | assumption | fail | refine And.intro ?_ ?_)); done) | (refine ⟨[some 3], Bo false, [.cells [I c]], ?_, ?_, ?_⟩; all_goals (repeat' (first | exact rfl | exact trivial | omega | assumption | fail | refine And.intro ?_ ?_)); done)))
    | trace_state
set_option maxHeartbeats 1000000 in
set_option maxRecDepth 100000 in
theorem casesOut_call (xss : List (List Int)) (o : Int) (ha : areRl xss) : CallA Try.prog G 38 [RRule xss, .fn 43 [.rpc [RRule xss] 0, .rpc [I o] 0, .ptr 0 0]] [.cells [I (cnt (outQ xss o) 0)]] (fun v J => v = Bo false ∧ J = [.cells [I (cnt (outQ xss o) 60400)]]) := by
  refine CallA.ends (callA_of_body hT Try.func38 rfl ?_)
  repeat' (first | (intro h; first | contradiction | omega | (conv => whnf) | skip) | (refine And.intro ?_ ?_) | (refine arith_ok ⟨by omega, by omega⟩ ?_) | (refine draw_hard hT mixed (by decide +kernel) ?_) | fail)
  refine loop_rule hT (fun p : Int × Int => (0 ≤ p.1 ∧ p.1 ≤ 4) ∧ p.2 = (cnt (outQ xss o)) (p.1 * 15100)) 31 1 [0, 1, 9] (fun p => [RRule xss, .fn 43 [.rpc [RRule xss] 0, .rpc [I o] 0, .ptr 0 0], I p.1]) (fun p => (fun s => [.cells [I s]]) p.2) (fun p => (4 - p.1).toNat) ((0, (cnt (outQ xss o)) 0)) (Nat.le_of_ble_eq_true rfl) ?_ ?_ ?_
  · exact ⟨by dsimp only; omega, by dsimp only; exact congrArg (cnt (outQ xss o)) (by omega)⟩
  · (first | (refine ⟨rfl, [], ?_, ?_⟩; all_goals (repeat' (first | exact rfl | exact trivial | omega | assumption | fail | refine And.intro ?_ ?_)); done) | (refine ⟨rfl, [some 1], ?_, ?_⟩; all_goals (repeat' (first | exact rfl | exact trivial | omega | assumption | fail | refine And.intro ?_ ?_)); done) | (refine ⟨rfl, [some 2], ?_, ?_⟩; all_goals (repeat' (first | exact rfl | exact trivial | omega | assumption | fail | refine And.intro ?_ ?_)); done) | (refine ⟨rfl, [some 3], ?_, ?_⟩; all_goals (repeat' (first | exact rfl | exact trivial | omega | assumption | fail | refine And.intro ?_ ?_)); done) | (refine ⟨rfl, [some 0], ?_, ?_⟩; all_goals (repeat' (first | exact rfl | exact trivial | omega | assumption | fail | refine And.intro ?_ ?_)); done) | (refine ⟨rfl, [some 4], ?_, ?_⟩; all_goals (repeat' (first | exact rfl | exact trivial | omega | assumption | fail | refine And.intro ?_ ?_)); done))
  · rintro ⟨k, s⟩ ⟨h1, h2⟩
    dsimp only at h1 h2 ⊢
    by_cases hk : k < 4
    · repeat' (first | (intro h; first | contradiction | omega | (conv => whnf) | skip) | (refine And.intro ?_ ?_) | (refine arith_ok ⟨by omega, by omega⟩ ?_) | (refine draw_hard hT mixed (by decide +kernel) ?_) | fail)
      all_goals first | omega | skip
      refine loop_rule hT (fun p : Int × Int => (0 ≤ p.1 ∧ p.1 ≤ 151) ∧ p.2 = (cnt (outQ xss o)) (k * 15100 + p.1 * 100)) 31 1 [0, 1, 5, 9, 12] (fun p => [RRule xss, .fn 43 [.rpc [RRule xss] 0, .rpc [I o] 0, .ptr 0 0], I k, I k, I p.1]) (fun p => (fun s => [.cells [I s]]) p.2) (fun p => (151 - p.1).toNat) ((0, s)) (Nat.le_of_ble_eq_true rfl) ?_ ?_ ?_
      · exact ⟨by dsimp only; omega, by rw [h2]; exact congrArg (cnt (outQ xss o)) (by omega)⟩
      · (first | (refine ⟨rfl, [], ?_, ?_⟩; all_goals (repeat' (first | exact rfl | exact trivial | omega | assumption | fail | refine And.intro ?_ ?_)); done) | (refine ⟨rfl, [some 1], ?_, ?_⟩; all_goals (repeat' (first | exact rfl | exact trivial | omega | assumption | fail | refine And.intro ?_ ?_)); done) | (refine ⟨rfl, [some 2], ?_, ?_⟩; all_goals (repeat' (first | exact rfl | exact trivial | omega | assumption | fail | refine And.intro ?_ ?_)); done) | (refine ⟨rfl, [some 3], ?_, ?_⟩; all_goals (repeat' (first | exact rfl | exact trivial | omega | assumption | fail | refine And.intro ?_ ?_)); done) | (refine ⟨rfl, [some 0], ?_, ?_⟩; all_goals (repeat' (first | exact rfl | exact trivial | omega | assumption | fail | refine And.intro ?_ ?_)); done) | (refine ⟨rfl, [some 4], ?_, ?_⟩; all_goals (repeat' (first | exact rfl | exact trivial | omega | assumption | fail | refine And.intro ?_ ?_)); done))
      · rintro ⟨a, s⟩ ⟨h3, h4⟩
        dsimp only at h3 h4 ⊢
        by_cases hb : a < 151
        · repeat' (first | (intro h; first | contradiction | omega | (conv => whnf) | skip) | (refine And.intro ?_ ?_) | (refine arith_ok ⟨by omega, by omega⟩ ?_) | (refine draw_hard hT mixed (by decide +kernel) ?_) | fail)
          all_goals first | omega | skip
          refine loop_rule hT (fun p : Int × Int => (0 ≤ p.1 ∧ p.1 ≤ 100) ∧ p.2 = (cnt (outQ xss o)) (k * 15100 + a * 100 + p.1)) 31 1 [0, 1, 5, 6, 9, 12, 15] (fun p => [RRule xss, .fn 43 [.rpc [RRule xss] 0, .rpc [I o] 0, .ptr 0 0], I k, I a, I k, I a, I p.1]) (fun p => (fun s => [.cells [I s]]) p.2) (fun p => (100 - p.1).toNat) ((0, s)) (Nat.le_of_ble_eq_true rfl) ?_ ?_ ?_
          · exact ⟨by dsimp only; omega, by rw [h4]; exact congrArg (cnt (outQ xss o)) (by omega)⟩
          · (first | (refine ⟨rfl, [], ?_, ?_⟩; all_goals (repeat' (first | exact rfl | exact trivial | omega | assumption | fail | refine And.intro ?_ ?_)); done) | (refine ⟨rfl, [some 1], ?_, ?_⟩; all_goals (repeat' (first | exact rfl | exact trivial | omega | assumption | fail | refine And.intro ?_ ?_)); done) | (refine ⟨rfl, [some 2], ?_, ?_⟩; all_goals (repeat' (first | exact rfl | exact trivial | omega | assumption | fail | refine And.intro ?_ ?_)); done) | (refine ⟨rfl, [some 3], ?_, ?_⟩; all_goals (repeat' (first | exact rfl | exact trivial | omega | assumption | fail | refine And.intro ?_ ?_)); done) | (refine ⟨rfl, [some 0], ?_, ?_⟩; all_goals (repeat' (first | exact rfl | exact trivial | omega | assumption | fail | refine And.intro ?_ ?_)); done) | (refine ⟨rfl, [some 4], ?_, ?_⟩; all_goals (repeat' (first | exact rfl | exact trivial | omega | assumption | fail | refine And.intro ?_ ?_)); done))
          · rintro ⟨y, s⟩ ⟨h5, h6⟩
            dsimp only at h5 h6 ⊢
            by_cases hy : y < 100
            · have hs := cnt_in (outQ xss o) (n := k * 15100 + a * 100 + y) (by omega)
              have hf := fstN_at xss (k := k) (a := a) (y := y) (by omega) (by omega)
              have hfi := fst_in xss a y k
              have hst := (by have := outT_next xss o (n := k * 15100 + a * 100 + y) (by omega); rwa [← hf, ← h6] at this)
              have he : k * 15100 + a * 100 + y + 1 = k * 15100 + a * 100 + (y + 1) := by omega
              rw [he] at hst
              repeat' (first | (intro h; first | contradiction | omega | (conv => whnf) | skip) | (refine And.intro ?_ ?_) | (refine arith_ok ⟨by omega, by omega⟩ ?_) | (refine draw_hard hT mixed (by decide +kernel) ?_) | (refine Ret.go (decides_ret xss a y k ha ⟨by omega, by omega⟩) rfl rfl ?_) | (refine Ret.goQ (decides_ret xss a y k ha ⟨by omega, by omega⟩) rfl rfl ?_) | (refine CallA.go [0] (out1_call xss o a y k (fst xss a y k) s hfi ⟨by omega, by omega⟩) rfl (by first | ((repeat' (first | exact rfl | exact trivial | refine And.intro ?_ ?_ | omega | assumption)); done) | fail) (by first | ((repeat' (first | exact rfl | exact trivial | refine And.intro ?_ ?_ | omega | assumption)); done) | fail) ?_))
              all_goals first | omega | skip
              all_goals (refine ⟨(y + 1, _), ⟨by dsimp only; omega, hst⟩, ?_, by dsimp only; omega⟩; (first | (refine ⟨rfl, [], ?_, ?_⟩; all_goals (repeat' (first | exact rfl | exact trivial | omega | assumption | fail | refine And.intro ?_ ?_)); done) | (refine ⟨rfl, [some 1], ?_, ?_⟩; all_goals (repeat' (first | exact rfl | exact trivial | omega | assumption | fail | refine And.intro ?_ ?_)); done) | (refine ⟨rfl, [some 2], ?_, ?_⟩; all_goals (repeat' (first | exact rfl | exact trivial | omega | assumption | fail | refine And.intro ?_ ?_)); done) | (refine ⟨rfl, [some 3], ?_, ?_⟩; all_goals (repeat' (first | exact rfl | exact trivial | omega | assumption | fail | refine And.intro ?_ ?_)); done) | (refine ⟨rfl, [some 0], ?_, ?_⟩; all_goals (repeat' (first | exact rfl | exact trivial | omega | assumption | fail | refine And.intro ?_ ?_)); done) | (refine ⟨rfl, [some 4], ?_, ?_⟩; all_goals (repeat' (first | exact rfl | exact trivial | omega | assumption | fail | refine And.intro ?_ ?_)); done)))
            · have he : y = 100 := by omega
              repeat' (first | (intro h; first | contradiction | omega | (conv => whnf) | skip) | (refine And.intro ?_ ?_) | (refine arith_ok ⟨by omega, by omega⟩ ?_) | (refine draw_hard hT mixed (by decide +kernel) ?_) | fail)
              all_goals first | omega | skip
              all_goals (refine ⟨(a + 1, s), ⟨by dsimp only; omega, by rw [h6]; exact congrArg (cnt (outQ xss o)) (by omega)⟩, ?_, by dsimp only; omega⟩; (first | (refine ⟨rfl, [], ?_, ?_⟩; all_goals (repeat' (first | exact rfl | exact trivial | omega | assumption | fail | refine And.intro ?_ ?_)); done) | (refine ⟨rfl, [some 1], ?_, ?_⟩; all_goals (repeat' (first | exact rfl | exact trivial | omega | assumption | fail | refine And.intro ?_ ?_)); done) | (refine ⟨rfl, [some 2], ?_, ?_⟩; all_goals (repeat' (first | exact rfl | exact trivial | omega | assumption | fail | refine And.intro ?_ ?_)); done) | (refine ⟨rfl, [some 3], ?_, ?_⟩; all_goals (repeat' (first | exact rfl | exact trivial | omega | assumption | fail | refine And.intro ?_ ?_)); done) | (refine ⟨rfl, [some 0], ?_, ?_⟩; all_goals (repeat' (first | exact rfl | exact trivial | omega | assumption | fail | refine And.intro ?_ ?_)); done) | (refine ⟨rfl, [some 4], ?_, ?_⟩; all_goals (repeat' (first | exact rfl | exact trivial | omega | assumption | fail | refine And.intro ?_ ?_)); done)))
        · have he : a = 151 := by omega
          repeat' (first | (intro h; first | contradiction | omega | (conv => whnf) | skip) | (refine And.intro ?_ ?_) | (refine arith_ok ⟨by omega, by omega⟩ ?_) | (refine draw_hard hT mixed (by decide +kernel) ?_) | fail)
          all_goals first | omega | skip
          all_goals (refine ⟨(k + 1, s), ⟨by dsimp only; omega, by rw [h4]; exact congrArg (cnt (outQ xss o)) (by omega)⟩, ?_, by dsimp only; omega⟩; (first | (refine ⟨rfl, [], ?_, ?_⟩; all_goals (repeat' (first | exact rfl | exact trivial | omega | assumption | fail | refine And.intro ?_ ?_)); done) | (refine ⟨rfl, [some 1], ?_, ?_⟩; all_goals (repeat' (first | exact rfl | exact trivial | omega | assumption | fail | refine And.intro ?_ ?_)); done) | (refine ⟨rfl, [some 2], ?_, ?_⟩; all_goals (repeat' (first | exact rfl | exact trivial | omega | assumption | fail | refine And.intro ?_ ?_)); done) | (refine ⟨rfl, [some 3], ?_, ?_⟩; all_goals (repeat' (first | exact rfl | exact trivial | omega | assumption | fail | refine And.intro ?_ ?_)); done) | (refine ⟨rfl, [some 0], ?_, ?_⟩; all_goals (repeat' (first | exact rfl | exact trivial | omega | assumption | fail | refine And.intro ?_ ?_)); done) | (refine ⟨rfl, [some 4], ?_, ?_⟩; all_goals (repeat' (first | exact rfl | exact trivial | omega | assumption | fail | refine And.intro ?_ ?_)); done)))
    · have he : s = (cnt (outQ xss o)) 60400 := by rw [h2]; exact congrArg (cnt (outQ xss o)) (by omega)
      repeat' (first | (intro h; first | contradiction | omega | (conv => whnf) | skip) | (refine And.intro ?_ ?_) | (refine arith_ok ⟨by omega, by omega⟩ ?_) | (refine draw_hard hT mixed (by decide +kernel) ?_) | fail)
      all_goals first | omega | skip
      subst he
      (first | (refine ⟨[], Bo false, (fun s => [.cells [I s]]) ((cnt (outQ xss o)) 60400), ?_, ?_, ?_⟩; all_goals (repeat' (first | exact rfl | exact trivial | omega | assumption | fail | refine And.intro ?_ ?_)); done) | (refine ⟨[some 1], Bo false, (fun s => [.cells [I s]]) ((cnt (outQ xss o)) 60400), ?_, ?_, ?_⟩; all_goals (repeat' (first | exact rfl | exact trivial | omega | assumption | fail | refine And.intro ?_ ?_)); done) | (refine ⟨[some 0], Bo false, (fun s => [.cells [I s]]) ((cnt (outQ xss o)) 60400), ?_, ?_, ?_⟩; all_goals (repeat' (first | exact rfl | exact trivial | omega | assumption | fail | refine And.intro ?_ ?_)); done) | (refine ⟨[some 2], Bo false, (fun s => [.cells [I s]]) ((cnt (outQ xss o)) 60400), ?_, ?_, ?_⟩; all_goals (repeat' (first | exact rfl | exact trivial | omega | assumption | fail | refine And.intro ?_ ?_)); done) | (refine ⟨[some 3], Bo false, (fun s => [.cells [I s]]) ((cnt (outQ xss o)) 60400), ?_, ?_, ?_⟩; all_goals (repeat' (first | exact rfl | exact trivial | omega | assumption | fail | refine And.intro ?_ ?_)); done))
def coR (xss : List (List Int)) (o : Int) : Int := if areRl xss ∧ 0 ≤ o ∧ o ≤ 9 then cnt (outQ xss o) 60400 else 0
def coC (xss : List (List Int)) (o : Int) : Int := if areRl xss then (if 0 ≤ o ∧ o ≤ 9 then 0 else 2) else 1
theorem co_yes {xss : List (List Int)} {o : Int} (h : areRl xss) (ho : 0 ≤ o ∧ o ≤ 9) : coR xss o = cnt (outQ xss o) 60400 ∧ coC xss o = 0 := by
  unfold coR coC
  rw [if_pos ⟨h, ho⟩, if_pos h, if_pos ho]; exact ⟨rfl, rfl⟩
theorem co_no2 {xss : List (List Int)} {o : Int} (h : areRl xss) (ho : ¬ (0 ≤ o ∧ o ≤ 9)) : coR xss o = 0 ∧ coC xss o = 2 := by
  unfold coR coC
  rw [if_neg (fun e => ho e.2), if_pos h, if_neg ho]; exact ⟨rfl, rfl⟩
theorem co_no1 {xss : List (List Int)} {o : Int} (h : ¬ areRl xss) : coR xss o = 0 ∧ coC xss o = 1 := by
  unfold coR coC
  rw [if_neg (fun e => h e.1), if_neg h]; exact ⟨rfl, rfl⟩
set_option maxRecDepth 100000 in
theorem implOut_ret (xss : List (List Int)) (o : Int) (hn : xss.length ≤ 1048576) : Ret Try.prog G 14 [RRule xss, I o] (.tup [I (coR xss o), I (coC xss o)]) := by
  refine ret_of_body hT Try.func14 rfl ?_ rfl
  by_cases ha : areRl xss
  · by_cases ho : 0 ≤ o ∧ o ≤ 9
    · obtain ⟨h1, h2⟩ := co_yes ha ho
      rw [h1, h2]
      have hcs := casesOut_call xss o ha
      rw [cnt_zero] at hcs
      repeat' (first | (intro h; first | contradiction | omega | (conv => whnf) | skip) | (refine And.intro ?_ ?_) | (refine arith_ok ⟨by omega, by omega⟩ ?_) | (first | (refine draw_quiet hT mixed (by decide +kernel) ?_) | (refine draw_hard hT mixed (by decide +kernel) ?_)) | (refine Ret.goP (implAre_ret xss (by omega)) rfl ?_) | (refine Ret.goQP (implAre_ret xss (by omega)) rfl ?_) | (refine Ret.goP (inRange_ret _ _ _) rfl ?_) | (refine Ret.goQP (inRange_ret _ _ _) rfl ?_) | (refine CallA.go [2] (hcs) rfl (by first | ((repeat' (first | exact rfl | exact trivial | refine And.intro ?_ ?_ | omega | assumption)); done) | fail) (by first | ((repeat' (first | exact rfl | exact trivial | refine And.intro ?_ ?_ | omega | assumption)); done) | fail) ?_))
      all_goals first | rfl | omega | trace_state
    · obtain ⟨h1, h2⟩ := co_no2 ha ho
      rw [h1, h2]
      repeat' (first | (intro h; first | contradiction | omega | (conv => whnf) | skip) | (refine And.intro ?_ ?_) | (refine arith_ok ⟨by omega, by omega⟩ ?_) | (first | (refine draw_quiet hT mixed (by decide +kernel) ?_) | (refine draw_hard hT mixed (by decide +kernel) ?_)) | (refine Ret.goP (implAre_ret xss (by omega)) rfl ?_) | (refine Ret.goQP (implAre_ret xss (by omega)) rfl ?_) | (refine Ret.goP (inRange_ret _ _ _) rfl ?_) | (refine Ret.goQP (inRange_ret _ _ _) rfl ?_))
      all_goals first | rfl | omega | trace_state
  · obtain ⟨h1, h2⟩ := co_no1 (o := o) ha
    rw [h1, h2]
    repeat' (first | (intro h; first | contradiction | omega | (conv => whnf) | skip) | (refine And.intro ?_ ?_) | (refine arith_ok ⟨by omega, by omega⟩ ?_) | (first | (refine draw_quiet hT mixed (by decide +kernel) ?_) | (refine draw_hard hT mixed (by decide +kernel) ?_)) | (refine Ret.goP (implAre_ret xss (by omega)) rfl ?_) | (refine Ret.goQP (implAre_ret xss (by omega)) rfl ?_) | (refine Ret.goP (inRange_ret _ _ _) rfl ?_) | (refine Ret.goQP (inRange_ret _ _ _) rfl ?_))
    all_goals first | rfl | omega | trace_state
set_option maxRecDepth 100000 in
theorem specOut_ret (xss : List (List Int)) (o : Int) (hn : xss.length ≤ 1048576) : Ret Try.prog G 13 [RRule xss, I o] (.tup [I (coR xss o), I (coC xss o)]) := by
  refine ret_of_body hT Try.func13 rfl ?_ rfl
  by_cases ha : areRl xss
  · by_cases ho : 0 ≤ o ∧ o ≤ 9
    · obtain ⟨h1, h2⟩ := co_yes ha ho
      rw [h1, h2]
      repeat' (first | (intro h; first | contradiction | omega | (conv => whnf) | skip) | (refine And.intro ?_ ?_) | (refine arith_ok ⟨by omega, by omega⟩ ?_) | (first | (refine draw_quiet hT mixed (by decide +kernel) ?_) | (refine draw_hard hT mixed (by decide +kernel) ?_)) | (refine Ret.goP (specAre_ret xss (by omega)) rfl ?_) | (refine Ret.goQP (specAre_ret xss (by omega)) rfl ?_) | (refine Ret.goP (l01In_ret _ _ _) rfl ?_) | (refine Ret.goQP (l01In_ret _ _ _) rfl ?_))
      all_goals first | rfl | omega | skip
      refine loop_rule hT (fun n : Int => 0 ≤ n ∧ n ≤ 60400) 40 0 [0, 1, 6, 7] (fun n => [RRule xss, I o, I (cnt (outQ xss o) n), I n]) (fun _ => []) (fun n => (60400 - n).toNat) (0) (Nat.le_of_ble_eq_true rfl) ?_ ?_ ?_
      · exact ⟨by decide, by decide⟩
      · (first | (refine ⟨rfl, [], ?_, ?_⟩; all_goals (repeat' (first | exact rfl | exact trivial | omega | assumption | exact (cnt_zero _).symm | refine And.intro ?_ ?_)); done) | (refine ⟨rfl, [some 1], ?_, ?_⟩; all_goals (repeat' (first | exact rfl | exact trivial | omega | assumption | exact (cnt_zero _).symm | refine And.intro ?_ ?_)); done) | (refine ⟨rfl, [some 2], ?_, ?_⟩; all_goals (repeat' (first | exact rfl | exact trivial | omega | assumption | exact (cnt_zero _).symm | refine And.intro ?_ ?_)); done) | (refine ⟨rfl, [some 3], ?_, ?_⟩; all_goals (repeat' (first | exact rfl | exact trivial | omega | assumption | exact (cnt_zero _).symm | refine And.intro ?_ ?_)); done) | (refine ⟨rfl, [some 0], ?_, ?_⟩; all_goals (repeat' (first | exact rfl | exact trivial | omega | assumption | exact (cnt_zero _).symm | refine And.intro ?_ ?_)); done) | (refine ⟨rfl, [some 4], ?_, ?_⟩; all_goals (repeat' (first | exact rfl | exact trivial | omega | assumption | exact (cnt_zero _).symm | refine And.intro ?_ ?_)); done))
      · rintro n ⟨h3, h4⟩
        have hc := cnt_in (outQ xss o) h3
        have hfi := fstN_in xss n
        by_cases hn2 : n < 60400
        · have hq := l23First_ret xss (cA n) (cY n) (cK n) ha (cK_in ⟨h3, hn2⟩)
          rw [show fst xss (cA n) (cY n) (cK n) = fstN xss n by unfold fstN; rfl] at hq
          repeat' (first | (intro h; first | contradiction | omega | (conv => whnf) | skip) | (refine And.intro ?_ ?_) | (refine arith_ok ⟨by omega, by omega⟩ ?_) | (first | (refine draw_quiet hT mixed (by decide +kernel) ?_) | (refine draw_hard hT mixed (by decide +kernel) ?_)) | (refine Ret.go (l23All_ret) rfl rfl ?_) | (refine Ret.goQ (l23All_ret) rfl rfl ?_) | (refine Ret.go (l23Case_ret n ⟨h3, hn2⟩) rfl rfl ?_) | (refine Ret.goQ (l23Case_ret n ⟨h3, hn2⟩) rfl rfl ?_) | (refine Ret.go (hq) rfl rfl ?_) | (refine Ret.goQ (hq) rfl rfl ?_))
          all_goals first | omega | skip
          all_goals first
            | (have hst := cnt_yes (q := outQ xss o) (n := n) h3 (decide_eq_true (And.intro (by assumption) (by assumption))); refine ⟨n + 1, ⟨by omega, by omega⟩, ?_, by omega⟩; (first | (refine ⟨rfl, [], ?_, ?_⟩; all_goals (repeat' (first | exact rfl | exact trivial | omega | assumption | exact hst.symm | refine And.intro ?_ ?_)); done) | (refine ⟨rfl, [some 1], ?_, ?_⟩; all_goals (repeat' (first | exact rfl | exact trivial | omega | assumption | exact hst.symm | refine And.intro ?_ ?_)); done) | (refine ⟨rfl, [some 2], ?_, ?_⟩; all_goals (repeat' (first | exact rfl | exact trivial | omega | assumption | exact hst.symm | refine And.intro ?_ ?_)); done) | (refine ⟨rfl, [some 3], ?_, ?_⟩; all_goals (repeat' (first | exact rfl | exact trivial | omega | assumption | exact hst.symm | refine And.intro ?_ ?_)); done) | (refine ⟨rfl, [some 0], ?_, ?_⟩; all_goals (repeat' (first | exact rfl | exact trivial | omega | assumption | exact hst.symm | refine And.intro ?_ ?_)); done) | (refine ⟨rfl, [some 4], ?_, ?_⟩; all_goals (repeat' (first | exact rfl | exact trivial | omega | assumption | exact hst.symm | refine And.intro ?_ ?_)); done)))
            | (have hst := cnt_no (q := outQ xss o) (n := n) h3 (decide_eq_false (fun hh => by first | exact absurd hh.1 (by assumption) | exact absurd hh.2 (by assumption))); refine ⟨n + 1, ⟨by omega, by omega⟩, ?_, by omega⟩; (first | (refine ⟨rfl, [], ?_, ?_⟩; all_goals (repeat' (first | exact rfl | exact trivial | omega | assumption | exact hst.symm | refine And.intro ?_ ?_)); done) | (refine ⟨rfl, [some 1], ?_, ?_⟩; all_goals (repeat' (first | exact rfl | exact trivial | omega | assumption | exact hst.symm | refine And.intro ?_ ?_)); done) | (refine ⟨rfl, [some 2], ?_, ?_⟩; all_goals (repeat' (first | exact rfl | exact trivial | omega | assumption | exact hst.symm | refine And.intro ?_ ?_)); done) | (refine ⟨rfl, [some 3], ?_, ?_⟩; all_goals (repeat' (first | exact rfl | exact trivial | omega | assumption | exact hst.symm | refine And.intro ?_ ?_)); done) | (refine ⟨rfl, [some 0], ?_, ?_⟩; all_goals (repeat' (first | exact rfl | exact trivial | omega | assumption | exact hst.symm | refine And.intro ?_ ?_)); done) | (refine ⟨rfl, [some 4], ?_, ?_⟩; all_goals (repeat' (first | exact rfl | exact trivial | omega | assumption | exact hst.symm | refine And.intro ?_ ?_)); done)))
            | trace_state
        · have he : n = 60400 := by omega
          repeat' (first | (intro h; first | contradiction | omega | (conv => whnf) | skip) | (refine And.intro ?_ ?_) | (refine arith_ok ⟨by omega, by omega⟩ ?_) | (first | (refine draw_quiet hT mixed (by decide +kernel) ?_) | (refine draw_hard hT mixed (by decide +kernel) ?_)) | (refine Ret.go (l23All_ret) rfl rfl ?_) | (refine Ret.goQ (l23All_ret) rfl rfl ?_))
          all_goals first | omega | (rw [he]; done) | trace_state
    · obtain ⟨h1, h2⟩ := co_no2 ha ho
      rw [h1, h2]
      repeat' (first | (intro h; first | contradiction | omega | (conv => whnf) | skip) | (refine And.intro ?_ ?_) | (refine arith_ok ⟨by omega, by omega⟩ ?_) | (first | (refine draw_quiet hT mixed (by decide +kernel) ?_) | (refine draw_hard hT mixed (by decide +kernel) ?_)) | (refine Ret.goP (specAre_ret xss (by omega)) rfl ?_) | (refine Ret.goQP (specAre_ret xss (by omega)) rfl ?_) | (refine Ret.goP (l01In_ret _ _ _) rfl ?_) | (refine Ret.goQP (l01In_ret _ _ _) rfl ?_))
      all_goals first | rfl | omega | trace_state
  · obtain ⟨h1, h2⟩ := co_no1 (o := o) ha
    rw [h1, h2]
    repeat' (first | (intro h; first | contradiction | omega | (conv => whnf) | skip) | (refine And.intro ?_ ?_) | (refine arith_ok ⟨by omega, by omega⟩ ?_) | (first | (refine draw_quiet hT mixed (by decide +kernel) ?_) | (refine draw_hard hT mixed (by decide +kernel) ?_)) | (refine Ret.goP (specAre_ret xss (by omega)) rfl ?_) | (refine Ret.goQP (specAre_ret xss (by omega)) rfl ?_) | (refine Ret.goP (l01In_ret _ _ _) rfl ?_) | (refine Ret.goQP (l01In_ret _ _ _) rfl ?_))
    all_goals first | rfl | omega | trace_state
set_option maxRecDepth 100000 in
theorem lawOut_ret (xss : List (List Int)) (o : Int) (hn : xss.length ≤ 9223372036854775807) (hr : ∀ r ∈ xss, r.length = 6) : Ret Try.prog G 4 [RRule xss, I o] (Bo true) := by
  refine ret_of_body hT Try.func4 rfl ?_ rfl
  by_cases hbig : xss.length ≤ 1048576
  · have hsz := szRuleS_ret xss 1048576 (by omega) (by omega)
    rw [if_pos (by omega)] at hsz
    repeat' (first | (intro h; first | contradiction | omega | (conv => whnf) | skip) | (refine And.intro ?_ ?_) | (refine arith_ok ⟨by omega, by omega⟩ ?_) | (first | (refine draw_quiet hT mixed (by decide +kernel) ?_) | (refine draw_hard hT mixed (by decide +kernel) ?_)) | (refine Ret.use (hsz) (by first | ((repeat' (first | exact rfl | exact trivial | refine And.intro ?_ ?_ | omega | assumption)); done) | fail) ?_) | (refine Ret.useQ (hsz) (by first | ((repeat' (first | exact rfl | exact trivial | refine And.intro ?_ ?_ | omega | assumption)); done) | fail) rfl ?_) | (refine CallA.go [] (toRuleS_call xss (by omega) hr) rfl (by first | ((repeat' (first | exact rfl | exact trivial | refine And.intro ?_ ?_ | omega | assumption)); done) | fail) trivial ?_) | (refine Ret.use (specOut_ret xss o (by omega)) (by first | ((repeat' (first | exact rfl | exact trivial | refine And.intro ?_ ?_ | omega | assumption)); done) | fail) ?_) | (refine Ret.useQ (specOut_ret xss o (by omega)) (by first | ((repeat' (first | exact rfl | exact trivial | refine And.intro ?_ ?_ | omega | assumption)); done) | fail) rfl ?_) | (refine Ret.use (implOut_ret xss o (by omega)) (by first | ((repeat' (first | exact rfl | exact trivial | refine And.intro ?_ ?_ | omega | assumption)); done) | fail) ?_) | (refine Ret.useQ (implOut_ret xss o (by omega)) (by first | ((repeat' (first | exact rfl | exact trivial | refine And.intro ?_ ?_ | omega | assumption)); done) | fail) rfl ?_) | (refine Ret.useP (eqRuleS_ret xss xss (by omega) hr hr) (by first | ((repeat' (first | exact rfl | exact trivial | refine And.intro ?_ ?_ | omega | assumption)); done) | fail) ?_) | (refine Ret.useQP (eqRuleS_ret xss xss (by omega) hr hr) (by first | ((repeat' (first | exact rfl | exact trivial | refine And.intro ?_ ?_ | omega | assumption)); done) | fail) ?_))
    all_goals first | rfl | omega | trace_state
  · have hsz := szRuleS_ret xss 1048576 hn (by omega)
    rw [if_neg (by omega)] at hsz
    repeat' (first | (intro h; first | contradiction | omega | (conv => whnf) | skip) | (refine And.intro ?_ ?_) | (refine arith_ok ⟨by omega, by omega⟩ ?_) | (first | (refine draw_quiet hT mixed (by decide +kernel) ?_) | (refine draw_hard hT mixed (by decide +kernel) ?_)) | (refine Ret.use (hsz) (by first | ((repeat' (first | exact rfl | exact trivial | refine And.intro ?_ ?_ | omega | assumption)); done) | fail) ?_) | (refine Ret.useQ (hsz) (by first | ((repeat' (first | exact rfl | exact trivial | refine And.intro ?_ ?_ | omega | assumption)); done) | fail) rfl ?_))
    all_goals first | rfl | omega | trace_state
end Go.Proofs.Ytnfddmbnkbigmaa
