/-
  All cases in order by the program's own loops; how many are gaps. No conditions but those in the statements.
-/
import Derived.Test.YtnfddmbnkbigmaaFb
namespace Go.Proofs.Ytnfddmbnkbigmaa
open Go.AE

attribute [local irreducible] CallA LoopA DrawA CallQ arithK quoK remK eqK
attribute [local irreducible] cnt fst fstN
def gapT (c i : Int) : Int := if i < 0 then c + 1 else c
theorem gapT_next (xss : List (List Int)) {n : Int} (h0 : 0 ≤ n) : gapT (cnt (gapQ xss) n) (fstN xss n) = cnt (gapQ xss) (n + 1) := by
  unfold gapT
  split
  · rename_i h; rw [cnt_yes h0 (decide_eq_true h)]
  · rename_i h; rw [cnt_no h0 (decide_eq_false h)]
set_option maxRecDepth 100000 in
theorem gap1_call (a y k i c : Int) (hc : 0 ≤ c ∧ c ≤ 60400) : CallA Try.prog G 39 [VCase a y k, I i, .ptr 0 0] [.cells [I c]] (fun v J => v = Bo false ∧ J = [.cells [I (gapT c i)]]) := by
  refine CallA.ends (callA_of_body hT Try.func39 rfl ?_)
  repeat' (first | (intro h; first | contradiction | omega | (conv => whnf) | skip) | (refine And.intro ?_ ?_) | (refine arith_ok ⟨by omega, by omega⟩ ?_) | (first | (refine draw_quiet hT mixed (by decide +kernel) ?_) | (refine draw_hard hT mixed (by decide +kernel) ?_)) | fail)
  all_goals first
    | (have ht : gapT c i = c + 1 := if_pos h; rw [ht]; (first | (refine ⟨[], Bo false, [.cells [I (c + 1)]], ?_, ?_, ?_⟩; all_goals (repeat' (first | exact rfl | exact trivial | omega | assumption | fail | refine And.intro ?_ ?_)); done) | (refine ⟨[some 1], Bo false, [.cells [I (c + 1)]], ?_, ?_, ?_⟩; all_goals (repeat' (first | exact rfl | exact trivial | omega | assumption | fail | refine And.intro ?_ ?_)); done) | (refine ⟨[some 0], Bo false, [.cells [I (c + 1)]], ?_, ?_, ?_⟩; all_goals (repeat' (first | exact rfl | exact trivial | omega | assumption | fail | refine And.intro ?_ ?_)); done) | (refine ⟨[some 2], Bo false, [.cells [I (c + 1)]], ?_, ?_, ?_⟩; all_goals (repeat' (first | exact rfl | exact trivial | omega | assumption | fail | refine And.intro ?_ ?_)); done) | (refine ⟨[some 3], Bo false, [.cells [I (c + 1)]], ?_, ?_, ?_⟩; all_goals (repeat' (first | exact rfl | exact trivial | omega | assumption | fail | refine And.intro ?_ ?_)); done)))
    | (have ht : gapT c i = c := if_neg h; rw [ht]; (first | (refine ⟨[], Bo false, [.cells [I c]], ?_, ?_, ?_⟩; all_goals (repeat' (first | exact rfl | exact trivial | omega | assumption | fail | refine And.intro ?_ ?_)); done) | (refine ⟨[some 1], Bo false, [.cells [I c]], ?_, ?_, ?_⟩; all_goals (repeat' (first | exact rfl | exact trivial | omega | assumption | fail | refine And.intro ?_ ?_)); done) | (refine ⟨[some 0], Bo false, [.cells [I c]], ?_, ?_, ?_⟩; all_goals (repeat' (first | exact rfl | exact trivial | omega | assumption | fail | refine And.intro ?_ ?_)); done) | (refine ⟨[some 2], Bo false, [.cells [I c]], ?_, ?_, ?_⟩; all_goals (repeat' (first | exact rfl | exact trivial | omega | assumption | fail | refine And.intro ?_ ?_)); done) | (refine ⟨[some 3], Bo false, [.cells [I c]], ?_, ?_, ?_⟩; all_goals (repeat' (first | exact rfl | exact trivial | omega | assumption | fail | refine And.intro ?_ ?_)); done)))
    | trace_state
set_option maxHeartbeats 1000000 in
set_option maxRecDepth 100000 in
theorem casesGap_call (xss : List (List Int)) (ha : areRl xss) : CallA Try.prog G 38 [RRule xss, .fn 39 [.ptr 0 0]] [.cells [I (cnt (gapQ xss) 0)]] (fun v J => v = Bo false ∧ J = [.cells [I (cnt (gapQ xss) 60400)]]) := by
  refine CallA.ends (callA_of_body hT Try.func38 rfl ?_)
  repeat' (first | (intro h; first | contradiction | omega | (conv => whnf) | skip) | (refine And.intro ?_ ?_) | (refine arith_ok ⟨by omega, by omega⟩ ?_) | (refine draw_hard hT mixed (by decide +kernel) ?_) | fail)
  refine loop_rule hT (fun p : Int × Int => (0 ≤ p.1 ∧ p.1 ≤ 4) ∧ p.2 = (cnt (gapQ xss)) (p.1 * 15100)) 31 1 [0, 1, 9] (fun p => [RRule xss, .fn 39 [.ptr 0 0], I p.1]) (fun p => (fun s => [.cells [I s]]) p.2) (fun p => (4 - p.1).toNat) ((0, (cnt (gapQ xss)) 0)) (Nat.le_of_ble_eq_true rfl) ?_ ?_ ?_
  · exact ⟨by dsimp only; omega, by dsimp only; exact congrArg (cnt (gapQ xss)) (by omega)⟩
  · (first | (refine ⟨rfl, [], ?_, ?_⟩; all_goals (repeat' (first | exact rfl | exact trivial | omega | assumption | fail | refine And.intro ?_ ?_)); done) | (refine ⟨rfl, [some 1], ?_, ?_⟩; all_goals (repeat' (first | exact rfl | exact trivial | omega | assumption | fail | refine And.intro ?_ ?_)); done) | (refine ⟨rfl, [some 2], ?_, ?_⟩; all_goals (repeat' (first | exact rfl | exact trivial | omega | assumption | fail | refine And.intro ?_ ?_)); done) | (refine ⟨rfl, [some 3], ?_, ?_⟩; all_goals (repeat' (first | exact rfl | exact trivial | omega | assumption | fail | refine And.intro ?_ ?_)); done) | (refine ⟨rfl, [some 0], ?_, ?_⟩; all_goals (repeat' (first | exact rfl | exact trivial | omega | assumption | fail | refine And.intro ?_ ?_)); done) | (refine ⟨rfl, [some 4], ?_, ?_⟩; all_goals (repeat' (first | exact rfl | exact trivial | omega | assumption | fail | refine And.intro ?_ ?_)); done))
  · rintro ⟨k, s⟩ ⟨h1, h2⟩
    dsimp only at h1 h2 ⊢
    by_cases hk : k < 4
    · repeat' (first | (intro h; first | contradiction | omega | (conv => whnf) | skip) | (refine And.intro ?_ ?_) | (refine arith_ok ⟨by omega, by omega⟩ ?_) | (refine draw_hard hT mixed (by decide +kernel) ?_) | fail)
      all_goals first | omega | skip
      refine loop_rule hT (fun p : Int × Int => (0 ≤ p.1 ∧ p.1 ≤ 151) ∧ p.2 = (cnt (gapQ xss)) (k * 15100 + p.1 * 100)) 31 1 [0, 1, 5, 9, 12] (fun p => [RRule xss, .fn 39 [.ptr 0 0], I k, I k, I p.1]) (fun p => (fun s => [.cells [I s]]) p.2) (fun p => (151 - p.1).toNat) ((0, s)) (Nat.le_of_ble_eq_true rfl) ?_ ?_ ?_
      · exact ⟨by dsimp only; omega, by rw [h2]; exact congrArg (cnt (gapQ xss)) (by omega)⟩
      · (first | (refine ⟨rfl, [], ?_, ?_⟩; all_goals (repeat' (first | exact rfl | exact trivial | omega | assumption | fail | refine And.intro ?_ ?_)); done) | (refine ⟨rfl, [some 1], ?_, ?_⟩; all_goals (repeat' (first | exact rfl | exact trivial | omega | assumption | fail | refine And.intro ?_ ?_)); done) | (refine ⟨rfl, [some 2], ?_, ?_⟩; all_goals (repeat' (first | exact rfl | exact trivial | omega | assumption | fail | refine And.intro ?_ ?_)); done) | (refine ⟨rfl, [some 3], ?_, ?_⟩; all_goals (repeat' (first | exact rfl | exact trivial | omega | assumption | fail | refine And.intro ?_ ?_)); done) | (refine ⟨rfl, [some 0], ?_, ?_⟩; all_goals (repeat' (first | exact rfl | exact trivial | omega | assumption | fail | refine And.intro ?_ ?_)); done) | (refine ⟨rfl, [some 4], ?_, ?_⟩; all_goals (repeat' (first | exact rfl | exact trivial | omega | assumption | fail | refine And.intro ?_ ?_)); done))
      · rintro ⟨a, s⟩ ⟨h3, h4⟩
        dsimp only at h3 h4 ⊢
        by_cases hb : a < 151
        · repeat' (first | (intro h; first | contradiction | omega | (conv => whnf) | skip) | (refine And.intro ?_ ?_) | (refine arith_ok ⟨by omega, by omega⟩ ?_) | (refine draw_hard hT mixed (by decide +kernel) ?_) | fail)
          all_goals first | omega | skip
          refine loop_rule hT (fun p : Int × Int => (0 ≤ p.1 ∧ p.1 ≤ 100) ∧ p.2 = (cnt (gapQ xss)) (k * 15100 + a * 100 + p.1)) 31 1 [0, 1, 5, 6, 9, 12, 15] (fun p => [RRule xss, .fn 39 [.ptr 0 0], I k, I a, I k, I a, I p.1]) (fun p => (fun s => [.cells [I s]]) p.2) (fun p => (100 - p.1).toNat) ((0, s)) (Nat.le_of_ble_eq_true rfl) ?_ ?_ ?_
          · exact ⟨by dsimp only; omega, by rw [h4]; exact congrArg (cnt (gapQ xss)) (by omega)⟩
          · (first | (refine ⟨rfl, [], ?_, ?_⟩; all_goals (repeat' (first | exact rfl | exact trivial | omega | assumption | fail | refine And.intro ?_ ?_)); done) | (refine ⟨rfl, [some 1], ?_, ?_⟩; all_goals (repeat' (first | exact rfl | exact trivial | omega | assumption | fail | refine And.intro ?_ ?_)); done) | (refine ⟨rfl, [some 2], ?_, ?_⟩; all_goals (repeat' (first | exact rfl | exact trivial | omega | assumption | fail | refine And.intro ?_ ?_)); done) | (refine ⟨rfl, [some 3], ?_, ?_⟩; all_goals (repeat' (first | exact rfl | exact trivial | omega | assumption | fail | refine And.intro ?_ ?_)); done) | (refine ⟨rfl, [some 0], ?_, ?_⟩; all_goals (repeat' (first | exact rfl | exact trivial | omega | assumption | fail | refine And.intro ?_ ?_)); done) | (refine ⟨rfl, [some 4], ?_, ?_⟩; all_goals (repeat' (first | exact rfl | exact trivial | omega | assumption | fail | refine And.intro ?_ ?_)); done))
          · rintro ⟨y, s⟩ ⟨h5, h6⟩
            dsimp only at h5 h6 ⊢
            by_cases hy : y < 100
            · have hs := cnt_in (gapQ xss) (n := k * 15100 + a * 100 + y) (by omega)
              have hf := fstN_at xss (k := k) (a := a) (y := y) (by omega) (by omega)
              have hfi := fst_in xss a y k
              have hst := (by have := gapT_next xss (n := k * 15100 + a * 100 + y) (by omega); rwa [← hf, ← h6] at this)
              have he : k * 15100 + a * 100 + y + 1 = k * 15100 + a * 100 + (y + 1) := by omega
              rw [he] at hst
              repeat' (first | (intro h; first | contradiction | omega | (conv => whnf) | skip) | (refine And.intro ?_ ?_) | (refine arith_ok ⟨by omega, by omega⟩ ?_) | (refine draw_hard hT mixed (by decide +kernel) ?_) | (refine Ret.go (decides_ret xss a y k ha ⟨by omega, by omega⟩) rfl rfl ?_) | (refine Ret.goQ (decides_ret xss a y k ha ⟨by omega, by omega⟩) rfl rfl ?_) | (refine CallA.go [0] (gap1_call a y k (fst xss a y k) s ⟨by omega, by omega⟩) rfl (by first | ((repeat' (first | exact rfl | exact trivial | refine And.intro ?_ ?_ | omega | assumption)); done) | fail) (by first | ((repeat' (first | exact rfl | exact trivial | refine And.intro ?_ ?_ | omega | assumption)); done) | fail) ?_))
              all_goals first | omega | skip
              all_goals (refine ⟨(y + 1, _), ⟨by dsimp only; omega, hst⟩, ?_, by dsimp only; omega⟩; (first | (refine ⟨rfl, [], ?_, ?_⟩; all_goals (repeat' (first | exact rfl | exact trivial | omega | assumption | fail | refine And.intro ?_ ?_)); done) | (refine ⟨rfl, [some 1], ?_, ?_⟩; all_goals (repeat' (first | exact rfl | exact trivial | omega | assumption | fail | refine And.intro ?_ ?_)); done) | (refine ⟨rfl, [some 2], ?_, ?_⟩; all_goals (repeat' (first | exact rfl | exact trivial | omega | assumption | fail | refine And.intro ?_ ?_)); done) | (refine ⟨rfl, [some 3], ?_, ?_⟩; all_goals (repeat' (first | exact rfl | exact trivial | omega | assumption | fail | refine And.intro ?_ ?_)); done) | (refine ⟨rfl, [some 0], ?_, ?_⟩; all_goals (repeat' (first | exact rfl | exact trivial | omega | assumption | fail | refine And.intro ?_ ?_)); done) | (refine ⟨rfl, [some 4], ?_, ?_⟩; all_goals (repeat' (first | exact rfl | exact trivial | omega | assumption | fail | refine And.intro ?_ ?_)); done)))
            · have he : y = 100 := by omega
              repeat' (first | (intro h; first | contradiction | omega | (conv => whnf) | skip) | (refine And.intro ?_ ?_) | (refine arith_ok ⟨by omega, by omega⟩ ?_) | (refine draw_hard hT mixed (by decide +kernel) ?_) | fail)
              all_goals first | omega | skip
              all_goals (refine ⟨(a + 1, s), ⟨by dsimp only; omega, by rw [h6]; exact congrArg (cnt (gapQ xss)) (by omega)⟩, ?_, by dsimp only; omega⟩; (first | (refine ⟨rfl, [], ?_, ?_⟩; all_goals (repeat' (first | exact rfl | exact trivial | omega | assumption | fail | refine And.intro ?_ ?_)); done) | (refine ⟨rfl, [some 1], ?_, ?_⟩; all_goals (repeat' (first | exact rfl | exact trivial | omega | assumption | fail | refine And.intro ?_ ?_)); done) | (refine ⟨rfl, [some 2], ?_, ?_⟩; all_goals (repeat' (first | exact rfl | exact trivial | omega | assumption | fail | refine And.intro ?_ ?_)); done) | (refine ⟨rfl, [some 3], ?_, ?_⟩; all_goals (repeat' (first | exact rfl | exact trivial | omega | assumption | fail | refine And.intro ?_ ?_)); done) | (refine ⟨rfl, [some 0], ?_, ?_⟩; all_goals (repeat' (first | exact rfl | exact trivial | omega | assumption | fail | refine And.intro ?_ ?_)); done) | (refine ⟨rfl, [some 4], ?_, ?_⟩; all_goals (repeat' (first | exact rfl | exact trivial | omega | assumption | fail | refine And.intro ?_ ?_)); done)))
        · have he : a = 151 := by omega
          repeat' (first | (intro h; first | contradiction | omega | (conv => whnf) | skip) | (refine And.intro ?_ ?_) | (refine arith_ok ⟨by omega, by omega⟩ ?_) | (refine draw_hard hT mixed (by decide +kernel) ?_) | fail)
          all_goals first | omega | skip
          all_goals (refine ⟨(k + 1, s), ⟨by dsimp only; omega, by rw [h4]; exact congrArg (cnt (gapQ xss)) (by omega)⟩, ?_, by dsimp only; omega⟩; (first | (refine ⟨rfl, [], ?_, ?_⟩; all_goals (repeat' (first | exact rfl | exact trivial | omega | assumption | fail | refine And.intro ?_ ?_)); done) | (refine ⟨rfl, [some 1], ?_, ?_⟩; all_goals (repeat' (first | exact rfl | exact trivial | omega | assumption | fail | refine And.intro ?_ ?_)); done) | (refine ⟨rfl, [some 2], ?_, ?_⟩; all_goals (repeat' (first | exact rfl | exact trivial | omega | assumption | fail | refine And.intro ?_ ?_)); done) | (refine ⟨rfl, [some 3], ?_, ?_⟩; all_goals (repeat' (first | exact rfl | exact trivial | omega | assumption | fail | refine And.intro ?_ ?_)); done) | (refine ⟨rfl, [some 0], ?_, ?_⟩; all_goals (repeat' (first | exact rfl | exact trivial | omega | assumption | fail | refine And.intro ?_ ?_)); done) | (refine ⟨rfl, [some 4], ?_, ?_⟩; all_goals (repeat' (first | exact rfl | exact trivial | omega | assumption | fail | refine And.intro ?_ ?_)); done)))
    · have he : s = (cnt (gapQ xss)) 60400 := by rw [h2]; exact congrArg (cnt (gapQ xss)) (by omega)
      repeat' (first | (intro h; first | contradiction | omega | (conv => whnf) | skip) | (refine And.intro ?_ ?_) | (refine arith_ok ⟨by omega, by omega⟩ ?_) | (refine draw_hard hT mixed (by decide +kernel) ?_) | fail)
      all_goals first | omega | skip
      subst he
      (first | (refine ⟨[], Bo false, (fun s => [.cells [I s]]) ((cnt (gapQ xss)) 60400), ?_, ?_, ?_⟩; all_goals (repeat' (first | exact rfl | exact trivial | omega | assumption | fail | refine And.intro ?_ ?_)); done) | (refine ⟨[some 1], Bo false, (fun s => [.cells [I s]]) ((cnt (gapQ xss)) 60400), ?_, ?_, ?_⟩; all_goals (repeat' (first | exact rfl | exact trivial | omega | assumption | fail | refine And.intro ?_ ?_)); done) | (refine ⟨[some 0], Bo false, (fun s => [.cells [I s]]) ((cnt (gapQ xss)) 60400), ?_, ?_, ?_⟩; all_goals (repeat' (first | exact rfl | exact trivial | omega | assumption | fail | refine And.intro ?_ ?_)); done) | (refine ⟨[some 2], Bo false, (fun s => [.cells [I s]]) ((cnt (gapQ xss)) 60400), ?_, ?_, ?_⟩; all_goals (repeat' (first | exact rfl | exact trivial | omega | assumption | fail | refine And.intro ?_ ?_)); done) | (refine ⟨[some 3], Bo false, (fun s => [.cells [I s]]) ((cnt (gapQ xss)) 60400), ?_, ?_, ?_⟩; all_goals (repeat' (first | exact rfl | exact trivial | omega | assumption | fail | refine And.intro ?_ ?_)); done))
set_option maxRecDepth 100000 in
theorem implGaps_ret (xss : List (List Int)) (hn : xss.length ≤ 1048576) : Ret Try.prog G 11 [RRule xss] (.tup [I (cgR xss), I (codeR xss)]) := by
  refine ret_of_body hT Try.func11 rfl ?_ rfl
  by_cases ha : areRl xss
  · obtain ⟨h1, h2⟩ := cg_yes ha
    rw [h1, h2]
    have hcs := casesGap_call xss ha
    rw [cnt_zero] at hcs
    repeat' (first | (intro h; first | contradiction | omega | (conv => whnf) | skip) | (refine And.intro ?_ ?_) | (refine arith_ok ⟨by omega, by omega⟩ ?_) | (first | (refine draw_quiet hT mixed (by decide +kernel) ?_) | (refine draw_hard hT mixed (by decide +kernel) ?_)) | (refine Ret.goP (implAre_ret xss (by omega)) rfl ?_) | (refine Ret.goQP (implAre_ret xss (by omega)) rfl ?_) | (refine CallA.go [0] (hcs) rfl (by first | ((repeat' (first | exact rfl | exact trivial | refine And.intro ?_ ?_ | omega | assumption)); done) | fail) (by first | ((repeat' (first | exact rfl | exact trivial | refine And.intro ?_ ?_ | omega | assumption)); done) | fail) ?_))
    all_goals first | rfl | omega | trace_state
  · obtain ⟨h1, h2⟩ := cg_no ha
    rw [h1, h2]
    repeat' (first | (intro h; first | contradiction | omega | (conv => whnf) | skip) | (refine And.intro ?_ ?_) | (refine arith_ok ⟨by omega, by omega⟩ ?_) | (first | (refine draw_quiet hT mixed (by decide +kernel) ?_) | (refine draw_hard hT mixed (by decide +kernel) ?_)) | (refine Ret.goP (implAre_ret xss (by omega)) rfl ?_) | (refine Ret.goQP (implAre_ret xss (by omega)) rfl ?_))
    all_goals first | rfl | omega | trace_state
set_option maxRecDepth 100000 in
theorem lawGaps_ret (xss : List (List Int)) (hn : xss.length ≤ 9223372036854775807) (hr : ∀ r ∈ xss, r.length = 6) : Ret Try.prog G 3 [RRule xss] (Bo true) := by
  refine ret_of_body hT Try.func3 rfl ?_ rfl
  by_cases hbig : xss.length ≤ 1048576
  · have hsz := szRuleS_ret xss 1048576 (by omega) (by omega)
    rw [if_pos (by omega)] at hsz
    repeat' (first | (intro h; first | contradiction | omega | (conv => whnf) | skip) | (refine And.intro ?_ ?_) | (refine arith_ok ⟨by omega, by omega⟩ ?_) | (first | (refine draw_quiet hT mixed (by decide +kernel) ?_) | (refine draw_hard hT mixed (by decide +kernel) ?_)) | (refine Ret.use (hsz) (by first | ((repeat' (first | exact rfl | exact trivial | refine And.intro ?_ ?_ | omega | assumption)); done) | fail) ?_) | (refine Ret.useQ (hsz) (by first | ((repeat' (first | exact rfl | exact trivial | refine And.intro ?_ ?_ | omega | assumption)); done) | fail) rfl ?_) | (refine CallA.go [] (toRuleS_call xss (by omega) hr) rfl (by first | ((repeat' (first | exact rfl | exact trivial | refine And.intro ?_ ?_ | omega | assumption)); done) | fail) trivial ?_) | (refine Ret.use (specGaps_ret xss (by omega)) (by first | ((repeat' (first | exact rfl | exact trivial | refine And.intro ?_ ?_ | omega | assumption)); done) | fail) ?_) | (refine Ret.useQ (specGaps_ret xss (by omega)) (by first | ((repeat' (first | exact rfl | exact trivial | refine And.intro ?_ ?_ | omega | assumption)); done) | fail) rfl ?_) | (refine Ret.use (implGaps_ret xss (by omega)) (by first | ((repeat' (first | exact rfl | exact trivial | refine And.intro ?_ ?_ | omega | assumption)); done) | fail) ?_) | (refine Ret.useQ (implGaps_ret xss (by omega)) (by first | ((repeat' (first | exact rfl | exact trivial | refine And.intro ?_ ?_ | omega | assumption)); done) | fail) rfl ?_) | (refine Ret.useP (eqRuleS_ret xss xss (by omega) hr hr) (by first | ((repeat' (first | exact rfl | exact trivial | refine And.intro ?_ ?_ | omega | assumption)); done) | fail) ?_) | (refine Ret.useQP (eqRuleS_ret xss xss (by omega) hr hr) (by first | ((repeat' (first | exact rfl | exact trivial | refine And.intro ?_ ?_ | omega | assumption)); done) | fail) ?_))
    all_goals first | rfl | omega | trace_state
  · have hsz := szRuleS_ret xss 1048576 hn (by omega)
    rw [if_neg (by omega)] at hsz
    repeat' (first | (intro h; first | contradiction | omega | (conv => whnf) | skip) | (refine And.intro ?_ ?_) | (refine arith_ok ⟨by omega, by omega⟩ ?_) | (first | (refine draw_quiet hT mixed (by decide +kernel) ?_) | (refine draw_hard hT mixed (by decide +kernel) ?_)) | (refine Ret.use (hsz) (by first | ((repeat' (first | exact rfl | exact trivial | refine And.intro ?_ ?_ | omega | assumption)); done) | fail) ?_) | (refine Ret.useQ (hsz) (by first | ((repeat' (first | exact rfl | exact trivial | refine And.intro ?_ ?_ | omega | assumption)); done) | fail) rfl ?_))
    all_goals first | rfl | omega | trace_state
end Go.Proofs.Ytnfddmbnkbigmaa
