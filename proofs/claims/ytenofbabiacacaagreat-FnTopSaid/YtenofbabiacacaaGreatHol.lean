/-
  Lists of structs (Holding): copies, equality, marks. No conditions but those in the statements.
-/
import Derived.Test.YtenofbabiacacaaGreatPol
set_option linter.unusedVariables false
set_option linter.unusedSimpArgs false
namespace Go.Proofs.YtenofbabiacacaaGreat
open Go.AE

attribute [local irreducible] CallA LoopA DrawA CallQ arithK quoK remK eqK
abbrev VHolding (a0 a1 a2 a3 a4 a5 a6 : Int) : AV := .agg [I a0, I a1, I a2, I a3, I a4, I a5, I a6]
abbrev WHolding (r : List Int) : AV := .agg [I (r.getD 0 0), I (r.getD 1 0), I (r.getD 2 0), I (r.getD 3 0), I (r.getD 4 0), I (r.getD 5 0), I (r.getD 6 0)]
abbrev RHolding (xss : List (List Int)) : AV := .ro (.recs 7 xss)
abbrev DHolding (xss : List (List Int)) : Blk := .data (.recs 7 xss)
theorem lenHolding {r : List Int} (h : r.length = 7) : ∃ a0 a1 a2 a3 a4 a5 a6, r = [a0, a1, a2, a3, a4, a5, a6] := by
  match r, h with
  | [a0, a1, a2, a3, a4, a5, a6], _ => exact ⟨_, _, _, _, _, _, _, rfl⟩
theorem etaHolding {r : List Int} (h : r.length = 7) : [r.getD 0 0, r.getD 1 0, r.getD 2 0, r.getD 3 0, r.getD 4 0, r.getD 5 0, r.getD 6 0] = r := by
  obtain ⟨a0, a1, a2, a3, a4, a5, a6, rfl⟩ := lenHolding h
  rfl
set_option maxRecDepth 100000 in
theorem toHolding_ret (a0 a1 a2 a3 a4 a5 a6 : Int) : Ret Tryz.prog G 66 [VHolding a0 a1 a2 a3 a4 a5 a6] (VHolding a0 a1 a2 a3 a4 a5 a6) := by
  refine ret_of_body hT Tryz.func66 rfl ?_ rfl
  repeat' (first | (intro h; first | contradiction | omega | (conv => whnf) | skip) | (refine And.intro ?_ ?_) | (refine arith_ok ⟨by omega, by omega⟩ ?_) | (first | (refine draw_quiet hT mixed (by decide +kernel) ?_) | (refine draw_hard hT mixed (by decide +kernel) ?_)) | (refine Ret.go (toPolicy_ret _ _ _ _ _) rfl rfl ?_) | (refine Ret.goQ (toPolicy_ret _ _ _ _ _) rfl rfl ?_) | (refine Ret.goP (eqPolicy_ret _ _ _ _ _ _ _ _ _ _) rfl ?_) | (refine Ret.goQP (eqPolicy_ret _ _ _ _ _ _ _ _ _ _) rfl ?_))
  all_goals rfl
set_option maxRecDepth 100000 in
theorem eqHolding_ret (a0 a1 a2 a3 a4 a5 a6 b0 b1 b2 b3 b4 b5 b6 : Int) : Ret Tryz.prog G 69 [VHolding a0 a1 a2 a3 a4 a5 a6, VHolding b0 b1 b2 b3 b4 b5 b6] (Bo (decide (a0 = b0 ∧ a1 = b1 ∧ a2 = b2 ∧ a3 = b3 ∧ a4 = b4 ∧ a5 = b5 ∧ a6 = b6))) := by
  refine ret_of_body hT Tryz.func69 rfl ?_ rfl
  repeat' (first | (intro h; first | contradiction | omega | (conv => whnf) | skip) | (refine And.intro ?_ ?_) | (refine arith_ok ⟨by omega, by omega⟩ ?_) | (first | (refine draw_quiet hT mixed (by decide +kernel) ?_) | (refine draw_hard hT mixed (by decide +kernel) ?_)) | (refine Ret.go (toPolicy_ret _ _ _ _ _) rfl rfl ?_) | (refine Ret.goQ (toPolicy_ret _ _ _ _ _) rfl rfl ?_) | (refine Ret.goP (eqPolicy_ret _ _ _ _ _ _ _ _ _ _) rfl ?_) | (refine Ret.goQP (eqPolicy_ret _ _ _ _ _ _ _ _ _ _) rfl ?_))
  all_goals (first | exact bv_true (by omega) | exact bv_false (by omega))
set_option maxRecDepth 100000 in
theorem toHoldingS_call (xss : List (List Int)) (hn : xss.length ≤ 1048576) (hr : ∀ r ∈ xss, r.length = 7) : CallA Tryz.prog G 13 [RHolding xss] [] (fun v J => v = .sl 0 7 xss.length ∧ J = [DHolding xss]) := by
  refine CallA.ends (callA_of_body hT Tryz.func13 rfl ?_)
  repeat' (first | (intro h; first | contradiction | omega | (conv => whnf) | skip) | (refine And.intro ?_ ?_) | (refine arith_ok ⟨by omega, by omega⟩ ?_) | (first | (refine draw_quiet hT mixed (by decide +kernel) ?_) | (refine draw_hard hT mixed (by decide +kernel) ?_)) | fail)
  · rfl
  · omega
  · omega
  refine loop_rule hT (fun p : Nat × List (List Int) => p.1 ≤ xss.length ∧ p.2.length = xss.length ∧ p.2.take p.1 = xss.take p.1 ∧ ∀ r ∈ p.2, r.length = 7) 23 1 [0, 3, 4] (fun p => [RHolding xss, .sl 0 7 xss.length, I p.1]) (fun p => [DHolding p.2]) (fun p => xss.length - p.1) ((0, List.replicate xss.length (List.replicate 7 0))) (Nat.le_of_ble_eq_true rfl) ?_ ?_ ?_
  · exact ⟨Nat.zero_le _, by simp, rfl, fun r hr => by rw [List.eq_of_mem_replicate hr]; rfl⟩
  · (refine ⟨rfl, [], ?_, ?_⟩; all_goals (repeat' (first | exact rfl | exact trivial | (with_reducible assumption) | refine And.intro ?_ ?_ | omega)))
  · rintro ⟨i, yss⟩ ⟨h1, h2, h3, h4⟩
    dsimp only at h1 h2 h3 h4 ⊢
    by_cases hi : i < xss.length
    · obtain ⟨a0, a1, a2, a3, a4, a5, a6, ha⟩ := lenHolding (hr (xss.getD i []) (getD_mem hi))
      obtain ⟨b0, b1, b2, b3, b4, b5, b6, hb⟩ := lenHolding (h4 (yss.getD i []) (getD_mem (by omega)))
      have hx : setInts (yss.getD ((i : Int)).toNat []) 0 [(xss.getD ((i : Int)).toNat []).getD 0 0, (xss.getD ((i : Int)).toNat []).getD 1 0, (xss.getD ((i : Int)).toNat []).getD 2 0, (xss.getD ((i : Int)).toNat []).getD 3 0, (xss.getD ((i : Int)).toNat []).getD 4 0, (xss.getD ((i : Int)).toNat []).getD 5 0, (xss.getD ((i : Int)).toNat []).getD 6 0] = xss.getD i [] := by
        show setInts (yss.getD i []) 0 [(xss.getD i []).getD 0 0, (xss.getD i []).getD 1 0, (xss.getD i []).getD 2 0, (xss.getD i []).getD 3 0, (xss.getD i []).getD 4 0, (xss.getD i []).getD 5 0, (xss.getD i []).getD 6 0] = xss.getD i []
        rw [ha, hb]; rfl
      have hl : (yss.getD ((i : Int)).toNat []).length = 7 := h4 (yss.getD i []) (getD_mem (by omega))
      repeat' (first | (intro h; first | contradiction | omega | (conv => whnf) | skip) | (refine And.intro ?_ ?_) | (refine arith_ok ⟨by omega, by omega⟩ ?_) | (first | (refine draw_quiet hT mixed (by decide +kernel) ?_) | (refine draw_hard hT mixed (by decide +kernel) ?_)) | (refine Ret.go (toHolding_ret _ _ _ _ _ _ _) rfl rfl ?_) | (refine Ret.goQ (toHolding_ret _ _ _ _ _ _ _) rfl rfl ?_))
      all_goals first | omega | assumption | skip
      refine ⟨(i + 1, yss.set i (xss.getD i [])), ⟨by dsimp only; omega, by simpa using h2, set_snoc [] h3 (by omega) h2, fun r hm => ?_⟩, ?_, by dsimp only; omega⟩
      · rcases List.mem_or_eq_of_mem_set hm with hm | rfl
        · exact h4 r hm
        · exact hr _ (getD_mem hi)
      · (refine ⟨rfl, [], ?_, ?_⟩; all_goals (repeat' (first | exact rfl | exact trivial | (with_reducible assumption) | refine And.intro ?_ ?_ | omega | exact congrArg (fun r => D.recs 7 (yss.set i r)) hx)))
    · repeat' (first | (intro h; first | contradiction | omega | (conv => whnf) | skip) | (refine And.intro ?_ ?_) | (refine arith_ok ⟨by omega, by omega⟩ ?_) | (first | (refine draw_quiet hT mixed (by decide +kernel) ?_) | (refine draw_hard hT mixed (by decide +kernel) ?_)) | fail)
      all_goals first | omega | skip
      obtain rfl : yss = xss := by rwa [take_all (by omega), take_all (by omega)] at h3
      (refine ⟨[some 0], .sl 0 7 yss.length, [DHolding yss], ?_, ?_, ?_⟩; all_goals (repeat' (first | exact rfl | exact trivial | (with_reducible assumption) | refine And.intro ?_ ?_ | omega)))
set_option maxRecDepth 100000 in
theorem eqHoldingS_ret (xss yss : List (List Int)) (hn : xss.length ≤ 2305843009213693952) (hx : ∀ r ∈ xss, r.length = 7) (hy : ∀ r ∈ yss, r.length = 7) : Ret Tryz.prog G 17 [RHolding xss, RHolding yss] (Bo (decide (xss = yss))) := by
  refine ret_of_body hT Tryz.func17 rfl ?_ rfl
  repeat' (first | (intro h; first | contradiction | omega | (conv => whnf) | skip) | (refine And.intro ?_ ?_) | (refine arith_ok ⟨by omega, by omega⟩ ?_) | (first | (refine draw_quiet hT mixed (by decide +kernel) ?_) | (refine draw_hard hT mixed (by decide +kernel) ?_)) | fail)
  · exact bv_false (fun e => by subst e; omega)
  refine loop_rule hT (fun i : Nat => i ≤ xss.length ∧ xss.take i = yss.take i) 27 0 [0, 1, 5] (fun i => [RHolding xss, RHolding yss, I i]) (fun _ => []) (fun i => xss.length - i) (0) (Nat.le_of_ble_eq_true rfl) ?_ ?_ ?_
  · exact ⟨Nat.zero_le _, rfl⟩
  · (refine ⟨rfl, [], ?_, ?_⟩; all_goals (repeat' (first | exact rfl | exact trivial | (with_reducible assumption) | refine And.intro ?_ ?_ | omega)))
  · rintro i ⟨h1, h2⟩
    repeat' (first | (intro h; first | contradiction | omega | (conv => whnf) | skip) | (refine And.intro ?_ ?_) | (refine arith_ok ⟨by omega, by omega⟩ ?_) | (first | (refine draw_quiet hT mixed (by decide +kernel) ?_) | (refine draw_hard hT mixed (by decide +kernel) ?_)) | (refine Ret.goP (eqHolding_ret _ _ _ _ _ _ _ _ _ _ _ _ _ _) rfl ?_) | (refine Ret.goQP (eqHolding_ret _ _ _ _ _ _ _ _ _ _ _ _ _ _) rfl ?_))
    all_goals first | omega | skip
    · have he : xss.getD i [] = yss.getD i [] := by
        rw [← etaHolding (hx _ (getD_mem (by omega))), ← etaHolding (hy (yss.getD i []) (getD_mem (by omega)))]
        obtain ⟨e0, e1, e2, e3, e4, e5, e6⟩ := h
        simp only [toNat_cast] at e0 e1 e2 e3 e4 e5 e6
        rw [e0, e1, e2, e3, e4, e5, e6]
      refine ⟨i + 1, ⟨by omega, ?_⟩, ?_, by omega⟩
      · rw [take_snoc [] (by omega), take_snoc [] (by omega), h2, he]
      · (refine ⟨rfl, [], ?_, ?_⟩; all_goals (repeat' (first | exact rfl | exact trivial | (with_reducible assumption) | refine And.intro ?_ ?_ | omega)))
    · refine bv_false (fun e => ?_)
      subst e
      exact h ⟨rfl, rfl, rfl, rfl, rfl, rfl, rfl⟩
    · refine bv_true ?_
      rwa [take_all (by omega), take_all (by omega)] at h2
def marksHolding (m k : Nat) : List (List Int) := (List.range m).map fun i => [((k + i * 7 + 0 : Nat) : Int), ((k + i * 7 + 1 : Nat) : Int), ((k + i * 7 + 2 : Nat) : Int), ((k + i * 7 + 3 : Nat) : Int), ((k + i * 7 + 4 : Nat) : Int), ((k + i * 7 + 5 : Nat) : Int), ((k + i * 7 + 6 : Nat) : Int)]
theorem marksHolding_len (m k : Nat) : (marksHolding m k).length = m := by simp [marksHolding]
theorem marksHolding_get {m k i : Nat} (h : i < m) : (marksHolding m k).getD i [] = [((k + i * 7 + 0 : Nat) : Int), ((k + i * 7 + 1 : Nat) : Int), ((k + i * 7 + 2 : Nat) : Int), ((k + i * 7 + 3 : Nat) : Int), ((k + i * 7 + 4 : Nat) : Int), ((k + i * 7 + 5 : Nat) : Int), ((k + i * 7 + 6 : Nat) : Int)] := by
  rw [marksHolding, List.getD_eq_getElem?_getD, List.getElem?_map, List.getElem?_range h]; rfl
theorem marksHolding_row (m k : Nat) : ∀ r ∈ marksHolding m k, r.length = 7 := fun r hr => by
  obtain ⟨i, _, rfl⟩ := List.mem_map.1 hr
  rfl
set_option maxRecDepth 100000 in
theorem markHoldingS_call (xss : List (List Int)) (k : Nat) (hn : xss.length ≤ 1048576) (hk : k ≤ 100000000) (hr : ∀ r ∈ xss, r.length = 7) :
    CallA Tryz.prog G 23 [.sl 0 7 xss.length, I k] [DHolding xss] (fun v J => v = I ((k + xss.length * 7 : Nat) : Int) ∧ J = [DHolding (marksHolding xss.length k)]) := by
  refine CallA.ends (callA_of_body hT Tryz.func23 rfl ?_)
  repeat' (first | (intro h; first | contradiction | omega | (conv => whnf) | skip) | (refine And.intro ?_ ?_) | (refine arith_ok ⟨by omega, by omega⟩ ?_) | (first | (refine draw_quiet hT mixed (by decide +kernel) ?_) | (refine draw_hard hT mixed (by decide +kernel) ?_)) | fail)
  refine loop_rule hT (fun p : Nat × List (List Int) => p.1 ≤ xss.length ∧ p.2.length = xss.length ∧ p.2.take p.1 = (marksHolding xss.length k).take p.1 ∧ ∀ r ∈ p.2, r.length = 7) 67 1 [0, 1, 5] (fun p => [.sl 0 7 xss.length, I ((k + p.1 * 7 : Nat) : Int), I p.1]) (fun p => [DHolding p.2]) (fun p => xss.length - p.1) ((0, xss)) (Nat.le_of_ble_eq_true rfl) ?_ ?_ ?_
  · exact ⟨Nat.zero_le _, rfl, rfl, hr⟩
  · (refine ⟨rfl, [], ?_, ?_⟩; all_goals (repeat' (first | exact rfl | exact trivial | (with_reducible assumption) | refine And.intro ?_ ?_ | omega)))
  · rintro ⟨i, yss⟩ ⟨h1, h2, h3, h4⟩
    dsimp only at h1 h2 h3 h4 ⊢
    by_cases hi : i < xss.length
    · obtain ⟨b0, b1, b2, b3, b4, b5, b6, hb⟩ := lenHolding (h4 (yss.getD i []) (getD_mem (by omega)))
      have hb' : yss.getD ((i : Int)).toNat [] = [b0, b1, b2, b3, b4, b5, b6] := hb
      have hlt : ((i : Int)).toNat < yss.length := by omega
      repeat' (first | (intro h; first | contradiction | omega | (conv => whnf) | skip) | (refine And.intro ?_ ?_) | (refine arith_ok ⟨by omega, by omega⟩ ?_) | (first | (refine draw_quiet hT mixed (by decide +kernel) ?_) | (refine draw_hard hT mixed (by decide +kernel) ?_)) | fail)
      all_goals first | omega | (simp only [List.length_set]; exact hlt) | (simp only [getD_set_self, List.length_set, setInts_len, hlt, hb', List.length_cons, List.length_nil]; done) | skip
      refine ⟨(i + 1, yss.set i [((k + i * 7 + 0 : Nat) : Int), ((k + i * 7 + 1 : Nat) : Int), ((k + i * 7 + 2 : Nat) : Int), ((k + i * 7 + 3 : Nat) : Int), ((k + i * 7 + 4 : Nat) : Int), ((k + i * 7 + 5 : Nat) : Int), ((k + i * 7 + 6 : Nat) : Int)]), ⟨by dsimp only; omega, by simpa using h2, ?_, fun r hm => ?_⟩, ?_, by dsimp only; omega⟩
      · have := set_snoc [] h3 (by rw [marksHolding_len]; omega) (by rw [marksHolding_len]; exact h2)
        rwa [marksHolding_get (by omega)] at this
      · rcases List.mem_or_eq_of_mem_set hm with hm | rfl
        · exact h4 r hm
        · rfl
      · (refine ⟨rfl, [], ?_, ?_⟩; all_goals (repeat' (first | exact rfl | exact trivial | (with_reducible assumption) | refine And.intro ?_ ?_ | omega | (refine congrArg (fun l => D.recs 7 l) ?_; simp only [getD_set_self, List.set_set, hlt, hb', setInts, List.set_cons_zero, List.set_cons_succ]; exact congrArg _ (by simp only [List.cons.injEq, and_true]; omega)))))
    · repeat' (first | (intro h; first | contradiction | omega | (conv => whnf) | skip) | (refine And.intro ?_ ?_) | (refine arith_ok ⟨by omega, by omega⟩ ?_) | (first | (refine draw_quiet hT mixed (by decide +kernel) ?_) | (refine draw_hard hT mixed (by decide +kernel) ?_)) | fail)
      all_goals first | omega | skip
      obtain rfl : i = xss.length := by omega
      obtain rfl : yss = marksHolding xss.length k := by rwa [take_all (by omega), take_all (by rw [marksHolding_len]; omega)] at h3
      (refine ⟨[], I ((k + xss.length * 7 : Nat) : Int), [DHolding (marksHolding xss.length k)], ?_, ?_, ?_⟩; all_goals (repeat' (first | exact rfl | exact trivial | (with_reducible assumption) | refine And.intro ?_ ?_ | omega)))
set_option maxRecDepth 100000 in
theorem heldHoldingS_ret (m k : Nat) (hn : m ≤ 1048576) (hk : k ≤ 100000000) : Ret Tryz.prog G 25 [RHolding (marksHolding m k), I k] (I ((k + m * 7 : Nat) : Int)) := by
  refine ret_of_body hT Tryz.func25 rfl ?_ rfl
  have hl := marksHolding_len m k
  repeat' (first | (intro h; first | contradiction | omega | (conv => whnf) | skip) | (refine And.intro ?_ ?_) | (refine arith_ok ⟨by omega, by omega⟩ ?_) | (first | (refine draw_quiet hT mixed (by decide +kernel) ?_) | (refine draw_hard hT mixed (by decide +kernel) ?_)) | fail)
  refine loop_rule hT (fun i : Nat => i ≤ m) 81 0 [0, 1, 5] (fun i => [RHolding (marksHolding m k), I ((k + i * 7 : Nat) : Int), I i]) (fun _ => []) (fun i => m - i) (0) (Nat.le_of_ble_eq_true rfl) ?_ ?_ ?_
  · exact Nat.zero_le _
  · (refine ⟨rfl, [], ?_, ?_⟩; all_goals (repeat' (first | exact rfl | exact trivial | (with_reducible assumption) | refine And.intro ?_ ?_ | omega)))
  · intro i h1
    by_cases hi : i < m
    · have hg : (marksHolding m k).getD ((i : Int)).toNat [] = [((k + i * 7 + 0 : Nat) : Int), ((k + i * 7 + 1 : Nat) : Int), ((k + i * 7 + 2 : Nat) : Int), ((k + i * 7 + 3 : Nat) : Int), ((k + i * 7 + 4 : Nat) : Int), ((k + i * 7 + 5 : Nat) : Int), ((k + i * 7 + 6 : Nat) : Int)] := marksHolding_get hi
      repeat' (first | (intro h; first | contradiction | omega | (conv => whnf) | skip) | (refine And.intro ?_ ?_) | (refine arith_ok ⟨by omega, by omega⟩ ?_) | (first | (refine draw_quiet hT mixed (by decide +kernel) ?_) | (refine draw_hard hT mixed (by decide +kernel) ?_)) | fail)
      all_goals first | omega | (rw [hg] at h; exact absurd (show _ = _ by simp <;> omega) h) | skip
      refine ⟨i + 1, by omega, ?_, by omega⟩
      (refine ⟨rfl, [], ?_, ?_⟩; all_goals (repeat' (first | exact rfl | exact trivial | (with_reducible assumption) | refine And.intro ?_ ?_ | omega)))
    · repeat' (first | (intro h; first | contradiction | omega | (conv => whnf) | skip) | (refine And.intro ?_ ?_) | (refine arith_ok ⟨by omega, by omega⟩ ?_) | (first | (refine draw_quiet hT mixed (by decide +kernel) ?_) | (refine draw_hard hT mixed (by decide +kernel) ?_)) | fail)
      all_goals first | omega | skip
      obtain rfl : i = m := by omega
      rfl
set_option maxRecDepth 100000 in
theorem szHoldingS_ret (xss : List (List Int)) (l : Int) (hn : xss.length ≤ 9223372036854775807) (hl : -1 ≤ l ∧ l ≤ 1048576) : Ret Tryz.prog G 10 [RHolding xss, I l] (I (if (xss.length : Int) ≤ l then l - xss.length else -1)) := by
  refine ret_of_body hT Tryz.func10 rfl ?_ rfl
  repeat' (first | (intro h; first | contradiction | omega | (conv => whnf) | skip) | (refine And.intro ?_ ?_) | (refine arith_ok ⟨by omega, by omega⟩ ?_) | (first | (refine draw_quiet hT mixed (by decide +kernel) ?_) | (refine draw_hard hT mixed (by decide +kernel) ?_)) | fail)
  all_goals (refine iv ?_; first | (rw [if_pos (by omega)]; done) | (rw [if_neg (by omega)]; done))
end Go.Proofs.YtenofbabiacacaaGreat
