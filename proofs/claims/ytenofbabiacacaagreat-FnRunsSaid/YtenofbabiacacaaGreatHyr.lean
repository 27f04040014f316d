/-
  Lists of structs (YearResult): copies, equality, marks. No conditions but those in the statements.
-/
import Derived.Test.YtenofbabiacacaaGreatIn
set_option linter.unusedVariables false
set_option linter.unusedSimpArgs false
namespace Go.Proofs.YtenofbabiacacaaGreat
open Go.AE

attribute [local irreducible] CallA LoopA DrawA CallQ arithK quoK remK eqK
abbrev VYearResult (a0 a1 a2 a3 a4 a5 a6 : Int) : AV := .agg [I a0, I a1, I a2, I a3, I a4, I a5, I a6]
abbrev WYearResult (r : List Int) : AV := .agg [I (r.getD 0 0), I (r.getD 1 0), I (r.getD 2 0), I (r.getD 3 0), I (r.getD 4 0), I (r.getD 5 0), I (r.getD 6 0)]
abbrev RYearResult (xss : List (List Int)) : AV := .ro (.recs 7 xss)
abbrev DYearResult (xss : List (List Int)) : Blk := .data (.recs 7 xss)
theorem lenYearResult {r : List Int} (h : r.length = 7) : ∃ a0 a1 a2 a3 a4 a5 a6, r = [a0, a1, a2, a3, a4, a5, a6] := by
  match r, h with
  | [a0, a1, a2, a3, a4, a5, a6], _ => exact ⟨_, _, _, _, _, _, _, rfl⟩
theorem etaYearResult {r : List Int} (h : r.length = 7) : [r.getD 0 0, r.getD 1 0, r.getD 2 0, r.getD 3 0, r.getD 4 0, r.getD 5 0, r.getD 6 0] = r := by
  obtain ⟨a0, a1, a2, a3, a4, a5, a6, rfl⟩ := lenYearResult h
  rfl
set_option maxRecDepth 100000 in
theorem eqYearResult_ret (a0 a1 a2 a3 a4 a5 a6 b0 b1 b2 b3 b4 b5 b6 : Int) : Ret Tryz.prog G 21 [VYearResult a0 a1 a2 a3 a4 a5 a6, VYearResult b0 b1 b2 b3 b4 b5 b6] (Bo (decide (a0 = b0 ∧ a1 = b1 ∧ a2 = b2 ∧ a3 = b3 ∧ a4 = b4 ∧ a5 = b5 ∧ a6 = b6))) := by
  refine ret_of_body hT Tryz.func21 rfl ?_ rfl
  repeat' (first | (intro h; first | contradiction | omega | (conv => whnf) | skip) | (refine And.intro ?_ ?_) | (refine arith_ok ⟨by omega, by omega⟩ ?_) | (first | (refine draw_quiet hT mixed (by decide +kernel) ?_) | (refine draw_hard hT mixed (by decide +kernel) ?_)) | fail)
  all_goals (first | exact bv_true (by omega) | exact bv_false (by omega))
set_option maxRecDepth 100000 in
theorem eqYearResultS_ret (xss yss : List (List Int)) (hn : xss.length ≤ 2305843009213693952) (hx : ∀ r ∈ xss, r.length = 7) (hy : ∀ r ∈ yss, r.length = 7) : Ret Tryz.prog G 28 [RYearResult xss, RYearResult yss] (Bo (decide (xss = yss))) := by
  refine ret_of_body hT Tryz.func28 rfl ?_ rfl
  repeat' (first | (intro h; first | contradiction | omega | (conv => whnf) | skip) | (refine And.intro ?_ ?_) | (refine arith_ok ⟨by omega, by omega⟩ ?_) | (first | (refine draw_quiet hT mixed (by decide +kernel) ?_) | (refine draw_hard hT mixed (by decide +kernel) ?_)) | fail)
  · exact bv_false (fun e => by subst e; omega)
  refine loop_rule hT (fun i : Nat => i ≤ xss.length ∧ xss.take i = yss.take i) 27 0 [0, 1, 5] (fun i => [RYearResult xss, RYearResult yss, I i]) (fun _ => []) (fun i => xss.length - i) (0) (Nat.le_of_ble_eq_true rfl) ?_ ?_ ?_
  · exact ⟨Nat.zero_le _, rfl⟩
  · (refine ⟨rfl, [], ?_, ?_⟩; all_goals (repeat' (first | exact rfl | exact trivial | (with_reducible assumption) | refine And.intro ?_ ?_ | omega)))
  · rintro i ⟨h1, h2⟩
    repeat' (first | (intro h; first | contradiction | omega | (conv => whnf) | skip) | (refine And.intro ?_ ?_) | (refine arith_ok ⟨by omega, by omega⟩ ?_) | (first | (refine draw_quiet hT mixed (by decide +kernel) ?_) | (refine draw_hard hT mixed (by decide +kernel) ?_)) | (refine Ret.goP (eqYearResult_ret _ _ _ _ _ _ _ _ _ _ _ _ _ _) rfl ?_) | (refine Ret.goQP (eqYearResult_ret _ _ _ _ _ _ _ _ _ _ _ _ _ _) rfl ?_))
    all_goals first | omega | skip
    · have he : xss.getD i [] = yss.getD i [] := by
        rw [← etaYearResult (hx _ (getD_mem (by omega))), ← etaYearResult (hy (yss.getD i []) (getD_mem (by omega)))]
        obtain ⟨e0, e1, e2, e3, e4, e5, e6⟩ := h
        simp only [toNat_cast] at e0 e1 e2 e3 e4 e5 e6
        rw [e0, e1, e2, e3, e4, e5, e6]
      refine ⟨i + 1, ⟨by omega, ?_⟩, ?_, by omega⟩
      · rw [take_snoc [] (by omega), take_snoc [] (by omega), h2, he]
      · (refine ⟨rfl, [], ?_, ?_⟩; all_goals (repeat' (first | exact rfl | exact trivial | (with_reducible assumption) | refine And.intro ?_ ?_ | omega)))
    · refine bv_false (fun e => ?_)
      subst e
      exact h ⟨rfl, rfl, rfl, rfl, rfl, rfl, rfl⟩
    · refine bv_true ?_
      rwa [take_all (by omega), take_all (by omega)] at h2
def marksYearResult (m k : Nat) : List (List Int) := (List.range m).map fun i => [((k + i * 7 + 0 : Nat) : Int), ((k + i * 7 + 1 : Nat) : Int), ((k + i * 7 + 2 : Nat) : Int), ((k + i * 7 + 3 : Nat) : Int), ((k + i * 7 + 4 : Nat) : Int), ((k + i * 7 + 5 : Nat) : Int), ((k + i * 7 + 6 : Nat) : Int)]
theorem marksYearResult_len (m k : Nat) : (marksYearResult m k).length = m := by simp [marksYearResult]
theorem marksYearResult_get {m k i : Nat} (h : i < m) : (marksYearResult m k).getD i [] = [((k + i * 7 + 0 : Nat) : Int), ((k + i * 7 + 1 : Nat) : Int), ((k + i * 7 + 2 : Nat) : Int), ((k + i * 7 + 3 : Nat) : Int), ((k + i * 7 + 4 : Nat) : Int), ((k + i * 7 + 5 : Nat) : Int), ((k + i * 7 + 6 : Nat) : Int)] := by
  rw [marksYearResult, List.getD_eq_getElem?_getD, List.getElem?_map, List.getElem?_range h]; rfl
theorem marksYearResult_row (m k : Nat) : ∀ r ∈ marksYearResult m k, r.length = 7 := fun r hr => by
  obtain ⟨i, _, rfl⟩ := List.mem_map.1 hr
  rfl
set_option maxRecDepth 100000 in
theorem markYearResultS_call (xss : List (List Int)) (k : Nat) (hn : xss.length ≤ 1048576) (hk : k ≤ 100000000) (hr : ∀ r ∈ xss, r.length = 7) :
    CallA Tryz.prog G 29 [.sl 0 7 xss.length, I k] [DYearResult xss] (fun v J => v = I ((k + xss.length * 7 : Nat) : Int) ∧ J = [DYearResult (marksYearResult xss.length k)]) := by
  refine CallA.ends (callA_of_body hT Tryz.func29 rfl ?_)
  repeat' (first | (intro h; first | contradiction | omega | (conv => whnf) | skip) | (refine And.intro ?_ ?_) | (refine arith_ok ⟨by omega, by omega⟩ ?_) | (first | (refine draw_quiet hT mixed (by decide +kernel) ?_) | (refine draw_hard hT mixed (by decide +kernel) ?_)) | fail)
  refine loop_rule hT (fun p : Nat × List (List Int) => p.1 ≤ xss.length ∧ p.2.length = xss.length ∧ p.2.take p.1 = (marksYearResult xss.length k).take p.1 ∧ ∀ r ∈ p.2, r.length = 7) 62 1 [0, 1, 5] (fun p => [.sl 0 7 xss.length, I ((k + p.1 * 7 : Nat) : Int), I p.1]) (fun p => [DYearResult p.2]) (fun p => xss.length - p.1) ((0, xss)) (Nat.le_of_ble_eq_true rfl) ?_ ?_ ?_
  · exact ⟨Nat.zero_le _, rfl, rfl, hr⟩
  · (refine ⟨rfl, [], ?_, ?_⟩; all_goals (repeat' (first | exact rfl | exact trivial | (with_reducible assumption) | refine And.intro ?_ ?_ | omega)))
  · rintro ⟨i, yss⟩ ⟨h1, h2, h3, h4⟩
    dsimp only at h1 h2 h3 h4 ⊢
    by_cases hi : i < xss.length
    · obtain ⟨b0, b1, b2, b3, b4, b5, b6, hb⟩ := lenYearResult (h4 (yss.getD i []) (getD_mem (by omega)))
      have hb' : yss.getD ((i : Int)).toNat [] = [b0, b1, b2, b3, b4, b5, b6] := hb
      have hlt : ((i : Int)).toNat < yss.length := by omega
      repeat' (first | (intro h; first | contradiction | omega | (conv => whnf) | skip) | (refine And.intro ?_ ?_) | (refine arith_ok ⟨by omega, by omega⟩ ?_) | (first | (refine draw_quiet hT mixed (by decide +kernel) ?_) | (refine draw_hard hT mixed (by decide +kernel) ?_)) | fail)
      all_goals first | omega | (simp only [List.length_set]; exact hlt) | (simp only [getD_set_self, List.length_set, setInts_len, hlt, hb', List.length_cons, List.length_nil]; done) | skip
      refine ⟨(i + 1, yss.set i [((k + i * 7 + 0 : Nat) : Int), ((k + i * 7 + 1 : Nat) : Int), ((k + i * 7 + 2 : Nat) : Int), ((k + i * 7 + 3 : Nat) : Int), ((k + i * 7 + 4 : Nat) : Int), ((k + i * 7 + 5 : Nat) : Int), ((k + i * 7 + 6 : Nat) : Int)]), ⟨by dsimp only; omega, by simpa using h2, ?_, fun r hm => ?_⟩, ?_, by dsimp only; omega⟩
      · have := set_snoc [] h3 (by rw [marksYearResult_len]; omega) (by rw [marksYearResult_len]; exact h2)
        rwa [marksYearResult_get (by omega)] at this
      · rcases List.mem_or_eq_of_mem_set hm with hm | rfl
        · exact h4 r hm
        · rfl
      · (refine ⟨rfl, [], ?_, ?_⟩; all_goals (repeat' (first | exact rfl | exact trivial | (with_reducible assumption) | refine And.intro ?_ ?_ | omega | (refine congrArg (fun l => D.recs 7 l) ?_; simp only [getD_set_self, List.set_set, hlt, hb', setInts, List.set_cons_zero, List.set_cons_succ]; exact congrArg _ (by simp only [List.cons.injEq, and_true]; omega)))))
    · repeat' (first | (intro h; first | contradiction | omega | (conv => whnf) | skip) | (refine And.intro ?_ ?_) | (refine arith_ok ⟨by omega, by omega⟩ ?_) | (first | (refine draw_quiet hT mixed (by decide +kernel) ?_) | (refine draw_hard hT mixed (by decide +kernel) ?_)) | fail)
      all_goals first | omega | skip
      obtain rfl : i = xss.length := by omega
      obtain rfl : yss = marksYearResult xss.length k := by rwa [take_all (by omega), take_all (by rw [marksYearResult_len]; omega)] at h3
      (refine ⟨[], I ((k + xss.length * 7 : Nat) : Int), [DYearResult (marksYearResult xss.length k)], ?_, ?_, ?_⟩; all_goals (repeat' (first | exact rfl | exact trivial | (with_reducible assumption) | refine And.intro ?_ ?_ | omega)))
set_option maxRecDepth 100000 in
theorem heldYearResultS_ret (m k : Nat) (hn : m ≤ 1048576) (hk : k ≤ 100000000) : Ret Tryz.prog G 30 [RYearResult (marksYearResult m k), I k] (I ((k + m * 7 : Nat) : Int)) := by
  refine ret_of_body hT Tryz.func30 rfl ?_ rfl
  have hl := marksYearResult_len m k
  repeat' (first | (intro h; first | contradiction | omega | (conv => whnf) | skip) | (refine And.intro ?_ ?_) | (refine arith_ok ⟨by omega, by omega⟩ ?_) | (first | (refine draw_quiet hT mixed (by decide +kernel) ?_) | (refine draw_hard hT mixed (by decide +kernel) ?_)) | fail)
  refine loop_rule hT (fun i : Nat => i ≤ m) 76 0 [0, 1, 5] (fun i => [RYearResult (marksYearResult m k), I ((k + i * 7 : Nat) : Int), I i]) (fun _ => []) (fun i => m - i) (0) (Nat.le_of_ble_eq_true rfl) ?_ ?_ ?_
  · exact Nat.zero_le _
  · (refine ⟨rfl, [], ?_, ?_⟩; all_goals (repeat' (first | exact rfl | exact trivial | (with_reducible assumption) | refine And.intro ?_ ?_ | omega)))
  · intro i h1
    by_cases hi : i < m
    · have hg : (marksYearResult m k).getD ((i : Int)).toNat [] = [((k + i * 7 + 0 : Nat) : Int), ((k + i * 7 + 1 : Nat) : Int), ((k + i * 7 + 2 : Nat) : Int), ((k + i * 7 + 3 : Nat) : Int), ((k + i * 7 + 4 : Nat) : Int), ((k + i * 7 + 5 : Nat) : Int), ((k + i * 7 + 6 : Nat) : Int)] := marksYearResult_get hi
      repeat' (first | (intro h; first | contradiction | omega | (conv => whnf) | skip) | (refine And.intro ?_ ?_) | (refine arith_ok ⟨by omega, by omega⟩ ?_) | (first | (refine draw_quiet hT mixed (by decide +kernel) ?_) | (refine draw_hard hT mixed (by decide +kernel) ?_)) | fail)
      all_goals first | omega | (rw [hg] at h; exact absurd (show _ = _ by simp <;> omega) h) | skip
      refine ⟨i + 1, by omega, ?_, by omega⟩
      (refine ⟨rfl, [], ?_, ?_⟩; all_goals (repeat' (first | exact rfl | exact trivial | (with_reducible assumption) | refine And.intro ?_ ?_ | omega)))
    · repeat' (first | (intro h; first | contradiction | omega | (conv => whnf) | skip) | (refine And.intro ?_ ?_) | (refine arith_ok ⟨by omega, by omega⟩ ?_) | (first | (refine draw_quiet hT mixed (by decide +kernel) ?_) | (refine draw_hard hT mixed (by decide +kernel) ?_)) | fail)
      all_goals first | omega | skip
      obtain rfl : i = m := by omega
      rfl
end Go.Proofs.YtenofbabiacacaaGreat
