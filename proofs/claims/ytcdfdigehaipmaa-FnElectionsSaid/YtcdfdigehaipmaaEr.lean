/-
  Candidates sorted by their points: what the functions return. No conditions but those in the statements.
-/
import Derived.Test.YtcdfdigehaipmaaEq
set_option linter.unusedVariables false
set_option linter.unusedSimpArgs false
namespace Go.Proofs.Ytcdfdigehaipmaa
open Go.AE

attribute [local irreducible] CallA LoopA DrawA CallQ arithK quoK remK eqK
abbrev pF (ps : List Int) : AV := .fn 74 [.rpc [Ri ps] 0]
set_option maxRecDepth 100000 in
theorem nan64_ret (a : Int) : Ret Try.prog G 83 [I a] (Bo false) := by
  refine ret_of_body hT Try.func83 rfl ?_ rfl
  repeat' (first | (intro h; first | contradiction | omega | (conv => whnf) | skip) | (refine And.intro ?_ ?_) | (refine arith_ok ⟨by omega, by omega⟩ ?_) | (first | (refine draw_quiet hT mixed (by decide +kernel) ?_) | (refine draw_hard hT mixed (by decide +kernel) ?_)) | fail)
  all_goals first | rfl | omega | contradiction | trace_state
set_option maxRecDepth 100000 in
theorem compare64_ret (a b : Int) : Ret Try.prog G 75 [I a, I b] (I (cmpI a b)) := by
  refine ret_of_body hT Try.func75 rfl ?_ rfl
  repeat' (first | (intro h; first | contradiction | omega | (conv => whnf) | skip) | (refine And.intro ?_ ?_) | (refine arith_ok ⟨by omega, by omega⟩ ?_) | (first | (refine draw_quiet hT mixed (by decide +kernel) ?_) | (refine draw_hard hT mixed (by decide +kernel) ?_)) | (refine Ret.go (nan64_ret _) rfl rfl ?_) | (refine Ret.goQ (nan64_ret _) rfl rfl ?_))
  all_goals (refine iv ?_; unfold cmpI; first | (rw [if_pos (by omega)]; done) | (rw [if_neg (by omega), if_pos (by omega)]; done) | (rw [if_neg (by omega), if_neg (by omega)]; done))
set_option maxRecDepth 100000 in
theorem byPoints_ret (ps : List Int) (c d : Int) (hc : 0 ≤ c ∧ c < ps.length) (hd : 0 ≤ d ∧ d < ps.length) : Ret Try.prog G 74 [I c, I d, .rpc [Ri ps] 0] (I (cmpI (pv ps d) (pv ps c))) := by
  refine ret_of_body hT Try.func74 rfl ?_ rfl
  repeat' ((first | (conv => whnf) | skip); (first | ((with_reducible intro h); first | contradiction | omega | (conv => whnf) | skip) | (with_reducible refine And.intro ?_ ?_) | ((with_reducible show arithK _ _ _); refine arith_ok ⟨by omega, by omega⟩ ?_) | ((with_reducible show quoK _ _ _ _); refine quo_ok ⟨by omega, by omega⟩ (by omega) (by omega) ?_) | ((with_reducible show remK _ _ _ _); refine rem_ok (by omega) (by omega) ?_) | ((first | (with_reducible show CallA _ _ _ _ _ _) | (with_reducible show CallQ _ _ _ _ _ _)); first | (refine Ret.go (compare64_ret _ _) rfl rfl ?_) | (refine Ret.goQ (compare64_ret _ _) rfl rfl ?_)) | ((with_reducible show DrawA _ _ _ _ _ _); first | (first | (refine draw_quiet hT mixed (by decide +kernel) ?_) | (refine draw_hard hT mixed (by decide +kernel) ?_)))))
  all_goals first | rfl | omega | trace_state
theorem cmpI_neg {a b : Int} : cmpI a b < 0 ↔ a < b := by unfold cmpI; split; omega; split <;> omega
/-- The list when the first i are sorted, and i stands at place j. -/
def stS (ps : List Int) (n i j : Nat) : List Int := (isrt ps i).take j ++ (i : Int) :: ((isrt ps i).drop j ++ (marks n 0).drop (i + 1))
theorem marks_at {n i : Nat} (h : i < n) : (marks n 0).getD i 0 = (i : Int) := by
  rw [List.getD_eq_getElem?_getD]; simp [marks, h]
theorem stS_start {ps : List Int} {n i : Nat} (h : i < n) : isrt ps i ++ (marks n 0).drop i = stS ps n i i := by
  have hl := (isrt_So ps i).len
  unfold stS
  rw [take_all (by omega), show (isrt ps i).drop i = [] from List.drop_eq_nil_of_le (by omega), List.nil_append, List.drop_eq_getElem_cons (by rw [marks_len]; exact h), ← getD_lt (d := (0 : Int)) (by rw [marks_len]; exact h), marks_at h]
theorem stS_len {ps : List Int} {n i j : Nat} (hi : i < n) (hj : j ≤ i) : (stS ps n i j).length = n := by
  have hl := (isrt_So ps i).len
  have := marks_len n 0
  unfold stS
  rw [List.length_append, List.length_cons, List.length_append, List.length_take, List.length_drop, List.length_drop]
  omega
theorem stS_x {ps : List Int} {n i j : Nat} (hj : j ≤ i) : (stS ps n i j).getD j 0 = (i : Int) := by
  have hl := (isrt_So ps i).len
  unfold stS
  rw [List.getD_eq_getElem?_getD, List.getElem?_append_right (by rw [List.length_take]; omega), List.length_take, show j - min j (isrt ps i).length = 0 by omega]
  rfl
theorem stS_y {ps : List Int} {n i j : Nat} (hj : j ≤ i) (h0 : 0 < j) : (stS ps n i j).getD (j - 1) 0 = (isrt ps i).getD (j - 1) 0 := by
  have hl := (isrt_So ps i).len
  unfold stS
  rw [List.getD_eq_getElem?_getD, List.getElem?_append_left (by rw [List.length_take]; omega), List.getElem?_take_of_lt (by omega), ← List.getD_eq_getElem?_getD]
theorem stS_swap {ps : List Int} {n i j : Nat} (hj : j ≤ i) (h0 : 0 < j) : ((stS ps n i j).set j ((isrt ps i).getD (j - 1) 0)).set (j - 1) (i : Int) = stS ps n i (j - 1) := by
  have hl := (isrt_So ps i).len
  unfold stS
  rw [swap_down h0 (by omega), drop_down h0 (by omega)]
  rfl
theorem stS_end {ps : List Int} {n i j : Nat} (hj : j ≤ i) (hb : ∀ b ∈ (isrt ps i).drop j, pv ps b < pv ps (i : Int)) (ha : 0 < j → pv ps (i : Int) ≤ pv ps ((isrt ps i).getD (j - 1) 0)) : stS ps n i j = isrt ps (i + 1) ++ (marks n 0).drop (i + 1) := by
  rw [← lay_in hj hb ha]
  simp [stS]
theorem isrt_one {ps : List Int} {n : Nat} (h : 0 < n) : marks n 0 = isrt ps 1 ++ (marks n 0).drop 1 := by
  have := stS_start (ps := ps) (n := n) (i := 0) h
  simp only [isrt, List.nil_append, List.drop_zero] at this
  rw [this]
  exact stS_end (Nat.le_refl 0) (fun b hb => by simp [isrt] at hb) (fun h => by omega)
attribute [local irreducible] stS isrt
set_option maxHeartbeats 4000000 in
set_option maxRecDepth 100000 in
theorem insertion_call (ps : List Int) (n : Nat) (hn : 1 ≤ n ∧ n ≤ 12) (hp : ps.length = n) : CallA Try.prog G 86 [.sl 0 1 n, I 0, I n, pF ps] [Di (marks n 0)] (fun v J => v = .tup [] ∧ J = [Di (isrt ps n)]) := by
  refine CallA.ends (callA_of_body hT Try.func86 rfl ?_)
  repeat' ((first | (conv => whnf) | skip); (first | ((with_reducible intro h); first | contradiction | omega | (conv => whnf) | skip) | (with_reducible refine And.intro ?_ ?_) | ((with_reducible show arithK _ _ _); refine arith_ok ⟨by omega, by omega⟩ ?_) | ((with_reducible show quoK _ _ _ _); refine quo_ok ⟨by omega, by omega⟩ (by omega) (by omega) ?_) | ((with_reducible show remK _ _ _ _); refine rem_ok (by omega) (by omega) ?_) | ((first | (with_reducible show CallA _ _ _ _ _ _) | (with_reducible show CallQ _ _ _ _ _ _)); first | fail) | ((with_reducible show DrawA _ _ _ _ _ _); first | (refine draw_hard hT mixed (by decide +kernel) ?_))))
  all_goals first | rfl | omega | skip
  (conv => whnf)
  refine loop_rule hT (fun i : Nat => 1 ≤ i ∧ i ≤ n) 53 1 [0, 1, 2, 3, 8] (fun i => [.sl 0 1 n, I 0, I n, pF ps, I i]) (fun i => [Di (isrt ps i ++ (marks n 0).drop i)]) (fun i => n - i) (1) (Nat.le_of_ble_eq_true rfl) ?_ ?_ ?_
  · exact ⟨Nat.le_refl _, hn.1⟩
  · (refine ⟨rfl, [], ?_, ?_⟩; all_goals (repeat' (first | exact rfl | exact trivial | (with_reducible assumption) | refine And.intro ?_ ?_)); all_goals (first | omega | assumption | ((repeat' (first | exact congrArg (D.ints .i64) (isrt_one (by omega)) | exact rfl | exact trivial | (with_reducible assumption) | refine And.intro ?_ ?_ | omega | assumption)); done)); done)
  · rintro i ⟨h1, h2⟩
    by_cases hi : i < n
    · have hl := (isrt_So ps i).len
      have hrg := (isrt_So ps i).rg
      repeat' ((first | (conv => whnf) | skip); (first | ((with_reducible intro h); first | contradiction | omega | (conv => whnf) | skip) | (with_reducible refine And.intro ?_ ?_) | ((with_reducible show arithK _ _ _); refine arith_ok ⟨by omega, by omega⟩ ?_) | ((with_reducible show quoK _ _ _ _); refine quo_ok ⟨by omega, by omega⟩ (by omega) (by omega) ?_) | ((with_reducible show remK _ _ _ _); refine rem_ok (by omega) (by omega) ?_) | ((first | (with_reducible show CallA _ _ _ _ _ _) | (with_reducible show CallQ _ _ _ _ _ _)); first | fail) | ((with_reducible show DrawA _ _ _ _ _ _); first | (refine draw_hard hT mixed (by decide +kernel) ?_))))
      all_goals first | rfl | omega | skip
      (conv => whnf)
      refine loop_rule hT (fun j : Nat => j ≤ i ∧ ∀ b ∈ (isrt ps i).drop j, pv ps b < pv ps (i : Int)) 53 1 [0, 1, 2, 3, 8, 9] (fun j => [.sl 0 1 n, I 0, I n, pF ps, I i, I j]) (fun j => [Di (stS ps n i j)]) (fun j => j) (i) (Nat.le_of_ble_eq_true rfl) ?_ ?_ ?_
      · exact ⟨Nat.le_refl _, fun b hb => by rw [List.drop_eq_nil_of_le (by omega)] at hb; simp at hb⟩
      · (refine ⟨rfl, [], ?_, ?_⟩; all_goals (repeat' (first | exact rfl | exact trivial | (with_reducible assumption) | refine And.intro ?_ ?_)); all_goals (first | omega | assumption | ((repeat' (first | exact congrArg (D.ints .i64) (stS_start hi) | exact rfl | exact trivial | (with_reducible assumption) | refine And.intro ?_ ?_ | omega | assumption)); done)); done)
      · rintro j ⟨h3, h4⟩
        have hsl := stS_len (ps := ps) hi h3
        by_cases hj : 0 < j
        · have hx : (stS ps n i j).getD ((j : Int)).toNat 0 = (i : Int) := stS_x h3
          have htn : ((j : Int) - 1).toNat = j - 1 := by omega
          have hy : (stS ps n i j).getD ((j : Int) - 1).toNat 0 = (isrt ps i).getD (j - 1) 0 := by rw [htn]; exact stS_y h3 hj
          have hyr := hrg _ (getD_mem (d := (0 : Int)) (show j - 1 < (isrt ps i).length by omega))
          have hc : Ret Try.prog G 74 [I ((stS ps n i j).getD ((j : Int)).toNat 0), I ((stS ps n i j).getD ((j : Int) - 1).toNat 0), .rpc [Ri ps] 0] (I (cmpI (pv ps ((isrt ps i).getD (j - 1) 0)) (pv ps (i : Int)))) := by
            rw [hx, hy]; exact byPoints_ret ps _ _ (by omega) (by omega)
          have hcn := cmpI_neg (a := pv ps ((isrt ps i).getD (j - 1) 0)) (b := pv ps (i : Int))
          have hsw : ((stS ps n i j).set ((j : Int)).toNat ((stS ps n i j).getD ((j : Int) - 1).toNat 0)).set ((j : Int) - 1).toNat ((stS ps n i j).getD ((j : Int)).toNat 0) = stS ps n i (j - 1) := by
            rw [hx, hy, htn]; exact stS_swap h3 hj
          have hsw2 : ((stS ps n i j).set ((j : Int) - 1).toNat ((stS ps n i j).getD ((j : Int)).toNat 0)).set ((j : Int)).toNat ((stS ps n i j).getD ((j : Int) - 1).toNat 0) = stS ps n i (j - 1) := by
            rw [List.set_comm _ _ (by omega)]; exact hsw
          repeat' ((first | (conv => whnf) | skip); (first | ((with_reducible intro h); first | contradiction | omega | (conv => whnf) | skip) | (with_reducible refine And.intro ?_ ?_) | ((with_reducible show arithK _ _ _); refine arith_ok ⟨by omega, by omega⟩ ?_) | ((with_reducible show quoK _ _ _ _); refine quo_ok ⟨by omega, by omega⟩ (by omega) (by omega) ?_) | ((with_reducible show remK _ _ _ _); refine rem_ok (by omega) (by omega) ?_) | ((first | (with_reducible show CallA _ _ _ _ _ _) | (with_reducible show CallQ _ _ _ _ _ _)); first | (refine Ret.go (hc) rfl rfl ?_) | (refine Ret.goQ (hc) rfl rfl ?_)) | ((with_reducible show DrawA _ _ _ _ _ _); first | (refine draw_hard hT mixed (by decide +kernel) ?_))))
          all_goals first | rfl | omega | (show _ < List.length _; simp only [List.length_set]; omega) | skip
          all_goals ((conv => whnf); first
            | (refine ⟨j - 1, ⟨by omega, fun b hb => ?_⟩, ?_, by omega⟩
               · rw [drop_down hj (by omega)] at hb
                 rcases List.mem_cons.1 hb with rfl | hb
                 · exact hcn.1 (by assumption)
                 · exact h4 b hb
               · first | (refine ⟨rfl, [], ?_, ?_⟩; all_goals (repeat' (first | exact rfl | exact trivial | (with_reducible assumption) | refine And.intro ?_ ?_)); all_goals (first | omega | assumption | ((repeat' (first | exact congrArg (D.ints .i64) hsw | exact rfl | exact trivial | (with_reducible assumption) | refine And.intro ?_ ?_ | omega | assumption)); done)); done) | (refine ⟨rfl, [], ?_, ?_⟩; all_goals (repeat' (first | exact rfl | exact trivial | (with_reducible assumption) | refine And.intro ?_ ?_)); all_goals (first | omega | assumption | ((repeat' (first | exact congrArg (D.ints .i64) hsw2 | exact rfl | exact trivial | (with_reducible assumption) | refine And.intro ?_ ?_ | omega | assumption)); done)); done))
            | (refine ⟨i + 1, ⟨by omega, by omega⟩, ?_, by omega⟩
               (refine ⟨rfl, [], ?_, ?_⟩; all_goals (repeat' (first | exact rfl | exact trivial | (with_reducible assumption) | refine And.intro ?_ ?_)); all_goals (first | omega | assumption | ((repeat' (first | exact congrArg (D.ints .i64) (stS_end h3 h4 (fun _ => by omega)) | exact rfl | exact trivial | (with_reducible assumption) | refine And.intro ?_ ?_ | omega | assumption)); done)); done))
            | trace_state)
        · obtain rfl : j = 0 := by omega
          repeat' ((first | (conv => whnf) | skip); (first | ((with_reducible intro h); first | contradiction | omega | (conv => whnf) | skip) | (with_reducible refine And.intro ?_ ?_) | ((with_reducible show arithK _ _ _); refine arith_ok ⟨by omega, by omega⟩ ?_) | ((with_reducible show quoK _ _ _ _); refine quo_ok ⟨by omega, by omega⟩ (by omega) (by omega) ?_) | ((with_reducible show remK _ _ _ _); refine rem_ok (by omega) (by omega) ?_) | ((first | (with_reducible show CallA _ _ _ _ _ _) | (with_reducible show CallQ _ _ _ _ _ _)); first | fail) | ((with_reducible show DrawA _ _ _ _ _ _); first | (refine draw_hard hT mixed (by decide +kernel) ?_))))
          all_goals first | rfl | omega | skip
          all_goals ((conv => whnf); refine ⟨i + 1, ⟨by omega, by omega⟩, ?_, by omega⟩)
          all_goals (refine ⟨rfl, [], ?_, ?_⟩; all_goals (repeat' (first | exact rfl | exact trivial | (with_reducible assumption) | refine And.intro ?_ ?_)); all_goals (first | omega | assumption | ((repeat' (first | exact congrArg (D.ints .i64) (stS_end h3 h4 (fun h => by omega)) | exact rfl | exact trivial | (with_reducible assumption) | refine And.intro ?_ ?_ | omega | assumption)); done)); done)
    · obtain rfl : i = n := by omega
      have hend : isrt ps i ++ (marks i 0).drop i = isrt ps i := by
        rw [show (marks i 0).drop i = [] from List.drop_eq_nil_of_le (by rw [marks_len]; exact Nat.le_refl _), List.append_nil]
      repeat' ((first | (conv => whnf) | skip); (first | ((with_reducible intro h); first | contradiction | omega | (conv => whnf) | skip) | (with_reducible refine And.intro ?_ ?_) | ((with_reducible show arithK _ _ _); refine arith_ok ⟨by omega, by omega⟩ ?_) | ((with_reducible show quoK _ _ _ _); refine quo_ok ⟨by omega, by omega⟩ (by omega) (by omega) ?_) | ((with_reducible show remK _ _ _ _); refine rem_ok (by omega) (by omega) ?_) | ((first | (with_reducible show CallA _ _ _ _ _ _) | (with_reducible show CallQ _ _ _ _ _ _)); first | fail) | ((with_reducible show DrawA _ _ _ _ _ _); first | (refine draw_hard hT mixed (by decide +kernel) ?_))))
      all_goals first | rfl | omega | skip
      all_goals ((conv => whnf); first | (refine ⟨[], .tup [], [Di (isrt ps i)], ?_, ?_, ?_⟩; all_goals (repeat' (first | exact rfl | exact trivial | (with_reducible assumption) | refine And.intro ?_ ?_)); all_goals (first | omega | assumption | ((repeat' (first | exact congrArg (D.ints .i64) hend | exact rfl | exact trivial | (with_reducible assumption) | refine And.intro ?_ ?_ | omega | assumption)); done)); done) | (refine ⟨[some 0], .tup [], [Di (isrt ps i)], ?_, ?_, ?_⟩; all_goals (repeat' (first | exact rfl | exact trivial | (with_reducible assumption) | refine And.intro ?_ ?_)); all_goals (first | omega | assumption | ((repeat' (first | exact congrArg (D.ints .i64) hend | exact rfl | exact trivial | (with_reducible assumption) | refine And.intro ?_ ?_ | omega | assumption)); done)); done) | trace_state)
set_option maxHeartbeats 4000000 in
set_option maxRecDepth 100000 in
theorem stable_call (ps : List Int) (n : Nat) (hn : 1 ≤ n ∧ n ≤ 12) (hp : ps.length = n) : CallA Try.prog G 82 [.sl 0 1 n, I n, pF ps] [Di (marks n 0)] (fun v J => v = .tup [] ∧ J = [Di (isrt ps n)]) := by
  refine CallA.ends (callA_of_body hT Try.func82 rfl ?_)
  repeat' ((first | (conv => whnf) | skip); (first | ((with_reducible intro h); first | contradiction | omega | (conv => whnf) | skip) | (with_reducible refine And.intro ?_ ?_) | ((with_reducible show arithK _ _ _); refine arith_ok ⟨by omega, by omega⟩ ?_) | ((with_reducible show quoK _ _ _ _); refine quo_ok ⟨by omega, by omega⟩ (by omega) (by omega) ?_) | ((with_reducible show remK _ _ _ _); refine rem_ok (by omega) (by omega) ?_) | ((first | (with_reducible show CallA _ _ _ _ _ _) | (with_reducible show CallQ _ _ _ _ _ _)); first | fail) | ((with_reducible show DrawA _ _ _ _ _ _); first | (refine draw_hard hT mixed (by decide +kernel) ?_))))
  all_goals first | rfl | omega | skip
  (conv => whnf)
  refine loop_rule hT (fun _ : Nat => True) 63 1 [0, 1, 2, 6, 7, 8] (fun _ => [.sl 0 1 n, I n, pF ps, I 20, I 0, I 20]) (fun _ => [Di (marks n 0)]) (fun _ => 0) (0) (Nat.le_of_ble_eq_true rfl) ?_ ?_ ?_
  · trivial
  · (refine ⟨rfl, [], ?_, ?_⟩; all_goals (repeat' (first | exact rfl | exact trivial | (with_reducible assumption) | refine And.intro ?_ ?_)); all_goals (first | omega | assumption); done)
  · intro i _
    repeat' ((first | (conv => whnf) | skip); (first | ((with_reducible intro h); first | contradiction | omega | (conv => whnf) | skip) | (with_reducible refine And.intro ?_ ?_) | ((with_reducible show arithK _ _ _); refine arith_ok ⟨by omega, by omega⟩ ?_) | ((with_reducible show quoK _ _ _ _); refine quo_ok ⟨by omega, by omega⟩ (by omega) (by omega) ?_) | ((with_reducible show remK _ _ _ _); refine rem_ok (by omega) (by omega) ?_) | ((first | (with_reducible show CallA _ _ _ _ _ _) | (with_reducible show CallQ _ _ _ _ _ _)); first | (refine CallA.go [0] (insertion_call ps n hn hp) rfl (by first | ((repeat' (first | exact rfl | exact trivial | (with_reducible assumption) | refine And.intro ?_ ?_ | omega | assumption)); done) | fail) (by first | ((repeat' (first | exact rfl | exact trivial | (with_reducible assumption) | refine And.intro ?_ ?_ | omega | assumption)); done) | fail) ?_)) | ((with_reducible show DrawA _ _ _ _ _ _); first | (refine draw_hard hT mixed (by decide +kernel) ?_))))
    all_goals first | rfl | omega | skip
    (conv => whnf)
    refine loop_rule hT (fun _ : Nat => True) 63 1 [0, 1, 2, 6] (fun _ => [.sl 0 1 n, I n, pF ps, I 20]) (fun _ => [Di (isrt ps n)]) (fun _ => 0) (0) (Nat.le_of_ble_eq_true rfl) ?_ ?_ ?_
    · trivial
    · (refine ⟨rfl, [], ?_, ?_⟩; all_goals (repeat' (first | exact rfl | exact trivial | (with_reducible assumption) | refine And.intro ?_ ?_)); all_goals (first | omega | assumption); done)
    · intro i _
      repeat' ((first | (conv => whnf) | skip); (first | ((with_reducible intro h); first | contradiction | omega | (conv => whnf) | skip) | (with_reducible refine And.intro ?_ ?_) | ((with_reducible show arithK _ _ _); refine arith_ok ⟨by omega, by omega⟩ ?_) | ((with_reducible show quoK _ _ _ _); refine quo_ok ⟨by omega, by omega⟩ (by omega) (by omega) ?_) | ((with_reducible show remK _ _ _ _); refine rem_ok (by omega) (by omega) ?_) | ((first | (with_reducible show CallA _ _ _ _ _ _) | (with_reducible show CallQ _ _ _ _ _ _)); first | fail) | ((with_reducible show DrawA _ _ _ _ _ _); first | (refine draw_hard hT mixed (by decide +kernel) ?_))))
      all_goals first | rfl | omega | skip
      all_goals ((conv => whnf); first | (refine ⟨[], .tup [], [Di (isrt ps n)], ?_, ?_, ?_⟩; all_goals (repeat' (first | exact rfl | exact trivial | (with_reducible assumption) | refine And.intro ?_ ?_)); all_goals (first | omega | assumption); done) | trace_state)
set_option maxRecDepth 100000 in
theorem sortStable_call (ps : List Int) (n : Nat) (hn : 1 ≤ n ∧ n ≤ 12) (hp : ps.length = n) : CallA Try.prog G 73 [.sl 0 1 n, pF ps] [Di (marks n 0)] (fun v J => v = .tup [] ∧ J = [Di (isrt ps n)]) := by
  refine CallA.ends (callA_of_body hT Try.func73 rfl ?_)
  repeat' ((first | (conv => whnf) | skip); (first | ((with_reducible intro h); first | contradiction | omega | (conv => whnf) | skip) | (with_reducible refine And.intro ?_ ?_) | ((with_reducible show arithK _ _ _); refine arith_ok ⟨by omega, by omega⟩ ?_) | ((with_reducible show quoK _ _ _ _); refine quo_ok ⟨by omega, by omega⟩ (by omega) (by omega) ?_) | ((with_reducible show remK _ _ _ _); refine rem_ok (by omega) (by omega) ?_) | ((first | (with_reducible show CallA _ _ _ _ _ _) | (with_reducible show CallQ _ _ _ _ _ _)); first | (refine CallA.go [0] (stable_call ps n hn hp) rfl (by first | ((repeat' (first | exact rfl | exact trivial | (with_reducible assumption) | refine And.intro ?_ ?_ | omega | assumption)); done) | fail) (by first | ((repeat' (first | exact rfl | exact trivial | (with_reducible assumption) | refine And.intro ?_ ?_ | omega | assumption)); done) | fail) ?_)) | ((with_reducible show DrawA _ _ _ _ _ _); first | (refine draw_hard hT mixed (by decide +kernel) ?_))))
  all_goals first | rfl | omega | skip
  all_goals ((conv => whnf); first | (refine ⟨[], .tup [], [Di (isrt ps n)], ?_, ?_, ?_⟩; all_goals (repeat' (first | exact rfl | exact trivial | (with_reducible assumption) | refine And.intro ?_ ?_)); all_goals (first | omega | assumption); done) | trace_state)
set_option maxRecDepth 100000 in
theorem cloneI_call (xs : List Int) (hx : xs.length ≤ 1048576) : CallA Try.prog G 76 [Ri xs] [] (fun v J => v = .sl 0 1 xs.length ∧ J = [Di xs]) := by
  refine CallA.ends (callA_of_body hT Try.func76 rfl ?_)
  repeat' (first | (intro h; first | contradiction | omega | (conv => whnf) | skip) | (refine And.intro ?_ ?_) | (refine arith_ok ⟨by omega, by omega⟩ ?_) | (first | (refine draw_quiet hT mixed (by decide +kernel) ?_) | (refine draw_hard hT mixed (by decide +kernel) ?_)) | fail)
  all_goals first | omega | (show 0 = 0; rfl) | (simp only [List.length_nil]; omega) | skip
  all_goals first
    | (obtain rfl := List.eq_nil_of_length_eq_zero h; (refine ⟨[none], .sl 0 1 0, [Di []], ?_, ?_, ?_⟩; all_goals (repeat' (first | exact rfl | exact trivial | (with_reducible assumption) | refine And.intro ?_ ?_ | omega))); done)
    | ((first | (refine ⟨[], .sl 0 1 xs.length, [Di xs], ?_, ?_, ?_⟩; all_goals (repeat' (first | exact rfl | exact trivial | (with_reducible assumption) | refine And.intro ?_ ?_)); all_goals (first | omega | assumption); done) | (refine ⟨[some 1], .sl 0 1 xs.length, [Di xs], ?_, ?_, ?_⟩; all_goals (repeat' (first | exact rfl | exact trivial | (with_reducible assumption) | refine And.intro ?_ ?_)); all_goals (first | omega | assumption); done) | (refine ⟨[some 0], .sl 0 1 xs.length, [Di xs], ?_, ?_, ?_⟩; all_goals (repeat' (first | exact rfl | exact trivial | (with_reducible assumption) | refine And.intro ?_ ?_)); all_goals (first | omega | assumption); done) | (refine ⟨[some 2], .sl 0 1 xs.length, [Di xs], ?_, ?_, ?_⟩; all_goals (repeat' (first | exact rfl | exact trivial | (with_reducible assumption) | refine And.intro ?_ ?_)); all_goals (first | omega | assumption); done) | (refine ⟨[some 3], .sl 0 1 xs.length, [Di xs], ?_, ?_, ?_⟩; all_goals (repeat' (first | exact rfl | exact trivial | (with_reducible assumption) | refine And.intro ?_ ?_)); all_goals (first | omega | assumption); done) | (refine ⟨[some 4], .sl 0 1 xs.length, [Di xs], ?_, ?_, ?_⟩; all_goals (repeat' (first | exact rfl | exact trivial | (with_reducible assumption) | refine And.intro ?_ ?_)); all_goals (first | omega | assumption); done) | (refine ⟨[some 5], .sl 0 1 xs.length, [Di xs], ?_, ?_, ?_⟩; all_goals (repeat' (first | exact rfl | exact trivial | (with_reducible assumption) | refine And.intro ?_ ?_)); all_goals (first | omega | assumption); done)))
    | trace_state
/-- Who is elected. -/
def elR (n : Int) (xss : List (List Int)) (s : Int) : List Int := if okB n xss ∧ (1 ≤ s ∧ s ≤ 12) ∧ s ≤ n then (isrt (ptN n xss xss.length) n.toNat).take s.toNat else []
def elC (n : Int) (xss : List (List Int)) (s : Int) : Int := if okB n xss ∧ (1 ≤ s ∧ s ≤ 12) then (if s ≤ n then 0 else 5) else 2
theorem elR_len (n : Int) (xss : List (List Int)) (s : Int) : (elR n xss s).length ≤ 12 := by
  unfold elR
  split
  · rename_i h; rw [List.length_take]; omega
  · simp
abbrev elT (n : Int) (xss : List (List Int)) (s : Int) : AV := .tup [.sl 0 1 (elR n xss s).length, I (elC n xss s)]
theorem el_yes {n : Int} {xss : List (List Int)} {s : Int} (h : okB n xss) (h2 : 1 ≤ s ∧ s ≤ 12) (h3 : s ≤ n) : elR n xss s = (isrt (ptN n xss xss.length) n.toNat).take s.toNat ∧ elC n xss s = 0 := ⟨if_pos ⟨h, h2, h3⟩, (if_pos ⟨h, h2⟩).trans (if_pos h3)⟩
theorem el_state {n : Int} {xss : List (List Int)} {s : Int} (h : okB n xss) (h2 : 1 ≤ s ∧ s ≤ 12) (h3 : ¬ s ≤ n) : elR n xss s = [] ∧ elC n xss s = 5 := ⟨if_neg fun e => h3 e.2.2, (if_pos ⟨h, h2⟩).trans (if_neg h3)⟩
theorem el_no {n : Int} {xss : List (List Int)} {s : Int} (h : ¬ (okB n xss ∧ (1 ≤ s ∧ s ≤ 12))) : elR n xss s = [] ∧ elC n xss s = 2 := ⟨if_neg fun e => h ⟨e.1, e.2.1⟩, if_neg h⟩
attribute [local irreducible] ptN
theorem marks_next2 (k : Nat) : marks k 0 ++ ([] ++ [(k : Int)]) = marks (k + 1) 0 := by simp [marks, List.range_succ]
set_option maxHeartbeats 4000000 in
set_option maxRecDepth 100000 in
theorem implElected_call (n : Int) (xss : List (List Int)) (s : Int) (hn : xss.length ≤ 1048576) (hr : ∀ r ∈ xss, r.length ≤ 1048576) : CallA Try.prog G 43 [I n, Rn xss, I s] [] (fun v J => v = elT n xss s ∧ J = [Di (elR n xss s)]) := by
  refine CallA.ends (callA_of_body hT Try.func43 rfl ?_)
  have hba := implBallots_ret n xss hn hr
  by_cases ho : okB n xss
  · rw [decide_eq_true ho] at hba
    obtain ⟨m, rfl⟩ : ∃ m : Nat, n = (m : Int) := ⟨n.toNat, by have := ho.1; omega⟩
    by_cases hs : 1 ≤ s ∧ s ≤ 12
    · by_cases hsn : s ≤ (m : Int)
      · obtain ⟨h1, h2⟩ := el_yes ho hs hsn
        have hc := ho.1
        have hpl : (ptN m xss xss.length).length = m := ptN_len m xss xss.length
        have hil : (isrt (ptN m xss xss.length) m).length = m := (isrt_So (ptN m xss xss.length) m).len
        have hml := fun c => marks_len c 0
        have hpl2 : m = (D.ints .i64 (ptN m xss xss.length)).len := hpl.symm
        have hsub : 0 + (s.toNat - 0) ≤ (D.ints .i64 (isrt (ptN m xss xss.length) m)).len := by show _ ≤ List.length _; omega
        have h1' : elR m xss s = (isrt (ptN m xss xss.length) m).take s.toNat := h1
        have hel : (elR m xss s).length = s.toNat := by rw [h1', List.length_take]; omega
        have hcl : (((isrt (ptN m xss xss.length) m).drop 0).take s.toNat).length = s.toNat := by rw [List.drop_zero, List.length_take]; omega
        rw [elT, hel, h1, h2]
        repeat' ((first | (conv => whnf) | skip); (first | ((with_reducible intro h); first | contradiction | omega | (conv => whnf) | skip) | (with_reducible refine And.intro ?_ ?_) | ((with_reducible show arithK _ _ _); refine arith_ok ⟨by omega, by omega⟩ ?_) | ((with_reducible show quoK _ _ _ _); refine quo_ok ⟨by omega, by omega⟩ (by omega) (by omega) ?_) | ((with_reducible show remK _ _ _ _); refine rem_ok (by omega) (by omega) ?_) | ((first | (with_reducible show CallA _ _ _ _ _ _) | (with_reducible show CallQ _ _ _ _ _ _)); first | (refine Ret.go (hba) rfl rfl ?_) | (refine Ret.goQ (hba) rfl rfl ?_) | (refine Ret.goP (inRange_ret _ _ _) rfl ?_) | (refine Ret.goQP (inRange_ret _ _ _) rfl ?_) | (refine CallA.go [] (implPts_call m xss ho) rfl (by first | ((repeat' (first | exact rfl | exact trivial | (with_reducible assumption) | refine And.intro ?_ ?_ | omega | assumption)); done) | fail) trivial ?_)) | ((with_reducible show DrawA _ _ _ _ _ _); first | (refine draw_hard hT mixed (by decide +kernel) ?_))))
        all_goals first | rfl | omega | skip
        (conv => whnf)
        refine loop_rule hT (fun c : Nat => c ≤ m) 45 3 [0, 1, 2, 8, 9, 29, 30] (fun c => [I m, Rn xss, I s, .ptr 2 0, .sl 3 1 c, I m, I c]) (fun c => [Di (ptN m xss xss.length), .dead, .cells [.sl 0 1 m], Di (marks c 0)]) (fun c => m - c) (0) (Nat.le_of_ble_eq_true rfl) ?_ ?_ ?_
        · exact Nat.zero_le _
        · first | (refine ⟨rfl, [some 1], ?_, ?_⟩; all_goals (repeat' (first | exact rfl | exact trivial | (with_reducible assumption) | refine And.intro ?_ ?_)); all_goals (first | omega | assumption); done) | trace_state
        · intro c h3
          have hmc := hml c
          by_cases hcm : c < m
          · repeat' ((first | (conv => whnf) | skip); (first | ((with_reducible intro h); first | contradiction | omega | (conv => whnf) | skip) | (with_reducible refine And.intro ?_ ?_) | ((with_reducible show arithK _ _ _); refine arith_ok ⟨by omega, by omega⟩ ?_) | ((with_reducible show quoK _ _ _ _); refine quo_ok ⟨by omega, by omega⟩ (by omega) (by omega) ?_) | ((with_reducible show remK _ _ _ _); refine rem_ok (by omega) (by omega) ?_) | ((first | (with_reducible show CallA _ _ _ _ _ _) | (with_reducible show CallQ _ _ _ _ _ _)); first | fail) | ((with_reducible show DrawA _ _ _ _ _ _); first | (refine draw_hard hT mixed (by decide +kernel) ?_))))
            all_goals first | rfl | omega | (rw [marks_len]; done) | (show (_ : Nat) ≤ _; simp [marks_len]; omega) | skip
            all_goals ((conv => whnf); refine ⟨c + 1, by omega, ?_, by omega⟩; first | (refine ⟨rfl, [some 5], ?_, ?_⟩; all_goals (repeat' (first | exact rfl | exact trivial | (with_reducible assumption) | refine And.intro ?_ ?_)); all_goals (first | omega | assumption | ((repeat' (first | (exact congrArg (D.ints .i64) (marks_next2 c)) | (simp [marks_len]; done) | exact rfl | exact trivial | (with_reducible assumption) | refine And.intro ?_ ?_ | omega | assumption)); done)); done) | trace_state)
          · obtain rfl : c = m := by omega
            repeat' ((first | (conv => whnf) | skip); (first | ((with_reducible intro h); first | contradiction | omega | (conv => whnf) | skip) | (with_reducible refine And.intro ?_ ?_) | ((with_reducible show arithK _ _ _); refine arith_ok ⟨by omega, by omega⟩ ?_) | ((with_reducible show quoK _ _ _ _); refine quo_ok ⟨by omega, by omega⟩ (by omega) (by omega) ?_) | ((with_reducible show remK _ _ _ _); refine rem_ok (by omega) (by omega) ?_) | ((first | (with_reducible show CallA _ _ _ _ _ _) | (with_reducible show CallQ _ _ _ _ _ _)); first | (refine CallA.go [3] (sortStable_call (ptN c xss xss.length) c (by omega) hpl) rfl (by first | ((repeat' (first | exact rfl | exact trivial | (with_reducible assumption) | refine And.intro ?_ ?_ | omega | assumption)); done) | fail) (by first | ((repeat' (first | exact rfl | exact trivial | (with_reducible assumption) | refine And.intro ?_ ?_ | omega | assumption)); done) | fail) ?_) | (refine CallA.go [] (cloneI_call (((isrt (ptN c xss xss.length) c).drop 0).take s.toNat) (by omega)) rfl (by first | ((repeat' (first | exact rfl | exact trivial | (with_reducible assumption) | refine And.intro ?_ ?_ | omega | assumption)); done) | fail) trivial ?_)) | ((with_reducible show DrawA _ _ _ _ _ _); first | (refine draw_hard hT mixed (by decide +kernel) ?_))))
            all_goals first | rfl | omega | (rw [marks_len]; done) | skip
            all_goals ((conv => whnf); first | (refine ⟨[some 4], .tup [.sl 0 1 s.toNat, I 0], [Di (((isrt (ptN c xss xss.length) c).drop 0).take s.toNat)], ?_, ?_, ?_⟩; all_goals (repeat' (first | exact rfl | exact trivial | (with_reducible assumption) | refine And.intro ?_ ?_)); all_goals (first | omega | assumption | ((repeat' (first | (exact hcl) | (exact hcl.symm) | exact rfl | exact trivial | (with_reducible assumption) | refine And.intro ?_ ?_ | omega | assumption)); done)); done) | trace_state)
      · obtain ⟨h1, h2⟩ := el_state ho hs hsn
        rw [elT, h1, h2]
        repeat' ((first | (conv => whnf) | skip); (first | ((with_reducible intro h); first | contradiction | omega | (conv => whnf) | skip) | (with_reducible refine And.intro ?_ ?_) | ((with_reducible show arithK _ _ _); refine arith_ok ⟨by omega, by omega⟩ ?_) | ((with_reducible show quoK _ _ _ _); refine quo_ok ⟨by omega, by omega⟩ (by omega) (by omega) ?_) | ((with_reducible show remK _ _ _ _); refine rem_ok (by omega) (by omega) ?_) | ((first | (with_reducible show CallA _ _ _ _ _ _) | (with_reducible show CallQ _ _ _ _ _ _)); first | (refine Ret.go (hba) rfl rfl ?_) | (refine Ret.goQ (hba) rfl rfl ?_) | (refine Ret.goP (inRange_ret _ _ _) rfl ?_) | (refine Ret.goQP (inRange_ret _ _ _) rfl ?_)) | ((with_reducible show DrawA _ _ _ _ _ _); first | (refine draw_hard hT mixed (by decide +kernel) ?_))))
        all_goals first | rfl | omega | skip
        all_goals ((conv => whnf); (first | (refine ⟨[none], .tup [.sl 0 1 0, I 5], [Di []], ?_, ?_, ?_⟩; all_goals (repeat' (first | exact rfl | exact trivial | (with_reducible assumption) | refine And.intro ?_ ?_ | omega))) | trace_state))
    · obtain ⟨h1, h2⟩ := el_no (n := m) (xss := xss) (s := s) (fun e => hs e.2)
      rw [elT, h1, h2]
      repeat' ((first | (conv => whnf) | skip); (first | ((with_reducible intro h); first | contradiction | omega | (conv => whnf) | skip) | (with_reducible refine And.intro ?_ ?_) | ((with_reducible show arithK _ _ _); refine arith_ok ⟨by omega, by omega⟩ ?_) | ((with_reducible show quoK _ _ _ _); refine quo_ok ⟨by omega, by omega⟩ (by omega) (by omega) ?_) | ((with_reducible show remK _ _ _ _); refine rem_ok (by omega) (by omega) ?_) | ((first | (with_reducible show CallA _ _ _ _ _ _) | (with_reducible show CallQ _ _ _ _ _ _)); first | (refine Ret.go (hba) rfl rfl ?_) | (refine Ret.goQ (hba) rfl rfl ?_) | (refine Ret.goP (inRange_ret _ _ _) rfl ?_) | (refine Ret.goQP (inRange_ret _ _ _) rfl ?_)) | ((with_reducible show DrawA _ _ _ _ _ _); first | (refine draw_hard hT mixed (by decide +kernel) ?_))))
      all_goals first | rfl | omega | skip
      all_goals ((conv => whnf); (first | (refine ⟨[none], .tup [.sl 0 1 0, I 2], [Di []], ?_, ?_, ?_⟩; all_goals (repeat' (first | exact rfl | exact trivial | (with_reducible assumption) | refine And.intro ?_ ?_ | omega))) | trace_state))
  · rw [decide_eq_false ho] at hba
    obtain ⟨h1, h2⟩ := el_no (n := n) (xss := xss) (s := s) (fun e => ho e.1)
    rw [elT, h1, h2]
    repeat' ((first | (conv => whnf) | skip); (first | ((with_reducible intro h); first | contradiction | omega | (conv => whnf) | skip) | (with_reducible refine And.intro ?_ ?_) | ((with_reducible show arithK _ _ _); refine arith_ok ⟨by omega, by omega⟩ ?_) | ((with_reducible show quoK _ _ _ _); refine quo_ok ⟨by omega, by omega⟩ (by omega) (by omega) ?_) | ((with_reducible show remK _ _ _ _); refine rem_ok (by omega) (by omega) ?_) | ((first | (with_reducible show CallA _ _ _ _ _ _) | (with_reducible show CallQ _ _ _ _ _ _)); first | (refine Ret.go (hba) rfl rfl ?_) | (refine Ret.goQ (hba) rfl rfl ?_) | (refine Ret.goP (inRange_ret _ _ _) rfl ?_) | (refine Ret.goQP (inRange_ret _ _ _) rfl ?_)) | ((with_reducible show DrawA _ _ _ _ _ _); first | (refine draw_hard hT mixed (by decide +kernel) ?_))))
    all_goals first | rfl | omega | skip
    all_goals ((conv => whnf); (first | (refine ⟨[none], .tup [.sl 0 1 0, I 2], [Di []], ?_, ?_, ?_⟩; all_goals (repeat' (first | exact rfl | exact trivial | (with_reducible assumption) | refine And.intro ?_ ?_ | omega))) | trace_state))
end Go.Proofs.Ytcdfdigehaipmaa
