/-
  Votes: counting them, and whether a motion is carried: what the functions return. No conditions but those in the statements.
-/
import Derived.Test.YtcdfdigehaipmaaIn
import Derived.Test.YtcdfdigehaipmaaCarry
set_option linter.unusedVariables false
set_option linter.unusedSimpArgs false
namespace Go.Proofs.Ytcdfdigehaipmaa
open Go.AE

attribute [local irreducible] CallA LoopA DrawA CallQ arithK quoK remK eqK
def cnt (v : Int) (xs : List Int) : Int := (xs.filter fun x => decide (x = v)).length
def cntL (xs : List Int) : List Int := [cnt 0 xs, cnt 1 xs, cnt 2 xs]
theorem cnt_bd (v : Int) (xs : List Int) : 0 ≤ cnt v xs ∧ cnt v xs ≤ xs.length := by
  unfold cnt
  exact ⟨by omega, by have := List.length_filter_le (fun x => decide (x = v)) xs; omega⟩
theorem cnt_snoc (v : Int) (xs : List Int) (x : Int) : cnt v (xs ++ [x]) = cnt v xs + if x = v then 1 else 0 := by
  unfold cnt
  rw [List.filter_append, List.length_append]
  by_cases h : x = v
  · simp [h]
  · simp [h]
theorem cntL_bd (xs : List Int) (j : Nat) : 0 ≤ (cntL xs).getD j 0 ∧ (cntL xs).getD j 0 ≤ xs.length := by
  have h0 := cnt_bd 0 xs
  have h1 := cnt_bd 1 xs
  have h2 := cnt_bd 2 xs
  match j with
  | 0 => exact h0
  | 1 => exact h1
  | 2 => exact h2
  | j + 3 => simp [cntL]
theorem cntL_set (xs : List Int) (x : Int) (h : 0 ≤ x ∧ x ≤ 2) : (cntL xs).set x.toNat ((cntL xs).getD x.toNat 0 + 1) = cntL (xs ++ [x]) := by
  have h3 : x = 0 ∨ x = 1 ∨ x = 2 := by omega
  rcases h3 with rfl | rfl | rfl <;> simp [cntL, cnt_snoc]
set_option maxRecDepth 100000 in
theorem implCounts_call (xs : List Int) (hn : xs.length ≤ 60) (hv : allR xs 0 2) : CallA Try.prog G 53 [Ri xs] [] (fun v J => v = .sl 0 1 3 ∧ J = [Di (cntL xs)]) := by
  refine CallA.ends (callA_of_body hT Try.func53 rfl ?_)
  repeat' (first | (intro h; first | contradiction | omega | (conv => whnf) | skip) | (refine And.intro ?_ ?_) | (refine arith_ok ⟨by omega, by omega⟩ ?_) | (first | (refine draw_quiet hT mixed (by decide +kernel) ?_) | (refine draw_hard hT mixed (by decide +kernel) ?_)) | fail)
  · rfl
  · omega
  · omega
  refine loop_rule hT (fun i : Nat => i ≤ xs.length) 21 1 [3, 7, 8, 9] (fun i => [.sl 0 1 3, Ri xs, I xs.length, I i]) (fun i => [Di (cntL (xs.take i))]) (fun i => xs.length - i) (0) (Nat.le_of_ble_eq_true rfl) ?_ ?_ ?_
  · exact Nat.zero_le _
  · (refine ⟨rfl, [], ?_, ?_⟩; all_goals (repeat' (first | exact rfl | exact trivial | (with_reducible assumption) | refine And.intro ?_ ?_ | omega)))
  · rintro i h1
    have hb := cntL_bd (xs.take i) (xs.getD ((i : Int)).toNat 0).toNat
    have hl : (xs.take i).length ≤ 60 := Nat.le_trans (List.length_take_le _ _) (by omega)
    have h3 : (cntL (xs.take i)).length = 3 := rfl
    by_cases hi : i < xs.length
    · have hr : 0 ≤ xs.getD ((i : Int)).toNat 0 ∧ xs.getD ((i : Int)).toNat 0 ≤ 2 := hv (xs.getD i 0) (getD_mem hi)
      have hset := cntL_set (xs.take i) (xs.getD ((i : Int)).toNat 0) hr
      have hst := take_snoc 0 hi
      repeat' (first | (intro h; first | contradiction | omega | (conv => whnf) | skip) | (refine And.intro ?_ ?_) | (refine arith_ok ⟨by omega, by omega⟩ ?_) | (first | (refine draw_quiet hT mixed (by decide +kernel) ?_) | (refine draw_hard hT mixed (by decide +kernel) ?_)) | fail)
      all_goals first | omega | skip
      all_goals (refine ⟨i + 1, by omega, ?_, by omega⟩; (refine ⟨rfl, [], ?_, ?_⟩; all_goals (repeat' (first | exact rfl | exact trivial | (with_reducible assumption) | refine And.intro ?_ ?_ | omega | exact congrArg _ (hset.trans (congrArg cntL hst.symm))))))
    · have ht : xs.take i = xs := take_all (by omega)
      repeat' (first | (intro h; first | contradiction | omega | (conv => whnf) | skip) | (refine And.intro ?_ ?_) | (refine arith_ok ⟨by omega, by omega⟩ ?_) | (first | (refine draw_quiet hT mixed (by decide +kernel) ?_) | (refine draw_hard hT mixed (by decide +kernel) ?_)) | fail)
      all_goals first | omega | skip
      (refine ⟨[some 0], .sl 0 1 3, [Di (cntL xs)], ?_, ?_, ?_⟩; all_goals (repeat' (first | exact rfl | exact trivial | (with_reducible assumption) | refine And.intro ?_ ?_ | omega | exact congrArg (fun l => D.ints .i64 (cntL l)) ht)))
set_option maxRecDepth 100000 in
theorem specCounts_call (xs : List Int) (hn : xs.length ≤ 60) (hv : allR xs 0 2) : CallA Try.prog G 51 [Ri xs] [] (fun v J => v = .sl 0 1 3 ∧ J = [Di (cntL xs)]) := by
  refine CallA.ends (callA_of_body hT Try.func51 rfl ?_)
  repeat' (first | (intro h; first | contradiction | omega | (conv => whnf) | skip) | (refine And.intro ?_ ?_) | (refine arith_ok ⟨by omega, by omega⟩ ?_) | (first | (refine draw_quiet hT mixed (by decide +kernel) ?_) | (refine draw_hard hT mixed (by decide +kernel) ?_)) | fail)
  · rfl
  · omega
  · omega
  refine loop_rule hT (fun i : Nat => i ≤ xs.length) 27 1 [0, 3, 4] (fun i => [Ri xs, .sl 0 1 3, I i]) (fun i => [Di (cntL (xs.take i))]) (fun i => xs.length - i) (0) (Nat.le_of_ble_eq_true rfl) ?_ ?_ ?_
  · exact Nat.zero_le _
  · (refine ⟨rfl, [], ?_, ?_⟩; all_goals (repeat' (first | exact rfl | exact trivial | (with_reducible assumption) | refine And.intro ?_ ?_ | omega)))
  · rintro i h1
    have hb := cntL_bd (xs.take i) (xs.getD ((i : Int)).toNat 0).toNat
    have hl : (xs.take i).length ≤ 60 := Nat.le_trans (List.length_take_le _ _) (by omega)
    have h3 : (cntL (xs.take i)).length = 3 := rfl
    by_cases hi : i < xs.length
    · have hr : 0 ≤ xs.getD ((i : Int)).toNat 0 ∧ xs.getD ((i : Int)).toNat 0 ≤ 2 := hv (xs.getD i 0) (getD_mem hi)
      have hset := cntL_set (xs.take i) (xs.getD ((i : Int)).toNat 0) hr
      have hst := take_snoc 0 hi
      repeat' (first | (intro h; first | contradiction | omega | (conv => whnf) | skip) | (refine And.intro ?_ ?_) | (refine arith_ok ⟨by omega, by omega⟩ ?_) | (first | (refine draw_quiet hT mixed (by decide +kernel) ?_) | (refine draw_hard hT mixed (by decide +kernel) ?_)) | fail)
      all_goals first | omega | skip
      all_goals (refine ⟨i + 1, by omega, ?_, by omega⟩; (refine ⟨rfl, [], ?_, ?_⟩; all_goals (repeat' (first | exact rfl | exact trivial | (with_reducible assumption) | refine And.intro ?_ ?_ | omega | exact congrArg _ (hset.trans (congrArg cntL hst.symm))))))
    · have ht : xs.take i = xs := take_all (by omega)
      repeat' (first | (intro h; first | contradiction | omega | (conv => whnf) | skip) | (refine And.intro ?_ ?_) | (refine arith_ok ⟨by omega, by omega⟩ ?_) | (first | (refine draw_quiet hT mixed (by decide +kernel) ?_) | (refine draw_hard hT mixed (by decide +kernel) ?_)) | fail)
      all_goals first | omega | skip
      (refine ⟨[some 0], .sl 0 1 3, [Di (cntL xs)], ?_, ?_, ?_⟩; all_goals (repeat' (first | exact rfl | exact trivial | (with_reducible assumption) | refine And.intro ?_ ?_ | omega | exact congrArg (fun l => D.ints .i64 (cntL l)) ht)))
def areV (xs : List Int) : Prop := allR xs 0 2 ∧ xs.length ≤ 60
instance (xs : List Int) : Decidable (areV xs) := by unfold areV; infer_instance
set_option maxRecDepth 100000 in
theorem areVotes_ret (xs : List Int) (hn : xs.length ≤ 2305843009213693952) : Ret Try.prog G 52 [Ri xs] (Bo (decide (areV xs))) := by
  refine ret_of_body hT Try.func52 rfl ?_ rfl
  repeat' (first | (intro h; first | contradiction | omega | (conv => whnf) | skip) | (refine And.intro ?_ ?_) | (refine arith_ok ⟨by omega, by omega⟩ ?_) | (first | (refine draw_quiet hT mixed (by decide +kernel) ?_) | (refine draw_hard hT mixed (by decide +kernel) ?_)) | (refine Ret.goP (allIn_ret _ _ _ (by omega)) rfl ?_) | (refine Ret.goQP (allIn_ret _ _ _ (by omega)) rfl ?_))
  all_goals (first | exact bv_true ⟨by assumption, by omega⟩ | exact bv_false (fun hv => by have h1 := hv.1; have h2 := hv.2; first | contradiction | omega))
end Go.Proofs.Ytcdfdigehaipmaa
