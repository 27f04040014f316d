/-
  The votes counted and a motion carried: what the program's and the reference's functions return, and the laws. No conditions but those in the statements.
-/
import Derived.Test.YtcdfdigehaipmaaVotes
set_option linter.unusedVariables false
set_option linter.unusedSimpArgs false
namespace Go.Proofs.Ytcdfdigehaipmaa
open Go.AE

attribute [local irreducible] CallA LoopA DrawA CallQ arithK quoK remK eqK
def cvR (xs : List Int) : List Int := if areV xs then cntL xs else []
def cvC (xs : List Int) : Int := if areV xs then 0 else 2
theorem cvR_len (xs : List Int) : (cvR xs).length ≤ 3 := by unfold cvR; split <;> simp [cntL]
theorem cv_yes {xs : List Int} (h : areV xs) : cvR xs = cntL xs ∧ cvC xs = 0 := by simp [cvR, cvC, h]
theorem cv_no {xs : List Int} (h : ¬ areV xs) : cvR xs = [] ∧ cvC xs = 2 := by simp [cvR, cvC, h]
abbrev cvT (xs : List Int) : AV := .tup [.sl 0 1 (cvR xs).length, I (cvC xs)]
theorem within_areV {xs : List Int} : (allR xs 0 2 ∧ (xs.length : Int) ≤ 60) ↔ areV xs := by unfold areV; constructor <;> (intro h; exact ⟨h.1, by have := h.2; omega⟩)
set_option maxRecDepth 100000 in
theorem specCountVotes_call (xs : List Int) (hn : xs.length ≤ 1048576) : CallA Try.prog G 21 [Ri xs] [] (fun v J => v = cvT xs ∧ J = [Di (cvR xs)]) := by
  refine CallA.ends (callA_of_body hT Try.func21 rfl ?_)
  repeat' (first | (intro h; first | contradiction | omega | (conv => whnf) | skip) | (refine And.intro ?_ ?_) | (refine arith_ok ⟨by omega, by omega⟩ ?_) | (first | (refine draw_quiet hT mixed (by decide +kernel) ?_) | (refine draw_hard hT mixed (by decide +kernel) ?_)) | (refine Ret.goP (l01Within_ret _ _ _ _ (by omega)) rfl ?_) | (refine Ret.goQP (l01Within_ret _ _ _ _ (by omega)) rfl ?_) | (refine CallA.go [] (specCounts_call xs (within_areV.1 (by assumption)).2 (within_areV.1 (by assumption)).1) rfl (by first | ((repeat' (first | exact rfl | exact trivial | (with_reducible assumption) | refine And.intro ?_ ?_ | omega | assumption)); done) | fail) trivial ?_))
  · obtain ⟨h1, h2⟩ := cv_yes (within_areV.1 h)
    rw [cvT, h1, h2]
    (refine ⟨[some 0], .tup [.sl 0 1 (cntL xs).length, I 0], [Di (cntL xs)], ?_, ?_, ?_⟩; all_goals (repeat' (first | exact rfl | exact trivial | (with_reducible assumption) | refine And.intro ?_ ?_ | omega)))
  · obtain ⟨h1, h2⟩ := cv_no (fun hv => h (within_areV.2 hv))
    rw [cvT, h1, h2]
    (refine ⟨[none], .tup [.sl 0 1 0, I 2], [Di []], ?_, ?_, ?_⟩; all_goals (repeat' (first | exact rfl | exact trivial | (with_reducible assumption) | refine And.intro ?_ ?_ | omega)))
set_option maxRecDepth 100000 in
theorem implCountVotes_call (xs : List Int) (hn : xs.length ≤ 1048576) : CallA Try.prog G 22 [Ri xs] [] (fun v J => v = cvT xs ∧ J = [Di (cvR xs)]) := by
  refine CallA.ends (callA_of_body hT Try.func22 rfl ?_)
  repeat' (first | (intro h; first | contradiction | omega | (conv => whnf) | skip) | (refine And.intro ?_ ?_) | (refine arith_ok ⟨by omega, by omega⟩ ?_) | (first | (refine draw_quiet hT mixed (by decide +kernel) ?_) | (refine draw_hard hT mixed (by decide +kernel) ?_)) | (refine Ret.goP (areVotes_ret _ (by omega)) rfl ?_) | (refine Ret.goQP (areVotes_ret _ (by omega)) rfl ?_) | (refine CallA.go [] (implCounts_call xs (by assumption : areV xs).2 (by assumption : areV xs).1) rfl (by first | ((repeat' (first | exact rfl | exact trivial | (with_reducible assumption) | refine And.intro ?_ ?_ | omega | assumption)); done) | fail) trivial ?_))
  · obtain ⟨h1, h2⟩ := cv_yes h
    rw [cvT, h1, h2]
    (refine ⟨[some 0], .tup [.sl 0 1 (cntL xs).length, I 0], [Di (cntL xs)], ?_, ?_, ?_⟩; all_goals (repeat' (first | exact rfl | exact trivial | (with_reducible assumption) | refine And.intro ?_ ?_ | omega)))
  · obtain ⟨h1, h2⟩ := cv_no h
    rw [cvT, h1, h2]
    (refine ⟨[none], .tup [.sl 0 1 0, I 2], [Di []], ?_, ?_, ?_⟩; all_goals (repeat' (first | exact rfl | exact trivial | (with_reducible assumption) | refine And.intro ?_ ?_ | omega)))
set_option maxRecDepth 100000 in
theorem lawCountVotes_ret (xs : List Int) : Ret Try.prog G 6 [Ri xs] (Bo true) := by
  refine ret_of_body hT Try.func6 rfl ?_ rfl
  have hl := cvR_len xs
  have hm : (cvR xs).length = (D.ints .i64 (marks (cvR xs).length 1)).len := (marks_len _ _).symm
  repeat' (first | (intro h; first | contradiction | omega | (conv => whnf) | skip) | (refine And.intro ?_ ?_) | (refine arith_ok ⟨by omega, by omega⟩ ?_) | (first | (refine draw_quiet hT mixed (by decide +kernel) ?_) | (refine draw_hard hT mixed (by decide +kernel) ?_)) | (refine CallA.go [] (toInt64S_call xs (by omega)) rfl (by first | ((repeat' (first | exact rfl | exact trivial | (with_reducible assumption) | refine And.intro ?_ ?_ | omega | assumption)); done) | fail) trivial ?_) | (refine CallA.go [] (specCountVotes_call xs (by omega)) rfl (by first | ((repeat' (first | exact rfl | exact trivial | (with_reducible assumption) | refine And.intro ?_ ?_ | omega | assumption)); done) | fail) trivial ?_) | (refine CallA.go [] (implCountVotes_call xs (by omega)) rfl (by first | ((repeat' (first | exact rfl | exact trivial | (with_reducible assumption) | refine And.intro ?_ ?_ | omega | assumption)); done) | fail) trivial ?_) | (refine Ret.useP (eqInt64S_ret (cvR xs) (cvR xs) (by omega)) (by first | ((repeat' (first | exact rfl | exact trivial | (with_reducible assumption) | refine And.intro ?_ ?_ | omega | assumption)); done) | fail) ?_) | (refine Ret.useQP (eqInt64S_ret (cvR xs) (cvR xs) (by omega)) (by first | ((repeat' (first | exact rfl | exact trivial | (with_reducible assumption) | refine And.intro ?_ ?_ | omega | assumption)); done) | fail) ?_) | (refine Ret.useP (eqInt64S_ret xs xs (by omega)) (by first | ((repeat' (first | exact rfl | exact trivial | (with_reducible assumption) | refine And.intro ?_ ?_ | omega | assumption)); done) | fail) ?_) | (refine Ret.useQP (eqInt64S_ret xs xs (by omega)) (by first | ((repeat' (first | exact rfl | exact trivial | (with_reducible assumption) | refine And.intro ?_ ?_ | omega | assumption)); done) | fail) ?_) | (refine CallA.go [2] (markInt64S_call xs 1 (by omega) (by omega)) rfl (by first | ((repeat' (first | exact rfl | exact trivial | (with_reducible assumption) | refine And.intro ?_ ?_ | omega | assumption)); done) | fail) (by first | ((repeat' (first | exact rfl | exact trivial | (with_reducible assumption) | refine And.intro ?_ ?_ | omega | assumption)); done) | fail) ?_) | (refine CallA.go [3] (markInt64S_call (cvR xs) 1 (by omega) (by omega)) rfl (by first | ((repeat' (first | exact rfl | exact trivial | (with_reducible assumption) | refine And.intro ?_ ?_ | omega | assumption)); done) | fail) (by first | ((repeat' (first | exact rfl | exact trivial | (with_reducible assumption) | refine And.intro ?_ ?_ | omega | assumption)); done) | fail) ?_) | (refine Ret.use (heldInt64S_ret (cvR xs).length 1 (by omega) (by omega)) (by first | ((repeat' (first | exact rfl | exact trivial | (with_reducible assumption) | refine And.intro ?_ ?_ | omega | assumption)); done) | fail) ?_) | (refine Ret.useQ (heldInt64S_ret (cvR xs).length 1 (by omega) (by omega)) (by first | ((repeat' (first | exact rfl | exact trivial | (with_reducible assumption) | refine And.intro ?_ ?_ | omega | assumption)); done) | fail) rfl ?_))
  all_goals first | rfl | omega
/-! ### A motion carried -/
def icOk (xs : List Int) (s : Int) : Prop := areV xs ∧ 1 ≤ s ∧ s ≤ 1000
instance (xs : List Int) (s : Int) : Decidable (icOk xs s) := by unfold icOk; infer_instance
def icB (xs : List Int) (s : Int) : Bool := decide (icOk xs s) && decide (car (cnt 1 xs) (cnt 0 xs) s)
def icC (xs : List Int) (s : Int) : Int := if icOk xs s then 0 else 2
abbrev icT (xs : List Int) (s : Int) : AV := .tup [Bo (icB xs s), I (icC xs s)]
theorem ic_yes {xs : List Int} {s : Int} (h : icOk xs s) : icT xs s = .tup [Bo (decide (car (cnt 1 xs) (cnt 0 xs) s)), I 0] := by simp [icT, icB, icC, h]
theorem ic_no {xs : List Int} {s : Int} (h : ¬ icOk xs s) : icT xs s = .tup [Bo false, I 2] := by simp [icT, icB, icC, h]
theorem cnt_small {xs : List Int} (v : Int) (h : areV xs) : 0 ≤ cnt v xs ∧ cnt v xs ≤ 100000 := by
  have := cnt_bd v xs
  have := h.2
  omega
set_option maxRecDepth 100000 in
theorem specIsCarried_ret (xs : List Int) (s : Int) (hn : xs.length ≤ 1048576) : Ret Try.prog G 17 [Ri xs, I s] (icT xs s) := by
  refine ret_of_body hT Try.func17 rfl ?_ rfl
  by_cases hv : allR xs 0 2 ∧ (xs.length : Int) ≤ 60
  · have ha := within_areV.1 hv
    by_cases hs : 1 ≤ s ∧ s ≤ 1000
    · rw [ic_yes ⟨ha, hs⟩]
      repeat' (first | (intro h; first | contradiction | omega | (conv => whnf) | skip) | (refine And.intro ?_ ?_) | (refine arith_ok ⟨by omega, by omega⟩ ?_) | (first | (refine draw_quiet hT mixed (by decide +kernel) ?_) | (refine draw_hard hT mixed (by decide +kernel) ?_)) | (refine Ret.goP (l01Within_ret _ _ _ _ (by omega)) rfl ?_) | (refine Ret.goQP (l01Within_ret _ _ _ _ (by omega)) rfl ?_) | (refine Ret.goP (l01In_ret _ _ _) rfl ?_) | (refine Ret.goQP (l01In_ret _ _ _) rfl ?_) | (refine CallA.go [] (specCounts_call xs ha.2 ha.1) rfl (by first | ((repeat' (first | exact rfl | exact trivial | (with_reducible assumption) | refine And.intro ?_ ?_ | omega | assumption)); done) | fail) trivial ?_) | (refine Ret.go (specCarried_ret (cnt 1 xs) (cnt 0 xs) s (cnt_small 1 ha) (cnt_small 0 ha) hs) rfl rfl ?_) | (refine Ret.goQ (specCarried_ret (cnt 1 xs) (cnt 0 xs) s (cnt_small 1 ha) (cnt_small 0 ha) hs) rfl rfl ?_))
      all_goals first | contradiction | rfl | (simp [cntL]; done)
    · rw [ic_no (fun h => hs h.2)]
      repeat' (first | (intro h; first | contradiction | omega | (conv => whnf) | skip) | (refine And.intro ?_ ?_) | (refine arith_ok ⟨by omega, by omega⟩ ?_) | (first | (refine draw_quiet hT mixed (by decide +kernel) ?_) | (refine draw_hard hT mixed (by decide +kernel) ?_)) | (refine Ret.goP (l01Within_ret _ _ _ _ (by omega)) rfl ?_) | (refine Ret.goQP (l01Within_ret _ _ _ _ (by omega)) rfl ?_) | (refine Ret.goP (l01In_ret _ _ _) rfl ?_) | (refine Ret.goQP (l01In_ret _ _ _) rfl ?_))
      all_goals first | contradiction | rfl
  · rw [ic_no (fun h => hv (within_areV.2 h.1))]
    repeat' (first | (intro h; first | contradiction | omega | (conv => whnf) | skip) | (refine And.intro ?_ ?_) | (refine arith_ok ⟨by omega, by omega⟩ ?_) | (first | (refine draw_quiet hT mixed (by decide +kernel) ?_) | (refine draw_hard hT mixed (by decide +kernel) ?_)) | (refine Ret.goP (l01Within_ret _ _ _ _ (by omega)) rfl ?_) | (refine Ret.goQP (l01Within_ret _ _ _ _ (by omega)) rfl ?_) | (refine Ret.goP (l01In_ret _ _ _) rfl ?_) | (refine Ret.goQP (l01In_ret _ _ _) rfl ?_))
    all_goals first | contradiction | rfl
set_option maxRecDepth 100000 in
theorem implIsCarried_ret (xs : List Int) (s : Int) (hn : xs.length ≤ 1048576) : Ret Try.prog G 19 [Ri xs, I s] (icT xs s) := by
  refine ret_of_body hT Try.func19 rfl ?_ rfl
  by_cases ha : areV xs
  · by_cases hs : 1 ≤ s ∧ s ≤ 1000
    · rw [ic_yes ⟨ha, hs⟩]
      repeat' (first | (intro h; first | contradiction | omega | (conv => whnf) | skip) | (refine And.intro ?_ ?_) | (refine arith_ok ⟨by omega, by omega⟩ ?_) | (first | (refine draw_quiet hT mixed (by decide +kernel) ?_) | (refine draw_hard hT mixed (by decide +kernel) ?_)) | (refine Ret.goP (areVotes_ret _ (by omega)) rfl ?_) | (refine Ret.goQP (areVotes_ret _ (by omega)) rfl ?_) | (refine Ret.goP (inRange_ret _ _ _) rfl ?_) | (refine Ret.goQP (inRange_ret _ _ _) rfl ?_) | (refine CallA.go [] (implCounts_call xs ha.2 ha.1) rfl (by first | ((repeat' (first | exact rfl | exact trivial | (with_reducible assumption) | refine And.intro ?_ ?_ | omega | assumption)); done) | fail) trivial ?_) | (refine Ret.go (implCarried_ret (cnt 1 xs) (cnt 0 xs) s (cnt_small 1 ha) (cnt_small 0 ha) hs) rfl rfl ?_) | (refine Ret.goQ (implCarried_ret (cnt 1 xs) (cnt 0 xs) s (cnt_small 1 ha) (cnt_small 0 ha) hs) rfl rfl ?_))
      all_goals first | contradiction | rfl | (simp [cntL]; done)
    · rw [ic_no (fun h => hs h.2)]
      repeat' (first | (intro h; first | contradiction | omega | (conv => whnf) | skip) | (refine And.intro ?_ ?_) | (refine arith_ok ⟨by omega, by omega⟩ ?_) | (first | (refine draw_quiet hT mixed (by decide +kernel) ?_) | (refine draw_hard hT mixed (by decide +kernel) ?_)) | (refine Ret.goP (areVotes_ret _ (by omega)) rfl ?_) | (refine Ret.goQP (areVotes_ret _ (by omega)) rfl ?_) | (refine Ret.goP (inRange_ret _ _ _) rfl ?_) | (refine Ret.goQP (inRange_ret _ _ _) rfl ?_))
      all_goals first | contradiction | rfl
  · rw [ic_no (fun h => ha h.1)]
    repeat' (first | (intro h; first | contradiction | omega | (conv => whnf) | skip) | (refine And.intro ?_ ?_) | (refine arith_ok ⟨by omega, by omega⟩ ?_) | (first | (refine draw_quiet hT mixed (by decide +kernel) ?_) | (refine draw_hard hT mixed (by decide +kernel) ?_)) | (refine Ret.goP (areVotes_ret _ (by omega)) rfl ?_) | (refine Ret.goQP (areVotes_ret _ (by omega)) rfl ?_) | (refine Ret.goP (inRange_ret _ _ _) rfl ?_) | (refine Ret.goQP (inRange_ret _ _ _) rfl ?_))
    all_goals first | contradiction | rfl
set_option maxRecDepth 100000 in
theorem lawIsCarried_ret (xs : List Int) (s : Int) : Ret Try.prog G 5 [Ri xs, I s] (Bo true) := by
  refine ret_of_body hT Try.func5 rfl ?_ rfl
  repeat' (first | (intro h; first | contradiction | omega | (conv => whnf) | skip) | (refine And.intro ?_ ?_) | (refine arith_ok ⟨by omega, by omega⟩ ?_) | (first | (refine draw_quiet hT mixed (by decide +kernel) ?_) | (refine draw_hard hT mixed (by decide +kernel) ?_)) | (refine CallA.go [] (toInt64S_call xs (by omega)) rfl (by first | ((repeat' (first | exact rfl | exact trivial | (with_reducible assumption) | refine And.intro ?_ ?_ | omega | assumption)); done) | fail) trivial ?_) | (refine Ret.use (specIsCarried_ret xs s (by omega)) (by first | ((repeat' (first | exact rfl | exact trivial | (with_reducible assumption) | refine And.intro ?_ ?_ | omega | assumption)); done) | fail) ?_) | (refine Ret.useQ (specIsCarried_ret xs s (by omega)) (by first | ((repeat' (first | exact rfl | exact trivial | (with_reducible assumption) | refine And.intro ?_ ?_ | omega | assumption)); done) | fail) rfl ?_) | (refine Ret.use (implIsCarried_ret xs s (by omega)) (by first | ((repeat' (first | exact rfl | exact trivial | (with_reducible assumption) | refine And.intro ?_ ?_ | omega | assumption)); done) | fail) ?_) | (refine Ret.useQ (implIsCarried_ret xs s (by omega)) (by first | ((repeat' (first | exact rfl | exact trivial | (with_reducible assumption) | refine And.intro ?_ ?_ | omega | assumption)); done) | fail) rfl ?_) | (refine Ret.useP (eqInt64S_ret xs xs (by omega)) (by first | ((repeat' (first | exact rfl | exact trivial | (with_reducible assumption) | refine And.intro ?_ ?_ | omega | assumption)); done) | fail) ?_) | (refine Ret.useQP (eqInt64S_ret xs xs (by omega)) (by first | ((repeat' (first | exact rfl | exact trivial | (with_reducible assumption) | refine And.intro ?_ ?_ | omega | assumption)); done) | fail) ?_))
  all_goals first | rfl | omega
end Go.Proofs.Ytcdfdigehaipmaa
