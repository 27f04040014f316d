/-
  All cases in order; how many are gaps: what the reference's functions return. No conditions but those in the statements.
-/
import Derived.Test.YtnfddmbnkbigmaaFa
set_option linter.unusedVariables false
set_option linter.unusedSimpArgs false
namespace Go.Proofs.Ytnfddmbnkbigmaa
open Go.AE

attribute [local irreducible] CallA LoopA DrawA CallQ arithK quoK remK eqK
/-- The case with a number. -/
def cA (n : Int) : Int := n / 100 % 151
def cY (n : Int) : Int := n % 100
def cK (n : Int) : Int := n / 15100
theorem cA_at {k a y : Int} (ha : 0 ≤ a ∧ a < 151) (hy : 0 ≤ y ∧ y < 100) : cA (k * 15100 + a * 100 + y) = a := by unfold cA; omega
theorem cY_at {k a y : Int} (hy : 0 ≤ y ∧ y < 100) : cY (k * 15100 + a * 100 + y) = y := by unfold cY; omega
theorem cK_at {k a y : Int} (ha : 0 ≤ a ∧ a < 151) (hy : 0 ≤ y ∧ y < 100) : cK (k * 15100 + a * 100 + y) = k := by unfold cK; omega
theorem cK_in {n : Int} (h : 0 ≤ n ∧ n < 60400) : 0 ≤ cK n ∧ cK n ≤ 3 := by unfold cK; omega
/-- The place of the rule that decides the case with a number. -/
def fstN (xss : List (List Int)) (n : Int) : Int := fst xss (cA n) (cY n) (cK n)
theorem fstN_at (xss : List (List Int)) {k a y : Int} (ha : 0 ≤ a ∧ a < 151) (hy : 0 ≤ y ∧ y < 100) : fst xss a y k = fstN xss (k * 15100 + a * 100 + y) := by
  unfold fstN
  rw [cA_at ha hy, cY_at hy, cK_at ha hy]
theorem fstN_in (xss : List (List Int)) (n : Int) : fstN xss n = -1 ∨ (0 ≤ fstN xss n ∧ fstN xss n < xss.length) := fst_in _ _ _ _
set_option maxRecDepth 100000 in
theorem l23Case_ret (n : Int) (h : 0 ≤ n ∧ n < 60400) : Ret Try.prog G 35 [I n] (VCase (cA n) (cY n) (cK n)) := by
  refine ret_of_body hT Try.func35 rfl ?_ rfl
  repeat' (first | (intro h; first | contradiction | omega | (conv => whnf) | skip) | (refine And.intro ?_ ?_) | (refine arith_ok ⟨by omega, by omega⟩ ?_) | (first | (refine draw_quiet hT mixed (by decide +kernel) ?_) | (refine draw_hard hT mixed (by decide +kernel) ?_)) | (refine quo_ok ⟨by omega, by omega⟩ (by omega) (by omega) ?_) | (refine rem_ok (by omega) (by omega) ?_))
  all_goals first | rfl | omega | trace_state
set_option maxRecDepth 100000 in
theorem l23All_ret : Ret Try.prog G 33 [] (I 60400) := by
  refine ret_of_body hT Try.func33 rfl ?_ rfl
  repeat' (first | (intro h; first | contradiction | omega | (conv => whnf) | skip) | (refine And.intro ?_ ?_) | (refine arith_ok ⟨by omega, by omega⟩ ?_) | (first | (refine draw_quiet hT mixed (by decide +kernel) ?_) | (refine draw_hard hT mixed (by decide +kernel) ?_)) | fail)
  all_goals rfl
/-- How many numbers up to n there are of which q holds. -/
def cnt (q : Int → Bool) (n : Int) : Int := ((idxs (fun j : Nat => q (j : Int)) n.toNat).length : Int)
theorem cnt_zero (q : Int → Bool) : cnt q 0 = 0 := rfl
theorem cnt_in (q : Int → Bool) {n : Int} (h : 0 ≤ n) : 0 ≤ cnt q n ∧ cnt q n ≤ n := by
  have := idxs_len (fun j : Nat => q (j : Int)) n.toNat
  unfold cnt; omega
theorem cnt_yes {q : Int → Bool} {n : Int} (h0 : 0 ≤ n) (h : q n = true) : cnt q (n + 1) = cnt q n + 1 := by
  obtain ⟨m, rfl⟩ := Int.eq_ofNat_of_zero_le h0
  have : ((m : Int) + 1).toNat = m + 1 := by omega
  unfold cnt
  rw [this, idxs_yes (q := fun j : Nat => q (j : Int)) h]
  simp
theorem cnt_no {q : Int → Bool} {n : Int} (h0 : 0 ≤ n) (h : q n = false) : cnt q (n + 1) = cnt q n := by
  obtain ⟨m, rfl⟩ := Int.eq_ofNat_of_zero_le h0
  have : ((m : Int) + 1).toNat = m + 1 := by omega
  unfold cnt
  rw [this, idxs_no (q := fun j : Nat => q (j : Int)) h]
  simp
/-! ### Gaps -/
def gapQ (xss : List (List Int)) (n : Int) : Bool := decide (fstN xss n < 0)
def cgR (xss : List (List Int)) : Int := if areRl xss then cnt (gapQ xss) 60400 else 0
def codeR (xss : List (List Int)) : Int := if areRl xss then 0 else 1
theorem cg_yes {xss : List (List Int)} (h : areRl xss) : cgR xss = cnt (gapQ xss) 60400 ∧ codeR xss = 0 := by simp [cgR, codeR, h]
theorem cg_no {xss : List (List Int)} (h : ¬ areRl xss) : cgR xss = 0 ∧ codeR xss = 1 := by simp [cgR, codeR, h]
set_option maxRecDepth 100000 in
theorem specGaps_ret (xss : List (List Int)) (hn : xss.length ≤ 1048576) : Ret Try.prog G 9 [RRule xss] (.tup [I (cgR xss), I (codeR xss)]) := by
  refine ret_of_body hT Try.func9 rfl ?_ rfl
  by_cases ha : areRl xss
  · obtain ⟨h1, h2⟩ := cg_yes ha
    rw [h1, h2]
    repeat' (first | (intro h; first | contradiction | omega | (conv => whnf) | skip) | (refine And.intro ?_ ?_) | (refine arith_ok ⟨by omega, by omega⟩ ?_) | (first | (refine draw_quiet hT mixed (by decide +kernel) ?_) | (refine draw_hard hT mixed (by decide +kernel) ?_)) | (refine Ret.goP (specAre_ret xss (by omega)) rfl ?_) | (refine Ret.goQP (specAre_ret xss (by omega)) rfl ?_))
    all_goals first | rfl | omega | skip
    refine loop_rule hT (fun n : Int => 0 ≤ n ∧ n ≤ 60400) 22 0 [0, 4, 5] (fun n => [RRule xss, I (cnt (gapQ xss) n), I n]) (fun _ => []) (fun n => (60400 - n).toNat) (0) (Nat.le_of_ble_eq_true rfl) ?_ ?_ ?_
    · exact ⟨by decide, by decide⟩
    · (first | (refine ⟨rfl, [], ?_, ?_⟩; all_goals (repeat' (first | exact rfl | exact trivial | (with_reducible assumption) | refine And.intro ?_ ?_)); all_goals (first | omega | assumption); done) | (refine ⟨rfl, [some 1], ?_, ?_⟩; all_goals (repeat' (first | exact rfl | exact trivial | (with_reducible assumption) | refine And.intro ?_ ?_)); all_goals (first | omega | assumption); done) | (refine ⟨rfl, [some 2], ?_, ?_⟩; all_goals (repeat' (first | exact rfl | exact trivial | (with_reducible assumption) | refine And.intro ?_ ?_)); all_goals (first | omega | assumption); done) | (refine ⟨rfl, [some 3], ?_, ?_⟩; all_goals (repeat' (first | exact rfl | exact trivial | (with_reducible assumption) | refine And.intro ?_ ?_)); all_goals (first | omega | assumption); done) | (refine ⟨rfl, [some 0], ?_, ?_⟩; all_goals (repeat' (first | exact rfl | exact trivial | (with_reducible assumption) | refine And.intro ?_ ?_)); all_goals (first | omega | assumption); done) | (refine ⟨rfl, [some 4], ?_, ?_⟩; all_goals (repeat' (first | exact rfl | exact trivial | (with_reducible assumption) | refine And.intro ?_ ?_)); all_goals (first | omega | assumption); done) | (refine ⟨rfl, [some 5], ?_, ?_⟩; all_goals (repeat' (first | exact rfl | exact trivial | (with_reducible assumption) | refine And.intro ?_ ?_)); all_goals (first | omega | assumption); done) | (refine ⟨rfl, [some 6], ?_, ?_⟩; all_goals (repeat' (first | exact rfl | exact trivial | (with_reducible assumption) | refine And.intro ?_ ?_)); all_goals (first | omega | assumption); done))
    · rintro n ⟨h3, h4⟩
      have hc := cnt_in (gapQ xss) h3
      by_cases hn2 : n < 60400
      · repeat' (first | (intro h; first | contradiction | omega | (conv => whnf) | skip) | (refine And.intro ?_ ?_) | (refine arith_ok ⟨by omega, by omega⟩ ?_) | (first | (refine draw_quiet hT mixed (by decide +kernel) ?_) | (refine draw_hard hT mixed (by decide +kernel) ?_)) | (refine Ret.go (l23All_ret) rfl rfl ?_) | (refine Ret.goQ (l23All_ret) rfl rfl ?_) | (refine Ret.go (l23Case_ret n ⟨h3, hn2⟩) rfl rfl ?_) | (refine Ret.goQ (l23Case_ret n ⟨h3, hn2⟩) rfl rfl ?_) | (refine Ret.go (l23First_ret xss _ _ _ ha (cK_in ⟨h3, hn2⟩)) rfl rfl ?_) | (refine Ret.goQ (l23First_ret xss _ _ _ ha (cK_in ⟨h3, hn2⟩)) rfl rfl ?_))
        all_goals first | omega | skip
        all_goals first
          | (have hst := cnt_yes (q := gapQ xss) (n := n) h3 (decide_eq_true h); refine ⟨n + 1, ⟨by omega, by omega⟩, ?_, by omega⟩; (first | (refine ⟨rfl, [], ?_, ?_⟩; all_goals (repeat' (first | exact rfl | exact trivial | (with_reducible assumption) | refine And.intro ?_ ?_)); all_goals (first | omega | assumption | ((repeat' (first | exact hst.symm | exact rfl | exact trivial | (with_reducible assumption) | refine And.intro ?_ ?_ | omega | assumption)); done)); done) | (refine ⟨rfl, [some 1], ?_, ?_⟩; all_goals (repeat' (first | exact rfl | exact trivial | (with_reducible assumption) | refine And.intro ?_ ?_)); all_goals (first | omega | assumption | ((repeat' (first | exact hst.symm | exact rfl | exact trivial | (with_reducible assumption) | refine And.intro ?_ ?_ | omega | assumption)); done)); done) | (refine ⟨rfl, [some 2], ?_, ?_⟩; all_goals (repeat' (first | exact rfl | exact trivial | (with_reducible assumption) | refine And.intro ?_ ?_)); all_goals (first | omega | assumption | ((repeat' (first | exact hst.symm | exact rfl | exact trivial | (with_reducible assumption) | refine And.intro ?_ ?_ | omega | assumption)); done)); done) | (refine ⟨rfl, [some 3], ?_, ?_⟩; all_goals (repeat' (first | exact rfl | exact trivial | (with_reducible assumption) | refine And.intro ?_ ?_)); all_goals (first | omega | assumption | ((repeat' (first | exact hst.symm | exact rfl | exact trivial | (with_reducible assumption) | refine And.intro ?_ ?_ | omega | assumption)); done)); done) | (refine ⟨rfl, [some 0], ?_, ?_⟩; all_goals (repeat' (first | exact rfl | exact trivial | (with_reducible assumption) | refine And.intro ?_ ?_)); all_goals (first | omega | assumption | ((repeat' (first | exact hst.symm | exact rfl | exact trivial | (with_reducible assumption) | refine And.intro ?_ ?_ | omega | assumption)); done)); done) | (refine ⟨rfl, [some 4], ?_, ?_⟩; all_goals (repeat' (first | exact rfl | exact trivial | (with_reducible assumption) | refine And.intro ?_ ?_)); all_goals (first | omega | assumption | ((repeat' (first | exact hst.symm | exact rfl | exact trivial | (with_reducible assumption) | refine And.intro ?_ ?_ | omega | assumption)); done)); done) | (refine ⟨rfl, [some 5], ?_, ?_⟩; all_goals (repeat' (first | exact rfl | exact trivial | (with_reducible assumption) | refine And.intro ?_ ?_)); all_goals (first | omega | assumption | ((repeat' (first | exact hst.symm | exact rfl | exact trivial | (with_reducible assumption) | refine And.intro ?_ ?_ | omega | assumption)); done)); done) | (refine ⟨rfl, [some 6], ?_, ?_⟩; all_goals (repeat' (first | exact rfl | exact trivial | (with_reducible assumption) | refine And.intro ?_ ?_)); all_goals (first | omega | assumption | ((repeat' (first | exact hst.symm | exact rfl | exact trivial | (with_reducible assumption) | refine And.intro ?_ ?_ | omega | assumption)); done)); done)))
          | (have hst := cnt_no (q := gapQ xss) (n := n) h3 (decide_eq_false h); refine ⟨n + 1, ⟨by omega, by omega⟩, ?_, by omega⟩; (first | (refine ⟨rfl, [], ?_, ?_⟩; all_goals (repeat' (first | exact rfl | exact trivial | (with_reducible assumption) | refine And.intro ?_ ?_)); all_goals (first | omega | assumption | ((repeat' (first | exact hst.symm | exact rfl | exact trivial | (with_reducible assumption) | refine And.intro ?_ ?_ | omega | assumption)); done)); done) | (refine ⟨rfl, [some 1], ?_, ?_⟩; all_goals (repeat' (first | exact rfl | exact trivial | (with_reducible assumption) | refine And.intro ?_ ?_)); all_goals (first | omega | assumption | ((repeat' (first | exact hst.symm | exact rfl | exact trivial | (with_reducible assumption) | refine And.intro ?_ ?_ | omega | assumption)); done)); done) | (refine ⟨rfl, [some 2], ?_, ?_⟩; all_goals (repeat' (first | exact rfl | exact trivial | (with_reducible assumption) | refine And.intro ?_ ?_)); all_goals (first | omega | assumption | ((repeat' (first | exact hst.symm | exact rfl | exact trivial | (with_reducible assumption) | refine And.intro ?_ ?_ | omega | assumption)); done)); done) | (refine ⟨rfl, [some 3], ?_, ?_⟩; all_goals (repeat' (first | exact rfl | exact trivial | (with_reducible assumption) | refine And.intro ?_ ?_)); all_goals (first | omega | assumption | ((repeat' (first | exact hst.symm | exact rfl | exact trivial | (with_reducible assumption) | refine And.intro ?_ ?_ | omega | assumption)); done)); done) | (refine ⟨rfl, [some 0], ?_, ?_⟩; all_goals (repeat' (first | exact rfl | exact trivial | (with_reducible assumption) | refine And.intro ?_ ?_)); all_goals (first | omega | assumption | ((repeat' (first | exact hst.symm | exact rfl | exact trivial | (with_reducible assumption) | refine And.intro ?_ ?_ | omega | assumption)); done)); done) | (refine ⟨rfl, [some 4], ?_, ?_⟩; all_goals (repeat' (first | exact rfl | exact trivial | (with_reducible assumption) | refine And.intro ?_ ?_)); all_goals (first | omega | assumption | ((repeat' (first | exact hst.symm | exact rfl | exact trivial | (with_reducible assumption) | refine And.intro ?_ ?_ | omega | assumption)); done)); done) | (refine ⟨rfl, [some 5], ?_, ?_⟩; all_goals (repeat' (first | exact rfl | exact trivial | (with_reducible assumption) | refine And.intro ?_ ?_)); all_goals (first | omega | assumption | ((repeat' (first | exact hst.symm | exact rfl | exact trivial | (with_reducible assumption) | refine And.intro ?_ ?_ | omega | assumption)); done)); done) | (refine ⟨rfl, [some 6], ?_, ?_⟩; all_goals (repeat' (first | exact rfl | exact trivial | (with_reducible assumption) | refine And.intro ?_ ?_)); all_goals (first | omega | assumption | ((repeat' (first | exact hst.symm | exact rfl | exact trivial | (with_reducible assumption) | refine And.intro ?_ ?_ | omega | assumption)); done)); done)))
          | trace_state
      · have he : n = 60400 := by omega
        repeat' (first | (intro h; first | contradiction | omega | (conv => whnf) | skip) | (refine And.intro ?_ ?_) | (refine arith_ok ⟨by omega, by omega⟩ ?_) | (first | (refine draw_quiet hT mixed (by decide +kernel) ?_) | (refine draw_hard hT mixed (by decide +kernel) ?_)) | (refine Ret.go (l23All_ret) rfl rfl ?_) | (refine Ret.goQ (l23All_ret) rfl rfl ?_))
        all_goals first | omega | (rw [he]; done) | trace_state
  · obtain ⟨h1, h2⟩ := cg_no ha
    rw [h1, h2]
    repeat' (first | (intro h; first | contradiction | omega | (conv => whnf) | skip) | (refine And.intro ?_ ?_) | (refine arith_ok ⟨by omega, by omega⟩ ?_) | (first | (refine draw_quiet hT mixed (by decide +kernel) ?_) | (refine draw_hard hT mixed (by decide +kernel) ?_)) | (refine Ret.goP (specAre_ret xss (by omega)) rfl ?_) | (refine Ret.goQP (specAre_ret xss (by omega)) rfl ?_))
    all_goals first | rfl | omega | trace_state
end Go.Proofs.Ytnfddmbnkbigmaa
