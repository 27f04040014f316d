/-
  The law on votes drawn from bytes. No conditions but those in the statements.
-/
import Derived.Test.YtcdfdigehaipmaaVd
set_option linter.unusedVariables false
set_option linter.unusedSimpArgs false
namespace Go.Proofs.Ytcdfdigehaipmaa
open Go.AE

attribute [local irreducible] CallA LoopA DrawA CallQ arithK quoK remK eqK
attribute [local irreducible] srcOk icB icC cvC cvR yesN quorum
theorem cv_code {xs : List Int} (h : cvC xs = 0) : areV xs := by
  unfold cvC at h
  split at h
  · assumption
  · omega
theorem cntL_sum (xs : List Int) (h : ∀ x ∈ xs, 0 ≤ x ∧ x ≤ 2) : cnt 0 xs + cnt 1 xs + cnt 2 xs = xs.length := by
  induction xs with
  | nil => simp [cnt]
  | cons x r ih =>
    have h1 := h x (by simp)
    have h2 := ih (fun y hy => h y (by simp [hy]))
    unfold cnt at *
    simp only [List.filter_cons, List.length_cons]
    rcases (show x = 0 ∨ x = 1 ∨ x = 2 by omega) with rfl | rfl | rfl <;> simp <;> omega
theorem cv_sum {xs : List Int} (h : cvC xs = 0) : (cvR xs).sum = xs.length := by
  have ha := cv_code h
  rw [(cv_yes ha).1, ← cntL_sum xs ha.1]
  simp [cntL]
  omega
theorem cv_take {xs : List Int} (hl : xs.length ≤ 62) : ∀ i, i ≤ (cvR xs).length → -9223372036854775808 ≤ ((cvR xs).take i).sum ∧ ((cvR xs).take i).sum ≤ 9223372036854775807 := by
  intro i hi
  by_cases ha : areV xs
  · rw [(cv_yes ha).1] at *
    have h0 := cnt_bd 0 xs
    have h1 := cnt_bd 1 xs
    have h2 := cnt_bd 2 xs
    have hi3 : i ≤ 3 := hi
    rcases (show i = 0 ∨ i = 1 ∨ i = 2 ∨ i = 3 by omega) with rfl | rfl | rfl | rfl <;> simp [cntL] <;> omega
  · rw [(cv_no ha).1]
    simp
theorem yes_rng {v s : Int} (h : (yesN v s).2 = 0) : (1 ≤ v ∧ v ≤ 100000) ∧ (1 ≤ s ∧ s ≤ 1000) := by
  unfold yesN at h
  split at h
  · assumption
  · simp at h
theorem yes_val {v s : Int} (h : (yesN v s).2 = 0) (hs : s < 1000) : (yesN v s).1 = v * s / 1000 + 1 := by
  have hr := yes_rng h
  unfold yesN
  rw [if_pos hr]
  simp only
  rw [if_neg (by omega)]
theorem quo_rng {p m q : Int} (h : (quorum p m q).2 = 0) : ((1 ≤ m ∧ m ≤ 100000) ∧ (0 ≤ p ∧ p ≤ m) ∧ (0 ≤ q ∧ q ≤ 1000)) ∧ (quorum p m q).1 = decide (m * q ≤ 1000 * p) := by
  unfold quorum at *
  split at h
  · rename_i hh
    rw [if_pos hh]
    exact ⟨hh, rfl⟩
  · simp at h
theorem ic_code {xs : List Int} {s : Int} (h : icC xs s = 0) : icOk xs s := by
  unfold icC at h
  split at h
  · assumption
  · omega
theorem ic_car {xs : List Int} {s : Int} (h : icC xs s = 0) (hb : icB xs s = true) : icOk xs s ∧ car (cnt 1 xs) (cnt 0 xs) s := by
  have ho := ic_code h
  unfold icB at hb
  rw [decide_eq_true ho, Bool.true_and] at hb
  exact ⟨ho, of_decide_eq_true hb⟩
theorem least_ok {a b s : Int} (h : car a b s) (hb : 0 ≤ b) (hl : a + b ≤ 100000) (hs : 1 ≤ s ∧ s ≤ 1000) : (yesN (a + b) s).2 = 0 ∧ (yesN (a + b) s).1 ≤ a := by
  unfold yesN
  obtain ⟨h1, h2, h3⟩ := h
  rw [if_pos ⟨⟨by omega, hl⟩, hs⟩]
  refine ⟨rfl, ?_⟩
  by_cases he : s = 1000
  · rw [if_pos he]
    have := h2 he
    simp only
    omega
  · rw [if_neg he]
    have := h3 he
    have hc := Int.mul_comm s (a + b)
    simp only
    omega
set_option maxHeartbeats 8000000 in
set_option maxRecDepth 100000 in
theorem lawVotes_ret (code : List Int) (hn : code.length ≤ 9223372036854775807) (hb : bytesOk code) : Ret Try.prog G 7 [Rb code] (Bo true) := by
  refine ret_of_body hT Try.func7 rfl ?_ rfl
  by_cases hbig : (4096 : Int) < code.length
  · repeat' (first | (intro h; first | contradiction | omega | (conv => whnf) | skip) | (refine And.intro ?_ ?_) | (refine arith_ok ⟨by omega, by omega⟩ ?_) | (first | (refine draw_quiet hT mixed (by decide +kernel) ?_) | (refine draw_hard hT mixed (by decide +kernel) ?_)) | (refine Ret.goP (big_ret code) rfl ?_) | (refine Ret.goQP (big_ret code) rfl ?_))
    all_goals first | rfl | omega | trace_state
  · replace hn : code.length ≤ 2305843009213693952 := by omega
    repeat' (first | (intro h; first | contradiction | omega | (conv => whnf) | skip) | (refine And.intro ?_ ?_) | (refine arith_ok ⟨by omega, by omega⟩ ?_) | (first | (refine draw_quiet hT mixed (by decide +kernel) ?_) | (refine draw_hard hT mixed (by decide +kernel) ?_)) | (refine Ret.goP (big_ret code) rfl ?_) | (refine Ret.goQP (big_ret code) rfl ?_) | (refine CallA.goE3 false [] (drawCarried_call code hn hb) rfl (by first | ((repeat' (first | exact rfl | exact trivial | (with_reducible assumption) | refine And.intro ?_ ?_ | omega | assumption)); done) | fail) (by first | ((repeat' (first | exact rfl | exact trivial | (with_reducible assumption) | refine And.intro ?_ ?_ | omega | assumption)); done) | fail) ?_; rintro xs y s2 ⟨hl, _⟩; (first | (conv => whnf) | skip)) | (refine Ret.use (implIsCarried_ret xs y (by omega)) (by first | ((repeat' (first | exact rfl | exact trivial | (with_reducible assumption) | refine And.intro ?_ ?_ | omega | assumption)); done) | fail) ?_) | (refine Ret.useQ (implIsCarried_ret xs y (by omega)) (by first | ((repeat' (first | exact rfl | exact trivial | (with_reducible assumption) | refine And.intro ?_ ?_ | omega | assumption)); done) | fail) rfl ?_) | (refine Ret.use (specIsCarried_ret xs y (by omega)) (by first | ((repeat' (first | exact rfl | exact trivial | (with_reducible assumption) | refine And.intro ?_ ?_ | omega | assumption)); done) | fail) ?_) | (refine Ret.useQ (specIsCarried_ret xs y (by omega)) (by first | ((repeat' (first | exact rfl | exact trivial | (with_reducible assumption) | refine And.intro ?_ ?_ | omega | assumption)); done) | fail) rfl ?_) | (refine CallA.goE3 false [] (drawCount_call code hn hb) rfl (by first | ((repeat' (first | exact rfl | exact trivial | (with_reducible assumption) | refine And.intro ?_ ?_ | omega | assumption)); done) | fail) (by first | ((repeat' (first | exact rfl | exact trivial | (with_reducible assumption) | refine And.intro ?_ ?_ | omega | assumption)); done) | fail) ?_; rintro cs a2 s2 hc; (first | (conv => whnf) | skip)) | (refine CallA.go [] (implCountVotes_call cs (by omega)) rfl (by first | ((repeat' (first | exact rfl | exact trivial | (with_reducible assumption) | refine And.intro ?_ ?_ | omega | assumption)); done) | fail) trivial ?_) | (refine CallA.go [] (specCountVotes_call cs (by omega)) rfl (by first | ((repeat' (first | exact rfl | exact trivial | (with_reducible assumption) | refine And.intro ?_ ?_ | omega | assumption)); done) | fail) trivial ?_) | (refine CallA.goE3 false [] (drawYes_call code hn hb) rfl (by first | ((repeat' (first | exact rfl | exact trivial | (with_reducible assumption) | refine And.intro ?_ ?_ | omega | assumption)); done) | fail) (by first | ((repeat' (first | exact rfl | exact trivial | (with_reducible assumption) | refine And.intro ?_ ?_ | omega | assumption)); done) | fail) ?_; rintro v s q hq; (first | (conv => whnf) | skip)) | (refine Ret.go (implYesNeeded_ret _ _) rfl rfl ?_) | (refine Ret.goQ (implYesNeeded_ret _ _) rfl rfl ?_) | (refine Ret.go (specYesNeeded_ret _ _) rfl rfl ?_) | (refine Ret.goQ (specYesNeeded_ret _ _) rfl rfl ?_) | (refine CallA.goE3 false [] (drawQuorum_call code hn hb) rfl (by first | ((repeat' (first | exact rfl | exact trivial | (with_reducible assumption) | refine And.intro ?_ ?_ | omega | assumption)); done) | fail) (by first | ((repeat' (first | exact rfl | exact trivial | (with_reducible assumption) | refine And.intro ?_ ?_ | omega | assumption)); done) | fail) ?_; rintro p m q ht; (first | (conv => whnf) | skip)) | (refine Ret.go (implHasQuorum_ret _ _ _) rfl rfl ?_) | (refine Ret.goQ (implHasQuorum_ret _ _ _) rfl rfl ?_) | (refine Ret.go (specHasQuorum_ret _ _ _) rfl rfl ?_) | (refine Ret.goQ (specHasQuorum_ret _ _ _) rfl rfl ?_) | (refine Ret.useP (likeInts_ret (cvR cs) (cvR cs) (Nat.le_trans (cvR_len cs) (by decide))) (by first | ((repeat' (first | exact rfl | exact trivial | (with_reducible assumption) | refine And.intro ?_ ?_ | omega | assumption)); done) | fail) ?_) | (refine Ret.useQP (likeInts_ret (cvR cs) (cvR cs) (Nat.le_trans (cvR_len cs) (by decide))) (by first | ((repeat' (first | exact rfl | exact trivial | (with_reducible assumption) | refine And.intro ?_ ?_ | omega | assumption)); done) | fail) ?_) | (refine Ret.use (sum_ret (cvR cs) (Nat.le_trans (cvR_len cs) (by decide)) (cv_take hc)) (by first | ((repeat' (first | exact rfl | exact trivial | (with_reducible assumption) | refine And.intro ?_ ?_ | omega | assumption)); done) | fail) ?_) | (refine Ret.useQ (sum_ret (cvR cs) (Nat.le_trans (cvR_len cs) (by decide)) (cv_take hc)) (by first | ((repeat' (first | exact rfl | exact trivial | (with_reducible assumption) | refine And.intro ?_ ?_ | omega | assumption)); done) | fail) rfl ?_))
    all_goals first | rfl | omega | exact absurd (cv_sum (by assumption)) (by assumption) | skip
    all_goals (try (have hr := yes_rng (by assumption); have hyb := yes_bounds hr.1 hr.2; have hyv := yes_val (v := v) (s := s) (by assumption); have hmc := Int.mul_comm s v))
    all_goals first | omega | skip
    repeat' (first | (intro h; first | contradiction | omega | (conv => whnf) | skip) | (refine And.intro ?_ ?_) | (refine arith_ok ⟨by omega, by omega⟩ ?_) | (first | (refine draw_quiet hT mixed (by decide +kernel) ?_) | (refine draw_hard hT mixed (by decide +kernel) ?_)) | (refine CallA.go [] (implCountVotes_call xs (by omega)) rfl (by first | ((repeat' (first | exact rfl | exact trivial | (with_reducible assumption) | refine And.intro ?_ ?_ | omega | assumption)); done) | fail) trivial ?_) | (refine Ret.go (implYesNeeded_ret _ _) rfl rfl ?_) | (refine Ret.goQ (implYesNeeded_ret _ _) rfl rfl ?_))
    all_goals first | rfl | omega | skip
    all_goals (try (have hqr := quo_rng (p := p) (m := m) (q := q) (by assumption); have hqb := mul_in (a := m) (b := q) (A := 100000) (B := 1000) (by omega) (by omega) (by omega) (by omega)))
    repeat' (first | (intro h; first | contradiction | omega | (conv => whnf) | skip) | (refine And.intro ?_ ?_) | (refine arith_ok ⟨by omega, by omega⟩ ?_) | (first | (refine draw_quiet hT mixed (by decide +kernel) ?_) | (refine draw_hard hT mixed (by decide +kernel) ?_)) | fail)
    all_goals first | rfl | omega | exact absurd (hqr.2.trans (decide_eq_true (by assumption))) h | exact absurd (hqr.2.trans (decide_eq_false (by assumption))) h | skip
    all_goals (rcases hok : icB xs y)
    all_goals (try ((conv => whnf); rw [hok]))
    repeat' (first | (intro h; first | contradiction | omega | (conv => whnf) | skip) | (refine And.intro ?_ ?_) | (refine arith_ok ⟨by omega, by omega⟩ ?_) | (first | (refine draw_quiet hT mixed (by decide +kernel) ?_) | (refine draw_hard hT mixed (by decide +kernel) ?_)) | (refine CallA.go [] (implCountVotes_call xs (by omega)) rfl (by first | ((repeat' (first | exact rfl | exact trivial | (with_reducible assumption) | refine And.intro ?_ ?_ | omega | assumption)); done) | fail) trivial ?_))
    all_goals first | rfl | omega | skip
    all_goals
      have hic := ic_car (Decidable.of_not_not ‹¬ icC xs y ≠ 0›) hok
      have hcv := cv_yes hic.1.1
    all_goals first | exact absurd hcv.2 h | exact absurd (show ((cvR xs).length : Int) = 3 by rw [hcv.1]; rfl) h | skip
    all_goals
      have hb1 := cnt_bd 1 xs
      have hb0 := cnt_bd 0 xs
      have hs3 := cntL_sum xs hic.1.1.1
      have hb2 := cnt_bd 2 xs
      have hlo := least_ok hic.2 hb0.1 (by omega) hic.1.2
      rw [hcv.1]
      have hg1 : (cntL xs).getD (Int.toNat 1) 0 = cnt 1 xs := rfl
      have hg0 : (cntL xs).getD (Int.toNat 0) 0 = cnt 0 xs := rfl
      have hl3 : (cntL xs).length = 3 := rfl
    repeat' (first | (intro h; first | contradiction | omega | (conv => whnf) | skip) | (refine And.intro ?_ ?_) | (refine arith_ok ⟨by omega, by omega⟩ ?_) | (first | (refine draw_quiet hT mixed (by decide +kernel) ?_) | (refine draw_hard hT mixed (by decide +kernel) ?_)) | (refine Ret.go (implYesNeeded_ret _ _) rfl rfl ?_) | (refine Ret.goQ (implYesNeeded_ret _ _) rfl rfl ?_))
    all_goals first | rfl | omega | exact absurd hlo.1 h | exact absurd hlo.2 h | trace_state
end Go.Proofs.Ytcdfdigehaipmaa
