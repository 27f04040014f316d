/-
  Lists of lists of integers: copies, sizes, equality. No conditions but those in the statements.
-/
import Derived.Test.YtcdfdigehaipmaaIn
set_option linter.unusedVariables false
set_option linter.unusedSimpArgs false
namespace Go.Proofs.Ytcdfdigehaipmaa
open Go.AE

attribute [local irreducible] CallA LoopA DrawA CallQ arithK quoK remK eqK
theorem goF {P : Program} {G : Nat → Option D} {f : FuncId} {args dargs : List AV} {H H0 J0 : List Blk} {r : AV} {K : AV → List Blk → Prop} (ids : List Nat) (h : CallA P G f dargs H0 fun v J => v = r ∧ J = J0) (hi : idsOk H.length ids = true)
    (ha : vmL (amV false ids H) args dargs) (hh : heapA false ids H ids H0) (hk : lenB H 0 fun n => mergeK ids (shB false ids n) J0 H fun H' => deepK (shV false ids n r) fun v => K v H') : CallA P G f args H K :=
  h.use false ids hi ha hh fun v J ⟨h1, h2⟩ => by
    subst h1 h2
    rw [lenB_eq, mergeK_eq, deepK_eq, Nat.zero_add] at hk
    exact hk
abbrev Rn (xss : List (List Int)) : AV := .ro (.nest xss)
abbrev Dn (xss : List (List Int)) : Blk := .data (.nest xss)
theorem toInt64S_ro (xs : List Int) (hn : xs.length ≤ 1048576) : CallA Try.prog G 18 [Ri xs] [] (fun v J => v = Ri xs ∧ J = []) :=
  CallA.frozen ((toInt64S_call xs hn).mono fun v J ⟨h1, h2⟩ => by subst h1 h2; exact ⟨Ri xs, ⟨rfl, rfl, rfl, rfl, rfl⟩, rfl, rfl⟩)
set_option maxRecDepth 100000 in
theorem toInt64SS_call (xss : List (List Int)) (hn : xss.length ≤ 1048576) (hr : ∀ r ∈ xss, r.length ≤ 1048576) : CallA Try.prog G 34 [Rn xss] [] (fun v J => v = Rn xss ∧ J = []) := by
  refine CallA.frozen (callA_of_body hT Try.func34 rfl ?_)
  repeat' (first | (intro h; first | contradiction | omega | (conv => whnf) | skip) | (refine And.intro ?_ ?_) | (refine arith_ok ⟨by omega, by omega⟩ ?_) | (first | (refine draw_quiet hT mixed (by decide +kernel) ?_) | (refine draw_hard hT mixed (by decide +kernel) ?_)) | fail)
  · rfl
  · omega
  · omega
  refine loop_rule hT (fun p : Nat × List (List Int) => p.1 ≤ xss.length ∧ p.2.length = xss.length ∧ p.2.take p.1 = xss.take p.1) 23 1 [0, 3, 4] (fun p => [Rn xss, .sl 0 1 xss.length, I p.1]) (fun p => [Dn p.2]) (fun p => xss.length - p.1) ((0, List.replicate xss.length [])) (Nat.le_of_ble_eq_true rfl) ?_ ?_ ?_
  · exact ⟨Nat.zero_le _, by simp, rfl⟩
  · (first | (refine ⟨rfl, [], ?_, ?_⟩; all_goals (repeat' (first | exact rfl | exact trivial | (with_reducible assumption) | refine And.intro ?_ ?_)); all_goals (first | omega | assumption); done) | (refine ⟨rfl, [some 1], ?_, ?_⟩; all_goals (repeat' (first | exact rfl | exact trivial | (with_reducible assumption) | refine And.intro ?_ ?_)); all_goals (first | omega | assumption); done) | (refine ⟨rfl, [some 2], ?_, ?_⟩; all_goals (repeat' (first | exact rfl | exact trivial | (with_reducible assumption) | refine And.intro ?_ ?_)); all_goals (first | omega | assumption); done) | (refine ⟨rfl, [some 3], ?_, ?_⟩; all_goals (repeat' (first | exact rfl | exact trivial | (with_reducible assumption) | refine And.intro ?_ ?_)); all_goals (first | omega | assumption); done) | (refine ⟨rfl, [some 0], ?_, ?_⟩; all_goals (repeat' (first | exact rfl | exact trivial | (with_reducible assumption) | refine And.intro ?_ ?_)); all_goals (first | omega | assumption); done) | (refine ⟨rfl, [some 4], ?_, ?_⟩; all_goals (repeat' (first | exact rfl | exact trivial | (with_reducible assumption) | refine And.intro ?_ ?_)); all_goals (first | omega | assumption); done) | (refine ⟨rfl, [some 5], ?_, ?_⟩; all_goals (repeat' (first | exact rfl | exact trivial | (with_reducible assumption) | refine And.intro ?_ ?_)); all_goals (first | omega | assumption); done) | (refine ⟨rfl, [some 6], ?_, ?_⟩; all_goals (repeat' (first | exact rfl | exact trivial | (with_reducible assumption) | refine And.intro ?_ ?_)); all_goals (first | omega | assumption); done))
  · rintro ⟨i, yss⟩ ⟨h1, h2, h3⟩
    dsimp only at h1 h2 h3 ⊢
    by_cases hi : i < xss.length
    · have hl : (xss.getD ((i : Int)).toNat []).length ≤ 1048576 := hr _ (getD_mem hi)
      repeat' (first | (intro h; first | contradiction | omega | (conv => whnf) | skip) | (refine And.intro ?_ ?_) | (refine arith_ok ⟨by omega, by omega⟩ ?_) | (first | (refine draw_quiet hT mixed (by decide +kernel) ?_) | (refine draw_hard hT mixed (by decide +kernel) ?_)) | (refine goF [] (toInt64S_ro (xss.getD ((i : Int)).toNat []) hl) rfl (by first | ((repeat' (first | exact rfl | exact trivial | (with_reducible assumption) | refine And.intro ?_ ?_ | omega | assumption)); done) | fail) trivial ?_))
      all_goals first | omega | skip
      all_goals first
        | (refine ⟨(i + 1, yss.set i (xss.getD i [])), ⟨by dsimp only; omega, by simpa using h2, set_snoc [] h3 (by omega) h2⟩, ?_, by dsimp only; omega⟩; (first | (refine ⟨rfl, [], ?_, ?_⟩; all_goals (repeat' (first | exact rfl | exact trivial | (with_reducible assumption) | refine And.intro ?_ ?_)); all_goals (first | omega | assumption); done) | (refine ⟨rfl, [some 1], ?_, ?_⟩; all_goals (repeat' (first | exact rfl | exact trivial | (with_reducible assumption) | refine And.intro ?_ ?_)); all_goals (first | omega | assumption); done) | (refine ⟨rfl, [some 2], ?_, ?_⟩; all_goals (repeat' (first | exact rfl | exact trivial | (with_reducible assumption) | refine And.intro ?_ ?_)); all_goals (first | omega | assumption); done) | (refine ⟨rfl, [some 3], ?_, ?_⟩; all_goals (repeat' (first | exact rfl | exact trivial | (with_reducible assumption) | refine And.intro ?_ ?_)); all_goals (first | omega | assumption); done) | (refine ⟨rfl, [some 0], ?_, ?_⟩; all_goals (repeat' (first | exact rfl | exact trivial | (with_reducible assumption) | refine And.intro ?_ ?_)); all_goals (first | omega | assumption); done) | (refine ⟨rfl, [some 4], ?_, ?_⟩; all_goals (repeat' (first | exact rfl | exact trivial | (with_reducible assumption) | refine And.intro ?_ ?_)); all_goals (first | omega | assumption); done) | (refine ⟨rfl, [some 5], ?_, ?_⟩; all_goals (repeat' (first | exact rfl | exact trivial | (with_reducible assumption) | refine And.intro ?_ ?_)); all_goals (first | omega | assumption); done) | (refine ⟨rfl, [some 6], ?_, ?_⟩; all_goals (repeat' (first | exact rfl | exact trivial | (with_reducible assumption) | refine And.intro ?_ ?_)); all_goals (first | omega | assumption); done)))
        | trace_state
    · obtain rfl : yss = xss := by rwa [take_all (by omega), take_all (by omega)] at h3
      repeat' (first | (intro h; first | contradiction | omega | (conv => whnf) | skip) | (refine And.intro ?_ ?_) | (refine arith_ok ⟨by omega, by omega⟩ ?_) | (first | (refine draw_quiet hT mixed (by decide +kernel) ?_) | (refine draw_hard hT mixed (by decide +kernel) ?_)) | fail)
      all_goals first | omega | skip
      all_goals (refine ⟨Rn yss, ⟨rfl, rfl, rfl, rfl, rfl⟩, rfl, rfl⟩)
set_option maxRecDepth 100000 in
theorem szInt64S_ret (xs : List Int) (l : Int) (hn : xs.length ≤ 9223372036854775807) (hl : -1 ≤ l ∧ l ≤ 1048576) : Ret Try.prog G 59 [Ri xs, I l] (I (if (xs.length : Int) ≤ l then l - xs.length else -1)) := by
  refine ret_of_body hT Try.func59 rfl ?_ rfl
  repeat' (first | (intro h; first | contradiction | omega | (conv => whnf) | skip) | (refine And.intro ?_ ?_) | (refine arith_ok ⟨by omega, by omega⟩ ?_) | (first | (refine draw_quiet hT mixed (by decide +kernel) ?_) | (refine draw_hard hT mixed (by decide +kernel) ?_)) | fail)
  all_goals (refine iv ?_; first | (rw [if_pos (by omega)]; done) | (rw [if_neg (by omega)]; done))
/-- The lengths of the first lists, added up. -/
def lens (xss : List (List Int)) (i : Nat) : Nat := ((xss.take i).map List.length).sum
theorem lens_next {xss : List (List Int)} {i : Nat} (h : i < xss.length) : lens xss (i + 1) = lens xss i + (xss.getD i []).length := by
  unfold lens
  rw [take_snoc [] h, List.map_append, List.sum_append]
  simp
theorem lens_mono {xss : List (List Int)} {i : Nat} (h : i < xss.length) : lens xss i + (xss.getD i []).length ≤ lens xss xss.length := by
  have key : ∀ k, i + 1 + k ≤ xss.length → lens xss (i + 1) ≤ lens xss (i + 1 + k) := fun k => by
    induction k with
    | zero => intro _; exact Nat.le_refl _
    | succ k ih =>
      intro hk
      have h2 := ih (by omega)
      have h3 := lens_next (xss := xss) (i := i + 1 + k) (by omega)
      rw [show i + 1 + (k + 1) = (i + 1 + k) + 1 by omega]
      omega
  have := key (xss.length - (i + 1)) (by omega)
  rw [show i + 1 + (xss.length - (i + 1)) = xss.length by omega, lens_next h] at this
  exact this
def tot (xss : List (List Int)) : Nat := xss.length + lens xss xss.length
set_option maxRecDepth 100000 in
theorem szInt64SS_ret (xss : List (List Int)) (hn : xss.length ≤ 9223372036854775807) (hr : ∀ r ∈ xss, r.length ≤ 9223372036854775807) : Ret Try.prog G 32 [Rn xss, I 1048576] (I (if (tot xss : Int) ≤ 1048576 then 1048576 - (tot xss : Int) else -1)) := by
  refine ret_of_body hT Try.func32 rfl ?_ rfl
  by_cases hx : (xss.length : Int) ≤ 1048576
  · repeat' (first | (intro h; first | contradiction | omega | (conv => whnf) | skip) | (refine And.intro ?_ ?_) | (refine arith_ok ⟨by omega, by omega⟩ ?_) | (first | (refine draw_quiet hT mixed (by decide +kernel) ?_) | (refine draw_hard hT mixed (by decide +kernel) ?_)) | fail)
    all_goals first | omega | skip
    refine loop_rule hT (fun i : Nat => i ≤ xss.length ∧ (xss.length : Int) + lens xss i ≤ 1048576) 27 0 [0, 1, 5] (fun i => [Rn xss, I (1048576 - (xss.length : Int) - lens xss i), I i]) (fun _ => []) (fun i => xss.length - i) (0) (Nat.le_of_ble_eq_true rfl) ?_ ?_ ?_
    · exact ⟨Nat.zero_le _, by have : lens xss 0 = 0 := rfl; omega⟩
    · have h0 : lens xss 0 = 0 := rfl
      (first | (refine ⟨rfl, [], ?_, ?_⟩; all_goals (repeat' (first | exact rfl | exact trivial | (with_reducible assumption) | refine And.intro ?_ ?_)); all_goals (first | omega | assumption | ((repeat' (first | (rw [h0]; simp) | exact rfl | exact trivial | (with_reducible assumption) | refine And.intro ?_ ?_ | omega | assumption)); done)); done) | (refine ⟨rfl, [some 1], ?_, ?_⟩; all_goals (repeat' (first | exact rfl | exact trivial | (with_reducible assumption) | refine And.intro ?_ ?_)); all_goals (first | omega | assumption | ((repeat' (first | (rw [h0]; simp) | exact rfl | exact trivial | (with_reducible assumption) | refine And.intro ?_ ?_ | omega | assumption)); done)); done) | (refine ⟨rfl, [some 2], ?_, ?_⟩; all_goals (repeat' (first | exact rfl | exact trivial | (with_reducible assumption) | refine And.intro ?_ ?_)); all_goals (first | omega | assumption | ((repeat' (first | (rw [h0]; simp) | exact rfl | exact trivial | (with_reducible assumption) | refine And.intro ?_ ?_ | omega | assumption)); done)); done) | (refine ⟨rfl, [some 3], ?_, ?_⟩; all_goals (repeat' (first | exact rfl | exact trivial | (with_reducible assumption) | refine And.intro ?_ ?_)); all_goals (first | omega | assumption | ((repeat' (first | (rw [h0]; simp) | exact rfl | exact trivial | (with_reducible assumption) | refine And.intro ?_ ?_ | omega | assumption)); done)); done) | (refine ⟨rfl, [some 0], ?_, ?_⟩; all_goals (repeat' (first | exact rfl | exact trivial | (with_reducible assumption) | refine And.intro ?_ ?_)); all_goals (first | omega | assumption | ((repeat' (first | (rw [h0]; simp) | exact rfl | exact trivial | (with_reducible assumption) | refine And.intro ?_ ?_ | omega | assumption)); done)); done) | (refine ⟨rfl, [some 4], ?_, ?_⟩; all_goals (repeat' (first | exact rfl | exact trivial | (with_reducible assumption) | refine And.intro ?_ ?_)); all_goals (first | omega | assumption | ((repeat' (first | (rw [h0]; simp) | exact rfl | exact trivial | (with_reducible assumption) | refine And.intro ?_ ?_ | omega | assumption)); done)); done) | (refine ⟨rfl, [some 5], ?_, ?_⟩; all_goals (repeat' (first | exact rfl | exact trivial | (with_reducible assumption) | refine And.intro ?_ ?_)); all_goals (first | omega | assumption | ((repeat' (first | (rw [h0]; simp) | exact rfl | exact trivial | (with_reducible assumption) | refine And.intro ?_ ?_ | omega | assumption)); done)); done) | (refine ⟨rfl, [some 6], ?_, ?_⟩; all_goals (repeat' (first | exact rfl | exact trivial | (with_reducible assumption) | refine And.intro ?_ ?_)); all_goals (first | omega | assumption | ((repeat' (first | (rw [h0]; simp) | exact rfl | exact trivial | (with_reducible assumption) | refine And.intro ?_ ?_ | omega | assumption)); done)); done))
    · rintro i ⟨h1, h2⟩
      by_cases hi : i < xss.length
      · have hl : (xss.getD ((i : Int)).toNat []).length ≤ 9223372036854775807 := hr _ (getD_mem hi)
        have hnx : lens xss (i + 1) = lens xss i + (xss.getD ((i : Int)).toNat []).length := lens_next hi
        have hmo : lens xss i + (xss.getD ((i : Int)).toNat []).length ≤ lens xss xss.length := lens_mono hi
        have hs := szInt64S_ret (xss.getD ((i : Int)).toNat []) (1048576 - (xss.length : Int) - lens xss i) hl ⟨by omega, by omega⟩
        by_cases hf : ((xss.getD ((i : Int)).toNat []).length : Int) ≤ 1048576 - (xss.length : Int) - lens xss i
        · rw [if_pos hf] at hs
          repeat' (first | (intro h; first | contradiction | omega | (conv => whnf) | skip) | (refine And.intro ?_ ?_) | (refine arith_ok ⟨by omega, by omega⟩ ?_) | (first | (refine draw_quiet hT mixed (by decide +kernel) ?_) | (refine draw_hard hT mixed (by decide +kernel) ?_)) | (refine Ret.go (hs) rfl rfl ?_) | (refine Ret.goQ (hs) rfl rfl ?_))
          all_goals first | omega | skip
          all_goals (refine ⟨i + 1, ⟨by omega, by omega⟩, ?_, by omega⟩; (first | (refine ⟨rfl, [], ?_, ?_⟩; all_goals (repeat' (first | exact rfl | exact trivial | (with_reducible assumption) | refine And.intro ?_ ?_)); all_goals (first | omega | assumption | ((repeat' (first | (rw [hnx]; omega) | exact rfl | exact trivial | (with_reducible assumption) | refine And.intro ?_ ?_ | omega | assumption)); done)); done) | (refine ⟨rfl, [some 1], ?_, ?_⟩; all_goals (repeat' (first | exact rfl | exact trivial | (with_reducible assumption) | refine And.intro ?_ ?_)); all_goals (first | omega | assumption | ((repeat' (first | (rw [hnx]; omega) | exact rfl | exact trivial | (with_reducible assumption) | refine And.intro ?_ ?_ | omega | assumption)); done)); done) | (refine ⟨rfl, [some 2], ?_, ?_⟩; all_goals (repeat' (first | exact rfl | exact trivial | (with_reducible assumption) | refine And.intro ?_ ?_)); all_goals (first | omega | assumption | ((repeat' (first | (rw [hnx]; omega) | exact rfl | exact trivial | (with_reducible assumption) | refine And.intro ?_ ?_ | omega | assumption)); done)); done) | (refine ⟨rfl, [some 3], ?_, ?_⟩; all_goals (repeat' (first | exact rfl | exact trivial | (with_reducible assumption) | refine And.intro ?_ ?_)); all_goals (first | omega | assumption | ((repeat' (first | (rw [hnx]; omega) | exact rfl | exact trivial | (with_reducible assumption) | refine And.intro ?_ ?_ | omega | assumption)); done)); done) | (refine ⟨rfl, [some 0], ?_, ?_⟩; all_goals (repeat' (first | exact rfl | exact trivial | (with_reducible assumption) | refine And.intro ?_ ?_)); all_goals (first | omega | assumption | ((repeat' (first | (rw [hnx]; omega) | exact rfl | exact trivial | (with_reducible assumption) | refine And.intro ?_ ?_ | omega | assumption)); done)); done) | (refine ⟨rfl, [some 4], ?_, ?_⟩; all_goals (repeat' (first | exact rfl | exact trivial | (with_reducible assumption) | refine And.intro ?_ ?_)); all_goals (first | omega | assumption | ((repeat' (first | (rw [hnx]; omega) | exact rfl | exact trivial | (with_reducible assumption) | refine And.intro ?_ ?_ | omega | assumption)); done)); done) | (refine ⟨rfl, [some 5], ?_, ?_⟩; all_goals (repeat' (first | exact rfl | exact trivial | (with_reducible assumption) | refine And.intro ?_ ?_)); all_goals (first | omega | assumption | ((repeat' (first | (rw [hnx]; omega) | exact rfl | exact trivial | (with_reducible assumption) | refine And.intro ?_ ?_ | omega | assumption)); done)); done) | (refine ⟨rfl, [some 6], ?_, ?_⟩; all_goals (repeat' (first | exact rfl | exact trivial | (with_reducible assumption) | refine And.intro ?_ ?_)); all_goals (first | omega | assumption | ((repeat' (first | (rw [hnx]; omega) | exact rfl | exact trivial | (with_reducible assumption) | refine And.intro ?_ ?_ | omega | assumption)); done)); done)))
        · rw [if_neg hf] at hs
          repeat' (first | (intro h; first | contradiction | omega | (conv => whnf) | skip) | (refine And.intro ?_ ?_) | (refine arith_ok ⟨by omega, by omega⟩ ?_) | (first | (refine draw_quiet hT mixed (by decide +kernel) ?_) | (refine draw_hard hT mixed (by decide +kernel) ?_)) | (refine Ret.go (hs) rfl rfl ?_) | (refine Ret.goQ (hs) rfl rfl ?_))
          all_goals first | omega | (refine iv ?_; rw [if_neg (by unfold tot; omega)]; done) | trace_state
      · obtain rfl : i = xss.length := by omega
        repeat' (first | (intro h; first | contradiction | omega | (conv => whnf) | skip) | (refine And.intro ?_ ?_) | (refine arith_ok ⟨by omega, by omega⟩ ?_) | (first | (refine draw_quiet hT mixed (by decide +kernel) ?_) | (refine draw_hard hT mixed (by decide +kernel) ?_)) | fail)
        all_goals first | omega | (refine iv ?_; rw [if_pos (by unfold tot; omega)]; unfold tot; omega) | trace_state
  · repeat' (first | (intro h; first | contradiction | omega | (conv => whnf) | skip) | (refine And.intro ?_ ?_) | (refine arith_ok ⟨by omega, by omega⟩ ?_) | (first | (refine draw_quiet hT mixed (by decide +kernel) ?_) | (refine draw_hard hT mixed (by decide +kernel) ?_)) | fail)
    all_goals first | omega | (refine iv ?_; rw [if_neg (by unfold tot; omega)]; done) | trace_state
set_option maxRecDepth 100000 in
theorem eqInt64SS_ret (xss : List (List Int)) (hn : xss.length ≤ 1048576) (hr : ∀ r ∈ xss, r.length ≤ 1048576) : Ret Try.prog G 36 [Rn xss, Rn xss] (Bo true) := by
  refine ret_of_body hT Try.func36 rfl ?_ rfl
  repeat' (first | (intro h; first | contradiction | omega | (conv => whnf) | skip) | (refine And.intro ?_ ?_) | (refine arith_ok ⟨by omega, by omega⟩ ?_) | (first | (refine draw_quiet hT mixed (by decide +kernel) ?_) | (refine draw_hard hT mixed (by decide +kernel) ?_)) | fail)
  all_goals first | rfl | omega | skip
  refine loop_rule hT (fun i : Nat => i ≤ xss.length) 27 0 [0, 1, 5] (fun i => [Rn xss, Rn xss, I i]) (fun _ => []) (fun i => xss.length - i) (0) (Nat.le_of_ble_eq_true rfl) ?_ ?_ ?_
  · exact Nat.zero_le _
  · (first | (refine ⟨rfl, [], ?_, ?_⟩; all_goals (repeat' (first | exact rfl | exact trivial | (with_reducible assumption) | refine And.intro ?_ ?_)); all_goals (first | omega | assumption); done) | (refine ⟨rfl, [some 1], ?_, ?_⟩; all_goals (repeat' (first | exact rfl | exact trivial | (with_reducible assumption) | refine And.intro ?_ ?_)); all_goals (first | omega | assumption); done) | (refine ⟨rfl, [some 2], ?_, ?_⟩; all_goals (repeat' (first | exact rfl | exact trivial | (with_reducible assumption) | refine And.intro ?_ ?_)); all_goals (first | omega | assumption); done) | (refine ⟨rfl, [some 3], ?_, ?_⟩; all_goals (repeat' (first | exact rfl | exact trivial | (with_reducible assumption) | refine And.intro ?_ ?_)); all_goals (first | omega | assumption); done) | (refine ⟨rfl, [some 0], ?_, ?_⟩; all_goals (repeat' (first | exact rfl | exact trivial | (with_reducible assumption) | refine And.intro ?_ ?_)); all_goals (first | omega | assumption); done) | (refine ⟨rfl, [some 4], ?_, ?_⟩; all_goals (repeat' (first | exact rfl | exact trivial | (with_reducible assumption) | refine And.intro ?_ ?_)); all_goals (first | omega | assumption); done) | (refine ⟨rfl, [some 5], ?_, ?_⟩; all_goals (repeat' (first | exact rfl | exact trivial | (with_reducible assumption) | refine And.intro ?_ ?_)); all_goals (first | omega | assumption); done) | (refine ⟨rfl, [some 6], ?_, ?_⟩; all_goals (repeat' (first | exact rfl | exact trivial | (with_reducible assumption) | refine And.intro ?_ ?_)); all_goals (first | omega | assumption); done))
  · rintro i h1
    by_cases hi : i < xss.length
    · have hl : (xss.getD ((i : Int)).toNat []).length ≤ 1048576 := hr _ (getD_mem hi)
      repeat' (first | (intro h; first | contradiction | omega | (conv => whnf) | skip) | (refine And.intro ?_ ?_) | (refine arith_ok ⟨by omega, by omega⟩ ?_) | (first | (refine draw_quiet hT mixed (by decide +kernel) ?_) | (refine draw_hard hT mixed (by decide +kernel) ?_)) | (refine Ret.goP (eqInt64S_ret (xss.getD ((i : Int)).toNat []) (xss.getD ((i : Int)).toNat []) (by omega)) rfl ?_) | (refine Ret.goQP (eqInt64S_ret (xss.getD ((i : Int)).toNat []) (xss.getD ((i : Int)).toNat []) (by omega)) rfl ?_))
      all_goals first | omega | rfl | skip
      all_goals (refine ⟨i + 1, by omega, ?_, by omega⟩; (first | (refine ⟨rfl, [], ?_, ?_⟩; all_goals (repeat' (first | exact rfl | exact trivial | (with_reducible assumption) | refine And.intro ?_ ?_)); all_goals (first | omega | assumption); done) | (refine ⟨rfl, [some 1], ?_, ?_⟩; all_goals (repeat' (first | exact rfl | exact trivial | (with_reducible assumption) | refine And.intro ?_ ?_)); all_goals (first | omega | assumption); done) | (refine ⟨rfl, [some 2], ?_, ?_⟩; all_goals (repeat' (first | exact rfl | exact trivial | (with_reducible assumption) | refine And.intro ?_ ?_)); all_goals (first | omega | assumption); done) | (refine ⟨rfl, [some 3], ?_, ?_⟩; all_goals (repeat' (first | exact rfl | exact trivial | (with_reducible assumption) | refine And.intro ?_ ?_)); all_goals (first | omega | assumption); done) | (refine ⟨rfl, [some 0], ?_, ?_⟩; all_goals (repeat' (first | exact rfl | exact trivial | (with_reducible assumption) | refine And.intro ?_ ?_)); all_goals (first | omega | assumption); done) | (refine ⟨rfl, [some 4], ?_, ?_⟩; all_goals (repeat' (first | exact rfl | exact trivial | (with_reducible assumption) | refine And.intro ?_ ?_)); all_goals (first | omega | assumption); done) | (refine ⟨rfl, [some 5], ?_, ?_⟩; all_goals (repeat' (first | exact rfl | exact trivial | (with_reducible assumption) | refine And.intro ?_ ?_)); all_goals (first | omega | assumption); done) | (refine ⟨rfl, [some 6], ?_, ?_⟩; all_goals (repeat' (first | exact rfl | exact trivial | (with_reducible assumption) | refine And.intro ?_ ?_)); all_goals (first | omega | assumption); done)))
    · repeat' (first | (intro h; first | contradiction | omega | (conv => whnf) | skip) | (refine And.intro ?_ ?_) | (refine arith_ok ⟨by omega, by omega⟩ ?_) | (first | (refine draw_quiet hT mixed (by decide +kernel) ?_) | (refine draw_hard hT mixed (by decide +kernel) ?_)) | fail)
      all_goals first | omega | rfl | trace_state
end Go.Proofs.Ytcdfdigehaipmaa
