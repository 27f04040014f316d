/-
  Societies, claims of a year and expected deaths: what the functions return; copies, sizes, marks of bases. No conditions but those in the statements.
-/
import Derived.Test.YtenofbabiacacaaGreatSe
import Derived.Test.YtenofbabiacacaaGreatHol
set_option linter.unusedVariables false
set_option linter.unusedSimpArgs false
namespace Go.Proofs.YtenofbabiacacaaGreat
open Go.AE

attribute [local irreducible] CallA LoopA DrawA CallQ arithK quoK remK eqK
attribute [local irreducible] cols cN cM cD cC dur pTop pBase lv clS eDs okF dOk okT
abbrev Soc (f : Int) (l : AV) (r : Int) (h : AV) (d : Int) : AV := .agg [I f, l, I r, h, I d]
/-! Copies -/
set_option maxRecDepth 100000 in
theorem toTable_call (f : Int) (ls : List Int) (hn : ls.length ≤ 1048576) : CallA Tryz.prog G 65 [Tb f ls] [] (fun v J => v = .agg [I f, .sl 0 1 ls.length] ∧ J = [Di ls]) := by
  refine CallA.ends (callA_of_body hT Tryz.func65 rfl ?_)
  repeat' (first | (intro h; first | contradiction | omega | (conv => whnf) | skip) | (refine And.intro ?_ ?_) | (refine arith_ok ⟨by omega, by omega⟩ ?_) | (first | (refine draw_quiet hT mixed (by decide +kernel) ?_) | (refine draw_hard hT mixed (by decide +kernel) ?_)) | (refine CallA.go [] (toInt64S_call ls hn) rfl (by first | ((repeat' (first | exact rfl | exact trivial | (with_reducible assumption) | refine And.intro ?_ ?_ | omega | assumption)); done) | fail) trivial ?_))
  all_goals first | omega | (first | (refine ⟨[], .agg [I f, .sl 0 1 ls.length], [Di ls], ?_, ?_, ?_⟩; all_goals (repeat' (first | exact rfl | exact trivial | (with_reducible assumption) | refine And.intro ?_ ?_)); all_goals (first | omega | assumption); done) | (refine ⟨[some 1], .agg [I f, .sl 0 1 ls.length], [Di ls], ?_, ?_, ?_⟩; all_goals (repeat' (first | exact rfl | exact trivial | (with_reducible assumption) | refine And.intro ?_ ?_)); all_goals (first | omega | assumption); done) | (refine ⟨[some 0], .agg [I f, .sl 0 1 ls.length], [Di ls], ?_, ?_, ?_⟩; all_goals (repeat' (first | exact rfl | exact trivial | (with_reducible assumption) | refine And.intro ?_ ?_)); all_goals (first | omega | assumption); done) | (refine ⟨[some 2], .agg [I f, .sl 0 1 ls.length], [Di ls], ?_, ?_, ?_⟩; all_goals (repeat' (first | exact rfl | exact trivial | (with_reducible assumption) | refine And.intro ?_ ?_)); all_goals (first | omega | assumption); done) | (refine ⟨[some 3], .agg [I f, .sl 0 1 ls.length], [Di ls], ?_, ?_, ?_⟩; all_goals (repeat' (first | exact rfl | exact trivial | (with_reducible assumption) | refine And.intro ?_ ?_)); all_goals (first | omega | assumption); done) | (refine ⟨[some 4], .agg [I f, .sl 0 1 ls.length], [Di ls], ?_, ?_, ?_⟩; all_goals (repeat' (first | exact rfl | exact trivial | (with_reducible assumption) | refine And.intro ?_ ?_)); all_goals (first | omega | assumption); done) | (refine ⟨[some 5], .agg [I f, .sl 0 1 ls.length], [Di ls], ?_, ?_, ?_⟩; all_goals (repeat' (first | exact rfl | exact trivial | (with_reducible assumption) | refine And.intro ?_ ?_)); all_goals (first | omega | assumption); done)) | trace_state
set_option maxRecDepth 100000 in
theorem toBasis_call (f : Int) (ls : List Int) (r : Int) (hn : ls.length ≤ 1048576) : CallA Tryz.prog G 12 [Bs f ls r] [] (fun v J => v = .agg [I f, .sl 0 1 ls.length, I r] ∧ J = [Di ls]) := by
  refine CallA.ends (callA_of_body hT Tryz.func12 rfl ?_)
  repeat' (first | (intro h; first | contradiction | omega | (conv => whnf) | skip) | (refine And.intro ?_ ?_) | (refine arith_ok ⟨by omega, by omega⟩ ?_) | (first | (refine draw_quiet hT mixed (by decide +kernel) ?_) | (refine draw_hard hT mixed (by decide +kernel) ?_)) | (refine CallA.go [] (toTable_call f ls hn) rfl (by first | ((repeat' (first | exact rfl | exact trivial | (with_reducible assumption) | refine And.intro ?_ ?_ | omega | assumption)); done) | fail) trivial ?_))
  all_goals first | omega | (first | (refine ⟨[], .agg [I f, .sl 0 1 ls.length, I r], [Di ls], ?_, ?_, ?_⟩; all_goals (repeat' (first | exact rfl | exact trivial | (with_reducible assumption) | refine And.intro ?_ ?_)); all_goals (first | omega | assumption); done) | (refine ⟨[some 1], .agg [I f, .sl 0 1 ls.length, I r], [Di ls], ?_, ?_, ?_⟩; all_goals (repeat' (first | exact rfl | exact trivial | (with_reducible assumption) | refine And.intro ?_ ?_)); all_goals (first | omega | assumption); done) | (refine ⟨[some 0], .agg [I f, .sl 0 1 ls.length, I r], [Di ls], ?_, ?_, ?_⟩; all_goals (repeat' (first | exact rfl | exact trivial | (with_reducible assumption) | refine And.intro ?_ ?_)); all_goals (first | omega | assumption); done) | (refine ⟨[some 2], .agg [I f, .sl 0 1 ls.length, I r], [Di ls], ?_, ?_, ?_⟩; all_goals (repeat' (first | exact rfl | exact trivial | (with_reducible assumption) | refine And.intro ?_ ?_)); all_goals (first | omega | assumption); done) | (refine ⟨[some 3], .agg [I f, .sl 0 1 ls.length, I r], [Di ls], ?_, ?_, ?_⟩; all_goals (repeat' (first | exact rfl | exact trivial | (with_reducible assumption) | refine And.intro ?_ ?_)); all_goals (first | omega | assumption); done) | (refine ⟨[some 4], .agg [I f, .sl 0 1 ls.length, I r], [Di ls], ?_, ?_, ?_⟩; all_goals (repeat' (first | exact rfl | exact trivial | (with_reducible assumption) | refine And.intro ?_ ?_)); all_goals (first | omega | assumption); done) | (refine ⟨[some 5], .agg [I f, .sl 0 1 ls.length, I r], [Di ls], ?_, ?_, ?_⟩; all_goals (repeat' (first | exact rfl | exact trivial | (with_reducible assumption) | refine And.intro ?_ ?_)); all_goals (first | omega | assumption); done)) | trace_state
/-! Sizes -/
set_option maxRecDepth 100000 in
theorem szInt64S_ret (xs : List Int) (l : Int) (hn : xs.length ≤ 9223372036854775807) (hl : -1 ≤ l ∧ l ≤ 1048576) : Ret Tryz.prog G 122 [Ri xs, I l] (I (if (xs.length : Int) ≤ l then l - xs.length else -1)) := by
  refine ret_of_body hT Tryz.func122 rfl ?_ rfl
  repeat' (first | (intro h; first | contradiction | omega | (conv => whnf) | skip) | (refine And.intro ?_ ?_) | (refine arith_ok ⟨by omega, by omega⟩ ?_) | (first | (refine draw_quiet hT mixed (by decide +kernel) ?_) | (refine draw_hard hT mixed (by decide +kernel) ?_)) | fail)
  all_goals (refine iv ?_; first | (rw [if_pos (by omega)]; done) | (rw [if_neg (by omega)]; done))
set_option maxRecDepth 100000 in
theorem szTable_ret (f : Int) (ls : List Int) (l : Int) (hn : ls.length ≤ 9223372036854775807) (hl : -1 ≤ l ∧ l ≤ 1048576) : Ret Tryz.prog G 63 [Tb f ls, I l] (I (if (ls.length : Int) ≤ l then l - ls.length else -1)) := by
  refine ret_of_body hT Tryz.func63 rfl ?_ rfl
  have hs := szInt64S_ret ls l hn hl
  by_cases h : (ls.length : Int) ≤ l
  · rw [if_pos h] at hs ⊢
    repeat' (first | (intro h; first | contradiction | omega | (conv => whnf) | skip) | (refine And.intro ?_ ?_) | (refine arith_ok ⟨by omega, by omega⟩ ?_) | (first | (refine draw_quiet hT mixed (by decide +kernel) ?_) | (refine draw_hard hT mixed (by decide +kernel) ?_)) | (refine Ret.go (hs) rfl rfl ?_) | (refine Ret.goQ (hs) rfl rfl ?_))
    all_goals first | omega | rfl | trace_state
  · rw [if_neg h] at hs ⊢
    repeat' (first | (intro h; first | contradiction | omega | (conv => whnf) | skip) | (refine And.intro ?_ ?_) | (refine arith_ok ⟨by omega, by omega⟩ ?_) | (first | (refine draw_quiet hT mixed (by decide +kernel) ?_) | (refine draw_hard hT mixed (by decide +kernel) ?_)) | (refine Ret.go (hs) rfl rfl ?_) | (refine Ret.goQ (hs) rfl rfl ?_))
    all_goals first | omega | rfl | trace_state
set_option maxRecDepth 100000 in
theorem szBasis_ret (f : Int) (ls : List Int) (r l : Int) (hn : ls.length ≤ 9223372036854775807) (hl : -1 ≤ l ∧ l ≤ 1048576) : Ret Tryz.prog G 9 [Bs f ls r, I l] (I (if (ls.length : Int) ≤ l then l - ls.length else -1)) := by
  refine ret_of_body hT Tryz.func9 rfl ?_ rfl
  have hs := szTable_ret f ls l hn hl
  by_cases h : (ls.length : Int) ≤ l
  · rw [if_pos h] at hs ⊢
    repeat' (first | (intro h; first | contradiction | omega | (conv => whnf) | skip) | (refine And.intro ?_ ?_) | (refine arith_ok ⟨by omega, by omega⟩ ?_) | (first | (refine draw_quiet hT mixed (by decide +kernel) ?_) | (refine draw_hard hT mixed (by decide +kernel) ?_)) | (refine Ret.go (hs) rfl rfl ?_) | (refine Ret.goQ (hs) rfl rfl ?_))
    all_goals first | omega | rfl | trace_state
  · rw [if_neg h] at hs ⊢
    repeat' (first | (intro h; first | contradiction | omega | (conv => whnf) | skip) | (refine And.intro ?_ ?_) | (refine arith_ok ⟨by omega, by omega⟩ ?_) | (first | (refine draw_quiet hT mixed (by decide +kernel) ?_) | (refine draw_hard hT mixed (by decide +kernel) ?_)) | (refine Ret.go (hs) rfl rfl ?_) | (refine Ret.goQ (hs) rfl rfl ?_))
    all_goals first | omega | rfl | trace_state
/-! Equality with oneself -/
set_option maxRecDepth 100000 in
theorem eqTable_ret (f : Int) (ls : List Int) (hn : ls.length ≤ 1048576) : Ret Tryz.prog G 68 [Tb f ls, Tb f ls] (Bo true) := by
  refine ret_of_body hT Tryz.func68 rfl ?_ rfl
  repeat' (first | (intro h; first | contradiction | omega | (conv => whnf) | skip) | (refine And.intro ?_ ?_) | (refine arith_ok ⟨by omega, by omega⟩ ?_) | (first | (refine draw_quiet hT mixed (by decide +kernel) ?_) | (refine draw_hard hT mixed (by decide +kernel) ?_)) | (refine Ret.goP (eqInt64S_ret ls ls (by omega)) rfl ?_) | (refine Ret.goQP (eqInt64S_ret ls ls (by omega)) rfl ?_))
  all_goals first | rfl | omega | trace_state
set_option maxRecDepth 100000 in
theorem eqBasis_ret (f : Int) (ls : List Int) (r : Int) (hn : ls.length ≤ 1048576) : Ret Tryz.prog G 16 [Bs f ls r, Bs f ls r] (Bo true) := by
  refine ret_of_body hT Tryz.func16 rfl ?_ rfl
  repeat' (first | (intro h; first | contradiction | omega | (conv => whnf) | skip) | (refine And.intro ?_ ?_) | (refine arith_ok ⟨by omega, by omega⟩ ?_) | (first | (refine draw_quiet hT mixed (by decide +kernel) ?_) | (refine draw_hard hT mixed (by decide +kernel) ?_)) | (refine Ret.go (eqTable_ret f ls hn) rfl rfl ?_) | (refine Ret.goQ (eqTable_ret f ls hn) rfl rfl ?_))
  all_goals first | rfl | omega | trace_state
/-! Marks -/
set_option maxRecDepth 100000 in
theorem markTable_call (f : Int) (ls : List Int) (k : Nat) (hn : ls.length ≤ 1048576) (hk : k ≤ 1048577) : CallA Tryz.prog G 81 [.agg [I f, .sl 0 1 ls.length], I k] [Di ls] (fun v J => v = I ((k + ls.length : Nat) : Int) ∧ J = [Di (marks ls.length k)]) := by
  refine CallA.ends (callA_of_body hT Tryz.func81 rfl ?_)
  repeat' (first | (intro h; first | contradiction | omega | (conv => whnf) | skip) | (refine And.intro ?_ ?_) | (refine arith_ok ⟨by omega, by omega⟩ ?_) | (first | (refine draw_quiet hT mixed (by decide +kernel) ?_) | (refine draw_hard hT mixed (by decide +kernel) ?_)) | (refine CallA.go [0] (markInt64S_call ls k (by omega) (by omega)) rfl (by first | ((repeat' (first | exact rfl | exact trivial | (with_reducible assumption) | refine And.intro ?_ ?_ | omega | assumption)); done) | fail) (by first | ((repeat' (first | exact rfl | exact trivial | (with_reducible assumption) | refine And.intro ?_ ?_ | omega | assumption)); done) | fail) ?_))
  all_goals first | omega | (first | (refine ⟨[], I ((k + ls.length : Nat) : Int), [Di (marks ls.length k)], ?_, ?_, ?_⟩; all_goals (repeat' (first | exact rfl | exact trivial | (with_reducible assumption) | refine And.intro ?_ ?_)); all_goals (first | omega | assumption); done) | (refine ⟨[some 1], I ((k + ls.length : Nat) : Int), [Di (marks ls.length k)], ?_, ?_, ?_⟩; all_goals (repeat' (first | exact rfl | exact trivial | (with_reducible assumption) | refine And.intro ?_ ?_)); all_goals (first | omega | assumption); done) | (refine ⟨[some 0], I ((k + ls.length : Nat) : Int), [Di (marks ls.length k)], ?_, ?_, ?_⟩; all_goals (repeat' (first | exact rfl | exact trivial | (with_reducible assumption) | refine And.intro ?_ ?_)); all_goals (first | omega | assumption); done) | (refine ⟨[some 2], I ((k + ls.length : Nat) : Int), [Di (marks ls.length k)], ?_, ?_, ?_⟩; all_goals (repeat' (first | exact rfl | exact trivial | (with_reducible assumption) | refine And.intro ?_ ?_)); all_goals (first | omega | assumption); done) | (refine ⟨[some 3], I ((k + ls.length : Nat) : Int), [Di (marks ls.length k)], ?_, ?_, ?_⟩; all_goals (repeat' (first | exact rfl | exact trivial | (with_reducible assumption) | refine And.intro ?_ ?_)); all_goals (first | omega | assumption); done) | (refine ⟨[some 4], I ((k + ls.length : Nat) : Int), [Di (marks ls.length k)], ?_, ?_, ?_⟩; all_goals (repeat' (first | exact rfl | exact trivial | (with_reducible assumption) | refine And.intro ?_ ?_)); all_goals (first | omega | assumption); done) | (refine ⟨[some 5], I ((k + ls.length : Nat) : Int), [Di (marks ls.length k)], ?_, ?_, ?_⟩; all_goals (repeat' (first | exact rfl | exact trivial | (with_reducible assumption) | refine And.intro ?_ ?_)); all_goals (first | omega | assumption); done)) | trace_state
set_option maxRecDepth 100000 in
theorem markBasis_call (f : Int) (ls : List Int) (r : Int) (k : Nat) (hn : ls.length ≤ 1048576) (hk : k ≤ 1048577) : CallA Tryz.prog G 22 [.agg [I f, .sl 0 1 ls.length, I r], I k] [Di ls] (fun v J => v = I ((k + ls.length : Nat) : Int) ∧ J = [Di (marks ls.length k)]) := by
  refine CallA.ends (callA_of_body hT Tryz.func22 rfl ?_)
  repeat' (first | (intro h; first | contradiction | omega | (conv => whnf) | skip) | (refine And.intro ?_ ?_) | (refine arith_ok ⟨by omega, by omega⟩ ?_) | (first | (refine draw_quiet hT mixed (by decide +kernel) ?_) | (refine draw_hard hT mixed (by decide +kernel) ?_)) | (refine CallA.go [0] (markTable_call f ls k hn hk) rfl (by first | ((repeat' (first | exact rfl | exact trivial | (with_reducible assumption) | refine And.intro ?_ ?_ | omega | assumption)); done) | fail) (by first | ((repeat' (first | exact rfl | exact trivial | (with_reducible assumption) | refine And.intro ?_ ?_ | omega | assumption)); done) | fail) ?_))
  all_goals first | omega | (first | (refine ⟨[], I ((k + ls.length : Nat) : Int), [Di (marks ls.length k)], ?_, ?_, ?_⟩; all_goals (repeat' (first | exact rfl | exact trivial | (with_reducible assumption) | refine And.intro ?_ ?_)); all_goals (first | omega | assumption); done) | (refine ⟨[some 1], I ((k + ls.length : Nat) : Int), [Di (marks ls.length k)], ?_, ?_, ?_⟩; all_goals (repeat' (first | exact rfl | exact trivial | (with_reducible assumption) | refine And.intro ?_ ?_)); all_goals (first | omega | assumption); done) | (refine ⟨[some 0], I ((k + ls.length : Nat) : Int), [Di (marks ls.length k)], ?_, ?_, ?_⟩; all_goals (repeat' (first | exact rfl | exact trivial | (with_reducible assumption) | refine And.intro ?_ ?_)); all_goals (first | omega | assumption); done) | (refine ⟨[some 2], I ((k + ls.length : Nat) : Int), [Di (marks ls.length k)], ?_, ?_, ?_⟩; all_goals (repeat' (first | exact rfl | exact trivial | (with_reducible assumption) | refine And.intro ?_ ?_)); all_goals (first | omega | assumption); done) | (refine ⟨[some 3], I ((k + ls.length : Nat) : Int), [Di (marks ls.length k)], ?_, ?_, ?_⟩; all_goals (repeat' (first | exact rfl | exact trivial | (with_reducible assumption) | refine And.intro ?_ ?_)); all_goals (first | omega | assumption); done) | (refine ⟨[some 4], I ((k + ls.length : Nat) : Int), [Di (marks ls.length k)], ?_, ?_, ?_⟩; all_goals (repeat' (first | exact rfl | exact trivial | (with_reducible assumption) | refine And.intro ?_ ?_)); all_goals (first | omega | assumption); done) | (refine ⟨[some 5], I ((k + ls.length : Nat) : Int), [Di (marks ls.length k)], ?_, ?_, ?_⟩; all_goals (repeat' (first | exact rfl | exact trivial | (with_reducible assumption) | refine And.intro ?_ ?_)); all_goals (first | omega | assumption); done)) | trace_state
/-! Funds, societies -/
abbrev okD (d : Int) : Prop := 0 ≤ d ∧ d ≤ 1000000000000
set_option maxRecDepth 100000 in
theorem implFund_ret (d : Int) : Ret Tryz.prog G 74 [I d] (Bo (decide (okD d))) := by
  refine ret_of_body hT Tryz.func74 rfl ?_ rfl
  repeat' (first | (intro h; first | contradiction | omega | (conv => whnf) | skip) | (refine And.intro ?_ ?_) | (refine arith_ok ⟨by omega, by omega⟩ ?_) | (first | (refine draw_quiet hT mixed (by decide +kernel) ?_) | (refine draw_hard hT mixed (by decide +kernel) ?_)) | (refine Ret.goP (inRange_ret _ _ _) rfl ?_) | (refine Ret.goQP (inRange_ret _ _ _) rfl ?_))
  all_goals first | exact bv_true (by assumption) | exact bv_false (by assumption)
set_option maxRecDepth 100000 in
theorem specFund_ret (d : Int) : Ret Tryz.prog G 71 [I d] (Bo (decide (okD d))) := by
  refine ret_of_body hT Tryz.func71 rfl ?_ rfl
  repeat' (first | (intro h; first | contradiction | omega | (conv => whnf) | skip) | (refine And.intro ?_ ?_) | (refine arith_ok ⟨by omega, by omega⟩ ?_) | (first | (refine draw_quiet hT mixed (by decide +kernel) ?_) | (refine draw_hard hT mixed (by decide +kernel) ?_)) | (refine Ret.goP (l01In_ret _ _ _) rfl ?_) | (refine Ret.goQP (l01In_ret _ _ _) rfl ?_))
  all_goals first | exact bv_true (by assumption) | exact bv_false (by assumption)
/-! Claims of a year -/
noncomputable def yC (f : Int) (ls : List Int) (r : Int) (hs : List (List Int)) (ds : List Int) : Int := if okF f ls r hs ∧ dOk hs ds then clS f ls hs ds hs.length else 0
theorem cDt_zero {f : Int} {ls : List Int} {r : Int} {hs : List (List Int)} {ds : List Int} (h : okF f ls r hs ∧ dOk hs ds) : cDt f ls r hs ds true = 0 := (if_pos h.1).trans (if_pos ⟨rfl, h.2⟩)
theorem cDt_ne {f : Int} {ls : List Int} {r : Int} {hs : List (List Int)} {ds : List Int} (h : ¬ (okF f ls r hs ∧ dOk hs ds)) : cDt f ls r hs ds true ≠ 0 := by
  unfold cDt
  split
  · rename_i h1
    split
    · rename_i h2
      exact absurd ⟨h1, h2.2⟩ h
    · decide
  · decide
set_option maxRecDepth 100000 in
theorem implYC_ret (f : Int) (ls : List Int) (r : Int) (hs : List (List Int)) (ds : List Int) (hn : ls.length ≤ 1048576) (hh : hs.length ≤ 1048576) (hd : ds.length ≤ 1048576) : Ret Tryz.prog G 40 [Bs f ls r, Rh hs, Ri ds] (.tup [I (yC f ls r hs ds), I (cDt f ls r hs ds true)]) := by
  refine ret_of_body hT Tryz.func40 rfl ?_ rfl
  have hc := implCheck_ret f ls r hs ds hn hh hd
  by_cases ho : okF f ls r hs ∧ dOk hs ds
  · rw [show yC f ls r hs ds = clS f ls hs ds hs.length from if_pos ho]
    rw [cDt_zero ho] at hc ⊢
    repeat' (first | (intro h; first | contradiction | omega | (conv => whnf) | skip) | (refine And.intro ?_ ?_) | (refine arith_ok ⟨by omega, by omega⟩ ?_) | (first | (refine draw_quiet hT mixed (by decide +kernel) ?_) | (refine draw_hard hT mixed (by decide +kernel) ?_)) | (refine Ret.go (hc) rfl rfl ?_) | (refine Ret.goQ (hc) rfl rfl ?_) | (refine Ret.go (implClaims_ret f ls r hs ds ho.1 ho.2) rfl rfl ?_) | (refine Ret.goQ (implClaims_ret f ls r hs ds ho.1 ho.2) rfl rfl ?_))
    all_goals first | rfl | omega | trace_state
  · rw [show yC f ls r hs ds = 0 from if_neg ho]
    have hz := cDt_ne ho
    repeat' (first | (intro h; first | contradiction | omega | (conv => whnf) | skip) | (refine And.intro ?_ ?_) | (refine arith_ok ⟨by omega, by omega⟩ ?_) | (first | (refine draw_quiet hT mixed (by decide +kernel) ?_) | (refine draw_hard hT mixed (by decide +kernel) ?_)) | (refine Ret.go (hc) rfl rfl ?_) | (refine Ret.goQ (hc) rfl rfl ?_))
    all_goals first | rfl | omega | exact absurd (by assumption) hz | trace_state
set_option maxRecDepth 100000 in
theorem specYC_ret (f : Int) (ls : List Int) (r : Int) (hs : List (List Int)) (ds : List Int) (hn : ls.length ≤ 1048576) (hh : hs.length ≤ 1048576) (hd : ds.length ≤ 1048576) : Ret Tryz.prog G 41 [Bs f ls r, Rh hs, Ri ds] (.tup [I (yC f ls r hs ds), I (cDt f ls r hs ds true)]) := by
  refine ret_of_body hT Tryz.func41 rfl ?_ rfl
  have hc := specCode_ret f ls r hs ds true hn hh hd
  by_cases ho : okF f ls r hs ∧ dOk hs ds
  · rw [show yC f ls r hs ds = clS f ls hs ds hs.length from if_pos ho]
    rw [cDt_zero ho] at hc ⊢
    repeat' (first | (intro h; first | contradiction | omega | (conv => whnf) | skip) | (refine And.intro ?_ ?_) | (refine arith_ok ⟨by omega, by omega⟩ ?_) | (first | (refine draw_quiet hT mixed (by decide +kernel) ?_) | (refine draw_hard hT mixed (by decide +kernel) ?_)) | (refine Ret.go (hc) rfl rfl ?_) | (refine Ret.goQ (hc) rfl rfl ?_) | (refine Ret.go (specClaims_ret f ls r hs ds ho.1 ho.2) rfl rfl ?_) | (refine Ret.goQ (specClaims_ret f ls r hs ds ho.1 ho.2) rfl rfl ?_))
    all_goals first | rfl | omega | trace_state
  · rw [show yC f ls r hs ds = 0 from if_neg ho]
    have hz := cDt_ne ho
    repeat' (first | (intro h; first | contradiction | omega | (conv => whnf) | skip) | (refine And.intro ?_ ?_) | (refine arith_ok ⟨by omega, by omega⟩ ?_) | (first | (refine draw_quiet hT mixed (by decide +kernel) ?_) | (refine draw_hard hT mixed (by decide +kernel) ?_)) | (refine Ret.go (hc) rfl rfl ?_) | (refine Ret.goQ (hc) rfl rfl ?_))
    all_goals first | rfl | omega | exact absurd (by assumption) hz | trace_state
/-! Expected deaths -/
noncomputable def xR (f : Int) (ls : List Int) (r : Int) (hs : List (List Int)) : List Int := if okF f ls r hs then eDs f ls hs hs.length else []
noncomputable def xC (f : Int) (ls : List Int) (r : Int) (hs : List (List Int)) : Int := if okF f ls r hs then 0 else 1
theorem x_yes {f : Int} {ls : List Int} {r : Int} {hs : List (List Int)} (h : okF f ls r hs) : xR f ls r hs = eDs f ls hs hs.length ∧ xC f ls r hs = 0 := ⟨if_pos h, if_pos h⟩
theorem x_no {f : Int} {ls : List Int} {r : Int} {hs : List (List Int)} (h : ¬ okF f ls r hs) : xR f ls r hs = [] ∧ xC f ls r hs = 1 := ⟨if_neg h, if_neg h⟩
theorem x_len {f : Int} {ls : List Int} {r : Int} {hs : List (List Int)} : (xR f ls r hs).length ≤ 30 := by
  by_cases h : okF f ls r hs
  · rw [(x_yes h).1, eDs_len (Nat.le_refl _)]
    exact okF_len h
  · rw [(x_no h).1]; simp
noncomputable abbrev xT (f : Int) (ls : List Int) (r : Int) (hs : List (List Int)) : AV := .tup [.sl 0 1 (xR f ls r hs).length, I (xC f ls r hs)]
set_option maxRecDepth 100000 in
theorem implX_call (f : Int) (ls : List Int) (r : Int) (hs : List (List Int)) (hn : ls.length ≤ 1048576) (hh : hs.length ≤ 1048576) : CallA Tryz.prog G 42 [Bs f ls r, Rh hs] [] (fun v J => v = xT f ls r hs ∧ J = [Di (xR f ls r hs)]) := by
  refine CallA.ends (callA_of_body hT Tryz.func42 rfl ?_)
  by_cases ho : okF f ls r hs
  · obtain ⟨h1, h2⟩ := x_yes ho
    rw [xT, h1, h2, eDs_len (Nat.le_refl _)]
    repeat' (first | (intro h; first | contradiction | omega | (conv => whnf) | skip) | (refine And.intro ?_ ?_) | (refine arith_ok ⟨by omega, by omega⟩ ?_) | (first | (refine draw_quiet hT mixed (by decide +kernel) ?_) | (refine draw_hard hT mixed (by decide +kernel) ?_)) | (refine Ret.goP (implPortfolio_ret f ls r hs hn hh) rfl ?_) | (refine Ret.goQP (implPortfolio_ret f ls r hs hn hh) rfl ?_) | (refine CallA.go [] (implDths_call f ls r hs ho) rfl (by first | ((repeat' (first | exact rfl | exact trivial | (with_reducible assumption) | refine And.intro ?_ ?_ | omega | assumption)); done) | fail) trivial ?_))
    all_goals first | omega | exact absurd ho (by assumption) | (first | (refine ⟨[], .tup [.sl 0 1 hs.length, I 0], [Di (eDs f ls hs hs.length)], ?_, ?_, ?_⟩; all_goals (repeat' (first | exact rfl | exact trivial | (with_reducible assumption) | refine And.intro ?_ ?_)); all_goals (first | omega | assumption); done) | (refine ⟨[some 1], .tup [.sl 0 1 hs.length, I 0], [Di (eDs f ls hs hs.length)], ?_, ?_, ?_⟩; all_goals (repeat' (first | exact rfl | exact trivial | (with_reducible assumption) | refine And.intro ?_ ?_)); all_goals (first | omega | assumption); done) | (refine ⟨[some 0], .tup [.sl 0 1 hs.length, I 0], [Di (eDs f ls hs hs.length)], ?_, ?_, ?_⟩; all_goals (repeat' (first | exact rfl | exact trivial | (with_reducible assumption) | refine And.intro ?_ ?_)); all_goals (first | omega | assumption); done) | (refine ⟨[some 2], .tup [.sl 0 1 hs.length, I 0], [Di (eDs f ls hs hs.length)], ?_, ?_, ?_⟩; all_goals (repeat' (first | exact rfl | exact trivial | (with_reducible assumption) | refine And.intro ?_ ?_)); all_goals (first | omega | assumption); done) | (refine ⟨[some 3], .tup [.sl 0 1 hs.length, I 0], [Di (eDs f ls hs hs.length)], ?_, ?_, ?_⟩; all_goals (repeat' (first | exact rfl | exact trivial | (with_reducible assumption) | refine And.intro ?_ ?_)); all_goals (first | omega | assumption); done) | (refine ⟨[some 4], .tup [.sl 0 1 hs.length, I 0], [Di (eDs f ls hs hs.length)], ?_, ?_, ?_⟩; all_goals (repeat' (first | exact rfl | exact trivial | (with_reducible assumption) | refine And.intro ?_ ?_)); all_goals (first | omega | assumption); done) | (refine ⟨[some 5], .tup [.sl 0 1 hs.length, I 0], [Di (eDs f ls hs hs.length)], ?_, ?_, ?_⟩; all_goals (repeat' (first | exact rfl | exact trivial | (with_reducible assumption) | refine And.intro ?_ ?_)); all_goals (first | omega | assumption); done)) | trace_state
  · obtain ⟨h1, h2⟩ := x_no ho
    rw [xT, h1, h2]
    repeat' (first | (intro h; first | contradiction | omega | (conv => whnf) | skip) | (refine And.intro ?_ ?_) | (refine arith_ok ⟨by omega, by omega⟩ ?_) | (first | (refine draw_quiet hT mixed (by decide +kernel) ?_) | (refine draw_hard hT mixed (by decide +kernel) ?_)) | (refine Ret.goP (implPortfolio_ret f ls r hs hn hh) rfl ?_) | (refine Ret.goQP (implPortfolio_ret f ls r hs hn hh) rfl ?_))
    all_goals first | exact absurd (by assumption) ho | (refine ⟨[none], .tup [.sl 0 1 0, I 1], [Di []], ?_, ?_, ?_⟩; all_goals (repeat' (first | exact rfl | exact trivial | (with_reducible assumption) | refine And.intro ?_ ?_ | omega)))
set_option maxRecDepth 100000 in
theorem specX_call (f : Int) (ls : List Int) (r : Int) (hs : List (List Int)) (hn : ls.length ≤ 1048576) (hh : hs.length ≤ 1048576) : CallA Tryz.prog G 43 [Bs f ls r, Rh hs] [] (fun v J => v = xT f ls r hs ∧ J = [Di (xR f ls r hs)]) := by
  refine CallA.ends (callA_of_body hT Tryz.func43 rfl ?_)
  by_cases ho : okF f ls r hs
  · obtain ⟨h1, h2⟩ := x_yes ho
    rw [xT, h1, h2, eDs_len (Nat.le_refl _)]
    repeat' (first | (intro h; first | contradiction | omega | (conv => whnf) | skip) | (refine And.intro ?_ ?_) | (refine arith_ok ⟨by omega, by omega⟩ ?_) | (first | (refine draw_quiet hT mixed (by decide +kernel) ?_) | (refine draw_hard hT mixed (by decide +kernel) ?_)) | (refine Ret.goP (specPortfolio_ret f ls r hs hn hh) rfl ?_) | (refine Ret.goQP (specPortfolio_ret f ls r hs hn hh) rfl ?_) | (refine CallA.go [] (specDths_call f ls r hs ho) rfl (by first | ((repeat' (first | exact rfl | exact trivial | (with_reducible assumption) | refine And.intro ?_ ?_ | omega | assumption)); done) | fail) trivial ?_))
    all_goals first | omega | exact absurd ho (by assumption) | (first | (refine ⟨[], .tup [.sl 0 1 hs.length, I 0], [Di (eDs f ls hs hs.length)], ?_, ?_, ?_⟩; all_goals (repeat' (first | exact rfl | exact trivial | (with_reducible assumption) | refine And.intro ?_ ?_)); all_goals (first | omega | assumption); done) | (refine ⟨[some 1], .tup [.sl 0 1 hs.length, I 0], [Di (eDs f ls hs hs.length)], ?_, ?_, ?_⟩; all_goals (repeat' (first | exact rfl | exact trivial | (with_reducible assumption) | refine And.intro ?_ ?_)); all_goals (first | omega | assumption); done) | (refine ⟨[some 0], .tup [.sl 0 1 hs.length, I 0], [Di (eDs f ls hs hs.length)], ?_, ?_, ?_⟩; all_goals (repeat' (first | exact rfl | exact trivial | (with_reducible assumption) | refine And.intro ?_ ?_)); all_goals (first | omega | assumption); done) | (refine ⟨[some 2], .tup [.sl 0 1 hs.length, I 0], [Di (eDs f ls hs hs.length)], ?_, ?_, ?_⟩; all_goals (repeat' (first | exact rfl | exact trivial | (with_reducible assumption) | refine And.intro ?_ ?_)); all_goals (first | omega | assumption); done) | (refine ⟨[some 3], .tup [.sl 0 1 hs.length, I 0], [Di (eDs f ls hs hs.length)], ?_, ?_, ?_⟩; all_goals (repeat' (first | exact rfl | exact trivial | (with_reducible assumption) | refine And.intro ?_ ?_)); all_goals (first | omega | assumption); done) | (refine ⟨[some 4], .tup [.sl 0 1 hs.length, I 0], [Di (eDs f ls hs hs.length)], ?_, ?_, ?_⟩; all_goals (repeat' (first | exact rfl | exact trivial | (with_reducible assumption) | refine And.intro ?_ ?_)); all_goals (first | omega | assumption); done) | (refine ⟨[some 5], .tup [.sl 0 1 hs.length, I 0], [Di (eDs f ls hs hs.length)], ?_, ?_, ?_⟩; all_goals (repeat' (first | exact rfl | exact trivial | (with_reducible assumption) | refine And.intro ?_ ?_)); all_goals (first | omega | assumption); done)) | trace_state
  · obtain ⟨h1, h2⟩ := x_no ho
    rw [xT, h1, h2]
    repeat' (first | (intro h; first | contradiction | omega | (conv => whnf) | skip) | (refine And.intro ?_ ?_) | (refine arith_ok ⟨by omega, by omega⟩ ?_) | (first | (refine draw_quiet hT mixed (by decide +kernel) ?_) | (refine draw_hard hT mixed (by decide +kernel) ?_)) | (refine Ret.goP (specPortfolio_ret f ls r hs hn hh) rfl ?_) | (refine Ret.goQP (specPortfolio_ret f ls r hs hn hh) rfl ?_))
    all_goals first | exact absurd (by assumption) ho | (refine ⟨[none], .tup [.sl 0 1 0, I 1], [Di []], ?_, ?_, ?_⟩; all_goals (repeat' (first | exact rfl | exact trivial | (with_reducible assumption) | refine And.intro ?_ ?_ | omega)))
end Go.Proofs.YtenofbabiacacaaGreat
