/-
  The laws on societies, claims of a year and expected deaths return true. No conditions but those in the statements.
-/
import Derived.Test.YtdplicfopocacaaSf
set_option linter.unusedVariables false
set_option linter.unusedSimpArgs false
namespace Go.Proofs.Ytdplicfopocacaa
open Go.AE

attribute [local irreducible] CallA LoopA DrawA CallQ arithK quoK remK eqK
attribute [local irreducible] xR xC yC cDt okF
set_option maxRecDepth 100000 in
theorem szSoc_ret (f : Int) (ls : List Int) (r : Int) (hs : List (List Int)) (d : Int) (hn : ls.length ≤ 9223372036854775807) (hm : hs.length ≤ 9223372036854775807) : Ret Try.prog G 6 [Soc f (Ri ls) r (Rh hs) d, I 1048576] (I (if (ls.length : Int) + hs.length ≤ 1048576 then 1048576 - ls.length - hs.length else -1)) := by
  refine ret_of_body hT Try.func6 rfl ?_ rfl
  have h1 := szBasis_ret f ls r 1048576 hn (by omega)
  by_cases hl : (ls.length : Int) ≤ 1048576
  · rw [if_pos hl] at h1
    have h2 := szHoldingS_ret hs (1048576 - ls.length) hm (by omega)
    by_cases hh : (ls.length : Int) + hs.length ≤ 1048576
    · rw [if_pos (by omega)] at h2
      rw [if_pos hh]
      repeat' (first | (intro h; first | contradiction | omega | (conv => whnf) | skip) | (refine And.intro ?_ ?_) | (refine arith_ok ⟨by omega, by omega⟩ ?_) | (first | (refine draw_quiet hT mixed (by decide +kernel) ?_) | (refine draw_hard hT mixed (by decide +kernel) ?_)) | (refine Ret.go (h1) rfl rfl ?_) | (refine Ret.goQ (h1) rfl rfl ?_) | (refine Ret.go (h2) rfl rfl ?_) | (refine Ret.goQ (h2) rfl rfl ?_))
      all_goals first | rfl | omega | trace_state
    · rw [if_neg (by omega)] at h2
      rw [if_neg hh]
      repeat' (first | (intro h; first | contradiction | omega | (conv => whnf) | skip) | (refine And.intro ?_ ?_) | (refine arith_ok ⟨by omega, by omega⟩ ?_) | (first | (refine draw_quiet hT mixed (by decide +kernel) ?_) | (refine draw_hard hT mixed (by decide +kernel) ?_)) | (refine Ret.go (h1) rfl rfl ?_) | (refine Ret.goQ (h1) rfl rfl ?_) | (refine Ret.go (h2) rfl rfl ?_) | (refine Ret.goQ (h2) rfl rfl ?_))
      all_goals first | rfl | omega | trace_state
  · rw [if_neg hl] at h1
    rw [if_neg (by omega)]
    repeat' (first | (intro h; first | contradiction | omega | (conv => whnf) | skip) | (refine And.intro ?_ ?_) | (refine arith_ok ⟨by omega, by omega⟩ ?_) | (first | (refine draw_quiet hT mixed (by decide +kernel) ?_) | (refine draw_hard hT mixed (by decide +kernel) ?_)) | (refine Ret.go (h1) rfl rfl ?_) | (refine Ret.goQ (h1) rfl rfl ?_))
    all_goals first | rfl | omega | trace_state
set_option maxRecDepth 100000 in
theorem lawSoc_ret (f : Int) (ls : List Int) (r : Int) (hs : List (List Int)) (d : Int) (hn : ls.length ≤ 9223372036854775807) (hm : hs.length ≤ 9223372036854775807) (hr : ∀ h ∈ hs, h.length = 7) : Ret Try.prog G 3 [Soc f (Ri ls) r (Rh hs) d] (Bo true) := by
  refine ret_of_body hT Try.func3 rfl ?_ rfl
  have hsz := szSoc_ret f ls r hs d hn hm
  by_cases hh : (ls.length : Int) + hs.length ≤ 1048576
  · rw [if_pos hh] at hsz
    have n1 : ls.length ≤ 1048576 := by omega
    have n2 : hs.length ≤ 1048576 := by omega
    repeat' (first | (intro h; first | contradiction | omega | (conv => whnf) | skip) | (refine And.intro ?_ ?_) | (refine arith_ok ⟨by omega, by omega⟩ ?_) | (refine draw_hard hT mixed (by decide +kernel) ?_) | (refine Ret.go (hsz) rfl rfl ?_) | (refine Ret.goQ (hsz) rfl rfl ?_) | (refine CallA.go [] (toSociety_call f ls r hs d n1 n2 hr) rfl (by first | ((repeat' (first | exact rfl | exact trivial | (with_reducible assumption) | refine And.intro ?_ ?_ | omega | assumption)); done) | fail) trivial ?_) | (refine Ret.useP (specSoc_ret f ls r hs d n1 n2) (by first | ((repeat' (first | exact rfl | exact trivial | (with_reducible assumption) | refine And.intro ?_ ?_ | omega | assumption)); done) | fail) ?_) | (refine Ret.useQP (specSoc_ret f ls r hs d n1 n2) (by first | ((repeat' (first | exact rfl | exact trivial | (with_reducible assumption) | refine And.intro ?_ ?_ | omega | assumption)); done) | fail) ?_) | (refine Ret.useP (implSoc_ret f ls r hs d n1 n2) (by first | ((repeat' (first | exact rfl | exact trivial | (with_reducible assumption) | refine And.intro ?_ ?_ | omega | assumption)); done) | fail) ?_) | (refine Ret.useQP (implSoc_ret f ls r hs d n1 n2) (by first | ((repeat' (first | exact rfl | exact trivial | (with_reducible assumption) | refine And.intro ?_ ?_ | omega | assumption)); done) | fail) ?_) | (refine Ret.use (eqSoc_ret f ls r hs d n1 n2 hr) (by first | ((repeat' (first | exact rfl | exact trivial | (with_reducible assumption) | refine And.intro ?_ ?_ | omega | assumption)); done) | fail) ?_) | (refine Ret.useQ (eqSoc_ret f ls r hs d n1 n2 hr) (by first | ((repeat' (first | exact rfl | exact trivial | (with_reducible assumption) | refine And.intro ?_ ?_ | omega | assumption)); done) | fail) rfl ?_))
    all_goals first | rfl | omega | contradiction | trace_state
  · rw [if_neg hh] at hsz
    repeat' (first | (intro h; first | contradiction | omega | (conv => whnf) | skip) | (refine And.intro ?_ ?_) | (refine arith_ok ⟨by omega, by omega⟩ ?_) | (first | (refine draw_quiet hT mixed (by decide +kernel) ?_) | (refine draw_hard hT mixed (by decide +kernel) ?_)) | (refine Ret.go (hsz) rfl rfl ?_) | (refine Ret.goQ (hsz) rfl rfl ?_))
    all_goals first | rfl | omega | trace_state
set_option maxRecDepth 100000 in
theorem lawYC_ret (f : Int) (ls : List Int) (r : Int) (hs : List (List Int)) (ds : List Int) (hn : ls.length ≤ 9223372036854775807) (hm : hs.length ≤ 9223372036854775807) (hd : ds.length ≤ 9223372036854775807) (hr : ∀ h ∈ hs, h.length = 7) : Ret Try.prog G 4 [Bs f ls r, Rh hs, Ri ds] (Bo true) := by
  refine ret_of_body hT Try.func4 rfl ?_ rfl
  by_cases n3 : ds.length ≤ 1048576
  · have h1 := szBasis_ret f ls r 1048576 hn (by omega)
    by_cases hl : (ls.length : Int) ≤ 1048576
    · rw [if_pos hl] at h1
      have h2 := szHoldingS_ret hs (1048576 - ls.length) hm (by omega)
      have n1 : ls.length ≤ 1048576 := by omega
      by_cases hh : (ls.length : Int) + hs.length ≤ 1048576
      · rw [if_pos (by omega)] at h2
        have n2 : hs.length ≤ 1048576 := by omega
        repeat' (first | (intro h; first | contradiction | omega | (conv => whnf) | skip) | (refine And.intro ?_ ?_) | (refine arith_ok ⟨by omega, by omega⟩ ?_) | (refine draw_hard hT mixed (by decide +kernel) ?_) | (refine Ret.go (h1) rfl rfl ?_) | (refine Ret.goQ (h1) rfl rfl ?_) | (refine Ret.go (h2) rfl rfl ?_) | (refine Ret.goQ (h2) rfl rfl ?_) | (refine CallA.go [] (toBasis_call f ls r n1) rfl (by first | ((repeat' (first | exact rfl | exact trivial | (with_reducible assumption) | refine And.intro ?_ ?_ | omega | assumption)); done) | fail) trivial ?_) | (refine CallA.go [] (toHoldingS_call hs n2 hr) rfl (by first | ((repeat' (first | exact rfl | exact trivial | (with_reducible assumption) | refine And.intro ?_ ?_ | omega | assumption)); done) | fail) trivial ?_) | (refine CallA.go [] (toInt64S_call ds n3) rfl (by first | ((repeat' (first | exact rfl | exact trivial | (with_reducible assumption) | refine And.intro ?_ ?_ | omega | assumption)); done) | fail) trivial ?_) | (refine Ret.use (specYC_ret f ls r hs ds n1 n2 n3) (by first | ((repeat' (first | exact rfl | exact trivial | (with_reducible assumption) | refine And.intro ?_ ?_ | omega | assumption)); done) | fail) ?_) | (refine Ret.useQ (specYC_ret f ls r hs ds n1 n2 n3) (by first | ((repeat' (first | exact rfl | exact trivial | (with_reducible assumption) | refine And.intro ?_ ?_ | omega | assumption)); done) | fail) rfl ?_) | (refine Ret.use (implYC_ret f ls r hs ds n1 n2 n3) (by first | ((repeat' (first | exact rfl | exact trivial | (with_reducible assumption) | refine And.intro ?_ ?_ | omega | assumption)); done) | fail) ?_) | (refine Ret.useQ (implYC_ret f ls r hs ds n1 n2 n3) (by first | ((repeat' (first | exact rfl | exact trivial | (with_reducible assumption) | refine And.intro ?_ ?_ | omega | assumption)); done) | fail) rfl ?_) | (refine Ret.use (eqBasis_ret f ls r n1) (by first | ((repeat' (first | exact rfl | exact trivial | (with_reducible assumption) | refine And.intro ?_ ?_ | omega | assumption)); done) | fail) ?_) | (refine Ret.useQ (eqBasis_ret f ls r n1) (by first | ((repeat' (first | exact rfl | exact trivial | (with_reducible assumption) | refine And.intro ?_ ?_ | omega | assumption)); done) | fail) rfl ?_) | (refine Ret.useP (eqHoldingS_ret hs hs (by omega) hr hr) (by first | ((repeat' (first | exact rfl | exact trivial | (with_reducible assumption) | refine And.intro ?_ ?_ | omega | assumption)); done) | fail) ?_) | (refine Ret.useQP (eqHoldingS_ret hs hs (by omega) hr hr) (by first | ((repeat' (first | exact rfl | exact trivial | (with_reducible assumption) | refine And.intro ?_ ?_ | omega | assumption)); done) | fail) ?_) | (refine Ret.useP (eqInt64S_ret ds ds (by omega)) (by first | ((repeat' (first | exact rfl | exact trivial | (with_reducible assumption) | refine And.intro ?_ ?_ | omega | assumption)); done) | fail) ?_) | (refine Ret.useQP (eqInt64S_ret ds ds (by omega)) (by first | ((repeat' (first | exact rfl | exact trivial | (with_reducible assumption) | refine And.intro ?_ ?_ | omega | assumption)); done) | fail) ?_))
        all_goals first | rfl | omega | contradiction | trace_state
      · rw [if_neg (by omega)] at h2
        repeat' (first | (intro h; first | contradiction | omega | (conv => whnf) | skip) | (refine And.intro ?_ ?_) | (refine arith_ok ⟨by omega, by omega⟩ ?_) | (first | (refine draw_quiet hT mixed (by decide +kernel) ?_) | (refine draw_hard hT mixed (by decide +kernel) ?_)) | (refine Ret.go (h1) rfl rfl ?_) | (refine Ret.goQ (h1) rfl rfl ?_) | (refine Ret.go (h2) rfl rfl ?_) | (refine Ret.goQ (h2) rfl rfl ?_))
        all_goals first | rfl | omega | trace_state
    · rw [if_neg hl] at h1
      repeat' (first | (intro h; first | contradiction | omega | (conv => whnf) | skip) | (refine And.intro ?_ ?_) | (refine arith_ok ⟨by omega, by omega⟩ ?_) | (first | (refine draw_quiet hT mixed (by decide +kernel) ?_) | (refine draw_hard hT mixed (by decide +kernel) ?_)) | (refine Ret.go (h1) rfl rfl ?_) | (refine Ret.goQ (h1) rfl rfl ?_))
      all_goals first | rfl | omega | trace_state
  · repeat' (first | (intro h; first | contradiction | omega | (conv => whnf) | skip) | (refine And.intro ?_ ?_) | (refine arith_ok ⟨by omega, by omega⟩ ?_) | (first | (refine draw_quiet hT mixed (by decide +kernel) ?_) | (refine draw_hard hT mixed (by decide +kernel) ?_)) | fail)
    all_goals first | rfl | omega | trace_state
set_option maxHeartbeats 4000000 in
set_option maxRecDepth 100000 in
theorem lawX_ret (f : Int) (ls : List Int) (r : Int) (hs : List (List Int)) (hn : ls.length ≤ 9223372036854775807) (hm : hs.length ≤ 9223372036854775807) (hr : ∀ h ∈ hs, h.length = 7) : Ret Try.prog G 5 [Bs f ls r, Rh hs] (Bo true) := by
  refine ret_of_body hT Try.func5 rfl ?_ rfl
  have h1 := szBasis_ret f ls r 1048576 hn (by omega)
  by_cases hl : (ls.length : Int) ≤ 1048576
  · rw [if_pos hl] at h1
    have h2 := szHoldingS_ret hs (1048576 - ls.length) hm (by omega)
    have n1 : ls.length ≤ 1048576 := by omega
    by_cases hh : (ls.length : Int) + hs.length ≤ 1048576
    · rw [if_pos (by omega)] at h2
      have n2 : hs.length ≤ 1048576 := by omega
      have hxl : (xR f ls r hs).length ≤ 30 := x_len
      have hml : (xR f ls r hs).length = (D.ints .i64 (marks (xR f ls r hs).length 1)).len := (marks_len _ _).symm
      repeat' (first | (intro h; first | contradiction | omega | (conv => whnf) | skip) | (refine And.intro ?_ ?_) | (refine arith_ok ⟨by omega, by omega⟩ ?_) | (refine draw_hard hT mixed (by decide +kernel) ?_) | (refine Ret.go (h1) rfl rfl ?_) | (refine Ret.goQ (h1) rfl rfl ?_) | (refine Ret.go (h2) rfl rfl ?_) | (refine Ret.goQ (h2) rfl rfl ?_) | (refine CallA.go [] (toBasis_call f ls r n1) rfl (by first | ((repeat' (first | exact rfl | exact trivial | (with_reducible assumption) | refine And.intro ?_ ?_ | omega | assumption)); done) | fail) trivial ?_) | (refine CallA.go [] (toHoldingS_call hs n2 hr) rfl (by first | ((repeat' (first | exact rfl | exact trivial | (with_reducible assumption) | refine And.intro ?_ ?_ | omega | assumption)); done) | fail) trivial ?_) | (refine CallA.go [] (specX_call f ls r hs n1 n2) rfl (by first | ((repeat' (first | exact rfl | exact trivial | (with_reducible assumption) | refine And.intro ?_ ?_ | omega | assumption)); done) | fail) trivial ?_) | (refine CallA.go [] (implX_call f ls r hs n1 n2) rfl (by first | ((repeat' (first | exact rfl | exact trivial | (with_reducible assumption) | refine And.intro ?_ ?_ | omega | assumption)); done) | fail) trivial ?_) | (refine Ret.use (eqBasis_ret f ls r n1) (by first | ((repeat' (first | exact rfl | exact trivial | (with_reducible assumption) | refine And.intro ?_ ?_ | omega | assumption)); done) | fail) ?_) | (refine Ret.useQ (eqBasis_ret f ls r n1) (by first | ((repeat' (first | exact rfl | exact trivial | (with_reducible assumption) | refine And.intro ?_ ?_ | omega | assumption)); done) | fail) rfl ?_) | (refine Ret.useP (eqHoldingS_ret hs hs (by omega) hr hr) (by first | ((repeat' (first | exact rfl | exact trivial | (with_reducible assumption) | refine And.intro ?_ ?_ | omega | assumption)); done) | fail) ?_) | (refine Ret.useQP (eqHoldingS_ret hs hs (by omega) hr hr) (by first | ((repeat' (first | exact rfl | exact trivial | (with_reducible assumption) | refine And.intro ?_ ?_ | omega | assumption)); done) | fail) ?_) | (refine Ret.useP (eqInt64S_ret (xR f ls r hs) (xR f ls r hs) (by omega)) (by first | ((repeat' (first | exact rfl | exact trivial | (with_reducible assumption) | refine And.intro ?_ ?_ | omega | assumption)); done) | fail) ?_) | (refine Ret.useQP (eqInt64S_ret (xR f ls r hs) (xR f ls r hs) (by omega)) (by first | ((repeat' (first | exact rfl | exact trivial | (with_reducible assumption) | refine And.intro ?_ ?_ | omega | assumption)); done) | fail) ?_) | (refine CallA.go [4] (markBasis_call f ls r 1 n1 (by omega)) rfl (by first | ((repeat' (first | exact rfl | exact trivial | (with_reducible assumption) | refine And.intro ?_ ?_ | omega | assumption)); done) | fail) (by first | ((repeat' (first | exact rfl | exact trivial | (with_reducible assumption) | refine And.intro ?_ ?_ | omega | assumption)); done) | fail) ?_) | (refine CallA.go [6] (markHoldingS_call hs (1 + ls.length) n2 (by omega) hr) rfl (by first | ((repeat' (first | exact rfl | exact trivial | (with_reducible assumption) | refine And.intro ?_ ?_ | omega | assumption)); done) | fail) (by first | ((repeat' (first | exact rfl | exact trivial | (with_reducible assumption) | refine And.intro ?_ ?_ | omega | assumption)); done) | fail) ?_) | (refine CallA.go [7] (markInt64S_call (xR f ls r hs) 1 (by omega) (by omega)) rfl (by first | ((repeat' (first | exact rfl | exact trivial | (with_reducible assumption) | refine And.intro ?_ ?_ | omega | assumption)); done) | fail) (by first | ((repeat' (first | exact rfl | exact trivial | (with_reducible assumption) | refine And.intro ?_ ?_ | omega | assumption)); done) | fail) ?_) | (refine Ret.use (heldInt64S_ret (xR f ls r hs).length 1 (by omega) (by omega)) (by first | ((repeat' (first | exact rfl | exact trivial | (with_reducible assumption) | refine And.intro ?_ ?_ | omega | assumption)); done) | fail) ?_) | (refine Ret.useQ (heldInt64S_ret (xR f ls r hs).length 1 (by omega) (by omega)) (by first | ((repeat' (first | exact rfl | exact trivial | (with_reducible assumption) | refine And.intro ?_ ?_ | omega | assumption)); done) | fail) rfl ?_))
      all_goals first | rfl | omega | contradiction | trace_state
    · rw [if_neg (by omega)] at h2
      repeat' (first | (intro h; first | contradiction | omega | (conv => whnf) | skip) | (refine And.intro ?_ ?_) | (refine arith_ok ⟨by omega, by omega⟩ ?_) | (first | (refine draw_quiet hT mixed (by decide +kernel) ?_) | (refine draw_hard hT mixed (by decide +kernel) ?_)) | (refine Ret.go (h1) rfl rfl ?_) | (refine Ret.goQ (h1) rfl rfl ?_) | (refine Ret.go (h2) rfl rfl ?_) | (refine Ret.goQ (h2) rfl rfl ?_))
      all_goals first | rfl | omega | trace_state
  · rw [if_neg hl] at h1
    repeat' (first | (intro h; first | contradiction | omega | (conv => whnf) | skip) | (refine And.intro ?_ ?_) | (refine arith_ok ⟨by omega, by omega⟩ ?_) | (first | (refine draw_quiet hT mixed (by decide +kernel) ?_) | (refine draw_hard hT mixed (by decide +kernel) ?_)) | (refine Ret.go (h1) rfl rfl ?_) | (refine Ret.goQ (h1) rfl rfl ?_))
    all_goals first | rfl | omega | trace_state
end Go.Proofs.Ytdplicfopocacaa
