/-
  Reserves' parts and portfolios: what the functions return. No conditions but those in the statements.
-/
import Derived.Test.YtenofbabiacacaaGreatSc
set_option linter.unusedVariables false
set_option linter.unusedSimpArgs false
namespace Go.Proofs.YtenofbabiacacaaGreat
open Go.AE

attribute [local irreducible] CallA LoopA DrawA CallQ arithK quoK remK eqK
attribute [local irreducible] cols cN cM cD cC
theorem notd_true {p : Prop} [Decidable p] (h : (!decide p) = true) : ¬ p := by simpa using h
theorem notd_false {p : Prop} [Decidable p] (h : (!decide p) = false) : p := by simpa using h
def dur (f : Int) (ls : List Int) (k a y : Int) : Int := if k = 0 then f + ls.length - 1 - a else y
theorem dur_bd {f : Int} {ls : List Int} {r k a y s l : Int} (h : okP f ls r k a y s l) : a + dur f ls k a y ≤ 150 ∧ 0 ≤ a ∧ f ≤ a ∧ f ≤ 100 ∧ -200 ≤ dur f ls k a y := by
  have h0 := h.1.1.1
  have h1 := h.2.1
  unfold hdT at h0
  unfold okA at h1
  unfold dur
  split <;> omega
set_option maxRecDepth 100000 in
theorem implDur_ret (f : Int) (ls : List Int) (r k a y s l : Int) (ho : okP f ls r k a y s l) : Ret Tryz.prog G 127 [Bs f ls r, Po k a y s l] (I (dur f ls k a y)) := by
  refine ret_of_body hT Tryz.func127 rfl ?_ rfl
  have h0 := ho.1.1.1
  have h1 := ho.2.1
  unfold hdT at h0
  unfold okA at h1
  by_cases hk : k = 0
  · rw [show dur f ls k a y = f + ls.length - 1 - a from if_pos hk]
    repeat' (first | (intro h; first | contradiction | omega | (conv => whnf) | skip) | (refine And.intro ?_ ?_) | (refine arith_ok ⟨by omega, by omega⟩ ?_) | (first | (refine draw_quiet hT mixed (by decide +kernel) ?_) | (refine draw_hard hT mixed (by decide +kernel) ?_)) | (refine Ret.go (implEnd_ret f ls ho.1.1) rfl rfl ?_) | (refine Ret.goQ (implEnd_ret f ls ho.1.1) rfl rfl ?_))
    all_goals first | rfl | omega | trace_state
  · rw [show dur f ls k a y = y from if_neg hk]
    repeat' (first | (intro h; first | contradiction | omega | (conv => whnf) | skip) | (refine And.intro ?_ ?_) | (refine arith_ok ⟨by omega, by omega⟩ ?_) | (first | (refine draw_quiet hT mixed (by decide +kernel) ?_) | (refine draw_hard hT mixed (by decide +kernel) ?_)) | fail)
    all_goals first | rfl | omega | trace_state
set_option maxRecDepth 100000 in
theorem specDur_ret (f : Int) (ls : List Int) (r k a y s l : Int) (ho : okP f ls r k a y s l) : Ret Tryz.prog G 145 [Bs f ls r, Po k a y s l] (I (dur f ls k a y)) := by
  refine ret_of_body hT Tryz.func145 rfl ?_ rfl
  have h0 := ho.1.1.1
  have h1 := ho.2.1
  unfold hdT at h0
  unfold okA at h1
  by_cases hk : k = 0
  · rw [show dur f ls k a y = f + ls.length - 1 - a from if_pos hk]
    repeat' (first | (intro h; first | contradiction | omega | (conv => whnf) | skip) | (refine And.intro ?_ ?_) | (refine arith_ok ⟨by omega, by omega⟩ ?_) | (first | (refine draw_quiet hT mixed (by decide +kernel) ?_) | (refine draw_hard hT mixed (by decide +kernel) ?_)) | (refine Ret.go (specEnd_ret f ls ho.1.1) rfl rfl ?_) | (refine Ret.goQ (specEnd_ret f ls ho.1.1) rfl rfl ?_))
    all_goals first | rfl | omega | trace_state
  · rw [show dur f ls k a y = y from if_neg hk]
    repeat' (first | (intro h; first | contradiction | omega | (conv => whnf) | skip) | (refine And.intro ?_ ?_) | (refine arith_ok ⟨by omega, by omega⟩ ?_) | (first | (refine draw_quiet hT mixed (by decide +kernel) ?_) | (refine draw_hard hT mixed (by decide +kernel) ?_)) | fail)
    all_goals first | rfl | omega | trace_state
def top (k m m2 d2 : Int) : Int := if k = 0 then m else if k = 1 then m - m2 else if k = 2 then m - m2 + d2 else d2
def base (k n n2 : Int) : Int := if k = 0 then n else n - n2
abbrev inC (x : Int) : Prop := 0 ≤ x ∧ x ≤ 1000000000000000000
set_option maxRecDepth 100000 in
theorem benefits_ret (k d n c m d2 n2 c2 m2 : Int) (h1 : inC n ∧ inC m) (h2 : inC n2 ∧ inC m2 ∧ inC d2) : Ret Tryz.prog G 183 [I k, .agg [I d, I n, I c, I m], .agg [I d2, I n2, I c2, I m2]] (.tup [I (top k m m2 d2), I (base k n n2)]) := by
  refine ret_of_body hT Tryz.func183 rfl ?_ rfl
  unfold top base
  by_cases hk : k = 0
  · rw [if_pos hk, if_pos hk]
    repeat' (first | (intro h; first | contradiction | omega | (conv => whnf) | skip) | (refine And.intro ?_ ?_) | (refine arith_ok ⟨by omega, by omega⟩ ?_) | (first | (refine draw_quiet hT mixed (by decide +kernel) ?_) | (refine draw_hard hT mixed (by decide +kernel) ?_)) | fail)
    all_goals first | rfl | omega | trace_state
  · rw [if_neg hk, if_neg hk]
    by_cases hk1 : k = 1
    · rw [if_pos hk1]
      repeat' (first | (intro h; first | contradiction | omega | (conv => whnf) | skip) | (refine And.intro ?_ ?_) | (refine arith_ok ⟨by omega, by omega⟩ ?_) | (first | (refine draw_quiet hT mixed (by decide +kernel) ?_) | (refine draw_hard hT mixed (by decide +kernel) ?_)) | fail)
      all_goals first | rfl | omega | trace_state
    · rw [if_neg hk1]
      by_cases hk2 : k = 2
      · rw [if_pos hk2]
        repeat' (first | (intro h; first | contradiction | omega | (conv => whnf) | skip) | (refine And.intro ?_ ?_) | (refine arith_ok ⟨by omega, by omega⟩ ?_) | (first | (refine draw_quiet hT mixed (by decide +kernel) ?_) | (refine draw_hard hT mixed (by decide +kernel) ?_)) | fail)
        all_goals first | rfl | omega | trace_state
      · rw [if_neg hk2]
        repeat' (first | (intro h; first | contradiction | omega | (conv => whnf) | skip) | (refine And.intro ?_ ?_) | (refine arith_ok ⟨by omega, by omega⟩ ?_) | (first | (refine draw_quiet hT mixed (by decide +kernel) ?_) | (refine draw_hard hT mixed (by decide +kernel) ?_)) | fail)
        all_goals first | rfl | omega | trace_state
def pTop (f : Int) (ls : List Int) (r k a y q : Int) : Int := top k (cM f ls r (a + q)) (cM f ls r (a + y)) (cD f ls r (a + y))
def pBase (f : Int) (ls : List Int) (r k a y q : Int) : Int := base k (cN f ls r (a + q)) (cN f ls r (a + y))
theorem inC_all {f : Int} {ls : List Int} {r : Int} (ho : okB f ls r) {x : Int} (hx : f ≤ x) : inC (cN f ls r x) ∧ inC (cM f ls r x) ∧ inC (cD f ls r x) := by
  have h0 := ho.1.1
  unfold hdT at h0
  have h1 := cN_bd ho.1 ho.2 (x := x) (by omega)
  have h2 := cM_bd ho.1 ho.2 (x := x) (by omega) hx
  have h3 := cD_bd ho.1 ho.2 x
  exact ⟨⟨h1.1, by omega⟩, ⟨h2.1, by omega⟩, ⟨h3.1, by omega⟩⟩
set_option maxHeartbeats 4000000 in
set_option maxRecDepth 100000 in
theorem partsAt_ret (f : Int) (ls : List Int) (r k a y s l q : Int) (ho : okP f ls r k a y s l) (hq : 0 ≤ q ∧ q ≤ dur f ls k a y) : Ret Tryz.prog G 150 [Bs f ls r, Po k a y s l, Rc (cols f ls r), I q] (.agg [I (pTop f ls r k a y q), I (pBase f ls r k a y q), I (cD f ls r (a + q))]) := by
  refine ret_of_body hT Tryz.func150 rfl ?_ rfl
  have h0 := ho.1.1.1
  have h1 := ho.2.1
  have hdb := dur_bd ho
  unfold hdT at h0
  unfold okA at h1
  have c1 := inC_all ho.1 (x := a + q) (by omega)
  have c2 := inC_all ho.1 (x := a + y) (by omega)
  have z : inC 0 := ⟨Int.le_refl _, by decide⟩
  by_cases hk : k = 0
  · have e1 : pTop f ls r k a y q = top k (cM f ls r (a + q)) 0 0 := by unfold pTop top; rw [if_pos hk, if_pos hk]
    have e2 : pBase f ls r k a y q = base k (cN f ls r (a + q)) 0 := by unfold pBase base; rw [if_pos hk, if_pos hk]
    rw [e1, e2]
    repeat' (first | (intro h; first | contradiction | omega | (conv => whnf) | skip) | (refine And.intro ?_ ?_) | (refine arith_ok ⟨by omega, by omega⟩ ?_) | (first | (refine draw_quiet hT mixed (by decide +kernel) ?_) | (refine draw_hard hT mixed (by decide +kernel) ?_)) | (refine Ret.go (at_ret f ls r _ ho.1.1 (by omega)) rfl rfl ?_) | (refine Ret.goQ (at_ret f ls r _ ho.1.1 (by omega)) rfl rfl ?_) | (refine Ret.go (benefits_ret k _ _ _ _ _ _ _ _ ⟨c1.1, c1.2.1⟩ ⟨z, z, z⟩) rfl rfl ?_) | (refine Ret.goQ (benefits_ret k _ _ _ _ _ _ _ _ ⟨c1.1, c1.2.1⟩ ⟨z, z, z⟩) rfl rfl ?_))
    all_goals first | rfl | omega | trace_state
  · repeat' (first | (intro h; first | contradiction | omega | (conv => whnf) | skip) | (refine And.intro ?_ ?_) | (refine arith_ok ⟨by omega, by omega⟩ ?_) | (first | (refine draw_quiet hT mixed (by decide +kernel) ?_) | (refine draw_hard hT mixed (by decide +kernel) ?_)) | (refine Ret.go (at_ret f ls r _ ho.1.1 (by omega)) rfl rfl ?_) | (refine Ret.goQ (at_ret f ls r _ ho.1.1 (by omega)) rfl rfl ?_) | (refine Ret.go (benefits_ret k _ _ _ _ _ _ _ _ ⟨c1.1, c1.2.1⟩ c2) rfl rfl ?_) | (refine Ret.goQ (benefits_ret k _ _ _ _ _ _ _ _ ⟨c1.1, c1.2.1⟩ c2) rfl rfl ?_))
    all_goals first | rfl | omega | trace_state
attribute [local irreducible] dur pTop pBase
def hOk (f : Int) (ls : List Int) (r k a y s l q : Int) : Prop := okP f ls r k a y s l ∧ (0 ≤ q ∧ q ≤ dur f ls k a y - 1) ∧ cD f ls r (a + q) ≠ 0
noncomputable instance (f : Int) (ls : List Int) (r k a y s l q : Int) : Decidable (hOk f ls r k a y s l q) := Classical.propDecidable _
noncomputable def cR (f : Int) (ls : List Int) (r k a y s l q : Int) : Int := if okP f ls r k a y s l then (if 0 ≤ q ∧ q ≤ dur f ls k a y - 1 then (if cD f ls r (a + q) = 0 then 5 else 0) else 2) else 1
theorem cR_ok {f : Int} {ls : List Int} {r k a y s l q : Int} (h : hOk f ls r k a y s l q) : cR f ls r k a y s l q = 0 := by
  unfold cR
  rw [if_pos h.1, if_pos h.2.1, if_neg h.2.2]
theorem cR_bad {f : Int} {ls : List Int} {r k a y s l q : Int} (h : ¬ hOk f ls r k a y s l q) : cR f ls r k a y s l q ≠ 0 := by
  unfold cR
  split
  · rename_i h1
    split
    · rename_i h2
      split
      · decide
      · rename_i h3
        exact absurd ⟨h1, h2, h3⟩ h
    · decide
  · decide
set_option maxRecDepth 100000 in
theorem spec11_ret (f : Int) (ls : List Int) (r k a y s l q : Int) (hn : ls.length ≤ 1048576) : Ret Tryz.prog G 111 [Bs f ls r, Po k a y s l, I q] (I (cR f ls r k a y s l q)) := by
  refine ret_of_body hT Tryz.func111 rfl ?_ rfl
  unfold cR
  by_cases ho : okP f ls r k a y s l
  · rw [if_pos ho]
    have hdb := dur_bd ho
    by_cases hq : 0 ≤ q ∧ q ≤ dur f ls k a y - 1
    · rw [if_pos hq]
      by_cases hd : cD f ls r (a + q) = 0
      · rw [if_pos hd]
        repeat' (first | (intro h; first | contradiction | omega | (conv => whnf) | skip) | (refine And.intro ?_ ?_) | (refine arith_ok ⟨by omega, by omega⟩ ?_) | (first | (refine draw_quiet hT mixed (by decide +kernel) ?_) | (refine draw_hard hT mixed (by decide +kernel) ?_)) | (refine Ret.goP (specPolicy_ret f ls r k a y s l hn) rfl ?_) | (refine Ret.goQP (specPolicy_ret f ls r k a y s l hn) rfl ?_) | (refine Ret.go (specDur_ret f ls r k a y s l ho) rfl rfl ?_) | (refine Ret.goQ (specDur_ret f ls r k a y s l ho) rfl rfl ?_) | (refine Ret.goP (l01In_ret _ _ _) rfl ?_) | (refine Ret.goQP (l01In_ret _ _ _) rfl ?_) | (refine Ret.go (specD_ret f ls r _ ho.1.1 ho.1.2 (by omega)) rfl rfl ?_) | (refine Ret.goQ (specD_ret f ls r _ ho.1.1 ho.1.2 (by omega)) rfl rfl ?_))
        all_goals first | rfl | omega | exact absurd ho (by assumption) | trace_state
      · rw [if_neg hd]
        repeat' (first | (intro h; first | contradiction | omega | (conv => whnf) | skip) | (refine And.intro ?_ ?_) | (refine arith_ok ⟨by omega, by omega⟩ ?_) | (first | (refine draw_quiet hT mixed (by decide +kernel) ?_) | (refine draw_hard hT mixed (by decide +kernel) ?_)) | (refine Ret.goP (specPolicy_ret f ls r k a y s l hn) rfl ?_) | (refine Ret.goQP (specPolicy_ret f ls r k a y s l hn) rfl ?_) | (refine Ret.go (specDur_ret f ls r k a y s l ho) rfl rfl ?_) | (refine Ret.goQ (specDur_ret f ls r k a y s l ho) rfl rfl ?_) | (refine Ret.goP (l01In_ret _ _ _) rfl ?_) | (refine Ret.goQP (l01In_ret _ _ _) rfl ?_) | (refine Ret.go (specD_ret f ls r _ ho.1.1 ho.1.2 (by omega)) rfl rfl ?_) | (refine Ret.goQ (specD_ret f ls r _ ho.1.1 ho.1.2 (by omega)) rfl rfl ?_))
        all_goals first | rfl | omega | exact absurd ho (by assumption) | trace_state
    · rw [if_neg hq]
      repeat' (first | (intro h; first | contradiction | omega | (conv => whnf) | skip) | (refine And.intro ?_ ?_) | (refine arith_ok ⟨by omega, by omega⟩ ?_) | (first | (refine draw_quiet hT mixed (by decide +kernel) ?_) | (refine draw_hard hT mixed (by decide +kernel) ?_)) | (refine Ret.goP (specPolicy_ret f ls r k a y s l hn) rfl ?_) | (refine Ret.goQP (specPolicy_ret f ls r k a y s l hn) rfl ?_) | (refine Ret.go (specDur_ret f ls r k a y s l ho) rfl rfl ?_) | (refine Ret.goQ (specDur_ret f ls r k a y s l ho) rfl rfl ?_) | (refine Ret.goP (l01In_ret _ _ _) rfl ?_) | (refine Ret.goQP (l01In_ret _ _ _) rfl ?_))
      all_goals first | rfl | omega | exact absurd ho (by assumption) | trace_state
  · rw [if_neg ho]
    repeat' (first | (intro h; first | contradiction | omega | (conv => whnf) | skip) | (refine And.intro ?_ ?_) | (refine arith_ok ⟨by omega, by omega⟩ ?_) | (first | (refine draw_quiet hT mixed (by decide +kernel) ?_) | (refine draw_hard hT mixed (by decide +kernel) ?_)) | (refine Ret.goP (specPolicy_ret f ls r k a y s l hn) rfl ?_) | (refine Ret.goQP (specPolicy_ret f ls r k a y s l hn) rfl ?_))
    all_goals first | rfl | omega | exact absurd (by assumption) ho | trace_state
set_option maxHeartbeats 4000000 in
set_option maxRecDepth 100000 in
theorem check_ok (f : Int) (ls : List Int) (r k a y s l q : Int) (hn : ls.length ≤ 1048576) (hh : hOk f ls r k a y s l q) : Ret Tryz.prog G 108 [Bs f ls r, Po k a y s l, I q] (.tup [.agg [I (pTop f ls r k a y q), I (pBase f ls r k a y q), I (cD f ls r (a + q))], I 0]) := by
  refine ret_of_body hT Tryz.func108 rfl ?_ rfl
  obtain ⟨ho, hq, hd⟩ := hh
  have hdb := dur_bd ho
  repeat' (first | (intro h; first | contradiction | omega | (conv => whnf) | skip) | (refine And.intro ?_ ?_) | (refine arith_ok ⟨by omega, by omega⟩ ?_) | (refine draw_hard hT mixed (by decide +kernel) ?_) | (refine Ret.goP (implPolicy_ret f ls r k a y s l hn) rfl ?_) | (refine Ret.goQP (implPolicy_ret f ls r k a y s l hn) rfl ?_) | (refine Ret.go (implDur_ret f ls r k a y s l ho) rfl rfl ?_) | (refine Ret.goQ (implDur_ret f ls r k a y s l ho) rfl rfl ?_) | (refine Ret.goP (inRange_ret _ _ _) rfl ?_) | (refine Ret.goQP (inRange_ret _ _ _) rfl ?_) | (refine Ret.go (partsAt_ret f ls r k a y s l q ho (by omega)) rfl rfl ?_) | (refine Ret.goQ (partsAt_ret f ls r k a y s l q ho (by omega)) rfl rfl ?_) | (refine CallA.go0 [] (columns_ro f ls r ho.1.1 ho.1.2) rfl (by first | ((repeat' (first | exact rfl | exact trivial | (with_reducible assumption) | refine And.intro ?_ ?_ | omega | assumption)); done) | fail) trivial ?_))
  all_goals first | rfl | omega | exact absurd ho (by assumption) | trace_state
set_option maxHeartbeats 4000000 in
set_option maxRecDepth 100000 in
theorem check_bad (f : Int) (ls : List Int) (r k a y s l q : Int) (hn : ls.length ≤ 1048576) (hh : ¬ hOk f ls r k a y s l q) : Ret Tryz.prog G 108 [Bs f ls r, Po k a y s l, I q] (.tup [.agg [I 0, I 0, I 0], I (cR f ls r k a y s l q)]) := by
  refine ret_of_body hT Tryz.func108 rfl ?_ rfl
  unfold cR
  by_cases ho : okP f ls r k a y s l
  · rw [if_pos ho]
    have hdb := dur_bd ho
    by_cases hq : 0 ≤ q ∧ q ≤ dur f ls k a y - 1
    · rw [if_pos hq]
      by_cases hd : cD f ls r (a + q) = 0
      · rw [if_pos hd]
        repeat' (first | (intro h; first | contradiction | omega | (conv => whnf) | skip) | (refine And.intro ?_ ?_) | (refine arith_ok ⟨by omega, by omega⟩ ?_) | (refine draw_hard hT mixed (by decide +kernel) ?_) | (refine Ret.goP (implPolicy_ret f ls r k a y s l hn) rfl ?_) | (refine Ret.goQP (implPolicy_ret f ls r k a y s l hn) rfl ?_) | (refine Ret.go (implDur_ret f ls r k a y s l ho) rfl rfl ?_) | (refine Ret.goQ (implDur_ret f ls r k a y s l ho) rfl rfl ?_) | (refine Ret.goP (inRange_ret _ _ _) rfl ?_) | (refine Ret.goQP (inRange_ret _ _ _) rfl ?_) | (refine Ret.go (partsAt_ret f ls r k a y s l q ho (by omega)) rfl rfl ?_) | (refine Ret.goQ (partsAt_ret f ls r k a y s l q ho (by omega)) rfl rfl ?_) | (refine CallA.go0 [] (columns_ro f ls r ho.1.1 ho.1.2) rfl (by first | ((repeat' (first | exact rfl | exact trivial | (with_reducible assumption) | refine And.intro ?_ ?_ | omega | assumption)); done) | fail) trivial ?_))
        all_goals first | rfl | omega | exact absurd ho (by assumption) | trace_state
      · exact absurd ⟨ho, hq, hd⟩ hh
    · rw [if_neg hq]
      repeat' (first | (intro h; first | contradiction | omega | (conv => whnf) | skip) | (refine And.intro ?_ ?_) | (refine arith_ok ⟨by omega, by omega⟩ ?_) | (refine draw_hard hT mixed (by decide +kernel) ?_) | (refine Ret.goP (implPolicy_ret f ls r k a y s l hn) rfl ?_) | (refine Ret.goQP (implPolicy_ret f ls r k a y s l hn) rfl ?_) | (refine Ret.go (implDur_ret f ls r k a y s l ho) rfl rfl ?_) | (refine Ret.goQ (implDur_ret f ls r k a y s l ho) rfl rfl ?_) | (refine Ret.goP (inRange_ret _ _ _) rfl ?_) | (refine Ret.goQP (inRange_ret _ _ _) rfl ?_))
      all_goals first | rfl | omega | exact absurd ho (by assumption) | trace_state
  · rw [if_neg ho]
    repeat' (first | (intro h; first | contradiction | omega | (conv => whnf) | skip) | (refine And.intro ?_ ?_) | (refine arith_ok ⟨by omega, by omega⟩ ?_) | (refine draw_hard hT mixed (by decide +kernel) ?_) | (refine Ret.goP (implPolicy_ret f ls r k a y s l hn) rfl ?_) | (refine Ret.goQP (implPolicy_ret f ls r k a y s l hn) rfl ?_))
    all_goals first | rfl | omega | exact absurd (by assumption) ho | trace_state
/-! Holdings -/
abbrev WH (h : List Int) : AV := .agg [I (h.getD 0 0), I (h.getD 1 0), I (h.getD 2 0), I (h.getD 3 0), I (h.getD 4 0), I (h.getD 5 0), I (h.getD 6 0)]
abbrev Rh (hs : List (List Int)) : AV := .ro (.recs 7 hs)
abbrev Dh (hs : List (List Int)) : Blk := .data (.recs 7 hs)
def hP (f : Int) (ls : List Int) (r : Int) (h : List Int) : Prop := hOk f ls r (h.getD 0 0) (h.getD 1 0) (h.getD 2 0) (h.getD 3 0) (h.getD 4 0) (h.getD 5 0)
def okH (f : Int) (ls : List Int) (r : Int) (h : List Int) : Prop := hP f ls r h ∧ 0 ≤ h.getD 6 0 ∧ h.getD 6 0 ≤ 1000000
noncomputable instance (f : Int) (ls : List Int) (r : Int) (h : List Int) : Decidable (okH f ls r h) := Classical.propDecidable _
def okF (f : Int) (ls : List Int) (r : Int) (hs : List (List Int)) : Prop := okB f ls r ∧ hs.length ≤ 30 ∧ ∀ h ∈ hs, okH f ls r h
noncomputable instance (f : Int) (ls : List Int) (r : Int) (hs : List (List Int)) : Decidable (okF f ls r hs) := Classical.propDecidable _
set_option maxRecDepth 100000 in
theorem isHolding_ret (f : Int) (ls : List Int) (r : Int) (h : List Int) (hn : ls.length ≤ 1048576) : Ret Tryz.prog G 140 [Bs f ls r, WH h] (Bo (decide (okH f ls r h))) := by
  refine ret_of_body hT Tryz.func140 rfl ?_ rfl
  by_cases hh : hP f ls r h
  · have hc := check_ok f ls r (h.getD 0 0) (h.getD 1 0) (h.getD 2 0) (h.getD 3 0) (h.getD 4 0) (h.getD 5 0) hn hh
    repeat' (first | (intro h; first | contradiction | omega | (conv => whnf) | skip) | (refine And.intro ?_ ?_) | (refine arith_ok ⟨by omega, by omega⟩ ?_) | (first | (refine draw_quiet hT mixed (by decide +kernel) ?_) | (refine draw_hard hT mixed (by decide +kernel) ?_)) | (refine Ret.go (hc) rfl rfl ?_) | (refine Ret.goQ (hc) rfl rfl ?_) | (refine Ret.goP (inRange_ret _ _ _) rfl ?_) | (refine Ret.goQP (inRange_ret _ _ _) rfl ?_))
    all_goals first | omega | exact bv_true ⟨hh, by assumption⟩ | (exact bv_false fun ho => absurd ho.2 (by assumption)) | trace_state
  · have hc := check_bad f ls r (h.getD 0 0) (h.getD 1 0) (h.getD 2 0) (h.getD 3 0) (h.getD 4 0) (h.getD 5 0) hn hh
    have hz := cR_bad hh
    repeat' (first | (intro h; first | contradiction | omega | (conv => whnf) | skip) | (refine And.intro ?_ ?_) | (refine arith_ok ⟨by omega, by omega⟩ ?_) | (first | (refine draw_quiet hT mixed (by decide +kernel) ?_) | (refine draw_hard hT mixed (by decide +kernel) ?_)) | (refine Ret.go (hc) rfl rfl ?_) | (refine Ret.goQ (hc) rfl rfl ?_) | (refine Ret.goP (inRange_ret _ _ _) rfl ?_) | (refine Ret.goQP (inRange_ret _ _ _) rfl ?_))
    all_goals first | omega | exact absurd (by assumption) hz | (exact bv_false fun ho => hh ho.1) | trace_state
set_option maxRecDepth 100000 in
theorem isHolding1_ret (f : Int) (ls : List Int) (r : Int) (x : List Int) (hn : ls.length ≤ 1048576) : Ret Tryz.prog G 139 [WH x, .rpc [I f, Ri ls, I r] 0] (Bo (!decide (okH f ls r x))) := by
  refine ret_of_body hT Tryz.func139 rfl ?_ rfl
  repeat' (first | (intro h; first | contradiction | omega | (conv => whnf) | skip) | (refine And.intro ?_ ?_) | (refine arith_ok ⟨by omega, by omega⟩ ?_) | (first | (refine draw_quiet hT mixed (by decide +kernel) ?_) | (refine draw_hard hT mixed (by decide +kernel) ?_)) | (refine Ret.goP (isHolding_ret f ls r x hn) rfl ?_) | (refine Ret.goQP (isHolding_ret f ls r x hn) rfl ?_))
  all_goals first | (rw [decide_eq_true h]; done) | (rw [decide_eq_false h]; done) | (rw [decide_eq_true h]; rfl) | (rw [decide_eq_false h]; rfl) | trace_state
/-- The place that IndexFunc tells. -/
def idxH (p : List Int → Bool) (hs : List (List Int)) : Int := if firstOf p hs < hs.length then (firstOf p hs : Int) else -1
set_option maxRecDepth 100000 in
theorem indexH_ret (f : FuncId) (caps : List AV) (p : List Int → Bool) (hs : List (List Int)) (hn : hs.length ≤ 2305843009213693952) (hc : capsOk caps = true) (hp : ∀ i, i < hs.length → Ret Tryz.prog G f (WH (hs.getD i []) :: caps) (Bo (p (hs.getD i [])))) :
    Ret Tryz.prog G 175 [Rh hs, .fn f caps] (I (idxH p hs)) := by
  refine ret_of_body hT Tryz.func175 rfl ?_ rfl
  repeat' (first | (intro h; first | contradiction | omega | (conv => whnf) | skip) | (refine And.intro ?_ ?_) | (refine arith_ok ⟨by omega, by omega⟩ ?_) | (first | (refine draw_quiet hT mixed (by decide +kernel) ?_) | (refine draw_hard hT mixed (by decide +kernel) ?_)) | fail)
  refine loop_rule hT (fun i : Nat => i ≤ hs.length ∧ ∀ j, j < i → p (hs.getD j []) = false) 19 0 [0, 1, 7, 8] (fun i => [Rh hs, .fn f caps, I hs.length, I i]) (fun _ => []) (fun i => hs.length - i) (0) (Nat.le_of_ble_eq_true rfl) ?_ ?_ ?_
  · exact ⟨Nat.zero_le _, fun j h => absurd h (Nat.not_lt_zero j)⟩
  · (refine ⟨rfl, [], ?_, ?_⟩; all_goals (repeat' (first | exact rfl | exact trivial | (with_reducible assumption) | refine And.intro ?_ ?_ | omega)))
    all_goals exact caps_vm hc
  · rintro i ⟨h1, h2⟩
    repeat' (first | (intro h; first | contradiction | omega | (conv => whnf) | skip) | (refine And.intro ?_ ?_) | (refine arith_ok ⟨by omega, by omega⟩ ?_) | (first | (refine draw_quiet hT mixed (by decide +kernel) ?_) | (refine draw_hard hT mixed (by decide +kernel) ?_)) | (refine Ret.goB (hp i (by omega)) (caps_self hc) ?_))
    all_goals first | omega | skip
    · have : firstOf p hs = i := firstOf_eq [] (by omega) h2 fun _ => h
      exact iv (by unfold idxH; rw [if_pos (by omega), this])
    · refine ⟨i + 1, ⟨by omega, fun j hj => ?_⟩, ?_, by omega⟩
      · by_cases hji : j = i
        · rw [hji]; exact h
        · exact h2 j (by omega)
      · (refine ⟨rfl, [], ?_, ?_⟩; all_goals (repeat' (first | exact rfl | exact trivial | (with_reducible assumption) | refine And.intro ?_ ?_ | omega)))
        all_goals exact caps_vm hc
    · have : firstOf p hs = hs.length := firstOf_eq [] (Nat.le_refl _) (fun j hj => h2 j (by omega)) fun h => absurd h (Nat.lt_irrefl _)
      exact iv (by unfold idxH; rw [if_neg (by omega)])
set_option maxRecDepth 100000 in
theorem containsH_ret (f : FuncId) (caps : List AV) (p : List Int → Bool) (hs : List (List Int)) (hn : hs.length ≤ 2305843009213693952) (hc : capsOk caps = true) (hp : ∀ i, i < hs.length → Ret Tryz.prog G f (WH (hs.getD i []) :: caps) (Bo (p (hs.getD i [])))) :
    Ret Tryz.prog G 138 [Rh hs, .fn f caps] (Bo (hs.any p)) := by
  refine ret_of_body hT Tryz.func138 rfl ?_ rfl
  have h0 := indexH_ret f caps p hs hn hc hp
  have hiff := firstOf_lt_iff p hs
  have hs' : ([Rh hs, .fn f caps] : List AV).all selfV = true := by
    simp only [List.all_cons, List.all_nil, Bool.and_true, Bool.and_eq_true]
    exact ⟨rfl, List.all_eq_true.2 fun c h => by have := List.all_eq_true.1 hc c h; simp only [Bool.and_eq_true] at this; exact this.1⟩
  repeat' (first | (intro h; first | contradiction | omega | (conv => whnf) | skip) | (refine And.intro ?_ ?_) | (refine arith_ok ⟨by omega, by omega⟩ ?_) | (first | (refine draw_quiet hT mixed (by decide +kernel) ?_) | (refine draw_hard hT mixed (by decide +kernel) ?_)) | (refine Ret.go h0 hs' rfl ?_))
  all_goals
    refine bv ?_
    unfold idxH at h
    split at h
    · rename_i hlt
      first | omega | (symm; rw [List.any_eq_true]; exact hiff.1 hlt)
    · rename_i hlt
      first | omega | (symm; rw [Bool.eq_false_iff]; intro hany; exact hlt (hiff.2 (List.any_eq_true.1 hany)))
theorem anyH (f : Int) (ls : List Int) (r : Int) (hs : List (List Int)) : (hs.any fun h => !decide (okH f ls r h)) = !decide (∀ h ∈ hs, okH f ls r h) := by
  cases h : (hs.any fun h => !decide (okH f ls r h)) with
  | true =>
    obtain ⟨x, h1, h2⟩ := List.any_eq_true.1 h
    have : ¬ ∀ h ∈ hs, okH f ls r h := fun ha => by simp [ha x h1] at h2
    simp [this]
  | false =>
    have : ∀ h ∈ hs, okH f ls r h := fun x hx => by simpa using List.any_eq_false.1 h x hx
    rw [decide_eq_true this]; rfl
set_option maxRecDepth 100000 in
theorem implPortfolio_ret (f : Int) (ls : List Int) (r : Int) (hs : List (List Int)) (hn : ls.length ≤ 1048576) (hh : hs.length ≤ 1048576) : Ret Tryz.prog G 87 [Bs f ls r, Rh hs] (Bo (decide (okF f ls r hs))) := by
  refine ret_of_body hT Tryz.func87 rfl ?_ rfl
  have h0 := containsH_ret 139 [.rpc [I f, Ri ls, I r] 0] (fun h => !decide (okH f ls r h)) hs (by omega) rfl fun i _ => isHolding1_ret f ls r _ hn
  rw [anyH] at h0
  repeat' (first | (intro h; first | contradiction | omega | (conv => whnf) | skip) | (refine And.intro ?_ ?_) | (refine arith_ok ⟨by omega, by omega⟩ ?_) | (first | (refine draw_quiet hT mixed (by decide +kernel) ?_) | (refine draw_hard hT mixed (by decide +kernel) ?_)) | (refine Ret.goP (implBasis_ret f ls r hn) rfl ?_) | (refine Ret.goQP (implBasis_ret f ls r hn) rfl ?_) | (refine Ret.useB (h0) (by first | ((repeat' (first | exact rfl | exact trivial | (with_reducible assumption) | refine And.intro ?_ ?_ | omega | assumption)); done) | fail) ?_) | (refine Ret.useQB (h0) (by first | ((repeat' (first | exact rfl | exact trivial | (with_reducible assumption) | refine And.intro ?_ ?_ | omega | assumption)); done) | fail) ?_))
  all_goals first
    | omega
    | (exact bv_true ⟨by assumption, by omega, notd_false h⟩)
    | (exact bv_false fun ho => notd_true h ho.2.2)
    | (exact bv_false fun ho => absurd ho.1 (by assumption))
    | (exact bv_false fun ho => by have := ho.2.1; omega)
    | trace_state
set_option maxRecDepth 100000 in
theorem specPortfolio_ret (f : Int) (ls : List Int) (r : Int) (hs : List (List Int)) (hn : ls.length ≤ 1048576) (hh : hs.length ≤ 1048576) : Ret Tryz.prog G 82 [Bs f ls r, Rh hs] (Bo (decide (okF f ls r hs))) := by
  refine ret_of_body hT Tryz.func82 rfl ?_ rfl
  repeat' (first | (intro h; first | contradiction | omega | (conv => whnf) | skip) | (refine And.intro ?_ ?_) | (refine arith_ok ⟨by omega, by omega⟩ ?_) | (first | (refine draw_quiet hT mixed (by decide +kernel) ?_) | (refine draw_hard hT mixed (by decide +kernel) ?_)) | fail)
  refine loop_rule hT (fun i : Nat => i ≤ hs.length ∧ ∀ h ∈ hs.take i, okH f ls r h) 41 1 [1, 2, 5] (fun i => [Rh hs, .ptr 0 0, I i]) (fun _ => [.cells [I f, Ri ls, I r]]) (fun i => hs.length - i) (0) (Nat.le_of_ble_eq_true rfl) ?_ ?_ ?_
  · exact ⟨Nat.zero_le _, by simp⟩
  · (first | (refine ⟨rfl, [], ?_, ?_⟩; all_goals (repeat' (first | exact rfl | exact trivial | (with_reducible assumption) | refine And.intro ?_ ?_)); all_goals (first | omega | assumption); done) | (refine ⟨rfl, [some 1], ?_, ?_⟩; all_goals (repeat' (first | exact rfl | exact trivial | (with_reducible assumption) | refine And.intro ?_ ?_)); all_goals (first | omega | assumption); done) | (refine ⟨rfl, [some 2], ?_, ?_⟩; all_goals (repeat' (first | exact rfl | exact trivial | (with_reducible assumption) | refine And.intro ?_ ?_)); all_goals (first | omega | assumption); done) | (refine ⟨rfl, [some 3], ?_, ?_⟩; all_goals (repeat' (first | exact rfl | exact trivial | (with_reducible assumption) | refine And.intro ?_ ?_)); all_goals (first | omega | assumption); done) | (refine ⟨rfl, [some 0], ?_, ?_⟩; all_goals (repeat' (first | exact rfl | exact trivial | (with_reducible assumption) | refine And.intro ?_ ?_)); all_goals (first | omega | assumption); done) | (refine ⟨rfl, [some 4], ?_, ?_⟩; all_goals (repeat' (first | exact rfl | exact trivial | (with_reducible assumption) | refine And.intro ?_ ?_)); all_goals (first | omega | assumption); done) | (refine ⟨rfl, [some 5], ?_, ?_⟩; all_goals (repeat' (first | exact rfl | exact trivial | (with_reducible assumption) | refine And.intro ?_ ?_)); all_goals (first | omega | assumption); done) | (refine ⟨rfl, [some 6], ?_, ?_⟩; all_goals (repeat' (first | exact rfl | exact trivial | (with_reducible assumption) | refine And.intro ?_ ?_)); all_goals (first | omega | assumption); done))
  · rintro i ⟨h1, h2⟩
    by_cases hi : i < hs.length
    · have hc := spec11_ret f ls r ((hs.getD ((i : Int)).toNat []).getD 0 0) ((hs.getD ((i : Int)).toNat []).getD 1 0) ((hs.getD ((i : Int)).toNat []).getD 2 0) ((hs.getD ((i : Int)).toNat []).getD 3 0) ((hs.getD ((i : Int)).toNat []).getD 4 0) ((hs.getD ((i : Int)).toNat []).getD 5 0) hn
      have hm : hs.getD ((i : Int)).toNat [] ∈ hs := getD_mem hi
      by_cases hp : hP f ls r (hs.getD ((i : Int)).toNat [])
      · rw [cR_ok hp] at hc
        repeat' (first | (intro h; first | contradiction | omega | (conv => whnf) | skip) | (refine And.intro ?_ ?_) | (refine arith_ok ⟨by omega, by omega⟩ ?_) | (first | (refine draw_quiet hT mixed (by decide +kernel) ?_) | (refine draw_hard hT mixed (by decide +kernel) ?_)) | (refine Ret.go (hc) rfl rfl ?_) | (refine Ret.goQ (hc) rfl rfl ?_) | (refine Ret.goP (l01In_ret _ _ _) rfl ?_) | (refine Ret.goQP (l01In_ret _ _ _) rfl ?_))
        all_goals first | omega | (refine ⟨i + 1, ⟨by omega, all_snoc [] hi h2 ⟨hp, by assumption⟩⟩, ?_, by omega⟩; (first | (refine ⟨rfl, [], ?_, ?_⟩; all_goals (repeat' (first | exact rfl | exact trivial | (with_reducible assumption) | refine And.intro ?_ ?_)); all_goals (first | omega | assumption); done) | (refine ⟨rfl, [some 1], ?_, ?_⟩; all_goals (repeat' (first | exact rfl | exact trivial | (with_reducible assumption) | refine And.intro ?_ ?_)); all_goals (first | omega | assumption); done) | (refine ⟨rfl, [some 2], ?_, ?_⟩; all_goals (repeat' (first | exact rfl | exact trivial | (with_reducible assumption) | refine And.intro ?_ ?_)); all_goals (first | omega | assumption); done) | (refine ⟨rfl, [some 3], ?_, ?_⟩; all_goals (repeat' (first | exact rfl | exact trivial | (with_reducible assumption) | refine And.intro ?_ ?_)); all_goals (first | omega | assumption); done) | (refine ⟨rfl, [some 0], ?_, ?_⟩; all_goals (repeat' (first | exact rfl | exact trivial | (with_reducible assumption) | refine And.intro ?_ ?_)); all_goals (first | omega | assumption); done) | (refine ⟨rfl, [some 4], ?_, ?_⟩; all_goals (repeat' (first | exact rfl | exact trivial | (with_reducible assumption) | refine And.intro ?_ ?_)); all_goals (first | omega | assumption); done) | (refine ⟨rfl, [some 5], ?_, ?_⟩; all_goals (repeat' (first | exact rfl | exact trivial | (with_reducible assumption) | refine And.intro ?_ ?_)); all_goals (first | omega | assumption); done) | (refine ⟨rfl, [some 6], ?_, ?_⟩; all_goals (repeat' (first | exact rfl | exact trivial | (with_reducible assumption) | refine And.intro ?_ ?_)); all_goals (first | omega | assumption); done))) | (exact bv_false fun ho => absurd (ho.2.2 _ hm).2 (by assumption)) | trace_state
      · have hz := cR_bad hp
        repeat' (first | (intro h; first | contradiction | omega | (conv => whnf) | skip) | (refine And.intro ?_ ?_) | (refine arith_ok ⟨by omega, by omega⟩ ?_) | (first | (refine draw_quiet hT mixed (by decide +kernel) ?_) | (refine draw_hard hT mixed (by decide +kernel) ?_)) | (refine Ret.go (hc) rfl rfl ?_) | (refine Ret.goQ (hc) rfl rfl ?_) | (refine Ret.goP (l01In_ret _ _ _) rfl ?_) | (refine Ret.goQP (l01In_ret _ _ _) rfl ?_))
        all_goals first | omega | exact absurd (by assumption) hz | (exact bv_false fun ho => hp (ho.2.2 _ hm).1) | trace_state
    · repeat' (first | (intro h; first | contradiction | omega | (conv => whnf) | skip) | (refine And.intro ?_ ?_) | (refine arith_ok ⟨by omega, by omega⟩ ?_) | (first | (refine draw_quiet hT mixed (by decide +kernel) ?_) | (refine draw_hard hT mixed (by decide +kernel) ?_)) | (refine Ret.goP (specBasis_ret f ls r hn) rfl ?_) | (refine Ret.goQP (specBasis_ret f ls r hn) rfl ?_))
      all_goals first | omega | (exact bv_true ⟨by assumption, by omega, all_end (by omega) h2⟩) | (exact bv_false fun ho => absurd ho.1 (by assumption)) | (exact bv_false fun ho => by have := ho.2.1; omega) | trace_state
end Go.Proofs.YtenofbabiacacaaGreat
