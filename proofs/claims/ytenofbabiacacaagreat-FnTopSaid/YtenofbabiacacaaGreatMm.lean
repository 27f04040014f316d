/-
  The close of a year: what the functions return. No conditions but those in the statements.
-/
import Derived.Test.YtenofbabiacacaaGreatMl
import Derived.Test.YtenofbabiacacaaGreatSf
set_option linter.unusedVariables false
set_option linter.unusedSimpArgs false
namespace Go.Proofs.YtenofbabiacacaaGreat
open Go.AE

attribute [local irreducible] CallA LoopA DrawA CallQ arithK quoK remK eqK
/-! Results of a year -/
abbrev V7 (a b c d e f g : Int) : AV := .agg [I a, I b, I c, I d, I e, I f, I g]
def isYr (a b c d e f g : Int) : Prop := allR [a, b, c, d, e, f, g] 0 1000000000000
instance (a b c d e f g : Int) : Decidable (isYr a b c d e f g) := by unfold isYr; infer_instance
theorem yr_bd {a b c d e f g : Int} (h : isYr a b c d e f g) : (0 ≤ a ∧ a ≤ 1000000000000) ∧ (0 ≤ b ∧ b ≤ 1000000000000) ∧ (0 ≤ c ∧ c ≤ 1000000000000) ∧ (0 ≤ d ∧ d ≤ 1000000000000) ∧ (0 ≤ e ∧ e ≤ 1000000000000) ∧ (0 ≤ f ∧ f ≤ 1000000000000) ∧ 0 ≤ g ∧ g ≤ 1000000000000 :=
  ⟨h a (by simp), h b (by simp), h c (by simp), h d (by simp), h e (by simp), h f (by simp), h g (by simp)⟩
set_option maxRecDepth 100000 in
theorem specYear_ret (a b c d e f g : Int) : Ret Tryz.prog G 100 [V7 a b c d e f g] (Bo (decide (isYr a b c d e f g))) := by
  refine ret_of_body hT Tryz.func100 rfl ?_ rfl
  have h0 := l01Within_ret [a, b, c, d, e, f, g] 7 0 1000000000000 (by simp)
  repeat' (first | (intro h; first | contradiction | omega | (conv => whnf) | skip) | (refine And.intro ?_ ?_) | (refine arith_ok ⟨by omega, by omega⟩ ?_) | (first | (refine draw_quiet hT mixed (by decide +kernel) ?_) | (refine draw_hard hT mixed (by decide +kernel) ?_)) | (refine Ret.useP (h0) (by first | ((repeat' (first | exact rfl | exact trivial | (with_reducible assumption) | refine And.intro ?_ ?_ | omega | assumption)); done) | fail) ?_) | (refine Ret.useQP (h0) (by first | ((repeat' (first | exact rfl | exact trivial | (with_reducible assumption) | refine And.intro ?_ ?_ | omega | assumption)); done) | fail) ?_))
  all_goals first | exact bv_true h.1 | exact bv_false (fun hh => h ⟨hh, by simp⟩) | trace_state
set_option maxRecDepth 100000 in
theorem implYear_ret (a b c d e f g : Int) : Ret Tryz.prog G 80 [V7 a b c d e f g] (Bo (decide (isYr a b c d e f g))) := by
  refine ret_of_body hT Tryz.func80 rfl ?_ rfl
  have h0 := allIn_ret [a, b, c, d, e, f, g] 0 1000000000000 (by simp)
  repeat' (first | (intro h; first | contradiction | omega | (conv => whnf) | skip) | (refine And.intro ?_ ?_) | (refine arith_ok ⟨by omega, by omega⟩ ?_) | (first | (refine draw_quiet hT mixed (by decide +kernel) ?_) | (refine draw_hard hT mixed (by decide +kernel) ?_)) | (refine Ret.useP (h0) (by first | ((repeat' (first | exact rfl | exact trivial | (with_reducible assumption) | refine And.intro ?_ ?_ | omega | assumption)); done) | fail) ?_) | (refine Ret.useQP (h0) (by first | ((repeat' (first | exact rfl | exact trivial | (with_reducible assumption) | refine And.intro ?_ ?_ | omega | assumption)); done) | fail) ?_))
  all_goals first | exact bv_true h | exact bv_false h | trace_state
set_option maxRecDepth 100000 in
theorem implEndF_ret (a b c d e f g : Int) (h : isYr a b c d e f g) : Ret Tryz.prog G 67 [V7 a b c d e f g] (I (a + b + c - d + e - f)) := by
  refine ret_of_body hT Tryz.func67 rfl ?_ rfl
  have hb := yr_bd h
  repeat' (first | (intro h; first | contradiction | omega | (conv => whnf) | skip) | (refine And.intro ?_ ?_) | (refine arith_ok ⟨by omega, by omega⟩ ?_) | (first | (refine draw_quiet hT mixed (by decide +kernel) ?_) | (refine draw_hard hT mixed (by decide +kernel) ?_)) | fail)
  all_goals first | rfl | omega | trace_state
set_option maxRecDepth 100000 in
theorem specEnd2_ret (a b c d e f g : Int) (h : isYr a b c d e f g) : Ret Tryz.prog G 64 [V7 a b c d e f g] (I (a + b + c - d + e - f)) := by
  refine ret_of_body hT Tryz.func64 rfl ?_ rfl
  have hb := yr_bd h
  repeat' (first | (intro h; first | contradiction | omega | (conv => whnf) | skip) | (refine And.intro ?_ ?_) | (refine arith_ok ⟨by omega, by omega⟩ ?_) | (first | (refine draw_quiet hT mixed (by decide +kernel) ?_) | (refine draw_hard hT mixed (by decide +kernel) ?_)) | fail)
  all_goals first | rfl | omega | trace_state
/-! The close -/
attribute [local irreducible] cols cN cM cD cC dur pTop pBase lv clS eDs okT sumH agL
abbrev clm (f : Int) (ls : List Int) (hs : List (List Int)) (ds : List Int) : Int := clS f ls hs ds hs.length
def yrQ (f : Int) (ls : List Int) (r : Int) (hs : List (List Int)) (ds : List Int) (fu ex it : Int) : Prop := isYr fu (nets f ls r hs) (loads f ls r hs) ex it (clm f ls hs ds) (tot f ls r (later f ls hs ds))
def clQ (f : Int) (ls : List Int) (r : Int) (hs : List (List Int)) (ds : List Int) (fu ex it : Int) : Prop := noBad f ls r hs ds hs.length ∧ yrQ f ls r hs ds fu ex it
noncomputable instance (f : Int) (ls : List Int) (r : Int) (hs : List (List Int)) (ds : List Int) (fu ex it : Int) : Decidable (yrQ f ls r hs ds fu ex it) := Classical.propDecidable _
noncomputable instance (f : Int) (ls : List Int) (r : Int) (hs : List (List Int)) (ds : List Int) (fu ex it : Int) : Decidable (clQ f ls r hs ds fu ex it) := Classical.propDecidable _
noncomputable def clC (f : Int) (ls : List Int) (r : Int) (hs : List (List Int)) (ds : List Int) (fu ex it : Int) : Int := if noBad f ls r hs ds hs.length then (if yrQ f ls r hs ds fu ex it then 0 else 3) else 5
/-- A value, or nothing. -/
noncomputable def wh (p : Prop) (x : Int) : Int := @ite _ p (Classical.propDecidable p) x 0
noncomputable def whL (p : Prop) (x : List (List Int)) : List (List Int) := @ite _ p (Classical.propDecidable p) x []
theorem wh_yes {p : Prop} (h : p) (x : Int) : wh p x = x := if_pos h
theorem wh_no {p : Prop} (h : ¬ p) (x : Int) : wh p x = 0 := if_neg h
theorem whL_yes {p : Prop} (h : p) (x : List (List Int)) : whL p x = x := if_pos h
theorem whL_no {p : Prop} (h : ¬ p) (x : List (List Int)) : whL p x = [] := if_neg h
noncomputable abbrev yT (p : Prop) (f : Int) (ls : List Int) (r : Int) (hs : List (List Int)) (ds : List Int) (fu ex it : Int) (s : AV) (c : Int) : AV :=
  .tup [V7 (wh p fu) (wh p (nets f ls r hs)) (wh p (loads f ls r hs)) (wh p ex) (wh p it) (wh p (clm f ls hs ds)) (wh p (tot f ls r (later f ls hs ds))), s, I c]
noncomputable abbrev yL (p : Prop) (f : Int) (ls : List Int) (hs : List (List Int)) (ds : List Int) : List (List Int) := whL p (later f ls hs ds)
theorem yT_no {p : Prop} (h : ¬ p) {f : Int} {ls : List Int} {r : Int} {hs : List (List Int)} {ds : List Int} {fu ex it c : Int} {s : AV} : yT p f ls r hs ds fu ex it s c = .tup [V7 0 0 0 0 0 0 0, s, I c] := by
  unfold yT; rw [wh_no h, wh_no h, wh_no h, wh_no h, wh_no h, wh_no h, wh_no h]
theorem yT_yes {p : Prop} (h : p) {f : Int} {ls : List Int} {r : Int} {hs : List (List Int)} {ds : List Int} {fu ex it c : Int} {s : AV} : yT p f ls r hs ds fu ex it s c = .tup [V7 fu (nets f ls r hs) (loads f ls r hs) ex it (clm f ls hs ds) (tot f ls r (later f ls hs ds)), s, I c] := by
  unfold yT; rw [wh_yes h, wh_yes h, wh_yes h, wh_yes h, wh_yes h, wh_yes h, wh_yes h]
theorem sums_bd {f : Int} {ls : List Int} {r : Int} {hs : List (List Int)} {ds : List Int} (ho : okF f ls r hs) (hd : dOk hs ds) : (0 ≤ nets f ls r hs ∧ nets f ls r hs ≤ 3000000030000000) ∧ (0 ≤ loads f ls r hs ∧ loads f ls r hs ≤ 3000000030000000) ∧ 0 ≤ clm f ls hs ds ∧ clm f ls hs ds ≤ 6000000000000000 := by
  have h1 := sumH_bd (okG_net ho) hs.length (Nat.le_refl _)
  have h2 := sumH_bd (okG_load ho) hs.length (Nat.le_refl _)
  have h3 := clS_bd ho hd hs.length (Nat.le_refl _)
  have h4 := ho.2.1
  unfold nets loads clm
  omega
attribute [local irreducible] nets loads tot
set_option maxHeartbeats 4000000 in
set_option maxRecDepth 100000 in
theorem specClose_call (f : Int) (ls : List Int) (r : Int) (hs : List (List Int)) (ds : List Int) (fu ex it : Int) (hn : ls.length ≤ 1048576) (ho : okF f ls r hs) (hd : dOk hs ds) : CallA Tryz.prog G 72 [Bs f ls r, Rh hs, Ri ds, I fu, I ex, I it] [] (fun v J => v = yT (clQ f ls r hs ds fu ex it) f ls r hs ds fu ex it (.sl 0 7 (yL (clQ f ls r hs ds fu ex it) f ls hs ds).length) (clC f ls r hs ds fu ex it) ∧ J = [Dh (yL (clQ f ls r hs ds fu ex it) f ls hs ds)]) := by
  refine CallA.ends (callA_of_body hT Tryz.func72 rfl ?_)
  have hl := ho.2.1
  have hdl := hd.1
  have hag := specAge_call f ls r hs ds hn ho hd
  by_cases hb : noBad f ls r hs ds hs.length
  · rw [agT, (ag_yes hb).1, (ag_yes hb).2] at hag
    have hlo := later_ok ho hd hb
    by_cases hy : yrQ f ls r hs ds fu ex it
    · have hq : clQ f ls r hs ds fu ex it := ⟨hb, hy⟩
      have hc : clC f ls r hs ds fu ex it = 0 := (if_pos hb).trans (if_pos hy)
      rw [yT_yes hq, yL, whL_yes hq, hc]
      unfold yrQ at hy
      repeat' (first | (intro h; first | contradiction | omega | (conv => whnf) | skip) | (refine And.intro ?_ ?_) | (refine arith_ok ⟨by omega, by omega⟩ ?_) | (first | (refine draw_quiet hT mixed (by decide +kernel) ?_) | (refine draw_hard hT mixed (by decide +kernel) ?_)) | (refine CallA.go0 [] (hag) rfl (by first | ((repeat' (first | exact rfl | exact trivial | (with_reducible assumption) | refine And.intro ?_ ?_ | omega | assumption)); done) | fail) trivial ?_) | (refine Ret.go (specPrem_ret f ls r hs hn ho) rfl rfl ?_) | (refine Ret.goQ (specPrem_ret f ls r hs hn ho) rfl rfl ?_) | (refine Ret.use (specTotal_ret f ls r (later f ls hs ds) hn hlo) (by first | ((repeat' (first | exact rfl | exact trivial | (with_reducible assumption) | refine And.intro ?_ ?_ | omega | assumption)); done) | fail) ?_) | (refine Ret.useQ (specTotal_ret f ls r (later f ls hs ds) hn hlo) (by first | ((repeat' (first | exact rfl | exact trivial | (with_reducible assumption) | refine And.intro ?_ ?_ | omega | assumption)); done) | fail) rfl ?_) | (refine Ret.go (specClaims_ret f ls r hs ds ho hd) rfl rfl ?_) | (refine Ret.goQ (specClaims_ret f ls r hs ds ho hd) rfl rfl ?_) | (refine Ret.goP (specYear_ret _ _ _ _ _ _ _) rfl ?_) | (refine Ret.goQP (specYear_ret _ _ _ _ _ _ _) rfl ?_))
      all_goals first | omega | exact absurd hy (by assumption) | (refine ⟨[some 2], .tup [V7 fu (nets f ls r hs) (loads f ls r hs) ex it (clm f ls hs ds) (tot f ls r (later f ls hs ds)), .sl 0 7 (later f ls hs ds).length, I 0], [Dh (later f ls hs ds)], ?_, ?_, ?_⟩; all_goals (repeat' (first | exact rfl | exact trivial | (with_reducible assumption) | refine And.intro ?_ ?_)); all_goals (first | omega | assumption); done) | trace_state
    · have hq : ¬ clQ f ls r hs ds fu ex it := fun e => hy e.2
      have hc : clC f ls r hs ds fu ex it = 3 := (if_pos hb).trans (if_neg hy)
      rw [yT_no hq, yL, whL_no hq, hc]
      unfold yrQ at hy
      repeat' (first | (intro h; first | contradiction | omega | (conv => whnf) | skip) | (refine And.intro ?_ ?_) | (refine arith_ok ⟨by omega, by omega⟩ ?_) | (first | (refine draw_quiet hT mixed (by decide +kernel) ?_) | (refine draw_hard hT mixed (by decide +kernel) ?_)) | (refine CallA.go0 [] (hag) rfl (by first | ((repeat' (first | exact rfl | exact trivial | (with_reducible assumption) | refine And.intro ?_ ?_ | omega | assumption)); done) | fail) trivial ?_) | (refine Ret.go (specPrem_ret f ls r hs hn ho) rfl rfl ?_) | (refine Ret.goQ (specPrem_ret f ls r hs hn ho) rfl rfl ?_) | (refine Ret.use (specTotal_ret f ls r (later f ls hs ds) hn hlo) (by first | ((repeat' (first | exact rfl | exact trivial | (with_reducible assumption) | refine And.intro ?_ ?_ | omega | assumption)); done) | fail) ?_) | (refine Ret.useQ (specTotal_ret f ls r (later f ls hs ds) hn hlo) (by first | ((repeat' (first | exact rfl | exact trivial | (with_reducible assumption) | refine And.intro ?_ ?_ | omega | assumption)); done) | fail) rfl ?_) | (refine Ret.go (specClaims_ret f ls r hs ds ho hd) rfl rfl ?_) | (refine Ret.goQ (specClaims_ret f ls r hs ds ho hd) rfl rfl ?_) | (refine Ret.goP (specYear_ret _ _ _ _ _ _ _) rfl ?_) | (refine Ret.goQP (specYear_ret _ _ _ _ _ _ _) rfl ?_))
      all_goals first | omega | exact absurd (by assumption) hy | (refine ⟨[none], .tup [V7 0 0 0 0 0 0 0, .sl 0 7 0, I 3], [Dh []], ?_, ?_, ?_⟩; all_goals (repeat' (first | exact rfl | exact trivial | (with_reducible assumption) | refine And.intro ?_ ?_ | omega))) | trace_state
  · rw [agT, (ag_no hb).1, (ag_no hb).2] at hag
    have hq : ¬ clQ f ls r hs ds fu ex it := fun e => hb e.1
    have hc : clC f ls r hs ds fu ex it = 5 := if_neg hb
    rw [yT_no hq, yL, whL_no hq, hc]
    repeat' (first | (intro h; first | contradiction | omega | (conv => whnf) | skip) | (refine And.intro ?_ ?_) | (refine arith_ok ⟨by omega, by omega⟩ ?_) | (first | (refine draw_quiet hT mixed (by decide +kernel) ?_) | (refine draw_hard hT mixed (by decide +kernel) ?_)) | (refine CallA.go0 [] (hag) rfl (by first | ((repeat' (first | exact rfl | exact trivial | (with_reducible assumption) | refine And.intro ?_ ?_ | omega | assumption)); done) | fail) trivial ?_))
    all_goals first | omega | (refine ⟨[none], .tup [V7 0 0 0 0 0 0 0, .sl 0 7 0, I 5], [Dh []], ?_, ?_, ?_⟩; all_goals (repeat' (first | exact rfl | exact trivial | (with_reducible assumption) | refine And.intro ?_ ?_ | omega))) | trace_state
/-! With the checks -/
def cyG (f : Int) (ls : List Int) (r : Int) (hs : List (List Int)) (ds : List Int) (fu ex it : Int) : Prop := (okF f ls r hs ∧ dOk hs ds) ∧ (okD fu ∧ okD ex ∧ okD it)
def cyQ (f : Int) (ls : List Int) (r : Int) (hs : List (List Int)) (ds : List Int) (fu ex it : Int) : Prop := cyG f ls r hs ds fu ex it ∧ clQ f ls r hs ds fu ex it
noncomputable def cyC (f : Int) (ls : List Int) (r : Int) (hs : List (List Int)) (ds : List Int) (fu ex it : Int) : Int := if okF f ls r hs then (if dOk hs ds ∧ okD fu ∧ okD ex ∧ okD it then clC f ls r hs ds fu ex it else 2) else 1
theorem cyC_yes {f : Int} {ls : List Int} {r : Int} {hs : List (List Int)} {ds : List Int} {fu ex it : Int} (h : cyG f ls r hs ds fu ex it) : cyC f ls r hs ds fu ex it = clC f ls r hs ds fu ex it := (if_pos h.1.1).trans (if_pos ⟨h.1.2, h.2⟩)
theorem yT_iff {p q : Prop} (h : p ↔ q) {f : Int} {ls : List Int} {r : Int} {hs : List (List Int)} {ds : List Int} {fu ex it c : Int} {s : AV} : yT p f ls r hs ds fu ex it s c = yT q f ls r hs ds fu ex it s c := by rw [propext h]
noncomputable abbrev cyT (f : Int) (ls : List Int) (r : Int) (hs : List (List Int)) (ds : List Int) (fu ex it : Int) (s : AV) : AV := yT (cyQ f ls r hs ds fu ex it) f ls r hs ds fu ex it s (cyC f ls r hs ds fu ex it)
noncomputable abbrev cyL (f : Int) (ls : List Int) (r : Int) (hs : List (List Int)) (ds : List Int) (fu ex it : Int) : List (List Int) := yL (cyQ f ls r hs ds fu ex it) f ls hs ds
theorem cd_inv {f : Int} {ls : List Int} {r : Int} {hs : List (List Int)} {ds : List Int} {fu ex it : Int} (h : ¬ okF f ls r hs) (b : Bool) : cDt f ls r hs ds b = 1 ∧ cyC f ls r hs ds fu ex it = 1 := ⟨if_neg h, if_neg h⟩
theorem cd_dth {f : Int} {ls : List Int} {r : Int} {hs : List (List Int)} {ds : List Int} {fu ex it : Int} (h : okF f ls r hs) (h2 : ¬ dOk hs ds) (b : Bool) : cDt f ls r hs ds b = 2 ∧ cyC f ls r hs ds fu ex it = 2 := ⟨(if_pos h).trans (if_neg fun e => h2 e.2), (if_pos h).trans (if_neg fun e => h2 e.1)⟩
theorem cd_fund {f : Int} {ls : List Int} {r : Int} {hs : List (List Int)} {ds : List Int} {fu ex it : Int} (h : okF f ls r hs) (h2 : ¬ (okD fu ∧ okD ex ∧ okD it)) : cDt f ls r hs ds false = 2 ∧ cyC f ls r hs ds fu ex it = 2 := ⟨(if_pos h).trans (if_neg fun e => (by have := e.1; cases this)), (if_pos h).trans (if_neg fun e => h2 e.2)⟩
theorem cy_three {f : Int} {ls : List Int} {r : Int} {hs : List (List Int)} {ds : List Int} {fu ex it : Int} (hg : ¬ cyG f ls r hs ds fu ex it) : (¬ okF f ls r hs ∨ (okF f ls r hs ∧ ¬ dOk hs ds)) ∨ ((okF f ls r hs ∧ dOk hs ds) ∧ ¬ (okD fu ∧ okD ex ∧ okD it)) := by
  by_cases h1 : okF f ls r hs
  · by_cases h2 : dOk hs ds
    · exact .inr ⟨⟨h1, h2⟩, fun e => hg ⟨⟨h1, h2⟩, e⟩⟩
    · exact .inl (.inr ⟨h1, h2⟩)
  · exact .inl (.inl h1)
set_option maxHeartbeats 4000000 in
set_option maxRecDepth 100000 in
theorem specCY_call (f : Int) (ls : List Int) (r : Int) (hs : List (List Int)) (ds : List Int) (fu ex it : Int) (hn : ls.length ≤ 1048576) (hh : hs.length ≤ 1048576) (hd : ds.length ≤ 1048576) : CallA Tryz.prog G 19 [Bs f ls r, Rh hs, Ri ds, I fu, I ex, I it] [] (fun v J => v = cyT f ls r hs ds fu ex it (.sl 0 7 (cyL f ls r hs ds fu ex it).length) ∧ J = [Dh (cyL f ls r hs ds fu ex it)]) := by
  refine CallA.ends (callA_of_body hT Tryz.func19 rfl ?_)
  have hcode := fun b => specCode_ret f ls r hs ds b hn hh hd
  by_cases hg : cyG f ls r hs ds fu ex it
  · have he : cyQ f ls r hs ds fu ex it ↔ clQ f ls r hs ds fu ex it := ⟨fun h => h.2, fun h => ⟨hg, h⟩⟩
    rw [cyT, cyL, cyC_yes hg, yT_iff he, propext he]
    have hc := hcode true
    rw [cDt_zero hg.1] at hc
    have h1 := hg.2.1
    have h2 := hg.2.2.1
    have h3 := hg.2.2.2
    repeat' (first | (intro h; first | contradiction | omega | (conv => whnf) | skip) | (refine And.intro ?_ ?_) | (refine arith_ok ⟨by omega, by omega⟩ ?_) | (first | (refine draw_quiet hT mixed (by decide +kernel) ?_) | (refine draw_hard hT mixed (by decide +kernel) ?_)) | (refine CallA.go0 [] (specClose_call f ls r hs ds fu ex it hn hg.1.1 hg.1.2) rfl (by first | ((repeat' (first | exact rfl | exact trivial | (with_reducible assumption) | refine And.intro ?_ ?_ | omega | assumption)); done) | fail) trivial ?_) | (refine Ret.go (hc) rfl rfl ?_) | (refine Ret.goQ (hc) rfl rfl ?_) | (refine Ret.goP (specFund_ret _) rfl ?_) | (refine Ret.goQP (specFund_ret _) rfl ?_))
    all_goals first | omega | exact absurd h1 (by assumption) | exact absurd h2 (by assumption) | exact absurd h3 (by assumption) | ((conv => whnf); (refine ⟨[some 2], yT (clQ f ls r hs ds fu ex it) f ls r hs ds fu ex it (.sl 0 7 (yL (clQ f ls r hs ds fu ex it) f ls hs ds).length) (clC f ls r hs ds fu ex it), [Dh (yL (clQ f ls r hs ds fu ex it) f ls hs ds)], ?_, ?_, ?_⟩; all_goals (repeat' (first | exact rfl | exact trivial | (with_reducible assumption) | refine And.intro ?_ ?_)); all_goals (first | omega | assumption); done)) | trace_state
  · have hq : ¬ cyQ f ls r hs ds fu ex it := fun e => hg e.1
    rcases cy_three hg with (h1 | ⟨h1, h2⟩) | ⟨h1, hf⟩
    · have hc := fun b => (cd_inv (ds := ds) (fu := fu) (ex := ex) (it := it) h1 b).1
      have ht := hcode true
      have hu := hcode false
      rw [hc] at ht hu
      rw [cyT, cyL, yT_no hq, yL, whL_no hq, (cd_inv h1 true).2]
      repeat' (first | (intro h; first | contradiction | omega | (conv => whnf) | skip) | (refine And.intro ?_ ?_) | (refine arith_ok ⟨by omega, by omega⟩ ?_) | (first | (refine draw_quiet hT mixed (by decide +kernel) ?_) | (refine draw_hard hT mixed (by decide +kernel) ?_)) | (refine Ret.go (ht) rfl rfl ?_) | (refine Ret.goQ (ht) rfl rfl ?_) | (refine Ret.go (hu) rfl rfl ?_) | (refine Ret.goQ (hu) rfl rfl ?_) | (refine Ret.goP (specFund_ret _) rfl ?_) | (refine Ret.goQP (specFund_ret _) rfl ?_))
      all_goals first | omega | (refine ⟨[none], .tup [V7 0 0 0 0 0 0 0, .sl 0 7 0, I 1], [Dh []], ?_, ?_, ?_⟩; all_goals (repeat' (first | exact rfl | exact trivial | (with_reducible assumption) | refine And.intro ?_ ?_ | omega))) | exact (hf ⟨by assumption, by assumption, by assumption⟩).elim | trace_state
    · have hc := fun b => (cd_dth (fu := fu) (ex := ex) (it := it) h1 h2 b).1
      have ht := hcode true
      have hu := hcode false
      rw [hc] at ht hu
      rw [cyT, cyL, yT_no hq, yL, whL_no hq, (cd_dth h1 h2 true).2]
      repeat' (first | (intro h; first | contradiction | omega | (conv => whnf) | skip) | (refine And.intro ?_ ?_) | (refine arith_ok ⟨by omega, by omega⟩ ?_) | (first | (refine draw_quiet hT mixed (by decide +kernel) ?_) | (refine draw_hard hT mixed (by decide +kernel) ?_)) | (refine Ret.go (ht) rfl rfl ?_) | (refine Ret.goQ (ht) rfl rfl ?_) | (refine Ret.go (hu) rfl rfl ?_) | (refine Ret.goQ (hu) rfl rfl ?_) | (refine Ret.goP (specFund_ret _) rfl ?_) | (refine Ret.goQP (specFund_ret _) rfl ?_))
      all_goals first | omega | (refine ⟨[none], .tup [V7 0 0 0 0 0 0 0, .sl 0 7 0, I 2], [Dh []], ?_, ?_, ?_⟩; all_goals (repeat' (first | exact rfl | exact trivial | (with_reducible assumption) | refine And.intro ?_ ?_ | omega))) | exact (hf ⟨by assumption, by assumption, by assumption⟩).elim | trace_state
    · have hu := hcode false
      rw [(cd_fund h1.1 hf).1] at hu
      rw [cyT, cyL, yT_no hq, yL, whL_no hq, (cd_fund h1.1 hf).2]
      repeat' (first | (intro h; first | contradiction | omega | (conv => whnf) | skip) | (refine And.intro ?_ ?_) | (refine arith_ok ⟨by omega, by omega⟩ ?_) | (first | (refine draw_quiet hT mixed (by decide +kernel) ?_) | (refine draw_hard hT mixed (by decide +kernel) ?_)) | (refine Ret.go (hu) rfl rfl ?_) | (refine Ret.goQ (hu) rfl rfl ?_) | (refine Ret.goP (specFund_ret _) rfl ?_) | (refine Ret.goQP (specFund_ret _) rfl ?_))
      all_goals first | omega | (refine ⟨[none], .tup [V7 0 0 0 0 0 0 0, .sl 0 7 0, I 2], [Dh []], ?_, ?_, ?_⟩; all_goals (repeat' (first | exact rfl | exact trivial | (with_reducible assumption) | refine And.intro ?_ ?_ | omega))) | exact (hf ⟨by assumption, by assumption, by assumption⟩).elim | trace_state
/-! The program -/
theorem draw_qs {P : Program} {T : TypeId → TD} {G : Nat → Option D} (qs : List Nat) (hT : TabOK P T) (hm : P.follows .mixedOrders = true) {ops : List Oper} {fr : List AV} {H : List Blk} {K : List AV → List Blk → Prop} (hB : treeOk ops.toArray (hardOf ops.toArray qs) (autoT qs ops) = true)
    (h : treeA T G (CallQ P G) (CallA P G) ops qs (autoT qs ops) fr H K) : DrawA P G ops fr H K := draw_tree hT hm _ _ hB h
theorem reserves_call2 (f : Int) (ls : List Int) (r : Int) (hs : List (List Int)) (ho : okF f ls r hs) : CallA Tryz.prog G 79 [Bs f ls r, Rh hs] [] (fun v J => v = .sl 0 1 (hs.map (hRes f ls r)).length ∧ J = [Di (hs.map (hRes f ls r))]) := by
  have h := reserves_call f ls r hs ho
  rw [show hs.length = (hs.map (hRes f ls r)).length from (List.length_map _).symm] at h
  exact h
set_option maxHeartbeats 4000000 in
set_option maxRecDepth 100000 in
theorem implCY_call (f : Int) (ls : List Int) (r : Int) (hs : List (List Int)) (ds : List Int) (fu ex it : Int) (hn : ls.length ≤ 1048576) (hh : hs.length ≤ 1048576) (hd : ds.length ≤ 1048576) : CallA Tryz.prog G 20 [Bs f ls r, Rh hs, Ri ds, I fu, I ex, I it] [] (fun v J => v = cyT f ls r hs ds fu ex it (.sl 0 7 (cyL f ls r hs ds fu ex it).length) ∧ J = [Dh (cyL f ls r hs ds fu ex it)]) := by
  refine CallA.ends (callA_of_body hT Tryz.func20 rfl ?_)
  have hcode := implCheck_ret f ls r hs ds hn hh hd
  by_cases hg : cyG f ls r hs ds fu ex it
  · have he : cyQ f ls r hs ds fu ex it ↔ clQ f ls r hs ds fu ex it := ⟨fun h => h.2, fun h => ⟨hg, h⟩⟩
    rw [cyT, cyL, cyC_yes hg, yT_iff he, propext he]
    rw [cDt_zero hg.1] at hcode
    have h1 := hg.2.1
    have h2 := hg.2.2.1
    have h3 := hg.2.2.2
    have ho := hg.1.1
    have hd := hg.1.2
    have hl := ho.2.1
    have hdl := hd.1
    have hag := implAge_call f ls r hs ds hn ho hd
    by_cases hb : noBad f ls r hs ds hs.length
    · rw [agT, (ag_yes hb).1, (ag_yes hb).2] at hag
      have hlo := later_ok ho hd hb
      by_cases hy : yrQ f ls r hs ds fu ex it
      · have hq : clQ f ls r hs ds fu ex it := ⟨hb, hy⟩
        have hc : clC f ls r hs ds fu ex it = 0 := (if_pos hb).trans (if_pos hy)
        rw [yT_yes hq, yL, whL_yes hq, hc]
        unfold yrQ at hy
        repeat' ((first | (conv => whnf) | skip); (first | ((with_reducible intro h); first | contradiction | omega | (conv => whnf) | skip) | (with_reducible refine And.intro ?_ ?_) | ((with_reducible show arithK _ _ _); refine arith_ok ⟨by omega, by omega⟩ ?_) | ((with_reducible show quoK _ _ _ _); refine quo_ok ⟨by omega, by omega⟩ (by omega) (by omega) ?_) | ((with_reducible show remK _ _ _ _); refine rem_ok (by omega) (by omega) ?_) | ((first | (with_reducible show CallA _ _ _ _ _ _) | (with_reducible show CallQ _ _ _ _ _ _)); first | (refine Ret.go (hcode) rfl rfl ?_) | (refine Ret.goQ (hcode) rfl rfl ?_) | (refine Ret.goP (implFund_ret _) rfl ?_) | (refine Ret.goQP (implFund_ret _) rfl ?_) | (refine CallA.go0 [] (hag) rfl (by first | ((repeat' (first | exact rfl | exact trivial | (with_reducible assumption) | refine And.intro ?_ ?_ | omega | assumption)); done) | fail) trivial ?_) | (refine Ret.go (implPrem_ret f ls r hs ho) rfl rfl ?_) | (refine Ret.goQ (implPrem_ret f ls r hs ho) rfl rfl ?_) | (refine Ret.go (implClaims_ret f ls r hs ds ho hd) rfl rfl ?_) | (refine Ret.goQ (implClaims_ret f ls r hs ds ho hd) rfl rfl ?_) | (refine CallA.go [] (reserves_call2 f ls r (later f ls hs ds) hlo) rfl (by first | ((repeat' (first | exact rfl | exact trivial | (with_reducible assumption) | refine And.intro ?_ ?_ | omega | assumption)); done) | fail) trivial ?_) | (refine Ret.useQ (total_res f ls r (later f ls hs ds) hlo) (by first | ((repeat' (first | exact rfl | exact trivial | (with_reducible assumption) | refine And.intro ?_ ?_ | omega | assumption)); done) | fail) rfl ?_) | (refine Ret.use (total_res f ls r (later f ls hs ds) hlo) (by first | ((repeat' (first | exact rfl | exact trivial | (with_reducible assumption) | refine And.intro ?_ ?_ | omega | assumption)); done) | fail) ?_) | (refine Ret.goP (implYear_ret _ _ _ _ _ _ _) rfl ?_) | (refine Ret.goQP (implYear_ret _ _ _ _ _ _ _) rfl ?_)) | ((with_reducible show DrawA _ _ _ _ _ _); first | (refine draw_qs [8, 12] hT mixed (by decide +kernel) ?_))))
        all_goals first | omega | exact absurd h1 (by assumption) | exact absurd h2 (by assumption) | exact absurd h3 (by assumption) | exact absurd hy (by assumption) | (refine ⟨[some 2], .tup [V7 fu (nets f ls r hs) (loads f ls r hs) ex it (clm f ls hs ds) (tot f ls r (later f ls hs ds)), .sl 0 7 (later f ls hs ds).length, I 0], [Dh (later f ls hs ds)], ?_, ?_, ?_⟩; all_goals (repeat' (first | exact rfl | exact trivial | (with_reducible assumption) | refine And.intro ?_ ?_)); all_goals (first | omega | assumption); done) | trace_state
      · have hq : ¬ clQ f ls r hs ds fu ex it := fun e => hy e.2
        have hc : clC f ls r hs ds fu ex it = 3 := (if_pos hb).trans (if_neg hy)
        rw [yT_no hq, yL, whL_no hq, hc]
        unfold yrQ at hy
        repeat' ((first | (conv => whnf) | skip); (first | ((with_reducible intro h); first | contradiction | omega | (conv => whnf) | skip) | (with_reducible refine And.intro ?_ ?_) | ((with_reducible show arithK _ _ _); refine arith_ok ⟨by omega, by omega⟩ ?_) | ((with_reducible show quoK _ _ _ _); refine quo_ok ⟨by omega, by omega⟩ (by omega) (by omega) ?_) | ((with_reducible show remK _ _ _ _); refine rem_ok (by omega) (by omega) ?_) | ((first | (with_reducible show CallA _ _ _ _ _ _) | (with_reducible show CallQ _ _ _ _ _ _)); first | (refine Ret.go (hcode) rfl rfl ?_) | (refine Ret.goQ (hcode) rfl rfl ?_) | (refine Ret.goP (implFund_ret _) rfl ?_) | (refine Ret.goQP (implFund_ret _) rfl ?_) | (refine CallA.go0 [] (hag) rfl (by first | ((repeat' (first | exact rfl | exact trivial | (with_reducible assumption) | refine And.intro ?_ ?_ | omega | assumption)); done) | fail) trivial ?_) | (refine Ret.go (implPrem_ret f ls r hs ho) rfl rfl ?_) | (refine Ret.goQ (implPrem_ret f ls r hs ho) rfl rfl ?_) | (refine Ret.go (implClaims_ret f ls r hs ds ho hd) rfl rfl ?_) | (refine Ret.goQ (implClaims_ret f ls r hs ds ho hd) rfl rfl ?_) | (refine CallA.go [] (reserves_call2 f ls r (later f ls hs ds) hlo) rfl (by first | ((repeat' (first | exact rfl | exact trivial | (with_reducible assumption) | refine And.intro ?_ ?_ | omega | assumption)); done) | fail) trivial ?_) | (refine Ret.useQ (total_res f ls r (later f ls hs ds) hlo) (by first | ((repeat' (first | exact rfl | exact trivial | (with_reducible assumption) | refine And.intro ?_ ?_ | omega | assumption)); done) | fail) rfl ?_) | (refine Ret.use (total_res f ls r (later f ls hs ds) hlo) (by first | ((repeat' (first | exact rfl | exact trivial | (with_reducible assumption) | refine And.intro ?_ ?_ | omega | assumption)); done) | fail) ?_) | (refine Ret.goP (implYear_ret _ _ _ _ _ _ _) rfl ?_) | (refine Ret.goQP (implYear_ret _ _ _ _ _ _ _) rfl ?_)) | ((with_reducible show DrawA _ _ _ _ _ _); first | (refine draw_qs [8, 12] hT mixed (by decide +kernel) ?_))))
        all_goals first | omega | exact absurd h1 (by assumption) | exact absurd h2 (by assumption) | exact absurd h3 (by assumption) | exact absurd (by assumption) hy | (refine ⟨[none], .tup [V7 0 0 0 0 0 0 0, .sl 0 7 0, I 3], [Dh []], ?_, ?_, ?_⟩; all_goals (repeat' (first | exact rfl | exact trivial | (with_reducible assumption) | refine And.intro ?_ ?_ | omega))) | trace_state
    · rw [agT, (ag_no hb).1, (ag_no hb).2] at hag
      have hq : ¬ clQ f ls r hs ds fu ex it := fun e => hb e.1
      have hc : clC f ls r hs ds fu ex it = 5 := if_neg hb
      rw [yT_no hq, yL, whL_no hq, hc]
      repeat' (first | (intro h; first | contradiction | omega | (conv => whnf) | skip) | (refine And.intro ?_ ?_) | (refine arith_ok ⟨by omega, by omega⟩ ?_) | (first | (refine draw_quiet hT mixed (by decide +kernel) ?_) | (refine draw_hard hT mixed (by decide +kernel) ?_)) | (refine Ret.go (hcode) rfl rfl ?_) | (refine Ret.goQ (hcode) rfl rfl ?_) | (refine Ret.goP (implFund_ret _) rfl ?_) | (refine Ret.goQP (implFund_ret _) rfl ?_) | (refine CallA.go0 [] (hag) rfl (by first | ((repeat' (first | exact rfl | exact trivial | (with_reducible assumption) | refine And.intro ?_ ?_ | omega | assumption)); done) | fail) trivial ?_))
      all_goals first | omega | exact absurd h1 (by assumption) | exact absurd h2 (by assumption) | exact absurd h3 (by assumption) | (refine ⟨[none], .tup [V7 0 0 0 0 0 0 0, .sl 0 7 0, I 5], [Dh []], ?_, ?_, ?_⟩; all_goals (repeat' (first | exact rfl | exact trivial | (with_reducible assumption) | refine And.intro ?_ ?_ | omega))) | trace_state
  · have hq : ¬ cyQ f ls r hs ds fu ex it := fun e => hg e.1
    rcases cy_three hg with (h1 | ⟨h1, h2⟩) | ⟨h1, hf⟩
    · rw [(cd_inv (ds := ds) (fu := fu) (ex := ex) (it := it) h1 true).1] at hcode
      rw [cyT, cyL, yT_no hq, yL, whL_no hq, (cd_inv h1 true).2]
      repeat' (first | (intro h; first | contradiction | omega | (conv => whnf) | skip) | (refine And.intro ?_ ?_) | (refine arith_ok ⟨by omega, by omega⟩ ?_) | (first | (refine draw_quiet hT mixed (by decide +kernel) ?_) | (refine draw_hard hT mixed (by decide +kernel) ?_)) | (refine Ret.go (hcode) rfl rfl ?_) | (refine Ret.goQ (hcode) rfl rfl ?_))
      all_goals first | omega | (refine ⟨[none], .tup [V7 0 0 0 0 0 0 0, .sl 0 7 0, I 1], [Dh []], ?_, ?_, ?_⟩; all_goals (repeat' (first | exact rfl | exact trivial | (with_reducible assumption) | refine And.intro ?_ ?_ | omega))) | trace_state
    · rw [(cd_dth (fu := fu) (ex := ex) (it := it) h1 h2 true).1] at hcode
      rw [cyT, cyL, yT_no hq, yL, whL_no hq, (cd_dth h1 h2 true).2]
      repeat' (first | (intro h; first | contradiction | omega | (conv => whnf) | skip) | (refine And.intro ?_ ?_) | (refine arith_ok ⟨by omega, by omega⟩ ?_) | (first | (refine draw_quiet hT mixed (by decide +kernel) ?_) | (refine draw_hard hT mixed (by decide +kernel) ?_)) | (refine Ret.go (hcode) rfl rfl ?_) | (refine Ret.goQ (hcode) rfl rfl ?_))
      all_goals first | omega | (refine ⟨[none], .tup [V7 0 0 0 0 0 0 0, .sl 0 7 0, I 2], [Dh []], ?_, ?_, ?_⟩; all_goals (repeat' (first | exact rfl | exact trivial | (with_reducible assumption) | refine And.intro ?_ ?_ | omega))) | trace_state
    · rw [cDt_zero h1] at hcode
      rw [cyT, cyL, yT_no hq, yL, whL_no hq, (cd_fund h1.1 hf).2]
      repeat' (first | (intro h; first | contradiction | omega | (conv => whnf) | skip) | (refine And.intro ?_ ?_) | (refine arith_ok ⟨by omega, by omega⟩ ?_) | (first | (refine draw_quiet hT mixed (by decide +kernel) ?_) | (refine draw_hard hT mixed (by decide +kernel) ?_)) | (refine Ret.go (hcode) rfl rfl ?_) | (refine Ret.goQ (hcode) rfl rfl ?_) | (refine Ret.goP (implFund_ret _) rfl ?_) | (refine Ret.goQP (implFund_ret _) rfl ?_))
      all_goals first | omega | (refine ⟨[none], .tup [V7 0 0 0 0 0 0 0, .sl 0 7 0, I 2], [Dh []], ?_, ?_, ?_⟩; all_goals (repeat' (first | exact rfl | exact trivial | (with_reducible assumption) | refine And.intro ?_ ?_ | omega))) | exact (hf ⟨by assumption, by assumption, by assumption⟩).elim | trace_state
end Go.Proofs.YtenofbabiacacaaGreat
