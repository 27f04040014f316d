/-
  The law on contradictions drawn from bytes. No conditions but those in the statements.
-/
import Derived.Test.YtnfddmbnkbigmaaFj
set_option linter.unusedVariables false
set_option linter.unusedSimpArgs false
namespace Go.Proofs.Ytnfddmbnkbigmaa
open Go.AE

attribute [local irreducible] CallA LoopA DrawA CallQ arithK quoK remK eqK
theorem single_ret {r : List Int} {a y k : Int} (hr : rowL r) (hk : 0 ≤ k ∧ k ≤ 3) (h : appl r a y k) : Ret Try.prog G 26 [RRule [r], VCase a y k] (.tup [I 0, I (r.getD 5 0), I 0]) := by
  have ha : areRl [r] := ⟨fun x hx => by rw [List.mem_singleton.1 hx]; exact hr, Nat.le_refl 1, by simp⟩
  have hf : fst [r] a y k = 0 := fst_hit (i := 0) (by simp) (fun j hj => absurd hj (Nat.not_lt_zero j)) h
  have hc : inC a y k := by
    obtain ⟨⟨h1, h2⟩, h3, ⟨h4, h5⟩, h6, _⟩ := hr
    obtain ⟨⟨h7, h8⟩, ⟨h9, h10⟩, _⟩ := h
    exact ⟨by omega, by omega, hk⟩
  have := implDecide_ret [r] a y k (by simp)
  rw [dcT_yes ha hc (by omega), hf] at this
  exact this
theorem sub_row {xss : List (List Int)} {z : Int} (h : 0 ≤ z ∧ z < xss.length) : (xss.drop z.toNat).take ((z + 1).toNat - z.toNat) = [xss.getD z.toNat []] := by
  rw [show (z + 1).toNat - z.toNat = 1 by omega]
  have hi : z.toNat < xss.length := by omega
  rw [getD_lt hi, List.drop_eq_getElem_cons hi]
  rfl
theorem fc_spec {xss : List (List Int)} (h : fcC xss = 0) : areRl xss ∧ fcI xss = ((fcM xss / 20 : Nat) : Int) ∧ fcJ xss = ((fcM xss % 20 : Nat) : Int) ∧ (∀ f, fcX f xss = f (xss.getD (fcM xss / 20) []) (xss.getD (fcM xss % 20) [])) ∧ conP xss (fcM xss / 20) (fcM xss % 20) := by
  have ha : areRl xss := by
    unfold fcC at h
    split at h
    · assumption
    · omega
  have hf : fcM xss < 400 := by
    unfold fcC at h
    rw [if_pos ha] at h
    split at h
    · assumption
    · omega
  have ho : fcOk xss := ⟨ha, hf⟩
  exact ⟨ha, if_pos ho, if_pos ho, fun f => if_pos ho, (fcM_spec xss).2 hf⟩
theorem fc_bnd {xss : List (List Int)} (h : fcC xss = 0) : 0 ≤ fcI xss ∧ fcI xss < fcJ xss ∧ fcJ xss < xss.length ∧ xss.length ≤ 20 := by
  obtain ⟨ha, h1, h2, _, hc⟩ := fc_spec h
  have := hc.1
  have := hc.2.1
  have := ha.2.2
  omega
theorem cons_i {xss : List (List Int)} (h : fcC xss = 0) : Ret Try.prog G 26 [RRule ((xss.drop (fcI xss).toNat).take ((fcI xss + 1).toNat - (fcI xss).toNat)), VCase (fcX cA2 xss) (fcX cY2 xss) (fcX kS xss)] (.tup [I 0, I ((xss.getD (fcI xss).toNat []).getD 5 0), I 0]) := by
  have hb := fc_bnd h
  obtain ⟨ha, h1, h2, hx, hc⟩ := fc_spec h
  rw [sub_row (by omega), hx, hx, hx]
  have e : (fcI xss).toNat = fcM xss / 20 := by omega
  rw [e]
  exact single_ret (ha.at (by have := hc.2.1; have := hc.1; omega)) (kS_in _ _) ((com_at rfl).1 hc.2.2.1).1
theorem cons_j {xss : List (List Int)} (h : fcC xss = 0) : Ret Try.prog G 26 [RRule ((xss.drop (fcJ xss).toNat).take ((fcJ xss + 1).toNat - (fcJ xss).toNat)), VCase (fcX cA2 xss) (fcX cY2 xss) (fcX kS xss)] (.tup [I 0, I ((xss.getD (fcJ xss).toNat []).getD 5 0), I 0]) := by
  have hb := fc_bnd h
  obtain ⟨ha, h1, h2, hx, hc⟩ := fc_spec h
  rw [sub_row (by omega), hx, hx, hx]
  have e : (fcJ xss).toNat = fcM xss % 20 := by omega
  rw [e]
  exact single_ret (ha.at hc.2.1) (kS_in _ _) ((com_at rfl).1 hc.2.2.1).2
theorem fc_ne {xss : List (List Int)} (h : fcC xss = 0) : (xss.getD (fcI xss).toNat []).getD 5 0 ≠ (xss.getD (fcJ xss).toNat []).getD 5 0 := by
  obtain ⟨ha, h1, h2, hx, hc⟩ := fc_spec h
  rw [h1, h2]
  exact hc.2.2.2
attribute [local irreducible] srcOk dcC dcI dcO fgR fgC fcC fcI fcJ fcX irR codeR
set_option maxHeartbeats 16000000 in
set_option maxRecDepth 100000 in
theorem lawCon_ret (code : List Int) (hn : code.length ≤ 9223372036854775807) (hb : bytesOk code) : Ret Try.prog G 7 [Rb code] (Bo true) := by
  refine ret_of_body hT Try.func7 rfl ?_ rfl
  by_cases hbig : (4096 : Int) < code.length
  · repeat' (first | (intro h; first | contradiction | omega | (conv => whnf) | skip) | (refine And.intro ?_ ?_) | (refine arith_ok ⟨by omega, by omega⟩ ?_) | (first | (refine draw_quiet hT mixed (by decide +kernel) ?_) | (refine draw_hard hT mixed (by decide +kernel) ?_)) | (refine Ret.goP (big_ret code) rfl ?_) | (refine Ret.goQP (big_ret code) rfl ?_))
    all_goals first | rfl | omega | trace_state
  · replace hn : code.length ≤ 2305843009213693952 := by omega
    repeat' (first | (intro h; first | contradiction | omega | (conv => whnf) | skip) | (refine And.intro ?_ ?_) | (refine arith_ok ⟨by omega, by omega⟩ ?_) | (first | (refine draw_quiet hT mixed (by decide +kernel) ?_) | (refine draw_hard hT mixed (by decide +kernel) ?_)) | (refine Ret.goP (big_ret code) rfl ?_) | (refine Ret.goQP (big_ret code) rfl ?_) | (refine goE4 false [] (drawCase_call code hn hb) rfl (by first | ((repeat' (first | exact rfl | exact trivial | (with_reducible assumption) | refine And.intro ?_ ?_ | omega | assumption)); done) | fail) (by first | ((repeat' (first | exact rfl | exact trivial | (with_reducible assumption) | refine And.intro ?_ ?_ | omega | assumption)); done) | fail) ?_; rintro xss ca cy ck ⟨hl, hr⟩; (first | (conv => whnf) | skip)) | (refine Ret.use (implDecide_ret xss ca cy ck (by omega)) (by first | ((repeat' (first | exact rfl | exact trivial | (with_reducible assumption) | refine And.intro ?_ ?_ | omega | assumption)); done) | fail) ?_) | (refine Ret.useQ (implDecide_ret xss ca cy ck (by omega)) (by first | ((repeat' (first | exact rfl | exact trivial | (with_reducible assumption) | refine And.intro ?_ ?_ | omega | assumption)); done) | fail) rfl ?_) | (refine Ret.use (specDecide_ret xss ca cy ck (by omega)) (by first | ((repeat' (first | exact rfl | exact trivial | (with_reducible assumption) | refine And.intro ?_ ?_ | omega | assumption)); done) | fail) ?_) | (refine Ret.useQ (specDecide_ret xss ca cy ck (by omega)) (by first | ((repeat' (first | exact rfl | exact trivial | (with_reducible assumption) | refine And.intro ?_ ?_ | omega | assumption)); done) | fail) rfl ?_) | (refine Ret.use (implFirst_ret xss (by omega)) (by first | ((repeat' (first | exact rfl | exact trivial | (with_reducible assumption) | refine And.intro ?_ ?_ | omega | assumption)); done) | fail) ?_) | (refine Ret.useQ (implFirst_ret xss (by omega)) (by first | ((repeat' (first | exact rfl | exact trivial | (with_reducible assumption) | refine And.intro ?_ ?_ | omega | assumption)); done) | fail) rfl ?_) | (refine Ret.use (specFirst_ret xss (by omega)) (by first | ((repeat' (first | exact rfl | exact trivial | (with_reducible assumption) | refine And.intro ?_ ?_ | omega | assumption)); done) | fail) ?_) | (refine Ret.useQ (specFirst_ret xss (by omega)) (by first | ((repeat' (first | exact rfl | exact trivial | (with_reducible assumption) | refine And.intro ?_ ?_ | omega | assumption)); done) | fail) rfl ?_) | (refine Ret.use (implFc_ret xss (by omega)) (by first | ((repeat' (first | exact rfl | exact trivial | (with_reducible assumption) | refine And.intro ?_ ?_ | omega | assumption)); done) | fail) ?_) | (refine Ret.useQ (implFc_ret xss (by omega)) (by first | ((repeat' (first | exact rfl | exact trivial | (with_reducible assumption) | refine And.intro ?_ ?_ | omega | assumption)); done) | fail) rfl ?_) | (refine Ret.use (specFc_ret xss (by omega)) (by first | ((repeat' (first | exact rfl | exact trivial | (with_reducible assumption) | refine And.intro ?_ ?_ | omega | assumption)); done) | fail) ?_) | (refine Ret.useQ (specFc_ret xss (by omega)) (by first | ((repeat' (first | exact rfl | exact trivial | (with_reducible assumption) | refine And.intro ?_ ?_ | omega | assumption)); done) | fail) rfl ?_) | (refine CallA.go [] (implIdle_call xss (by omega)) rfl (by first | ((repeat' (first | exact rfl | exact trivial | (with_reducible assumption) | refine And.intro ?_ ?_ | omega | assumption)); done) | fail) trivial ?_) | (refine CallA.go [] (specIdle_call xss (by omega)) rfl (by first | ((repeat' (first | exact rfl | exact trivial | (with_reducible assumption) | refine And.intro ?_ ?_ | omega | assumption)); done) | fail) trivial ?_) | (refine Ret.useP (likeInts_ret (irR xss) (irR xss) (Nat.le_trans (irR_len xss) (by decide))) (by first | ((repeat' (first | exact rfl | exact trivial | (with_reducible assumption) | refine And.intro ?_ ?_ | omega | assumption)); done) | fail) ?_) | (refine Ret.useQP (likeInts_ret (irR xss) (irR xss) (Nat.le_trans (irR_len xss) (by decide))) (by first | ((repeat' (first | exact rfl | exact trivial | (with_reducible assumption) | refine And.intro ?_ ?_ | omega | assumption)); done) | fail) ?_) | (refine Ret.use (implDecide_ret xss (fgR cA xss) (fgR cY xss) (fgR cK xss) (by omega)) (by first | ((repeat' (first | exact rfl | exact trivial | (with_reducible assumption) | refine And.intro ?_ ?_ | omega | assumption)); done) | fail) ?_) | (refine Ret.useQ (implDecide_ret xss (fgR cA xss) (fgR cY xss) (fgR cK xss) (by omega)) (by first | ((repeat' (first | exact rfl | exact trivial | (with_reducible assumption) | refine And.intro ?_ ?_ | omega | assumption)); done) | fail) rfl ?_) | (refine Ret.useP (hasInt_ret (irR xss) (dcI xss ca cy ck) (Nat.le_trans (irR_len xss) (by decide))) (by first | ((repeat' (first | exact rfl | exact trivial | (with_reducible assumption) | refine And.intro ?_ ?_ | omega | assumption)); done) | fail) ?_) | (refine Ret.useQP (hasInt_ret (irR xss) (dcI xss ca cy ck) (Nat.le_trans (irR_len xss) (by decide))) (by first | ((repeat' (first | exact rfl | exact trivial | (with_reducible assumption) | refine And.intro ?_ ?_ | omega | assumption)); done) | fail) ?_))
    all_goals first
    | rfl
    | omega
    | exact absurd (gap_dc (by assumption)) h
    | exact absurd (dc_gap (by assumption)) h
    | exact (dc_idle (Decidable.of_not_not (by assumption))).2.1.1
    | exact (dc_idle (Decidable.of_not_not (by assumption))).2.1.2
    | exact absurd (dc_idle (Decidable.of_not_not (by assumption))).2.2 h
    | exact absurd h (dc_idle (Decidable.of_not_not (by assumption))).1
    | (have hdi := (dc_idle (xss := xss) (a := ca) (y := cy) (k := ck) (Decidable.of_not_not (by assumption))).2.1; first | omega | (show _ < _; omega))
    | exact absurd h (fc_ne (by assumption))
    | skip
    all_goals (try (have hfb := fc_bnd (xss := xss) (by assumption); have hdl : (D.recs 6 xss).len = xss.length := rfl))
    repeat' (first | (intro h; first | contradiction | omega | (conv => whnf) | skip) | (refine And.intro ?_ ?_) | (refine arith_ok ⟨by omega, by omega⟩ ?_) | (first | (refine draw_quiet hT mixed (by decide +kernel) ?_) | (refine draw_hard hT mixed (by decide +kernel) ?_)) | (refine Ret.use (cons_i (xss := xss) (by assumption)) (by first | ((repeat' (first | exact rfl | exact trivial | (with_reducible assumption) | refine And.intro ?_ ?_ | omega | assumption)); done) | fail) ?_) | (refine Ret.useQ (cons_i (xss := xss) (by assumption)) (by first | ((repeat' (first | exact rfl | exact trivial | (with_reducible assumption) | refine And.intro ?_ ?_ | omega | assumption)); done) | fail) rfl ?_) | (refine Ret.use (cons_j (xss := xss) (by assumption)) (by first | ((repeat' (first | exact rfl | exact trivial | (with_reducible assumption) | refine And.intro ?_ ?_ | omega | assumption)); done) | fail) ?_) | (refine Ret.useQ (cons_j (xss := xss) (by assumption)) (by first | ((repeat' (first | exact rfl | exact trivial | (with_reducible assumption) | refine And.intro ?_ ?_ | omega | assumption)); done) | fail) rfl ?_) | (refine Ret.useP (hasInt_ret (irR xss) (dcI xss ca cy ck) (Nat.le_trans (irR_len xss) (by decide))) (by first | ((repeat' (first | exact rfl | exact trivial | (with_reducible assumption) | refine And.intro ?_ ?_ | omega | assumption)); done) | fail) ?_) | (refine Ret.useQP (hasInt_ret (irR xss) (dcI xss ca cy ck) (Nat.le_trans (irR_len xss) (by decide))) (by first | ((repeat' (first | exact rfl | exact trivial | (with_reducible assumption) | refine And.intro ?_ ?_ | omega | assumption)); done) | fail) ?_))
    all_goals first
    | rfl
    | omega
    | exact absurd (gap_dc (by assumption)) h
    | exact absurd (dc_gap (by assumption)) h
    | exact (dc_idle (Decidable.of_not_not (by assumption))).2.1.1
    | exact (dc_idle (Decidable.of_not_not (by assumption))).2.1.2
    | exact absurd (dc_idle (Decidable.of_not_not (by assumption))).2.2 h
    | exact absurd h (dc_idle (Decidable.of_not_not (by assumption))).1
    | (have hdi := (dc_idle (xss := xss) (a := ca) (y := cy) (k := ck) (Decidable.of_not_not (by assumption))).2.1; first | omega | (show _ < _; omega))
    | exact absurd h (fc_ne (by assumption))
    | skip
    trace_state
end Go.Proofs.Ytnfddmbnkbigmaa
