/-
  Years that run one after the other: what the functions return. No conditions but those in the statements.
-/
import Derived.Test.YtenofbabiacacaaGreatMm
set_option linter.unusedVariables false
set_option linter.unusedSimpArgs false
namespace Go.Proofs.YtenofbabiacacaaGreat
open Go.AE

attribute [local irreducible] CallA LoopA DrawA CallQ arithK quoK remK eqK
attribute [local irreducible] cols cN cM cD cC dur pTop pBase lv clS eDs okT sumH agL nets loads tot
theorem clC_zero {f : Int} {ls : List Int} {r : Int} {hs : List (List Int)} {ds : List Int} {fu ex it : Int} (h : clQ f ls r hs ds fu ex it) : clC f ls r hs ds fu ex it = 0 := (if_pos h.1).trans (if_pos h.2)
theorem clC_ne {f : Int} {ls : List Int} {r : Int} {hs : List (List Int)} {ds : List Int} {fu ex it : Int} (h : ¬ clQ f ls r hs ds fu ex it) : clC f ls r hs ds fu ex it = 3 ∨ clC f ls r hs ds fu ex it = 5 := by
  unfold clC
  by_cases hb : noBad f ls r hs ds hs.length
  · rw [if_pos hb, if_neg (fun e => h ⟨hb, e⟩)]; exact .inl rfl
  · rw [if_neg hb]; exact .inr rfl
theorem cyC_zero {f : Int} {ls : List Int} {r : Int} {hs : List (List Int)} {ds : List Int} {fu ex it : Int} (h : cyQ f ls r hs ds fu ex it) : cyC f ls r hs ds fu ex it = 0 := (cyC_yes h.1).trans (clC_zero h.2)
theorem cyC_ne {f : Int} {ls : List Int} {r : Int} {hs : List (List Int)} {ds : List Int} {fu ex it : Int} (h : ¬ cyQ f ls r hs ds fu ex it) : 1 ≤ cyC f ls r hs ds fu ex it ∧ cyC f ls r hs ds fu ex it ≤ 5 := by
  unfold cyC
  by_cases h1 : okF f ls r hs
  · rw [if_pos h1]
    by_cases h2 : dOk hs ds ∧ okD fu ∧ okD ex ∧ okD it
    · rw [if_pos h2]
      rcases clC_ne (fun e => h ⟨⟨⟨h1, h2.1⟩, h2.2⟩, e⟩) with e | e <;> omega
    · rw [if_neg h2]; omega
  · rw [if_neg h1]; omega
/-! The interest that makes up a year -/
def yEnd (f : Int) (ls : List Int) (r : Int) (hs : List (List Int)) (ds : List Int) (fu ex it : Int) : Int := fu + nets f ls r hs + loads f ls r hs - ex + it - clm f ls hs ds
noncomputable def beN (f : Int) (ls : List Int) (r : Int) (hs : List (List Int)) (ds : List Int) (fu ex : Int) : Int := max 0 (tot f ls r (later f ls hs ds) - yEnd f ls r hs ds fu ex 0)
noncomputable def beV (f : Int) (ls : List Int) (r : Int) (hs : List (List Int)) (ds : List Int) (fu ex : Int) : Int := wh (cyQ f ls r hs ds fu ex 0 ∧ beN f ls r hs ds fu ex ≤ 1000000000000) (beN f ls r hs ds fu ex)
noncomputable def beC (f : Int) (ls : List Int) (r : Int) (hs : List (List Int)) (ds : List Int) (fu ex : Int) : Int := if beN f ls r hs ds fu ex ≤ 1000000000000 ∨ cyC f ls r hs ds fu ex 0 ≠ 0 then cyC f ls r hs ds fu ex 0 else 3
theorem yr_of {f : Int} {ls : List Int} {r : Int} {hs : List (List Int)} {ds : List Int} {fu ex it : Int} (h : cyQ f ls r hs ds fu ex it) : isYr fu (nets f ls r hs) (loads f ls r hs) ex it (clm f ls hs ds) (tot f ls r (later f ls hs ds)) := by
  have h1 := h.2.2
  unfold yrQ at h1
  exact h1
set_option maxHeartbeats 4000000 in
set_option maxRecDepth 100000 in
theorem implBE_ret (f : Int) (ls : List Int) (r : Int) (hs : List (List Int)) (ds : List Int) (fu ex : Int) (hn : ls.length ≤ 1048576) (hh : hs.length ≤ 1048576) (hd : ds.length ≤ 1048576) : Ret Tryz.prog G 15 [Bs f ls r, Rh hs, Ri ds, I fu, I ex] (.tup [I (beV f ls r hs ds fu ex), I (beC f ls r hs ds fu ex)]) := by
  refine ret_of_body hT Tryz.func15 rfl ?_ rfl
  have hcy := implCY_call f ls r hs ds fu ex 0 hn hh hd
  · by_cases hq : cyQ f ls r hs ds fu ex 0
    · have hc := cyC_zero hq
      have hy := yr_of hq
      have hb := yr_bd hy
      rw [cyT, cyL, yL, whL_yes hq, yT_yes hq, hc] at hcy
      have he := implEndF_ret fu (nets f ls r hs) (loads f ls r hs) ex 0 (clm f ls hs ds) (tot f ls r (later f ls hs ds)) hy
      by_cases hm : beN f ls r hs ds fu ex ≤ 1000000000000
      · rw [show beV f ls r hs ds fu ex = beN f ls r hs ds fu ex from wh_yes ⟨hq, hm⟩ _, show beC f ls r hs ds fu ex = 0 from (if_pos (.inl hm)).trans hc]
        unfold beN yEnd at hm ⊢
        repeat' ((first | (conv => whnf) | skip); (first | ((with_reducible intro h); first | contradiction | omega | (conv => whnf) | skip) | (with_reducible refine And.intro ?_ ?_) | ((with_reducible show arithK _ _ _); refine arith_ok ⟨by omega, by omega⟩ ?_) | ((with_reducible show quoK _ _ _ _); refine quo_ok ⟨by omega, by omega⟩ (by omega) (by omega) ?_) | ((with_reducible show remK _ _ _ _); refine rem_ok (by omega) (by omega) ?_) | ((first | (with_reducible show CallA _ _ _ _ _ _) | (with_reducible show CallQ _ _ _ _ _ _)); first | (refine CallA.go0 [] (hcy) rfl (by first | ((repeat' (first | exact rfl | exact trivial | (with_reducible assumption) | refine And.intro ?_ ?_ | omega | assumption)); done) | fail) trivial ?_) | (refine Ret.go (he) rfl rfl ?_) | (refine Ret.goQ (he) rfl rfl ?_)) | ((with_reducible show DrawA _ _ _ _ _ _); first | (first | (refine draw_quiet hT mixed (by decide +kernel) ?_) | (refine draw_hard hT mixed (by decide +kernel) ?_)))))
        all_goals first | omega | rfl | trace_state
      · rw [show beV f ls r hs ds fu ex = 0 from wh_no (fun e => hm e.2) _, show beC f ls r hs ds fu ex = 3 from if_neg (fun e => e.elim hm (fun e => e hc))]
        unfold beN yEnd at hm
        repeat' ((first | (conv => whnf) | skip); (first | ((with_reducible intro h); first | contradiction | omega | (conv => whnf) | skip) | (with_reducible refine And.intro ?_ ?_) | ((with_reducible show arithK _ _ _); refine arith_ok ⟨by omega, by omega⟩ ?_) | ((with_reducible show quoK _ _ _ _); refine quo_ok ⟨by omega, by omega⟩ (by omega) (by omega) ?_) | ((with_reducible show remK _ _ _ _); refine rem_ok (by omega) (by omega) ?_) | ((first | (with_reducible show CallA _ _ _ _ _ _) | (with_reducible show CallQ _ _ _ _ _ _)); first | (refine CallA.go0 [] (hcy) rfl (by first | ((repeat' (first | exact rfl | exact trivial | (with_reducible assumption) | refine And.intro ?_ ?_ | omega | assumption)); done) | fail) trivial ?_) | (refine Ret.go (he) rfl rfl ?_) | (refine Ret.goQ (he) rfl rfl ?_)) | ((with_reducible show DrawA _ _ _ _ _ _); first | (first | (refine draw_quiet hT mixed (by decide +kernel) ?_) | (refine draw_hard hT mixed (by decide +kernel) ?_)))))
        all_goals first | omega | rfl | trace_state
    · have hc := cyC_ne hq
      rw [cyT, cyL, yL, whL_no hq, yT_no hq] at hcy
      rw [show beV f ls r hs ds fu ex = 0 from wh_no (fun e => hq e.1) _, show beC f ls r hs ds fu ex = cyC f ls r hs ds fu ex 0 from if_pos (.inr (by omega))]
      repeat' ((first | (conv => whnf) | skip); (first | ((with_reducible intro h); first | contradiction | omega | (conv => whnf) | skip) | (with_reducible refine And.intro ?_ ?_) | ((with_reducible show arithK _ _ _); refine arith_ok ⟨by omega, by omega⟩ ?_) | ((with_reducible show quoK _ _ _ _); refine quo_ok ⟨by omega, by omega⟩ (by omega) (by omega) ?_) | ((with_reducible show remK _ _ _ _); refine rem_ok (by omega) (by omega) ?_) | ((first | (with_reducible show CallA _ _ _ _ _ _) | (with_reducible show CallQ _ _ _ _ _ _)); first | (refine CallA.go0 [] (hcy) rfl (by first | ((repeat' (first | exact rfl | exact trivial | (with_reducible assumption) | refine And.intro ?_ ?_ | omega | assumption)); done) | fail) trivial ?_)) | ((with_reducible show DrawA _ _ _ _ _ _); first | (first | (refine draw_quiet hT mixed (by decide +kernel) ?_) | (refine draw_hard hT mixed (by decide +kernel) ?_)))))
      all_goals first | omega | rfl | trace_state
set_option maxHeartbeats 4000000 in
set_option maxRecDepth 100000 in
theorem specBE_ret (f : Int) (ls : List Int) (r : Int) (hs : List (List Int)) (ds : List Int) (fu ex : Int) (hn : ls.length ≤ 1048576) (hh : hs.length ≤ 1048576) (hd : ds.length ≤ 1048576) : Ret Tryz.prog G 11 [Bs f ls r, Rh hs, Ri ds, I fu, I ex] (.tup [I (beV f ls r hs ds fu ex), I (beC f ls r hs ds fu ex)]) := by
  refine ret_of_body hT Tryz.func11 rfl ?_ rfl
  have hcy := specCY_call f ls r hs ds fu ex 0 hn hh hd
  · by_cases hq : cyQ f ls r hs ds fu ex 0
    · have hc := cyC_zero hq
      have hy := yr_of hq
      have hb := yr_bd hy
      rw [cyT, cyL, yL, whL_yes hq, yT_yes hq, hc] at hcy
      have he := specEnd2_ret fu (nets f ls r hs) (loads f ls r hs) ex 0 (clm f ls hs ds) (tot f ls r (later f ls hs ds)) hy
      by_cases hm : beN f ls r hs ds fu ex ≤ 1000000000000
      · rw [show beV f ls r hs ds fu ex = beN f ls r hs ds fu ex from wh_yes ⟨hq, hm⟩ _, show beC f ls r hs ds fu ex = 0 from (if_pos (.inl hm)).trans hc]
        unfold beN yEnd at hm ⊢
        repeat' ((first | (conv => whnf) | skip); (first | ((with_reducible intro h); first | contradiction | omega | (conv => whnf) | skip) | (with_reducible refine And.intro ?_ ?_) | ((with_reducible show arithK _ _ _); refine arith_ok ⟨by omega, by omega⟩ ?_) | ((with_reducible show quoK _ _ _ _); refine quo_ok ⟨by omega, by omega⟩ (by omega) (by omega) ?_) | ((with_reducible show remK _ _ _ _); refine rem_ok (by omega) (by omega) ?_) | ((first | (with_reducible show CallA _ _ _ _ _ _) | (with_reducible show CallQ _ _ _ _ _ _)); first | (refine CallA.go0 [] (hcy) rfl (by first | ((repeat' (first | exact rfl | exact trivial | (with_reducible assumption) | refine And.intro ?_ ?_ | omega | assumption)); done) | fail) trivial ?_) | (refine Ret.go (he) rfl rfl ?_) | (refine Ret.goQ (he) rfl rfl ?_)) | ((with_reducible show DrawA _ _ _ _ _ _); first | (first | (refine draw_quiet hT mixed (by decide +kernel) ?_) | (refine draw_hard hT mixed (by decide +kernel) ?_)))))
        all_goals first | omega | rfl | trace_state
      · rw [show beV f ls r hs ds fu ex = 0 from wh_no (fun e => hm e.2) _, show beC f ls r hs ds fu ex = 3 from if_neg (fun e => e.elim hm (fun e => e hc))]
        unfold beN yEnd at hm
        repeat' ((first | (conv => whnf) | skip); (first | ((with_reducible intro h); first | contradiction | omega | (conv => whnf) | skip) | (with_reducible refine And.intro ?_ ?_) | ((with_reducible show arithK _ _ _); refine arith_ok ⟨by omega, by omega⟩ ?_) | ((with_reducible show quoK _ _ _ _); refine quo_ok ⟨by omega, by omega⟩ (by omega) (by omega) ?_) | ((with_reducible show remK _ _ _ _); refine rem_ok (by omega) (by omega) ?_) | ((first | (with_reducible show CallA _ _ _ _ _ _) | (with_reducible show CallQ _ _ _ _ _ _)); first | (refine CallA.go0 [] (hcy) rfl (by first | ((repeat' (first | exact rfl | exact trivial | (with_reducible assumption) | refine And.intro ?_ ?_ | omega | assumption)); done) | fail) trivial ?_) | (refine Ret.go (he) rfl rfl ?_) | (refine Ret.goQ (he) rfl rfl ?_)) | ((with_reducible show DrawA _ _ _ _ _ _); first | (first | (refine draw_quiet hT mixed (by decide +kernel) ?_) | (refine draw_hard hT mixed (by decide +kernel) ?_)))))
        all_goals first | omega | rfl | trace_state
    · have hc := cyC_ne hq
      rw [cyT, cyL, yL, whL_no hq, yT_no hq] at hcy
      rw [show beV f ls r hs ds fu ex = 0 from wh_no (fun e => hq e.1) _, show beC f ls r hs ds fu ex = cyC f ls r hs ds fu ex 0 from if_pos (.inr (by omega))]
      repeat' ((first | (conv => whnf) | skip); (first | ((with_reducible intro h); first | contradiction | omega | (conv => whnf) | skip) | (with_reducible refine And.intro ?_ ?_) | ((with_reducible show arithK _ _ _); refine arith_ok ⟨by omega, by omega⟩ ?_) | ((with_reducible show quoK _ _ _ _); refine quo_ok ⟨by omega, by omega⟩ (by omega) (by omega) ?_) | ((with_reducible show remK _ _ _ _); refine rem_ok (by omega) (by omega) ?_) | ((first | (with_reducible show CallA _ _ _ _ _ _) | (with_reducible show CallQ _ _ _ _ _ _)); first | (refine CallA.go0 [] (hcy) rfl (by first | ((repeat' (first | exact rfl | exact trivial | (with_reducible assumption) | refine And.intro ?_ ?_ | omega | assumption)); done) | fail) trivial ?_)) | ((with_reducible show DrawA _ _ _ _ _ _); first | (first | (refine draw_quiet hT mixed (by decide +kernel) ?_) | (refine draw_hard hT mixed (by decide +kernel) ?_)))))
      all_goals first | omega | rfl | trace_state
/-! Frozen forms -/
theorem eDs_all {f : Int} {ls : List Int} {hs : List (List Int)} : eDs f ls hs hs.length = hs.map (eD f ls) := by
  unfold eDs
  rw [List.take_length]
theorem eD_bd {f : Int} {ls : List Int} {r : Int} {h : List Int} (ho : okB f ls r) (hh : okH f ls r h) : 0 ≤ eD f ls h ∧ eD f ls h ≤ h.getD 6 0 := by
  have hlv := cD_lv ho.1 hh.1.2.2
  have hl2 := lv_bd ho.1 (h.getD 1 0 + h.getD 5 0 + 1)
  have hdb := dur_bd hh.1.1
  have hq := hh.1.2.1
  have hl3 := lv_mono ho.1 (x := h.getD 1 0 + h.getD 5 0) (by omega)
  have hc := hh.2
  unfold eD
  refine ⟨Int.ediv_nonneg (Int.mul_nonneg hc.1 (by omega)) (by omega), Int.ediv_le_of_le_mul (by omega) (Int.mul_le_mul_of_nonneg_left (by omega) hc.1)⟩
theorem eDs_ok {f : Int} {ls : List Int} {r : Int} {hs : List (List Int)} (ho : okF f ls r hs) : dOk hs (eDs f ls hs hs.length) := by
  rw [eDs_all]
  refine ⟨List.length_map _, fun i hi => ?_⟩
  rw [mapH_get hi]
  exact eD_bd ho.1 (ho.2.2 _ (getD_mem hi))
abbrev exD (f : Int) (ls : List Int) (hs : List (List Int)) : List Int := eDs f ls hs hs.length
theorem implDths_ro (f : Int) (ls : List Int) (r : Int) (hs : List (List Int)) (ho : okF f ls r hs) : CallA Tryz.prog G 90 [Bs f ls r, Rh hs] [] (fun v J => v = Ri (exD f ls hs) ∧ J = []) :=
  CallA.frozen ((implDths_call f ls r hs ho).mono fun v J ⟨h1, h2⟩ => by subst h1 h2; exact ⟨Ri (exD f ls hs), ⟨rfl, rfl, rfl, (eDs_len (Nat.le_refl _)).symm, rfl⟩, rfl, rfl⟩)
theorem specDths_ro (f : Int) (ls : List Int) (r : Int) (hs : List (List Int)) (ho : okF f ls r hs) : CallA Tryz.prog G 86 [Bs f ls r, Rh hs] [] (fun v J => v = Ri (exD f ls hs) ∧ J = []) :=
  CallA.frozen ((specDths_call f ls r hs ho).mono fun v J ⟨h1, h2⟩ => by subst h1 h2; exact ⟨Ri (exD f ls hs), ⟨rfl, rfl, rfl, (eDs_len (Nat.le_refl _)).symm, rfl⟩, rfl, rfl⟩)
noncomputable abbrev clT (f : Int) (ls : List Int) (r : Int) (hs : List (List Int)) (ds : List Int) (fu ex it : Int) : AV := yT (clQ f ls r hs ds fu ex it) f ls r hs ds fu ex it (Rh (yL (clQ f ls r hs ds fu ex it) f ls hs ds)) (clC f ls r hs ds fu ex it)
theorem am_ro (xss : List (List Int)) : amE true [] [Dh xss] (.sl 0 7 xss.length) (Rh xss) := ⟨rfl, rfl, rfl, rfl, rfl⟩
theorem specClose_ro (f : Int) (ls : List Int) (r : Int) (hs : List (List Int)) (ds : List Int) (fu ex it : Int) (hn : ls.length ≤ 1048576) (ho : okF f ls r hs) (hd : dOk hs ds) : CallA Tryz.prog G 72 [Bs f ls r, Rh hs, Ri ds, I fu, I ex, I it] [] (fun v J => v = clT f ls r hs ds fu ex it ∧ J = []) :=
  CallA.frozen ((specClose_call f ls r hs ds fu ex it hn ho hd).mono fun v J ⟨h1, h2⟩ => by subst h1 h2; exact ⟨clT f ls r hs ds fu ex it, ⟨amE_self rfl, am_ro _, amE_self rfl, trivial⟩, rfl, rfl⟩)
theorem implClose_ro (f : Int) (ls : List Int) (r : Int) (hs : List (List Int)) (ds : List Int) (fu ex it : Int) (hn : ls.length ≤ 1048576) (ho : okF f ls r hs) (hd : dOk hs ds) (h1 : okD fu) (h2 : okD ex) (h3 : okD it) : CallA Tryz.prog G 20 [Bs f ls r, Rh hs, Ri ds, I fu, I ex, I it] [] (fun v J => v = clT f ls r hs ds fu ex it ∧ J = []) := by
  have hl := ho.2.1
  have hdl := hd.1
  have hg : cyG f ls r hs ds fu ex it := ⟨⟨ho, hd⟩, h1, h2, h3⟩
  have he : cyQ f ls r hs ds fu ex it ↔ clQ f ls r hs ds fu ex it := ⟨fun h => h.2, fun h => ⟨hg, h⟩⟩
  have h := implCY_call f ls r hs ds fu ex it hn (by omega) (by omega)
  rw [cyT, cyL, cyC_yes hg, yT_iff he, propext he] at h
  exact CallA.frozen (h.mono fun v J ⟨h1, h2⟩ => by subst h1 h2; exact ⟨clT f ls r hs ds fu ex it, ⟨amE_self rfl, am_ro _, amE_self rfl, trivial⟩, rfl, rfl⟩)
/-! Years -/
abbrev itr (f : Int) (ls : List Int) (r : Int) (hs : List (List Int)) (fu rt : Int) : Int := (fu + nets f ls r hs) * rt / 1000
abbrev laterX (f : Int) (ls : List Int) (hs : List (List Int)) : List (List Int) := later f ls hs (exD f ls hs)
abbrev endX (f : Int) (ls : List Int) (r : Int) (hs : List (List Int)) (fu co rt : Int) : Int := yEnd f ls r hs (exD f ls hs) fu co (itr f ls r hs fu rt)
abbrev rowX (f : Int) (ls : List Int) (r : Int) (hs : List (List Int)) (fu co rt : Int) : List Int := [fu, nets f ls r hs, loads f ls r hs, co, itr f ls r hs fu rt, clm f ls hs (exD f ls hs), tot f ls r (laterX f ls hs)]
def goX (f : Int) (ls : List Int) (r : Int) (hs : List (List Int)) (fu co rt : Int) : Prop := (okD (nets f ls r hs) ∧ okD (itr f ls r hs fu rt)) ∧ clQ f ls r hs (exD f ls hs) fu co (itr f ls r hs fu rt) ∧ okD (endX f ls r hs fu co rt)
noncomputable instance (f : Int) (ls : List Int) (r : Int) (hs : List (List Int)) (fu co rt : Int) : Decidable (goX f ls r hs fu co rt) := Classical.propDecidable _
/-- The code of a year that ends the run. -/
noncomputable def cdX (f : Int) (ls : List Int) (r : Int) (hs : List (List Int)) (fu co rt : Int) : Int := if (okD (nets f ls r hs) ∧ okD (itr f ls r hs fu rt)) ∧ ¬ clQ f ls r hs (exD f ls hs) fu co (itr f ls r hs fu rt) then clC f ls r hs (exD f ls hs) fu co (itr f ls r hs fu rt) else 3
/-- Rows that were found, ahead of those to come. -/
def glue (acc : List (List Int)) (p : List (List Int) × Int) : List (List Int) × Int := if p.2 = 0 then (acc ++ p.1, 0) else ([], p.2)
noncomputable def run (f : Int) (ls : List Int) (r co rt : Int) : Nat → List (List Int) → Int → List (List Int) × Int
  | 0, _, _ => ([], 0)
  | n + 1, hs, fu => if hs.length = 0 then ([], 0) else if goX f ls r hs fu co rt then glue [rowX f ls r hs fu co rt] (run f ls r co rt n (laterX f ls hs) (endX f ls r hs fu co rt)) else ([], cdX f ls r hs fu co rt)
theorem glue_nil (acc : List (List Int)) : glue acc ([], 0) = (acc, 0) := by unfold glue; rw [if_pos rfl, List.append_nil]
theorem glue_cd (acc : List (List Int)) {c : Int} (h : c ≠ 0) : glue acc ([], c) = ([], c) := by unfold glue; rw [if_neg h]
theorem glue_glue (a b : List (List Int)) (p : List (List Int) × Int) : glue a (glue b p) = glue (a ++ b) p := by
  unfold glue
  by_cases h : p.2 = 0
  · rw [if_pos h, if_pos h, if_pos rfl, List.append_assoc]
  · rw [if_neg h, if_neg h, if_neg h]
theorem run_zero {f : Int} {ls : List Int} {r co rt : Int} {hs : List (List Int)} {fu : Int} : run f ls r co rt 0 hs fu = ([], 0) := rfl
theorem run_nil {f : Int} {ls : List Int} {r co rt : Int} {n : Nat} {hs : List (List Int)} {fu : Int} (h : hs.length = 0) : run f ls r co rt n hs fu = ([], 0) := by
  cases n with
  | zero => rfl
  | succ n => exact if_pos h
theorem run_go {f : Int} {ls : List Int} {r co rt : Int} {n : Nat} {hs : List (List Int)} {fu : Int} (h : ¬ hs.length = 0) (hg : goX f ls r hs fu co rt) (acc : List (List Int)) : glue acc (run f ls r co rt (n + 1) hs fu) = glue (acc ++ [rowX f ls r hs fu co rt]) (run f ls r co rt n (laterX f ls hs) (endX f ls r hs fu co rt)) := by
  show glue acc (if _ then _ else _) = _
  rw [if_neg h, if_pos hg, glue_glue]
theorem run_no {f : Int} {ls : List Int} {r co rt : Int} {n : Nat} {hs : List (List Int)} {fu : Int} (h : ¬ hs.length = 0) (hg : ¬ goX f ls r hs fu co rt) (acc : List (List Int)) : glue acc (run f ls r co rt (n + 1) hs fu) = ([], cdX f ls r hs fu co rt) ∧ 3 ≤ cdX f ls r hs fu co rt ∧ cdX f ls r hs fu co rt ≤ 5 := by
  have hc : 3 ≤ cdX f ls r hs fu co rt ∧ cdX f ls r hs fu co rt ≤ 5 := by
    unfold cdX
    by_cases h1 : (okD (nets f ls r hs) ∧ okD (itr f ls r hs fu rt)) ∧ ¬ clQ f ls r hs (exD f ls hs) fu co (itr f ls r hs fu rt)
    · rw [if_pos h1]
      rcases clC_ne h1.2 with e | e <;> omega
    · rw [if_neg h1]; omega
  refine ⟨?_, hc⟩
  show glue acc (if _ then _ else _) = _
  rw [if_neg h, if_neg hg, glue_cd _ (by omega)]
theorem glue_empty (p : List (List Int) × Int) (h : p.2 ≠ 0 → p.1 = []) : glue [] p = p := by
  unfold glue
  by_cases h0 : p.2 = 0
  · rw [if_pos h0, List.nil_append]; exact Prod.ext rfl h0.symm
  · rw [if_neg h0]; exact Prod.ext (h h0).symm rfl
theorem run_clean {f : Int} {ls : List Int} {r co rt : Int} (n : Nat) (hs : List (List Int)) (fu : Int) : (run f ls r co rt n hs fu).2 ≠ 0 → (run f ls r co rt n hs fu).1 = [] := by
  cases n with
  | zero => intro h; exact absurd rfl h
  | succ n =>
    by_cases h : hs.length = 0
    · rw [run_nil h]; intro h; exact absurd rfl h
    · by_cases hg : goX f ls r hs fu co rt
      · show ((if _ then _ else _) : List (List Int) × Int).2 ≠ 0 → ((if _ then _ else _) : List (List Int) × Int).1 = []
        rw [if_neg h, if_pos hg]
        unfold glue
        split
        · intro h; exact absurd rfl h
        · intro _; rfl
      · show ((if _ then _ else _) : List (List Int) × Int).2 ≠ 0 → ((if _ then _ else _) : List (List Int) × Int).1 = []
        rw [if_neg h, if_neg hg]; intro _; rfl
end Go.Proofs.YtenofbabiacacaaGreat
