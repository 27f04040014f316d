/-
  A step for every command of the console. A line of the console: what both do with a society. What a line does, as a function. No conditions but those in the statements.
-/
import Derived.Test.YtglbamncajileaaGreatDoorUrd
import Derived.Test.YtglbamncajileaaGreatDoorUch
import Derived.Test.YtglbamncajileaaGreatDoorUho
import Derived.Test.YtglbamncajileaaGreatDoorUdr
import Derived.Test.YtglbamncajileaaGreatDoorUtr
import Derived.Test.YtglbamncajileaaGreatDoorUsf
import Derived.Test.YtglbamncajileaaGreatDoorUyg
import Derived.Test.YtglbamncajileaaGreatDoorUrs
import Derived.Test.YtglbamncajileaaGreatDoorUrk
set_option linter.unusedVariables false
set_option linter.unusedSimpArgs false
set_option maxRecDepth 100000
set_option maxHeartbeats 400000
namespace Go.Proofs.YtglbamncajileaaGreatDoor
open Go.AE Go.Lib
section
theorem cmd1 {b : ByteArray} {vs : List (List UInt8)} {lo hi : Nat} (hk : kd b = (1, lo, hi)) (hP : cmdP b vs) : lo ≤ (cmdN b vs).length ∧ (cmdN b vs).length ≤ hi ∧ ∀ x ∈ cmdN b vs, sm x := by
 rcases (kd_cases hk).1 hP with ⟨-, ha, h1, h2⟩ | ⟨e, -⟩
 · obtain ⟨xs, hs, hv, hn⟩ := allN_inv ha
   have e : cmdN b vs = xs := by unfold cmdN; rw [hk]; exact hn
   have hl : vs.length = xs.length := by rw [hv, List.length_map]
   rw [e]
   exact ⟨by omega, by omega, hs⟩
 · exact absurd e (by decide)
theorem cmd2 {b : ByteArray} {vs : List (List UInt8)} {lo hi : Nat} (hk : kd b = (2, lo, hi)) (hP : cmdP b vs) : cmdW b vs = B (vs.getD 0 []) ∧ vs.getD 0 [] ∈ vs ∧ lo ≤ (cmdN b vs).length ∧ (cmdN b vs).length ≤ hi := by
 rcases (kd_cases hk).1 hP with ⟨e, -⟩ | ⟨-, ⟨h0, -⟩, ha, h1, h2⟩
 · exact absurd e (by decide)
 · obtain ⟨xs, hs, hv, hn⟩ := allN_inv ha
   have e : cmdN b vs = xs := by unfold cmdN; rw [hk]; exact hn
   have hl : (vs.drop 1).length = xs.length := by rw [hv, List.length_map]
   rw [e]
   refine ⟨by unfold cmdW; rw [hk]; rfl, getD_mem (List.length_pos_iff.2 h0), by omega, by omega⟩
theorem step_all (F : Fu) (hF : F.ok) (b : ByteArray) (vs : List (List UInt8)) (hP : cmdP b vs) (hv : ∀ v ∈ vs, v.length ≤ 1048576) : Step F b (cmdW b vs) (cmdN b vs) := by
 by_cases h0 : b = w_list
 · exact list_step F hF b _ h0 _
 by_cases h1 : b = w_reserve
 · exact reserve_step F hF b _ h1 _
 by_cases h2 : b = w_premiums
 · exact premiums_step F hF b _ h2 _
 by_cases h3 : b = w_claims
 · exact claims_step F hF b _ h3 _
 by_cases h4 : b = w_quote
 · obtain ⟨e, hm, -⟩ := cmd2 (kd_quote h4) hP
   rw [e]
   exact quote_step F hF b _ (hv _ hm) h4 _
 by_cases h5 : b = w_hold
 · obtain ⟨e, hm, l1, l2⟩ := cmd2 (kd_hold h5) hP
   rw [e]
   by_cases hp : ∃ ys, PAcc (vs.getD 0 []) ys
   · obtain ⟨ys, hp⟩ := hp
     exact hold_yes F hF b _ (hv _ hm) h5 _ (by omega) ys hp
   · exact hold_no F hF b _ (hv _ hm) h5 _ fun ys h => hp ⟨ys, h⟩
 by_cases h6 : b = w_rate
 · obtain ⟨l1, l2, -⟩ := cmd1 (kd_rate h6) hP
   exact rate_step F hF b _ h6 _ (by omega)
 by_cases h7 : b = w_fund
 · obtain ⟨l1, l2, -⟩ := cmd1 (kd_fund h7) hP
   exact fund_step F hF b _ h7 _ (by omega)
 by_cases h8 : b = w_drop
 · obtain ⟨l1, l2, -⟩ := cmd1 (kd_drop h8) hP
   exact drop_step F hF b _ h8 _ (by omega)
 by_cases h9 : b = w_leave
 · obtain ⟨l1, l2, -⟩ := cmd1 (kd_leave h9) hP
   exact leave_step F hF b _ h9 _ (by omega)
 by_cases h10 : b = w_annuity
 · obtain ⟨l1, l2, -⟩ := cmd1 (kd_annuity h10) hP
   exact annuity_step F hF b _ h10 _ (by omega)
 by_cases h11 : b = w_scenario
 · obtain ⟨l1, l2, -⟩ := cmd1 (kd_scenario h11) hP
   exact scenario_step F hF b _ h11 _ (by omega)
 by_cases h12 : b = w_bonus
 · obtain ⟨l1, l2, -⟩ := cmd1 (kd_bonus h12) hP
   exact bonus_step F hF b _ h12 _ (by omega)
 by_cases h13 : b = w_price
 · obtain ⟨l1, l2, -⟩ := cmd1 (kd_price h13) hP
   exact price_step F hF b _ h13 _ (by omega)
 by_cases h14 : b = w_table
 · obtain ⟨l1, l2, hs⟩ := cmd1 (kd_table h14) hP
   by_cases ho : okT ((cmdN b vs).getD 0 0) (tlN (cmdN b vs))
   · exact table_yes F hF b _ h14 _ l1 l2 hs ho
   · exact table_no F hF b _ h14 _ l1 l2 hs ho
 by_cases h15 : b = w_year
 · obtain ⟨l1, l2, -⟩ := cmd1 (kd_year h15) hP
   exact year_step F hF b _ h15 _ l1 l2
 have hk := kd_none h0 h1 h2 h3 h4 h5 h6 h7 h8 h9 h10 h11 h12 h13 h14 h15
 rcases (kd_cases hk).1 hP with ⟨e, -⟩ | ⟨e, -⟩ <;> exact absurd e (by decide)
end
section
theorem run_both (F : Fu) (hF : F.ok) (l : List UInt8) (hn : l.length ≤ 1048576) : ∃ (F' : Fu) (t : List UInt8), F'.ok ∧ t.length ≤ 100000 ∧ RunI F F' l t ∧ RunS F F' l t ∧ (¬ cmdS l → (F', t) = (F, errT 6)) := by
 obtain ⟨w0, vs, hws⟩ := sp_cons l
 by_cases hP : cmdP (B w0) vs
 · have hI := readI_of l hn w0 vs hws hP
   have hS := readS_of l hn w0 vs hws hP
   have hyes : ∀ p : Prop, ¬ cmdS l → p := fun p h => absurd ⟨w0, vs, hws, hP⟩ h
   have hsh := sp_short (c := 32) hn
   rcases step_all F hF (B w0) vs hP (fun v hv => hsh v (by rw [hws]; exact List.mem_cons_of_mem _ hv)) with ⟨F', h, hi, hs, hk⟩ | ⟨c, hc, t, v, hi, hs, hk, hv⟩ | ⟨t, ht, hn', hi, hs, hk⟩ | ⟨c, hc, t, t', hn', hi, hs, hk⟩ | ⟨F', h, t, ht, hn', hi, hs, hk⟩ | ⟨c, hc, t, t', v, hn', hi, hs, hk, hv⟩
   · exact ⟨F', _, h, by decide, implRun_chg F F' hF l _ _ _ hI hi, specRun_chg F F' l _ _ _ _ hS hk hs, hyes _⟩
   · exact ⟨F, _, hF, (err_len c ⟨by have := hc.1; omega, hc.2⟩).1, implRun_chgE F hF l _ _ _ c hc hI hi, specRun_chgE F l _ _ _ t c hc v hv hS hk hs, hyes _⟩
   · exact ⟨F, _, hF, ht, implRun_tel F F hF l _ _ _ t hI hn' hi, specRun_tel F l _ _ _ t hS hk hs, hyes _⟩
   · exact ⟨F, _, hF, (err_len c ⟨by have := hc.1; omega, hc.2⟩).1, implRun_telE F hF l _ _ _ c hc t hI hn' hi, specRun_telE F l _ _ _ t' c hc hS hk hs, hyes _⟩
   · exact ⟨F', _, h, ht, implRun_tel F F' hF l _ _ _ t hI hn' hi, specRun_chg F F' l _ _ _ t hS hk hs, hyes _⟩
   · exact ⟨F, _, hF, (err_len c ⟨by have := hc.1; omega, hc.2⟩).1, implRun_telE F hF l _ _ _ c hc t hI hn' hi, specRun_chgE F l _ _ _ t' c hc v hv hS hk hs, hyes _⟩
 · exact ⟨F, _, hF, (err_len 6 (by omega)).1, implRun_no F hF l hn w0 vs hws hP, specRun_no F hF l hn w0 vs hws hP, fun _ => rfl⟩
end
section
theorem run_ex (F : Fu) (l : List UInt8) (h : F.ok ∧ l.length ≤ 1048576) : ∃ p : Fu × List UInt8, p.1.ok ∧ p.2.length ≤ 100000 ∧ RunI F p.1 l p.2 ∧ RunS F p.1 l p.2 ∧ (¬ cmdS l → p = (F, errT 6)) := by
 obtain ⟨F', t, h'⟩ := run_both F h.1 l h.2
 exact ⟨(F', t), h'⟩
noncomputable def nxP (F : Fu) (l : List UInt8) : Fu × List UInt8 := @dite _ (F.ok ∧ l.length ≤ 1048576) (Classical.propDecidable _) (fun h => Classical.choose (run_ex F l h)) (fun _ => (F, []))
theorem nxP_spec (F : Fu) (l : List UInt8) (h1 : F.ok) (h2 : l.length ≤ 1048576) : (nxP F l).1.ok ∧ (nxP F l).2.length ≤ 100000 ∧ RunI F (nxP F l).1 l (nxP F l).2 ∧ RunS F (nxP F l).1 l (nxP F l).2 ∧ (¬ cmdS l → nxP F l = (F, errT 6)) := by
 have e : nxP F l = Classical.choose (run_ex F l ⟨h1, h2⟩) := dif_pos ⟨h1, h2⟩
 rw [e]
 exact Classical.choose_spec (run_ex F l ⟨h1, h2⟩)
noncomputable def nx : Nx := ⟨nxP, fun F l h1 h2 => have h := nxP_spec F l h1 h2; ⟨h.1, h.2.1, h.2.2.1, h.2.2.2.1⟩, fun F l h1 h2 => (nxP_spec F l h1 h2).2.2.2.2⟩
end
end Go.Proofs.YtglbamncajileaaGreatDoor
