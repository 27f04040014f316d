/-
  The reference's ElectedByRounds: what it returns; the law. No conditions but those in the statements.
-/
import Derived.Test.YtcdfdigehaipmaaEk
set_option linter.unusedVariables false
set_option linter.unusedSimpArgs false
namespace Go.Proofs.Ytcdfdigehaipmaa
open Go.AE

attribute [local irreducible] CallA LoopA DrawA CallQ arithK quoK remK eqK
theorem or_ins {v : Int → Nat} {l : List Int} (hp : ∀ c ∈ l, 0 ≤ c) (hl : l ≠ []) : bst v l ∈ l ∧ wst v l ∈ l := by
  refine ⟨(bst_spec (v := v) hp hl).1, ?_⟩
  rw [wst_lw hp hl]
  have := lw_in (v := v) hl l.length
  rwa [List.take_length] at this
attribute [local irreducible] vf lo vt bst wst sm rest
set_option maxHeartbeats 4000000 in
set_option maxRecDepth 100000 in
theorem specRounds_ret (n : Int) (xss : List (List Int)) (hn : xss.length ≤ 1048576) (hr : ∀ r ∈ xss, r.length ≤ 1048576) : Ret Try.prog G 40 [I n, Rn xss] (T3 (erX n xss)) := by
  refine ret_of_body hT Try.func40 rfl ?_ rfl
  by_cases ho : okB n xss
  · have hl := ho.2.1
    have hc := ho.1
    rw [erX_yes ho]
    repeat' (first | (intro h; first | contradiction | omega | (conv => whnf) | skip) | (refine And.intro ?_ ?_) | (refine arith_ok ⟨by omega, by omega⟩ ?_) | (first | (refine draw_quiet hT mixed (by decide +kernel) ?_) | (refine draw_hard hT mixed (by decide +kernel) ?_)) | (refine Ret.goP (specBallots_ret n xss hn hr) rfl ?_) | (refine Ret.goQP (specBallots_ret n xss hn hr) rfl ?_))
    all_goals first | omega | rfl | exact absurd ho (by assumption) | skip
    refine loop_rule hT (fun gone : List Int => Ins n.toNat (rest n.toNat gone) ∧ gone.length + (rest n.toNat gone).length = n.toNat ∧ er xss n.toNat (marks n.toNat 0) 1 = er xss (rest n.toNat gone).length (rest n.toNat gone) (gone.length + 1)) 93 1 [0, 1, 7, 8] (fun gone => [I n, Rn xss, .sl 1 1 gone.length, I ((gone.length : Int) + 1)]) (fun gone => [.dead, Di gone]) (fun gone => (rest n.toNat gone).length) (([] : List Int)) (Nat.le_of_ble_eq_true rfl) ?_ ?_ ?_
    · have hm : (marks n.toNat 0).length = n.toNat := marks_len _ _
      refine ⟨by rw [rest_nil]; exact marks_ins (by omega), by rw [rest_nil, hm]; exact Nat.zero_add _, ?_⟩
      rw [rest_nil, hm]; rfl
    · (refine ⟨rfl, [some 0], ?_, ?_⟩; all_goals (repeat' (first | exact rfl | exact trivial | (with_reducible assumption) | refine And.intro ?_ ?_)); all_goals (first | omega | assumption); done)
    · rintro gone ⟨hI, hlen, her⟩
      rw [her]
      have hfc := firsts_call n xss gone ho (by omega)
      have hvl := vf_len n.toNat gone xss xss.length
      have hvt : ∀ c, vt (rest n.toNat gone) xss xss.length c ≤ 60 := fun c => Nat.le_trans (vt_le _ _ _ c) hl
      have hsm := hI.sum xss
      repeat' (first | (intro h; first | contradiction | omega | (conv => whnf) | skip) | (refine And.intro ?_ ?_) | (refine arith_ok ⟨by omega, by omega⟩ ?_) | (first | (refine draw_quiet hT mixed (by decide +kernel) ?_) | (refine draw_hard hT mixed (by decide +kernel) ?_)) | (refine CallA.go [] (hfc) rfl (by first | ((repeat' (first | exact rfl | exact trivial | (with_reducible assumption) | refine And.intro ?_ ?_ | omega | assumption)); done) | fail) trivial ?_))
      all_goals first | omega | skip
      (conv => whnf)
      refine loop_rule hT (fun c : Nat => (c : Int) ≤ n) 93 3 [0, 1, 7, 8, 9, 10, 11, 12, 13] (fun c => [I n, Rn xss, .sl 1 1 gone.length, I ((gone.length : Int) + 1), .sl 2 1 n.toNat, I (sm (vt (rest n.toNat gone) xss xss.length) (rest c gone)), I (bst (vt (rest n.toNat gone) xss xss.length) (rest c gone)), I (wst (vt (rest n.toNat gone) xss xss.length) (rest c gone)), I c]) (fun _ => [.dead, Di gone, Di (vf n.toNat gone xss xss.length)]) (fun c => n.toNat - c) (0) (Nat.le_of_ble_eq_true rfl) ?_ ?_ ?_
      · omega
      · have h0 : rest 0 gone = [] := by unfold rest; rfl
        have h1 : sm (vt (rest n.toNat gone) xss xss.length) (rest 0 gone) = 0 := by rw [h0]; unfold sm; rfl
        have h2 : bst (vt (rest n.toNat gone) xss xss.length) (rest 0 gone) = -1 := by rw [h0]; unfold bst; rfl
        have h3 : wst (vt (rest n.toNat gone) xss xss.length) (rest 0 gone) = -1 := by rw [h0]; unfold wst; rfl
        (refine ⟨rfl, [], ?_, ?_⟩; all_goals (repeat' (first | exact rfl | exact trivial | (with_reducible assumption) | refine And.intro ?_ ?_)); all_goals (first | omega | assumption | ((repeat' (first | first | exact h2.symm | exact h3.symm | (rw [h1]; rfl) | exact rfl | exact trivial | (with_reducible assumption) | refine And.intro ?_ ?_ | omega | assumption)); done)); done)
      · rintro c hcn
        have hs6 := sm_le hvt (rest c gone)
        have hrl := rest_len c gone
        have hs7 : sm (vt (rest n.toNat gone) xss xss.length) (rest c gone) ≤ 60 * 12 := Nat.le_trans hs6 (Nat.mul_le_mul_left 60 (by omega))
        by_cases hcc : (c : Int) < n
        · by_cases hg : (c : Int) ∈ gone
          · have hcg : (vf n.toNat gone xss xss.length).getD ((c : Int)).toNat 0 = -1 := vf_gone (by omega) hg
            have hri := rest_in hg
            repeat' (first | (intro h; first | contradiction | omega | (conv => whnf) | skip) | (refine And.intro ?_ ?_) | (refine arith_ok ⟨by omega, by omega⟩ ?_) | (first | (refine draw_quiet hT mixed (by decide +kernel) ?_) | (refine draw_hard hT mixed (by decide +kernel) ?_)) | fail)
            all_goals first | omega | (show _ < _; omega) | skip
            all_goals first | ((conv => whnf); refine ⟨c + 1, by omega, ?_, by omega⟩; rw [hri]; (refine ⟨rfl, [], ?_, ?_⟩; all_goals (repeat' (first | exact rfl | exact trivial | (with_reducible assumption) | refine And.intro ?_ ?_)); all_goals (first | omega | assumption); done)) | trace_state
          · have hcm : (c : Int) ∈ rest n.toNat gone := mem_rest.2 ⟨by omega, hg⟩
            have hcg : (vf n.toNat gone xss xss.length).getD ((c : Int)).toNat 0 = (vt (rest n.toNat gone) xss xss.length c : Int) := vf_at hcm
            have hri := rest_out hg
            have hvc := hvt c
            have hns : sm (vt (rest n.toNat gone) xss xss.length) (rest (c + 1) gone) = sm (vt (rest n.toNat gone) xss xss.length) (rest c gone) + vt (rest n.toNat gone) xss xss.length c := by rw [hri, sm_snoc]
            have hnb : bst (vt (rest n.toNat gone) xss xss.length) (rest (c + 1) gone) = bS (vt (rest n.toNat gone) xss xss.length) (bst (vt (rest n.toNat gone) xss xss.length) (rest c gone)) c := by rw [hri, bst_snoc]
            have hnw : wst (vt (rest n.toNat gone) xss xss.length) (rest (c + 1) gone) = wS (vt (rest n.toNat gone) xss xss.length) (wst (vt (rest n.toNat gone) xss xss.length) (rest c gone)) c := by rw [hri, wst_snoc]
            unfold bS at hnb
            unfold wS at hnw
            by_cases he : rest c gone = []
            · have h2 : bst (vt (rest n.toNat gone) xss xss.length) (rest c gone) = -1 := by rw [he]; unfold bst; rfl
              have h3 : wst (vt (rest n.toNat gone) xss xss.length) (rest c gone) = -1 := by rw [he]; unfold wst; rfl
              rw [if_pos (.inl (by omega))] at hnb hnw
              repeat' (first | (intro h; first | contradiction | omega | (conv => whnf) | skip) | (refine And.intro ?_ ?_) | (refine arith_ok ⟨by omega, by omega⟩ ?_) | (first | (refine draw_quiet hT mixed (by decide +kernel) ?_) | (refine draw_hard hT mixed (by decide +kernel) ?_)) | fail)
              all_goals first | omega | (show _ < _; omega) | skip
              all_goals first | ((conv => whnf); refine ⟨c + 1, by omega, ?_, by omega⟩; (refine ⟨rfl, [], ?_, ?_⟩; all_goals (repeat' (first | exact rfl | exact trivial | (with_reducible assumption) | refine And.intro ?_ ?_)); all_goals (first | omega | assumption | ((repeat' (first | first | exact hnb.symm | exact hnw.symm | exact rfl | exact trivial | (with_reducible assumption) | refine And.intro ?_ ?_ | omega | assumption)); done)); done)) | trace_state
            · have hpos : ∀ x ∈ rest c gone, 0 ≤ x := fun x hx => (mem_rest.1 hx).1.1
              obtain ⟨hb1, hw1⟩ := or_ins (v := vt (rest n.toNat gone) xss xss.length) hpos he
              have hb2 := mem_rest.1 hb1
              have hw2 := mem_rest.1 hw1
              have hb3 : bst (vt (rest n.toNat gone) xss xss.length) (rest c gone) ∈ rest n.toNat gone := mem_rest.2 ⟨⟨hb2.1.1, by omega⟩, hb2.2⟩
              have hw3 : wst (vt (rest n.toNat gone) xss xss.length) (rest c gone) ∈ rest n.toNat gone := mem_rest.2 ⟨⟨hw2.1.1, by omega⟩, hw2.2⟩
              have hb4 := vf_at (xss := xss) (i := xss.length) hb3
              have hw4 := vf_at (xss := xss) (i := xss.length) hw3
              have hb5 := hb2.1
              have hw5 := hw2.1
              repeat' (first | (intro h; first | contradiction | omega | (conv => whnf) | skip) | (refine And.intro ?_ ?_) | (refine arith_ok ⟨by omega, by omega⟩ ?_) | (first | (refine draw_quiet hT mixed (by decide +kernel) ?_) | (refine draw_hard hT mixed (by decide +kernel) ?_)) | fail)
              all_goals first | omega | (show _ < _; omega) | skip
              all_goals first | ((conv => whnf); refine ⟨c + 1, by omega, ?_, by omega⟩; (refine ⟨rfl, [], ?_, ?_⟩; all_goals (repeat' (first | exact rfl | exact trivial | (with_reducible assumption) | refine And.intro ?_ ?_)); all_goals (first | omega | assumption | ((repeat' (first | first | (rw [hnb]; exact (if_pos (by omega)).symm) | (rw [hnb]; exact (if_neg (by omega)).symm) | (rw [hnw]; exact (if_pos (by omega)).symm) | (rw [hnw]; exact (if_neg (by omega)).symm) | exact rfl | exact trivial | (with_reducible assumption) | refine And.intro ?_ ?_ | omega | assumption)); done)); done)) | trace_state
        · obtain rfl : c = n.toNat := by omega
          rw [hsm] at hs7 ⊢
          obtain ⟨hb1, hw1⟩ := or_ins (v := vt (rest n.toNat gone) xss xss.length) hI.pos hI.ne
          have hb2 := (mem_rest.1 hb1).1
          have hb4 := vf_at (xss := xss) (i := xss.length) hb1
          have hvb := hvt (bst (vt (rest n.toNat gone) xss xss.length) (rest n.toNat gone))
          have hkl := kp_len hI.nd hw1
          have hrk := rest_kp n.toNat gone (wst (vt (rest n.toNat gone) xss xss.length) (rest n.toNat gone))
          have hgl : (gone ++ [wst (vt (rest n.toNat gone) xss xss.length) (rest n.toNat gone)]).length = gone.length + 1 := by simp
          have hlp : 0 < (rest n.toNat gone).length := List.length_pos_iff.2 hI.ne
          by_cases h0 : al (rest n.toNat gone) xss xss.length = 0
          · rw [er_none h0]
            repeat' (first | (intro h; first | contradiction | omega | (conv => whnf) | skip) | (refine And.intro ?_ ?_) | (refine arith_ok ⟨by omega, by omega⟩ ?_) | (first | (refine draw_quiet hT mixed (by decide +kernel) ?_) | (refine draw_hard hT mixed (by decide +kernel) ?_)) | fail)
            all_goals first | omega | rfl | (show _ < _; omega) | trace_state
          · by_cases hwin : al (rest n.toNat gone) xss xss.length < 2 * vt (rest n.toNat gone) xss xss.length (bst (vt (rest n.toNat gone) xss xss.length) (rest n.toNat gone))
            · rw [er_won hlp h0 hwin]
              repeat' (first | (intro h; first | contradiction | omega | (conv => whnf) | skip) | (refine And.intro ?_ ?_) | (refine arith_ok ⟨by omega, by omega⟩ ?_) | (first | (refine draw_quiet hT mixed (by decide +kernel) ?_) | (refine draw_hard hT mixed (by decide +kernel) ?_)) | fail)
              all_goals first | omega | rfl | (show _ < _; omega) | trace_state
            · have h2 := hI.two h0 hwin
              have hon := er_on (k := (rest n.toNat gone).length - 1) (r := (gone.length : Int) + 1) h0 hwin
              rw [show (rest n.toNat gone).length - 1 + 1 = (rest n.toNat gone).length by omega] at hon
              repeat' (first | (intro h; first | contradiction | omega | (conv => whnf) | skip) | (refine And.intro ?_ ?_) | (refine arith_ok ⟨by omega, by omega⟩ ?_) | (first | (refine draw_quiet hT mixed (by decide +kernel) ?_) | (refine draw_hard hT mixed (by decide +kernel) ?_)) | fail)
              all_goals first | omega | rfl | (show _ < _; omega) | (show (gone.length + 1) * 8 ≤ _; omega) | skip
              all_goals first | ((conv => whnf); refine ⟨gone ++ [wst (vt (rest n.toNat gone) xss xss.length) (rest n.toNat gone)], ⟨by rw [hrk]; exact hI.kp _ h2, by rw [hrk]; omega, ?_⟩, ?_, by rw [hrk]; omega⟩) | trace_state
              · rw [hon, hrk, show (kp (rest n.toNat gone) (wst (vt (rest n.toNat gone) xss xss.length) (rest n.toNat gone))).length = (rest n.toNat gone).length - 1 by omega]
                exact congrArg (er xss _ _) (by omega)
              · (refine ⟨rfl, [some 4], ?_, ?_⟩; all_goals (repeat' (first | exact rfl | exact trivial | (with_reducible assumption) | refine And.intro ?_ ?_)); all_goals (first | omega | assumption | ((repeat' (first | (rw [hgl]; rfl) | (rw [hgl]; omega) | exact rfl | exact trivial | (with_reducible assumption) | refine And.intro ?_ ?_ | omega | assumption)); done)); done)
  · rw [erX_no ho]
    repeat' (first | (intro h; first | contradiction | omega | (conv => whnf) | skip) | (refine And.intro ?_ ?_) | (refine arith_ok ⟨by omega, by omega⟩ ?_) | (first | (refine draw_quiet hT mixed (by decide +kernel) ?_) | (refine draw_hard hT mixed (by decide +kernel) ?_)) | (refine Ret.goP (specBallots_ret n xss hn hr) rfl ?_) | (refine Ret.goQP (specBallots_ret n xss hn hr) rfl ?_))
    all_goals first | omega | rfl | trace_state
set_option maxRecDepth 100000 in
theorem lawRounds_ret (n : Int) (xss : List (List Int)) (hn : xss.length ≤ 9223372036854775807) (hr : ∀ r ∈ xss, r.length ≤ 9223372036854775807) : Ret Try.prog G 10 [I n, Rn xss] (Bo true) := by
  refine ret_of_body hT Try.func10 rfl ?_ rfl
  have hsz := szInt64SS_ret xss hn hr
  by_cases ht : (tot xss : Int) ≤ 1048576
  · rw [if_pos ht] at hsz
    obtain ⟨t1, t2⟩ := tot_row ht
    repeat' (first | (intro h; first | contradiction | omega | (conv => whnf) | skip) | (refine And.intro ?_ ?_) | (refine arith_ok ⟨by omega, by omega⟩ ?_) | (first | (refine draw_quiet hT mixed (by decide +kernel) ?_) | (refine draw_hard hT mixed (by decide +kernel) ?_)) | (refine Ret.go (hsz) rfl rfl ?_) | (refine Ret.goQ (hsz) rfl rfl ?_) | (refine goF [] (toInt64SS_call xss t1 t2) rfl (by first | ((repeat' (first | exact rfl | exact trivial | (with_reducible assumption) | refine And.intro ?_ ?_ | omega | assumption)); done) | fail) trivial ?_) | (refine Ret.go (specRounds_ret n xss t1 t2) rfl rfl ?_) | (refine Ret.goQ (specRounds_ret n xss t1 t2) rfl rfl ?_) | (refine Ret.go (implRounds_ret n xss t1 t2) rfl rfl ?_) | (refine Ret.goQ (implRounds_ret n xss t1 t2) rfl rfl ?_) | (refine Ret.go (eqInt64SS_ret xss t1 t2) rfl rfl ?_) | (refine Ret.goQ (eqInt64SS_ret xss t1 t2) rfl rfl ?_))
    all_goals first | rfl | omega | trace_state
  · rw [if_neg ht] at hsz
    repeat' (first | (intro h; first | contradiction | omega | (conv => whnf) | skip) | (refine And.intro ?_ ?_) | (refine arith_ok ⟨by omega, by omega⟩ ?_) | (first | (refine draw_quiet hT mixed (by decide +kernel) ?_) | (refine draw_hard hT mixed (by decide +kernel) ?_)) | (refine Ret.go (hsz) rfl rfl ?_) | (refine Ret.goQ (hsz) rfl rfl ?_))
    all_goals first | rfl | omega | trace_state
end Go.Proofs.Ytcdfdigehaipmaa
