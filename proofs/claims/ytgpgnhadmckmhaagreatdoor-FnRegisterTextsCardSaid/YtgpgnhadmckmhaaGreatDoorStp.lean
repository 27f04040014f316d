/-
  Statutes read by the reference: what the function returns. No conditions but those in the statements.
-/
import Derived.Test.YtgpgnhadmckmhaaGreatDoorSto
set_option linter.unusedVariables false
set_option linter.unusedSimpArgs false
namespace Go.Proofs.YtgpgnhadmckmhaaGreatDoor
open Go.AE Go.Lib

attribute [local irreducible] CallA LoopA DrawA CallQ arithK quoK remK eqK
attribute [local irreducible] sgnN sgnB numX allN RS CS
theorem sp_short {c : UInt8} {l : List UInt8} {n : Nat} (h : l.length ≤ n) : ∀ w ∈ sp c l, w.length ≤ n := by
  refine sp_induct (c := c) (p := fun l => l.length ≤ n → ∀ w ∈ sp c l, w.length ≤ n) (fun l hl h w hw => ?_) (fun pre post hp ih h w hw => ?_) l h
  · rw [sp_miss hl] at hw
    obtain rfl := List.mem_singleton.1 hw
    exact h
  · rw [sp_hit hp] at hw
    rw [List.length_append, List.length_cons] at h
    rcases List.mem_cons.1 hw with rfl | hw
    · omega
    · exact ih (by omega) w hw
theorem sp_many {c : UInt8} {l : List UInt8} : (sp c l).length ≤ l.length + 1 := by
  rw [sp_len]
  have := List.count_le_length (a := c) (l := l)
  omega
set_option maxHeartbeats 2000000 in
set_option maxRecDepth 100000 in
theorem specRS_call (s : List UInt8) (hn : s.length ≤ 1048576) : CallA Tryz.prog G 16 [Sv s] [] (fun v J => v = .tup [.sl 0 6 (RS s).length, I (CS s)] ∧ J = [DRule (RS s)]) := by
  refine CallA.ends (callA_of_body hT Tryz.func16 rfl ?_)
  have hps := sp_short (c := 59) hn
  have hpl := sp_many (c := 59) (l := s)
  obtain ⟨ps, hpe⟩ : ∃ ps, ps = sp 59 s := ⟨_, rfl⟩
  have hsc := l01Split_call s 59 hn
  rw [← hpe] at hsc hps hpl
  have hml : (ps.map B).length = ps.length := List.length_map _
  repeat' ((first | (conv => whnf) | skip); (first | ((with_reducible intro h); first | contradiction | omega | (conv => whnf) | skip) | (with_reducible refine And.intro ?_ ?_) | ((with_reducible show arithK _ _ _); refine arith_ok ⟨by omega, by omega⟩ ?_) | ((with_reducible show quoK _ _ _ _); refine quo_ok ⟨by omega, by omega⟩ (by omega) (by omega) ?_) | ((with_reducible show remK _ _ _ _); refine rem_ok (by omega) (by omega) ?_) | ((first | (with_reducible show CallA _ _ _ _ _ _) | (with_reducible show CallQ _ _ _ _ _ _)); first | (refine CallA.go [] (hsc) rfl (by first | ((repeat' (first | exact rfl | exact trivial | (with_reducible assumption) | refine And.intro ?_ ?_ | omega | assumption)); done) | fail) trivial ?_)) | ((with_reducible show DrawA _ _ _ _ _ _); first | (refine draw_hard hT mixed (by decide +kernel) ?_))))
  all_goals first | rfl | omega | skip
  (conv => whnf)
  refine loop_rule hT (fun q : Nat × List (List Int) => Rd rt ps q.1 q.2) 60 2 [0, 4, 5, 6] (fun q => [Sv s, .sl 0 1 (ps.map B).length, .sl 2 6 q.2.length, I q.1]) (fun q => [.data (.strs (ps.map B)), .dead, DRule q.2]) (fun q => ps.length - q.1) ((0, [])) (Nat.le_of_ble_eq_true rfl) ?_ ?_ ?_
  · exact Rd.start rt ps
  · first | (refine ⟨rfl, [some 1], ?_, ?_⟩; all_goals (repeat' (first | exact rfl | exact trivial | (with_reducible assumption) | refine And.intro ?_ ?_)); all_goals (first | omega | assumption); done) | trace_state
  · rintro ⟨i, out⟩ hR
    dsimp only at hR ⊢
    have hle := hR.le
    have hol := hR.len
    by_cases hi : i < ps.length
    · have hpi : (ps.getD i []).length ≤ 1048576 := hps _ (getD_mem hi)
      have hs2 := l01Split_call (ps.getD i []) 44 hpi
      rw [show Sv (ps.getD i []) = .v (.string ((ps.map B).getD ((i : Int)).toNat ByteArray.empty)) from (congrArg (fun b => AV.v (.string b)) (strs_getD ps i)).symm] at hs2
      have hwl := sp_many (c := 44) (l := ps.getD i [])
      have hnc := l01Numbers_call (sp 44 (ps.getD i [])) (by omega) (sp_short hpi)
      by_cases hg : allN (sp 44 (ps.getD i [])) ∧ (numX (sp 44 (ps.getD i []))).length = 6
      · obtain ⟨hg1, hg2⟩ := hg
        obtain ⟨xs, hx1, hx2, hx3⟩ := allN_inv hg1
        rw [hx3, decide_eq_true hg1] at hnc
        rw [hx3] at hg2
        have hnx := hR.next hi hg2 (part_rt hx2)
        have he := etaRule hg2
        repeat' ((first | (conv => whnf) | skip); (first | ((with_reducible intro h); first | contradiction | omega | (conv => whnf) | skip) | (with_reducible refine And.intro ?_ ?_) | ((with_reducible show arithK _ _ _); refine arith_ok ⟨by omega, by omega⟩ ?_) | ((with_reducible show quoK _ _ _ _); refine quo_ok ⟨by omega, by omega⟩ (by omega) (by omega) ?_) | ((with_reducible show remK _ _ _ _); refine rem_ok (by omega) (by omega) ?_) | ((first | (with_reducible show CallA _ _ _ _ _ _) | (with_reducible show CallQ _ _ _ _ _ _)); first | (refine CallA.go [] (hs2) rfl (by first | ((repeat' (first | exact rfl | exact trivial | (with_reducible assumption) | refine And.intro ?_ ?_ | omega | assumption)); done) | fail) trivial ?_) | (refine CallA.go [] (hnc) rfl (by first | ((repeat' (first | exact rfl | exact trivial | (with_reducible assumption) | refine And.intro ?_ ?_ | omega | assumption)); done) | fail) trivial ?_)) | ((with_reducible show DrawA _ _ _ _ _ _); first | (refine draw_hard hT mixed (by decide +kernel) ?_))))
        all_goals first | rfl | omega | (show _ < (ps.map B).length; omega) | (show (_ : Int) < ((ps.map B).length : Int); omega) | (show (_ : Nat) ≤ _; simp; omega) | skip
        all_goals ((conv => whnf); first | (refine ⟨(i + 1, out ++ [xs]), hnx, ?_, by dsimp only; omega⟩; (refine ⟨rfl, [some 6], ?_, ?_⟩; all_goals (repeat' (first | exact rfl | exact trivial | (with_reducible assumption) | refine And.intro ?_ ?_)); all_goals (first | omega | assumption | ((repeat' (first | ((try dsimp only); rw [← he]; exact rfl) | exact rfl | exact trivial | (with_reducible assumption) | refine And.intro ?_ ?_ | omega | assumption)); done)); done)) | trace_state)
      · have hno : ∀ x, ¬ Acc s x := fun x => nacc_spec (s := s) (i := i) (by rw [← hpe]; exact hi) (fun xs hsm he h6 => hg (by
          rw [← hpe] at he
          rw [he]
          obtain ⟨k1, k2⟩ := allN_itoa hsm
          exact ⟨k1, by rw [k2]; exact h6⟩)) x
        obtain ⟨e1, e2⟩ := RS_no hno
        rw [e1, e2]
        by_cases hg1 : allN (sp 44 (ps.getD i []))
        · have hg2 : (numX (sp 44 (ps.getD i []))).length ≠ 6 := fun h => hg ⟨hg1, h⟩
          rw [decide_eq_true hg1] at hnc
          repeat' ((first | (conv => whnf) | skip); (first | ((with_reducible intro h); first | contradiction | omega | (conv => whnf) | skip) | (with_reducible refine And.intro ?_ ?_) | ((with_reducible show arithK _ _ _); refine arith_ok ⟨by omega, by omega⟩ ?_) | ((with_reducible show quoK _ _ _ _); refine quo_ok ⟨by omega, by omega⟩ (by omega) (by omega) ?_) | ((with_reducible show remK _ _ _ _); refine rem_ok (by omega) (by omega) ?_) | ((first | (with_reducible show CallA _ _ _ _ _ _) | (with_reducible show CallQ _ _ _ _ _ _)); first | (refine CallA.go [] (hs2) rfl (by first | ((repeat' (first | exact rfl | exact trivial | (with_reducible assumption) | refine And.intro ?_ ?_ | omega | assumption)); done) | fail) trivial ?_) | (refine CallA.go [] (hnc) rfl (by first | ((repeat' (first | exact rfl | exact trivial | (with_reducible assumption) | refine And.intro ?_ ?_ | omega | assumption)); done) | fail) trivial ?_)) | ((with_reducible show DrawA _ _ _ _ _ _); first | (refine draw_hard hT mixed (by decide +kernel) ?_))))
          all_goals first | rfl | omega | (show _ < (ps.map B).length; omega) | (show (_ : Int) < ((ps.map B).length : Int); omega) | skip
          all_goals ((conv => whnf); first | (refine ⟨[none], .tup [.sl 0 6 ([] : List (List Int)).length, I 6], [DRule []], ?_, ?_, ?_⟩; all_goals (repeat' (first | exact rfl | exact trivial | (with_reducible assumption) | refine And.intro ?_ ?_)); all_goals (first | omega | assumption); done) | trace_state)
        · rw [decide_eq_false hg1] at hnc
          repeat' ((first | (conv => whnf) | skip); (first | ((with_reducible intro h); first | contradiction | omega | (conv => whnf) | skip) | (with_reducible refine And.intro ?_ ?_) | ((with_reducible show arithK _ _ _); refine arith_ok ⟨by omega, by omega⟩ ?_) | ((with_reducible show quoK _ _ _ _); refine quo_ok ⟨by omega, by omega⟩ (by omega) (by omega) ?_) | ((with_reducible show remK _ _ _ _); refine rem_ok (by omega) (by omega) ?_) | ((first | (with_reducible show CallA _ _ _ _ _ _) | (with_reducible show CallQ _ _ _ _ _ _)); first | (refine CallA.go [] (hs2) rfl (by first | ((repeat' (first | exact rfl | exact trivial | (with_reducible assumption) | refine And.intro ?_ ?_ | omega | assumption)); done) | fail) trivial ?_) | (refine CallA.go [] (hnc) rfl (by first | ((repeat' (first | exact rfl | exact trivial | (with_reducible assumption) | refine And.intro ?_ ?_ | omega | assumption)); done) | fail) trivial ?_)) | ((with_reducible show DrawA _ _ _ _ _ _); first | (refine draw_hard hT mixed (by decide +kernel) ?_))))
          all_goals first | rfl | omega | (show _ < (ps.map B).length; omega) | (show (_ : Int) < ((ps.map B).length : Int); omega) | skip
          all_goals ((conv => whnf); first | (refine ⟨[none], .tup [.sl 0 6 ([] : List (List Int)).length, I 6], [DRule []], ?_, ?_, ?_⟩; all_goals (repeat' (first | exact rfl | exact trivial | (with_reducible assumption) | refine And.intro ?_ ?_)); all_goals (first | omega | assumption); done) | trace_state)
    · obtain rfl : i = ps.length := by omega
      have har := specAre_ret out (by omega)
      subst hpe
      by_cases ha : areRl out
      · obtain ⟨e1, e2⟩ := RS_yes (hR.acc ha)
        rw [e1, e2]
        rw [decide_eq_true ha] at har
        repeat' ((first | (conv => whnf) | skip); (first | ((with_reducible intro h); first | contradiction | omega | (conv => whnf) | skip) | (with_reducible refine And.intro ?_ ?_) | ((with_reducible show arithK _ _ _); refine arith_ok ⟨by omega, by omega⟩ ?_) | ((with_reducible show quoK _ _ _ _); refine quo_ok ⟨by omega, by omega⟩ (by omega) (by omega) ?_) | ((with_reducible show remK _ _ _ _); refine rem_ok (by omega) (by omega) ?_) | ((first | (with_reducible show CallA _ _ _ _ _ _) | (with_reducible show CallQ _ _ _ _ _ _)); first | (refine Ret.use (har) (by first | ((repeat' (first | exact rfl | exact trivial | (with_reducible assumption) | refine And.intro ?_ ?_ | omega | assumption)); done) | fail) ?_) | (refine Ret.useQ (har) (by first | ((repeat' (first | exact rfl | exact trivial | (with_reducible assumption) | refine And.intro ?_ ?_ | omega | assumption)); done) | fail) rfl ?_)) | ((with_reducible show DrawA _ _ _ _ _ _); first | (refine draw_hard hT mixed (by decide +kernel) ?_))))
        all_goals first | rfl | omega | skip
        all_goals ((conv => whnf); first | (refine ⟨[some 2], .tup [.sl 0 6 out.length, I 0], [DRule out], ?_, ?_, ?_⟩; all_goals (repeat' (first | exact rfl | exact trivial | (with_reducible assumption) | refine And.intro ?_ ?_)); all_goals (first | omega | assumption); done) | trace_state)
      · obtain ⟨e1, e2⟩ := RS_no (hR.nacc ha)
        rw [e1, e2]
        rw [decide_eq_false ha] at har
        repeat' ((first | (conv => whnf) | skip); (first | ((with_reducible intro h); first | contradiction | omega | (conv => whnf) | skip) | (with_reducible refine And.intro ?_ ?_) | ((with_reducible show arithK _ _ _); refine arith_ok ⟨by omega, by omega⟩ ?_) | ((with_reducible show quoK _ _ _ _); refine quo_ok ⟨by omega, by omega⟩ (by omega) (by omega) ?_) | ((with_reducible show remK _ _ _ _); refine rem_ok (by omega) (by omega) ?_) | ((first | (with_reducible show CallA _ _ _ _ _ _) | (with_reducible show CallQ _ _ _ _ _ _)); first | (refine Ret.use (har) (by first | ((repeat' (first | exact rfl | exact trivial | (with_reducible assumption) | refine And.intro ?_ ?_ | omega | assumption)); done) | fail) ?_) | (refine Ret.useQ (har) (by first | ((repeat' (first | exact rfl | exact trivial | (with_reducible assumption) | refine And.intro ?_ ?_ | omega | assumption)); done) | fail) rfl ?_)) | ((with_reducible show DrawA _ _ _ _ _ _); first | (refine draw_hard hT mixed (by decide +kernel) ?_))))
        all_goals first | rfl | omega | skip
        all_goals ((conv => whnf); first | (refine ⟨[none], .tup [.sl 0 6 ([] : List (List Int)).length, I 6], [DRule []], ?_, ?_, ?_⟩; all_goals (repeat' (first | exact rfl | exact trivial | (with_reducible assumption) | refine And.intro ?_ ?_)); all_goals (first | omega | assumption); done) | trace_state)
end Go.Proofs.YtgpgnhadmckmhaaGreatDoor
