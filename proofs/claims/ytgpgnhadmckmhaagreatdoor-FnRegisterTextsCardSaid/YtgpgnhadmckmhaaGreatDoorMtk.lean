/-
  Registers read by the program, and the law: what the functions return. No conditions but those in the statements.
-/
import Derived.Test.YtgpgnhadmckmhaaGreatDoorMti
import Derived.Test.YtgpgnhadmckmhaaGreatDoorMtj
import Derived.Test.YtgpgnhadmckmhaaGreatDoorMtg
set_option linter.unusedVariables false
set_option linter.unusedSimpArgs false
namespace Go.Proofs.YtgpgnhadmckmhaaGreatDoor
open Go.AE Go.Lib

attribute [local irreducible] CallA LoopA DrawA CallQ arithK quoK remK eqK
attribute [local irreducible] mt mtx rgx RM CM rmN rmB rowP okP
set_option maxHeartbeats 4000000 in
set_option maxRecDepth 100000 in
theorem implRR_call (s : List UInt8) (hn : s.length ≤ 1048576) : CallA Tryz.prog G2 23 [Sv s] [] (fun v J => v = .tup [.sl 0 5 (RM s).length, I (CM s)] ∧ J = [DMember (RM s)]) := by
  refine CallA.ends (callA_of_body hT Tryz.func23 rfl ?_)
  obtain ⟨Ls, ps, l, hL⟩ := lns_of s
  have hsc : CallA Tryz.prog G2 51 [Sv s, Sv [10]] [] (fun v J => v = .sl 0 1 ((sp 10 s).map B).length ∧ J = [.data (.strs ((sp 10 s).map B))]) := (split_call s 10 (by omega)).weak G_G2
  rw [← hL.d] at hsc
  have hll := hL.len
  have he0 := hL.e
  have hidx : ((Ls.length : Int) - 1).toNat - 0 = ps.length := by omega
  obtain ⟨hsh, hpl⟩ := hL.short hn
  repeat' ((first | (conv => whnf) | skip); (first | ((with_reducible intro h); first | contradiction | omega | (conv => whnf) | skip) | (with_reducible refine And.intro ?_ ?_) | ((with_reducible show arithK _ _ _); refine arith_ok ⟨by omega, by omega⟩ ?_) | ((with_reducible show quoK _ _ _ _); refine quo_ok ⟨by omega, by omega⟩ (by omega) (by omega) ?_) | ((with_reducible show remK _ _ _ _); refine rem_ok (by omega) (by omega) ?_) | ((first | (with_reducible show CallA _ _ _ _ _ _) | (with_reducible show CallQ _ _ _ _ _ _)); first | (refine CallA.go [] (hsc) rfl (by first | ((repeat' (first | exact rfl | exact trivial | (with_reducible assumption) | refine And.intro ?_ ?_ | omega | assumption)); done) | fail) trivial ?_)) | ((with_reducible show DrawA _ _ _ _ _ _); first | (refine draw_hard hT mixed (by decide +kernel) ?_))))
  all_goals first | rfl | omega | contradiction | skip
  (conv => whnf)
  refine loop_rule hT (fun q : Nat × List (List Int) => RdP ps q.1 q.2 ∧ q.2.length ≤ 60) 50 2 [0, 5, 17, 18, 19] (fun q => [Sv s, .sl 2 5 q.2.length, .sub 0 1 0 (((Ls.length : Int) - 1).toNat - 0), I ((((Ls.length : Int) - 1).toNat - 0 : Nat) : Int), I q.1]) (fun q => [.data (.strs Ls), .dead, DMember q.2]) (fun q => ps.length - q.1) ((0, [])) (Nat.le_of_ble_eq_true rfl) ?_ ?_ ?_
  · exact ⟨RdP.start ps, Nat.zero_le _⟩
  · first | (refine ⟨rfl, [some 1], ?_, ?_⟩; all_goals (repeat' (first | exact rfl | exact trivial | (with_reducible assumption) | refine And.intro ?_ ?_)); all_goals (first | omega | assumption); done) | trace_state
  · rintro ⟨i, out⟩ ⟨hR, h60⟩
    dsimp only at hR h60 ⊢
    have hle := hR.le
    have hol := hR.len
    by_cases hi : i < ps.length
    · have hraw : Ls.getD (0 + ((i : Int)).toNat) ByteArray.empty = B (ps.getD i []) := by rw [Nat.zero_add]; exact hL.at hi
      have hrm := readMember_ret (ps.getD i []) (hsh i hi)
      rw [show Sv (ps.getD i []) = .v (.string (Ls.getD (0 + ((i : Int)).toNat) ByteArray.empty)) from congrArg (fun b => AV.v (.string b)) hraw.symm] at hrm
      by_cases hk : okP (ps.getD i []) = true
      · rw [hk] at hrm
        by_cases h6 : out.length = 60
        · obtain ⟨k1, k2⟩ := RM_no (nacc_60 he0 (by omega))
          rw [k1, k2]
          repeat' ((first | (conv => whnf) | skip); (first | ((with_reducible intro h); first | contradiction | omega | (conv => whnf) | skip) | (with_reducible refine And.intro ?_ ?_) | ((with_reducible show arithK _ _ _); refine arith_ok ⟨by omega, by omega⟩ ?_) | ((with_reducible show quoK _ _ _ _); refine quo_ok ⟨by omega, by omega⟩ (by omega) (by omega) ?_) | ((with_reducible show remK _ _ _ _); refine rem_ok (by omega) (by omega) ?_) | ((first | (with_reducible show CallA _ _ _ _ _ _) | (with_reducible show CallQ _ _ _ _ _ _)); first | (refine Ret.go (hrm) rfl rfl ?_) | (refine Ret.goQ (hrm) rfl rfl ?_)) | ((with_reducible show DrawA _ _ _ _ _ _); first | (refine draw_hard hT mixed (by decide +kernel) ?_))))
          all_goals first | rfl | omega | contradiction | (show _ < Ls.length; omega) | (show (_ : Int) < (Ls.length : Int); omega) | (show (_ : Nat) ≤ _; simp; omega) | skip
          all_goals ((conv => whnf); first | (refine ⟨[none], .tup [.sl 0 5 ([] : List (List Int)).length, I 6], [DMember []], ?_, ?_, ?_⟩; all_goals (repeat' (first | exact rfl | exact trivial | (with_reducible assumption) | refine And.intro ?_ ?_)); all_goals (first | omega | assumption); done) | trace_state)
        · have hnx := hR.next hi hk
          have he := etaMember (rowP_len (ps.getD i []))
          repeat' ((first | (conv => whnf) | skip); (first | ((with_reducible intro h); first | contradiction | omega | (conv => whnf) | skip) | (with_reducible refine And.intro ?_ ?_) | ((with_reducible show arithK _ _ _); refine arith_ok ⟨by omega, by omega⟩ ?_) | ((with_reducible show quoK _ _ _ _); refine quo_ok ⟨by omega, by omega⟩ (by omega) (by omega) ?_) | ((with_reducible show remK _ _ _ _); refine rem_ok (by omega) (by omega) ?_) | ((first | (with_reducible show CallA _ _ _ _ _ _) | (with_reducible show CallQ _ _ _ _ _ _)); first | (refine Ret.go (hrm) rfl rfl ?_) | (refine Ret.goQ (hrm) rfl rfl ?_)) | ((with_reducible show DrawA _ _ _ _ _ _); first | (refine draw_hard hT mixed (by decide +kernel) ?_))))
          all_goals first | rfl | omega | contradiction | (show _ < Ls.length; omega) | (show (_ : Int) < (Ls.length : Int); omega) | (show (_ : Nat) ≤ _; simp; omega) | skip
          all_goals ((conv => whnf); first | (refine ⟨(i + 1, out ++ [rowP (ps.getD i [])]), ⟨hnx, by rw [List.length_append]; show out.length + 1 ≤ 60; omega⟩, ?_, by dsimp only; omega⟩; first | (refine ⟨rfl, [some 5], ?_, ?_⟩; all_goals (repeat' (first | exact rfl | exact trivial | (with_reducible assumption) | refine And.intro ?_ ?_)); all_goals (first | omega | assumption | ((repeat' (first | ((try dsimp only); rw [← he]; exact rfl) | exact rfl | exact trivial | (with_reducible assumption) | refine And.intro ?_ ?_ | omega | assumption)); done)); done) | (refine ⟨rfl, [some 4], ?_, ?_⟩; all_goals (repeat' (first | exact rfl | exact trivial | (with_reducible assumption) | refine And.intro ?_ ?_)); all_goals (first | omega | assumption | ((repeat' (first | ((try dsimp only); rw [← he]; exact rfl) | exact rfl | exact trivial | (with_reducible assumption) | refine And.intro ?_ ?_ | omega | assumption)); done)); done) | trace_state) | trace_state)
      · have hk : okP (ps.getD i []) = false := by cases h : okP (ps.getD i []) with | true => exact absurd h hk | false => rfl
        rw [hk] at hrm
        obtain ⟨k1, k2⟩ := RM_no (nacc_ok he0 hi hk)
        rw [k1, k2]
        repeat' ((first | (conv => whnf) | skip); (first | ((with_reducible intro h); first | contradiction | omega | (conv => whnf) | skip) | (with_reducible refine And.intro ?_ ?_) | ((with_reducible show arithK _ _ _); refine arith_ok ⟨by omega, by omega⟩ ?_) | ((with_reducible show quoK _ _ _ _); refine quo_ok ⟨by omega, by omega⟩ (by omega) (by omega) ?_) | ((with_reducible show remK _ _ _ _); refine rem_ok (by omega) (by omega) ?_) | ((first | (with_reducible show CallA _ _ _ _ _ _) | (with_reducible show CallQ _ _ _ _ _ _)); first | (refine Ret.go (hrm) rfl rfl ?_) | (refine Ret.goQ (hrm) rfl rfl ?_)) | ((with_reducible show DrawA _ _ _ _ _ _); first | (refine draw_hard hT mixed (by decide +kernel) ?_))))
        all_goals first | rfl | omega | contradiction | (show _ < Ls.length; omega) | (show (_ : Int) < (Ls.length : Int); omega) | (show (_ : Nat) ≤ _; simp; omega) | skip
        all_goals ((conv => whnf); first | (refine ⟨[none], .tup [.sl 0 5 ([] : List (List Int)).length, I 6], [DMember []], ?_, ?_, ?_⟩; all_goals (repeat' (first | exact rfl | exact trivial | (with_reducible assumption) | refine And.intro ?_ ?_)); all_goals (first | omega | assumption); done) | trace_state)
    · obtain rfl : i = ps.length := by omega
      have har := (implReg_ret out (by omega)).weak G_G2
      by_cases ha : isReg out
      · rw [decide_eq_true ha] at har
        have htx := (implRT_ret out ha).weak G_G2
        by_cases hst : rgx out = s
        · obtain ⟨e1, e2⟩ := RM_yes (hR.acc ha hst)
          rw [e1, e2]
          rw [hst] at htx
          repeat' ((first | (conv => whnf) | skip); (first | ((with_reducible intro h); first | contradiction | omega | (conv => whnf) | skip) | (with_reducible refine And.intro ?_ ?_) | ((with_reducible show arithK _ _ _); refine arith_ok ⟨by omega, by omega⟩ ?_) | ((with_reducible show quoK _ _ _ _); refine quo_ok ⟨by omega, by omega⟩ (by omega) (by omega) ?_) | ((with_reducible show remK _ _ _ _); refine rem_ok (by omega) (by omega) ?_) | ((first | (with_reducible show CallA _ _ _ _ _ _) | (with_reducible show CallQ _ _ _ _ _ _)); first | (refine Ret.use (har) (by first | ((repeat' (first | exact rfl | exact trivial | (with_reducible assumption) | refine And.intro ?_ ?_ | omega | assumption)); done) | fail) ?_) | (refine Ret.useQ (har) (by first | ((repeat' (first | exact rfl | exact trivial | (with_reducible assumption) | refine And.intro ?_ ?_ | omega | assumption)); done) | fail) rfl ?_) | (refine Ret.use (htx) (by first | ((repeat' (first | exact rfl | exact trivial | (with_reducible assumption) | refine And.intro ?_ ?_ | omega | assumption)); done) | fail) ?_) | (refine Ret.useQ (htx) (by first | ((repeat' (first | exact rfl | exact trivial | (with_reducible assumption) | refine And.intro ?_ ?_ | omega | assumption)); done) | fail) rfl ?_)) | ((with_reducible show DrawA _ _ _ _ _ _); first | (refine draw_hard hT mixed (by decide +kernel) ?_))))
          all_goals first | rfl | omega | contradiction | skip
          all_goals ((conv => whnf); first | (refine ⟨[some 2], .tup [.sl 0 5 out.length, I 0], [DMember out], ?_, ?_, ?_⟩; all_goals (repeat' (first | exact rfl | exact trivial | (with_reducible assumption) | refine And.intro ?_ ?_)); all_goals (first | omega | assumption); done) | trace_state)
        · obtain ⟨e1, e2⟩ := RM_no (hR.nacc he0 fun hh => hst hh.2)
          rw [e1, e2]
          have hne : B (rgx out) ≠ B s := fun e => hst (B_inj.1 e)
          repeat' ((first | (conv => whnf) | skip); (first | ((with_reducible intro h); first | contradiction | omega | (conv => whnf) | skip) | (with_reducible refine And.intro ?_ ?_) | ((with_reducible show arithK _ _ _); refine arith_ok ⟨by omega, by omega⟩ ?_) | ((with_reducible show quoK _ _ _ _); refine quo_ok ⟨by omega, by omega⟩ (by omega) (by omega) ?_) | ((with_reducible show remK _ _ _ _); refine rem_ok (by omega) (by omega) ?_) | ((first | (with_reducible show CallA _ _ _ _ _ _) | (with_reducible show CallQ _ _ _ _ _ _)); first | (refine Ret.use (har) (by first | ((repeat' (first | exact rfl | exact trivial | (with_reducible assumption) | refine And.intro ?_ ?_ | omega | assumption)); done) | fail) ?_) | (refine Ret.useQ (har) (by first | ((repeat' (first | exact rfl | exact trivial | (with_reducible assumption) | refine And.intro ?_ ?_ | omega | assumption)); done) | fail) rfl ?_) | (refine Ret.use (htx) (by first | ((repeat' (first | exact rfl | exact trivial | (with_reducible assumption) | refine And.intro ?_ ?_ | omega | assumption)); done) | fail) ?_) | (refine Ret.useQ (htx) (by first | ((repeat' (first | exact rfl | exact trivial | (with_reducible assumption) | refine And.intro ?_ ?_ | omega | assumption)); done) | fail) rfl ?_)) | ((with_reducible show DrawA _ _ _ _ _ _); first | (refine draw_hard hT mixed (by decide +kernel) ?_))))
          all_goals first | rfl | omega | contradiction | (show _ < Ls.length; omega) | (show (_ : Int) < (Ls.length : Int); omega) | (show (_ : Nat) ≤ _; simp; omega) | skip
          all_goals ((conv => whnf); first | (refine ⟨[none], .tup [.sl 0 5 ([] : List (List Int)).length, I 6], [DMember []], ?_, ?_, ?_⟩; all_goals (repeat' (first | exact rfl | exact trivial | (with_reducible assumption) | refine And.intro ?_ ?_)); all_goals (first | omega | assumption); done) | trace_state)
      · obtain ⟨e1, e2⟩ := RM_no (hR.nacc he0 fun hh => ha hh.1)
        rw [e1, e2]
        rw [decide_eq_false ha] at har
        repeat' ((first | (conv => whnf) | skip); (first | ((with_reducible intro h); first | contradiction | omega | (conv => whnf) | skip) | (with_reducible refine And.intro ?_ ?_) | ((with_reducible show arithK _ _ _); refine arith_ok ⟨by omega, by omega⟩ ?_) | ((with_reducible show quoK _ _ _ _); refine quo_ok ⟨by omega, by omega⟩ (by omega) (by omega) ?_) | ((with_reducible show remK _ _ _ _); refine rem_ok (by omega) (by omega) ?_) | ((first | (with_reducible show CallA _ _ _ _ _ _) | (with_reducible show CallQ _ _ _ _ _ _)); first | (refine Ret.use (har) (by first | ((repeat' (first | exact rfl | exact trivial | (with_reducible assumption) | refine And.intro ?_ ?_ | omega | assumption)); done) | fail) ?_) | (refine Ret.useQ (har) (by first | ((repeat' (first | exact rfl | exact trivial | (with_reducible assumption) | refine And.intro ?_ ?_ | omega | assumption)); done) | fail) rfl ?_)) | ((with_reducible show DrawA _ _ _ _ _ _); first | (refine draw_hard hT mixed (by decide +kernel) ?_))))
        all_goals first | rfl | omega | contradiction | (show _ < Ls.length; omega) | (show (_ : Int) < (Ls.length : Int); omega) | (show (_ : Nat) ≤ _; simp; omega) | skip
        all_goals ((conv => whnf); first | (refine ⟨[none], .tup [.sl 0 5 ([] : List (List Int)).length, I 6], [DMember []], ?_, ?_, ?_⟩; all_goals (repeat' (first | exact rfl | exact trivial | (with_reducible assumption) | refine And.intro ?_ ?_)); all_goals (first | omega | assumption); done) | trace_state)
end Go.Proofs.YtgpgnhadmckmhaaGreatDoor
