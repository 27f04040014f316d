/-
  The text of a register: what the functions that write it return. No conditions but those in the statements.
-/
import Derived.Test.YtgpgnhadmckmhaaGreatDoorMtc
import Derived.Test.YtgpgnhadmckmhaaGreatDoorBlc
set_option linter.unusedVariables false
set_option linter.unusedSimpArgs false
namespace Go.Proofs.YtgpgnhadmckmhaaGreatDoor
open Go.AE Go.Lib

attribute [local irreducible] CallA LoopA DrawA CallQ arithK quoK remK eqK
attribute [local irreducible] mt mtx rgx
theorem app4 (a b c d e : List UInt8) (s : List UInt8) : B a ++ B s ++ B b ++ B s ++ B c ++ B s ++ B d ++ B s ++ B e = B (a ++ (s ++ (b ++ (s ++ (c ++ (s ++ (d ++ (s ++ e)))))))) := by
  simp only [B_app, List.append_assoc]
set_option maxHeartbeats 4000000 in
set_option maxRecDepth 100000 in
theorem l26Text_ret (r : List Int) (h : rowR r) : Ret Tryz.prog G 62 [WMember r] (Sv (mtx r)) := by
  obtain ⟨m1, m2, m3, m4⟩ := rowR_mon h
  have ha : 0 ≤ r.getD 0 0 ∧ r.getD 0 0 ≤ 1000000 := by unfold rowR rowM at h; omega
  have hd := l01Dec_ret (r.getD 0 0).toNat (by omega)
  rw [show (((r.getD 0 0).toNat : Nat) : Int) = r.getD 0 0 by omega, ← itoa_nat ha.1] at hd
  have hl := itoa_len (rowR_ok h)
  have t1 := l02Text_ret _ m1
  have t2 := l02Text_ret _ m2
  have t3 := l02Text_ret _ m3
  have he := mtx_eq r
  refine ret_of_body hT Tryz.func62 rfl ?_ rfl
  by_cases hn : r.getD 3 0 = -1
  · have e4 : lft (r.getD 3 0) = [45] := by unfold lft; rw [if_pos hn]
    rw [e4] at he
    repeat' ((first | (conv => whnf) | skip); (first | ((with_reducible intro h); first | contradiction | omega | (conv => whnf) | skip) | (with_reducible refine And.intro ?_ ?_) | ((with_reducible show arithK _ _ _); refine arith_ok ⟨by omega, by omega⟩ ?_) | ((with_reducible show quoK _ _ _ _); refine quo_ok ⟨by omega, by omega⟩ (by omega) (by omega) ?_) | ((with_reducible show remK _ _ _ _); refine rem_ok (by omega) (by omega) ?_) | ((first | (with_reducible show CallA _ _ _ _ _ _) | (with_reducible show CallQ _ _ _ _ _ _)); first | (refine Ret.go (hd) rfl rfl ?_) | (refine Ret.goQ (hd) rfl rfl ?_) | (refine Ret.go (t1) rfl rfl ?_) | (refine Ret.goQ (t1) rfl rfl ?_) | (refine Ret.go (t2) rfl rfl ?_) | (refine Ret.goQ (t2) rfl rfl ?_) | (refine Ret.go (t3) rfl rfl ?_) | (refine Ret.goQ (t3) rfl rfl ?_)) | ((with_reducible show DrawA _ _ _ _ _ _); first | (refine draw_hard hT mixed (by decide +kernel) ?_))))
    all_goals first | rfl | omega | contradiction | (simp only [B_app, B_size, List.length_append, List.length_cons, List.length_nil, mt_len]; omega) | ((conv => whnf); refine sv ?_; rw [he]; exact app4 _ _ _ _ _ _) | trace_state
  · have e4 : lft (r.getD 3 0) = mt (r.getD 3 0) := by unfold lft; rw [if_neg hn]
    rw [e4] at he
    have t4 := l02Text_ret (r.getD 3 0) (by rcases m4 with h | h; exact absurd h hn; exact h)
    repeat' ((first | (conv => whnf) | skip); (first | ((with_reducible intro h); first | contradiction | omega | (conv => whnf) | skip) | (with_reducible refine And.intro ?_ ?_) | ((with_reducible show arithK _ _ _); refine arith_ok ⟨by omega, by omega⟩ ?_) | ((with_reducible show quoK _ _ _ _); refine quo_ok ⟨by omega, by omega⟩ (by omega) (by omega) ?_) | ((with_reducible show remK _ _ _ _); refine rem_ok (by omega) (by omega) ?_) | ((first | (with_reducible show CallA _ _ _ _ _ _) | (with_reducible show CallQ _ _ _ _ _ _)); first | (refine Ret.go (hd) rfl rfl ?_) | (refine Ret.goQ (hd) rfl rfl ?_) | (refine Ret.go (t1) rfl rfl ?_) | (refine Ret.goQ (t1) rfl rfl ?_) | (refine Ret.go (t2) rfl rfl ?_) | (refine Ret.goQ (t2) rfl rfl ?_) | (refine Ret.go (t3) rfl rfl ?_) | (refine Ret.goQ (t3) rfl rfl ?_) | (refine Ret.go (t4) rfl rfl ?_) | (refine Ret.goQ (t4) rfl rfl ?_)) | ((with_reducible show DrawA _ _ _ _ _ _); first | (refine draw_hard hT mixed (by decide +kernel) ?_))))
    all_goals first | rfl | omega | contradiction | (simp only [B_app, B_size, List.length_append, List.length_cons, List.length_nil, mt_len]; omega) | ((conv => whnf); refine sv ?_; rw [he]; exact app4 _ _ _ _ _ _) | trace_state
end Go.Proofs.YtgpgnhadmckmhaaGreatDoor
