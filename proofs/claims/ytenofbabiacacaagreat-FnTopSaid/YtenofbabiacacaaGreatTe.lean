/-
  The income of a class, with its checks; sums of what is paid. No conditions but those in the statements.
-/
import Derived.Test.YtenofbabiacacaaGreatTd
import Derived.Test.YtenofbabiacacaaGreatPlain
set_option linter.unusedVariables false
set_option linter.unusedSimpArgs false
namespace Go.Proofs.YtenofbabiacacaaGreat
open Go.AE

attribute [local irreducible] CallA LoopA DrawA CallQ arithK quoK remK eqK
attribute [local irreducible] pd lvS
abbrev pyT (S D P : List Int) (C c : Int) : AV := .tup [.agg [.sl 0 1 S.length, .sl 1 1 D.length, I C], .sl 2 1 P.length, I c]
theorem pd_sum (sh de : List Int) (e : Int) : ∀ i, i ≤ sh.length → ((pd sh de e sh.length).take i).sum = e * lvS sh de i
  | 0, _ => by simp [lvS]
  | i + 1, hi => by
    have ih := pd_sum sh de e i (by omega)
    have hl := pd_len sh de e sh.length
    have hg : (pd sh de e sh.length).getD i 0 = pdF sh de e sh.length i := by unfold pd; exact tg_get (by omega)
    rw [take_snoc 0 (by omega), List.sum_append, ih, hg]
    unfold pdF
    rw [if_pos (show i < sh.length by omega)]
    by_cases hd : (i : Int) ∈ de
    · rw [if_pos hd, lvS_yes hd]; simp
    · rw [if_neg hd, lvS_no hd, Int.mul_add]; simp
theorem each_bd2 {e x : Int} (he : 0 ≤ e ∧ e ≤ 1000100000000) (hx : 1 ≤ x ∧ x ≤ 1000) : 0 ≤ e * x ∧ e * x ≤ 1000100000000 * 1000 := mul_in he.1 he.2 (by omega) hx.2
theorem ke_small {sh de : List Int} {ch y : Int} (ho : okC sh de ch) (hy : 0 ≤ y ∧ y ≤ 100000000) (hp : 0 < lvS sh de sh.length) : keC sh de ch y ≤ 60000 := by
  have hf := pay_facts ho hy
  have hf2 := hf.2 hp
  rw [show keC sh de ch y = _ from if_pos hp]
  omega
set_option maxHeartbeats 8000000 in
set_option maxRecDepth 100000 in
theorem specPay_ok (sh de : List Int) (ch y : Int) (ho : okC sh de ch) (hy : 0 ≤ y ∧ y ≤ 100000000) (hk : keC sh de ch y ≤ 1000000000000) : CallA Tryz.prog G 121 [Cl sh de ch, I y] [] (fun v J => v = pyT sh de (pd sh de (eaC sh de ch y) sh.length) (keC sh de ch y) 0 ∧ J = [Di sh, Di de, Di (pd sh de (eaC sh de ch y) sh.length)]) := by
  refine CallA.ends (callA_of_body hT Tryz.func121 rfl ?_)
  have hl := okC_len ho
  have h1 := ho.1.1
  have h3 := ho.1.2.2.2
  have hf := pay_facts ho hy
  have hlv := specLiving_ret sh de ch ho
  by_cases hp : 0 < lvS sh de sh.length
  · have hf2 := hf.2 hp
    rw [show eaC sh de ch y = _ from if_pos hp, show keC sh de ch y = _ from if_pos hp]
    repeat' ((first | (conv => whnf) | skip); (first | ((with_reducible intro h); first | contradiction | omega | (conv => whnf) | skip) | (with_reducible refine And.intro ?_ ?_) | ((with_reducible show arithK _ _ _); refine arith_ok ⟨by omega, by omega⟩ ?_) | ((with_reducible show quoK _ _ _ _); refine quo_ok ⟨by omega, by omega⟩ (by omega) (by omega) ?_) | ((with_reducible show remK _ _ _ _); refine rem_ok (by omega) (by omega) ?_) | ((first | (with_reducible show CallA _ _ _ _ _ _) | (with_reducible show CallQ _ _ _ _ _ _)); first | (refine CallA.go [] (ownC_call sh de ch (by omega) (by omega)) rfl (by first | ((repeat' (first | exact rfl | exact trivial | (with_reducible assumption) | refine And.intro ?_ ?_ | omega | assumption)); done) | fail) trivial ?_) | (refine Ret.go (hlv) rfl rfl ?_) | (refine Ret.goQ (hlv) rfl rfl ?_)) | ((with_reducible show DrawA _ _ _ _ _ _); first | (refine draw_hard hT mixed (by decide +kernel) ?_))))
    all_goals first | rfl | omega | skip
    (conv => whnf)
    refine loop_rule hT (fun q : Nat => q ≤ sh.length) 63 6 [2, 4, 7, 8, 9, 10, 11] (fun q => [.ptr 0 0, .ptr 1 0, .ptr 4 0, .sl 5 1 sh.length, I (lvS sh de sh.length), I ((ch + y) / lvS sh de sh.length), I q]) (fun q => [.cells [Ri sh, Ri de, I ch], .cells [.nilsl, .nilsl, I 0], Di sh, Di de, .cells [.sl 2 1 sh.length, .sl 3 1 de.length, I (ch + y)], Di (pd sh de ((ch + y) / lvS sh de sh.length) q)]) (fun q => sh.length - q) (0) (Nat.le_of_ble_eq_true rfl) ?_ ?_ ?_
    · exact Nat.zero_le _
    · rw [← pd_zero]; (refine ⟨rfl, [], ?_, ?_⟩; all_goals (repeat' (first | exact rfl | exact trivial | (with_reducible assumption) | refine And.intro ?_ ?_)); all_goals (first | omega | assumption); done)
    · intro i hi1
      have hpl := pd_len sh de ((ch + y) / lvS sh de sh.length) i
      by_cases hi : i < sh.length
      · have hx := ho.1.2.1 _ (getD_mem (d := 0) hi)
        have hx' : 1 ≤ sh.getD ((i : Int)).toNat 0 ∧ sh.getD ((i : Int)).toNat 0 ≤ 1000 := hx
        have hm := each_bd2 hf2.1 hx'
        have hpl' : ((i : Int)).toNat < (pd sh de ((ch + y) / lvS sh de sh.length) i).length := by omega
        have hr := l01Has_ret de i (by omega)
        by_cases hd : (i : Int) ∈ de
        · rw [decide_eq_true hd] at hr
          repeat' ((first | (conv => whnf) | skip); (first | ((with_reducible intro h); first | contradiction | omega | (conv => whnf) | skip) | (with_reducible refine And.intro ?_ ?_) | ((with_reducible show arithK _ _ _); refine arith_ok ⟨by omega, by omega⟩ ?_) | ((with_reducible show quoK _ _ _ _); refine quo_ok ⟨by omega, by omega⟩ (by omega) (by omega) ?_) | ((with_reducible show remK _ _ _ _); refine rem_ok (by omega) (by omega) ?_) | ((first | (with_reducible show CallA _ _ _ _ _ _) | (with_reducible show CallQ _ _ _ _ _ _)); first | (refine Ret.go (hr) rfl rfl ?_) | (refine Ret.goQ (hr) rfl rfl ?_)) | ((with_reducible show DrawA _ _ _ _ _ _); first | (first | (refine draw_quiet hT mixed (by decide +kernel) ?_) | (refine draw_hard hT mixed (by decide +kernel) ?_)))))
          all_goals first | rfl | omega | skip
          all_goals ((conv => whnf); refine ⟨i + 1, by omega, ?_, by omega⟩; rw [pd_yes hd]; (refine ⟨rfl, [], ?_, ?_⟩; all_goals (repeat' (first | exact rfl | exact trivial | (with_reducible assumption) | refine And.intro ?_ ?_)); all_goals (first | omega | assumption); done))
        · rw [decide_eq_false hd] at hr
          repeat' ((first | (conv => whnf) | skip); (first | ((with_reducible intro h); first | contradiction | omega | (conv => whnf) | skip) | (with_reducible refine And.intro ?_ ?_) | ((with_reducible show arithK _ _ _); refine arith_ok ⟨by omega, by omega⟩ ?_) | ((with_reducible show quoK _ _ _ _); refine quo_ok ⟨by omega, by omega⟩ (by omega) (by omega) ?_) | ((with_reducible show remK _ _ _ _); refine rem_ok (by omega) (by omega) ?_) | ((first | (with_reducible show CallA _ _ _ _ _ _) | (with_reducible show CallQ _ _ _ _ _ _)); first | (refine Ret.go (hr) rfl rfl ?_) | (refine Ret.goQ (hr) rfl rfl ?_)) | ((with_reducible show DrawA _ _ _ _ _ _); first | (first | (refine draw_quiet hT mixed (by decide +kernel) ?_) | (refine draw_hard hT mixed (by decide +kernel) ?_)))))
          all_goals first | rfl | omega | exact hpl' | skip
          all_goals ((conv => whnf); refine ⟨i + 1, by omega, ?_, by omega⟩; rw [← pd_no hd]; (refine ⟨rfl, [], ?_, ?_⟩; all_goals (repeat' (first | exact rfl | exact trivial | (with_reducible assumption) | refine And.intro ?_ ?_)); all_goals (first | omega | assumption); done))
      · obtain rfl : i = sh.length := by omega
        repeat' ((first | (conv => whnf) | skip); (first | ((with_reducible intro h); first | contradiction | omega | (conv => whnf) | skip) | (with_reducible refine And.intro ?_ ?_) | ((with_reducible show arithK _ _ _); refine arith_ok ⟨by omega, by omega⟩ ?_) | ((with_reducible show quoK _ _ _ _); refine quo_ok ⟨by omega, by omega⟩ (by omega) (by omega) ?_) | ((with_reducible show remK _ _ _ _); refine rem_ok (by omega) (by omega) ?_) | ((first | (with_reducible show CallA _ _ _ _ _ _) | (with_reducible show CallQ _ _ _ _ _ _)); first | fail) | ((with_reducible show DrawA _ _ _ _ _ _); first | (refine draw_hard hT mixed (by decide +kernel) ?_))))
        all_goals first | rfl | omega | skip
        all_goals ((conv => whnf); first | (refine ⟨[some 2, some 3, some 5], pyT sh de (pd sh de ((ch + y) / lvS sh de sh.length) sh.length) ((ch + y) % lvS sh de sh.length) 0, [Di sh, Di de, Di (pd sh de ((ch + y) / lvS sh de sh.length) sh.length)], ?_, ?_, ?_⟩; all_goals (repeat' (first | exact rfl | exact trivial | (with_reducible assumption) | refine And.intro ?_ ?_)); all_goals (first | omega | assumption | ((repeat' (first | exact (pd_len _ _ _ _).symm | exact rfl | exact trivial | (with_reducible assumption) | refine And.intro ?_ ?_ | omega | assumption)); done)); done) | trace_state)
  · have hk' : ch + y ≤ 1000000000000 := by rwa [show keC sh de ch y = _ from if_neg hp] at hk
    rw [show eaC sh de ch y = _ from if_neg hp, show keC sh de ch y = _ from if_neg hp, ← pd_all hp]
    repeat' ((first | (conv => whnf) | skip); (first | ((with_reducible intro h); first | contradiction | omega | (conv => whnf) | skip) | (with_reducible refine And.intro ?_ ?_) | ((with_reducible show arithK _ _ _); refine arith_ok ⟨by omega, by omega⟩ ?_) | ((with_reducible show quoK _ _ _ _); refine quo_ok ⟨by omega, by omega⟩ (by omega) (by omega) ?_) | ((with_reducible show remK _ _ _ _); refine rem_ok (by omega) (by omega) ?_) | ((first | (with_reducible show CallA _ _ _ _ _ _) | (with_reducible show CallQ _ _ _ _ _ _)); first | (refine CallA.go [] (ownC_call sh de ch (by omega) (by omega)) rfl (by first | ((repeat' (first | exact rfl | exact trivial | (with_reducible assumption) | refine And.intro ?_ ?_ | omega | assumption)); done) | fail) trivial ?_) | (refine Ret.go (hlv) rfl rfl ?_) | (refine Ret.goQ (hlv) rfl rfl ?_)) | ((with_reducible show DrawA _ _ _ _ _ _); first | (refine draw_hard hT mixed (by decide +kernel) ?_))))
    all_goals first | rfl | omega | skip
    all_goals ((conv => whnf); first | (refine ⟨[some 2, some 3, some 5], pyT sh de (List.replicate sh.length 0) (ch + y) 0, [Di sh, Di de, Di (List.replicate sh.length 0)], ?_, ?_, ?_⟩; all_goals (repeat' (first | exact rfl | exact trivial | (with_reducible assumption) | refine And.intro ?_ ?_)); all_goals (first | omega | assumption | ((repeat' (first | (simp; done) | exact rfl | exact trivial | (with_reducible assumption) | refine And.intro ?_ ?_ | omega | assumption)); done)); done) | trace_state)
set_option maxRecDepth 100000 in
theorem specPay_no (sh de : List Int) (ch y : Int) (ho : okC sh de ch) (hy : 0 ≤ y ∧ y ≤ 100000000) (hk : ¬ keC sh de ch y ≤ 1000000000000) : CallA Tryz.prog G 121 [Cl sh de ch, I y] [] (fun v J => v = pyT [] [] [] 0 3 ∧ J = [Di [], Di [], Di []]) := by
  refine CallA.ends (callA_of_body hT Tryz.func121 rfl ?_)
  have hl := okC_len ho
  have h1 := ho.1.1
  have h3 := ho.1.2.2.2
  have hlv := specLiving_ret sh de ch ho
  have hp : ¬ 0 < lvS sh de sh.length := fun hp => by have := ke_small ho hy hp; omega
  have hk' : ¬ ch + y ≤ 1000000000000 := by rwa [show keC sh de ch y = _ from if_neg hp] at hk
  repeat' ((first | (conv => whnf) | skip); (first | ((with_reducible intro h); first | contradiction | omega | (conv => whnf) | skip) | (with_reducible refine And.intro ?_ ?_) | ((with_reducible show arithK _ _ _); refine arith_ok ⟨by omega, by omega⟩ ?_) | ((with_reducible show quoK _ _ _ _); refine quo_ok ⟨by omega, by omega⟩ (by omega) (by omega) ?_) | ((with_reducible show remK _ _ _ _); refine rem_ok (by omega) (by omega) ?_) | ((first | (with_reducible show CallA _ _ _ _ _ _) | (with_reducible show CallQ _ _ _ _ _ _)); first | (refine CallA.go [] (ownC_call sh de ch (by omega) (by omega)) rfl (by first | ((repeat' (first | exact rfl | exact trivial | (with_reducible assumption) | refine And.intro ?_ ?_ | omega | assumption)); done) | fail) trivial ?_) | (refine Ret.go (hlv) rfl rfl ?_) | (refine Ret.goQ (hlv) rfl rfl ?_)) | ((with_reducible show DrawA _ _ _ _ _ _); first | (refine draw_hard hT mixed (by decide +kernel) ?_))))
  all_goals first | rfl | omega | skip
  all_goals ((conv => whnf); first | (refine ⟨[none, none, none], .tup [.agg [.sl 0 1 0, .sl 1 1 0, I 0], .sl 2 1 0, I 3], [Di [], Di [], Di []], ?_, ?_, ?_⟩; all_goals (repeat' (first | exact rfl | exact trivial | (with_reducible assumption) | refine And.intro ?_ ?_ | omega))) | trace_state)
/-! With the checks -/
noncomputable def piR (sh de : List Int) (ch y : Int) : (List Int × List Int × List Int) × Int × Int := if okC sh de ch then (if 0 ≤ y ∧ y ≤ 100000000 then (if keC sh de ch y ≤ 1000000000000 then ((sh, de, pd sh de (eaC sh de ch y) sh.length), keC sh de ch y, 0) else (([], [], []), 0, 3)) else (([], [], []), 0, 2)) else (([], [], []), 0, 1)
noncomputable abbrev piT (sh de : List Int) (ch y : Int) : AV := pyT (piR sh de ch y).1.1 (piR sh de ch y).1.2.1 (piR sh de ch y).1.2.2 (piR sh de ch y).2.1 (piR sh de ch y).2.2
set_option maxRecDepth 100000 in
theorem isIncome_ret (y : Int) : Ret Tryz.prog G 118 [I y] (Bo (decide (0 ≤ y ∧ y ≤ 100000000))) := by
  refine ret_of_body hT Tryz.func118 rfl ?_ rfl
  repeat' ((first | (conv => whnf) | skip); (first | ((with_reducible intro h); first | contradiction | omega | (conv => whnf) | skip) | (with_reducible refine And.intro ?_ ?_) | ((with_reducible show arithK _ _ _); refine arith_ok ⟨by omega, by omega⟩ ?_) | ((with_reducible show quoK _ _ _ _); refine quo_ok ⟨by omega, by omega⟩ (by omega) (by omega) ?_) | ((with_reducible show remK _ _ _ _); refine rem_ok (by omega) (by omega) ?_) | ((first | (with_reducible show CallA _ _ _ _ _ _) | (with_reducible show CallQ _ _ _ _ _ _)); first | (refine Ret.goP (inRange_ret _ _ _) rfl ?_) | (refine Ret.goQP (inRange_ret _ _ _) rfl ?_)) | ((with_reducible show DrawA _ _ _ _ _ _); first | (first | (refine draw_quiet hT mixed (by decide +kernel) ?_) | (refine draw_hard hT mixed (by decide +kernel) ?_)))))
  all_goals (first | exact bv_true (by omega) | exact bv_false (by omega))
set_option maxRecDepth 100000 in
theorem specPI_call (sh de : List Int) (ch y : Int) (hs : sh.length ≤ 1048576) (hd : de.length ≤ 1048576) : CallA Tryz.prog G 61 [Cl sh de ch, I y] [] (fun v J => v = piT sh de ch y ∧ J = [Di (piR sh de ch y).1.1, Di (piR sh de ch y).1.2.1, Di (piR sh de ch y).1.2.2]) := by
  refine CallA.ends (callA_of_body hT Tryz.func61 rfl ?_)
  have hc := specClass_ret sh de ch hs hd
  by_cases ho : okC sh de ch
  · rw [decide_eq_true ho] at hc
    by_cases hy : 0 ≤ y ∧ y ≤ 100000000
    · by_cases hk : keC sh de ch y ≤ 1000000000000
      · have hpp := specPay_ok sh de ch y ho hy hk
        have hpl := pd_len sh de (eaC sh de ch y) sh.length
        rw [piT, show piR sh de ch y = ((sh, de, pd sh de (eaC sh de ch y) sh.length), keC sh de ch y, 0) from (if_pos ho).trans ((if_pos hy).trans (if_pos hk))]
        repeat' ((first | (conv => whnf) | skip); (first | ((with_reducible intro h); first | contradiction | omega | (conv => whnf) | skip) | (with_reducible refine And.intro ?_ ?_) | ((with_reducible show arithK _ _ _); refine arith_ok ⟨by omega, by omega⟩ ?_) | ((with_reducible show quoK _ _ _ _); refine quo_ok ⟨by omega, by omega⟩ (by omega) (by omega) ?_) | ((with_reducible show remK _ _ _ _); refine rem_ok (by omega) (by omega) ?_) | ((first | (with_reducible show CallA _ _ _ _ _ _) | (with_reducible show CallQ _ _ _ _ _ _)); first | (refine Ret.go (hc) rfl rfl ?_) | (refine Ret.goQ (hc) rfl rfl ?_) | (refine Ret.goP (l01In_ret _ _ _) rfl ?_) | (refine Ret.goQP (l01In_ret _ _ _) rfl ?_) | (refine CallA.go [] (hpp) rfl (by first | ((repeat' (first | exact rfl | exact trivial | (with_reducible assumption) | refine And.intro ?_ ?_ | omega | assumption)); done) | fail) trivial ?_)) | ((with_reducible show DrawA _ _ _ _ _ _); first | (refine draw_hard hT mixed (by decide +kernel) ?_))))
        all_goals first | rfl | omega | skip
        all_goals ((conv => whnf); first | (refine ⟨[some 2, some 3, some 4], pyT sh de (pd sh de (eaC sh de ch y) sh.length) (keC sh de ch y) 0, [Di sh, Di de, Di (pd sh de (eaC sh de ch y) sh.length)], ?_, ?_, ?_⟩; all_goals (repeat' (first | exact rfl | exact trivial | (with_reducible assumption) | refine And.intro ?_ ?_)); all_goals (first | omega | assumption); done) | trace_state)
      · have hpp := specPay_no sh de ch y ho hy hk
        rw [piT, show piR sh de ch y = (([], [], []), 0, 3) from (if_pos ho).trans ((if_pos hy).trans (if_neg hk))]
        repeat' ((first | (conv => whnf) | skip); (first | ((with_reducible intro h); first | contradiction | omega | (conv => whnf) | skip) | (with_reducible refine And.intro ?_ ?_) | ((with_reducible show arithK _ _ _); refine arith_ok ⟨by omega, by omega⟩ ?_) | ((with_reducible show quoK _ _ _ _); refine quo_ok ⟨by omega, by omega⟩ (by omega) (by omega) ?_) | ((with_reducible show remK _ _ _ _); refine rem_ok (by omega) (by omega) ?_) | ((first | (with_reducible show CallA _ _ _ _ _ _) | (with_reducible show CallQ _ _ _ _ _ _)); first | (refine Ret.go (hc) rfl rfl ?_) | (refine Ret.goQ (hc) rfl rfl ?_) | (refine Ret.goP (l01In_ret _ _ _) rfl ?_) | (refine Ret.goQP (l01In_ret _ _ _) rfl ?_) | (refine CallA.go [] (hpp) rfl (by first | ((repeat' (first | exact rfl | exact trivial | (with_reducible assumption) | refine And.intro ?_ ?_ | omega | assumption)); done) | fail) trivial ?_)) | ((with_reducible show DrawA _ _ _ _ _ _); first | (refine draw_hard hT mixed (by decide +kernel) ?_))))
        all_goals first | rfl | omega | skip
        all_goals ((conv => whnf); first | (refine ⟨[some 2, some 3, some 4], pyT [] [] [] 0 3, [Di [], Di [], Di []], ?_, ?_, ?_⟩; all_goals (repeat' (first | exact rfl | exact trivial | (with_reducible assumption) | refine And.intro ?_ ?_)); all_goals (first | omega | assumption); done) | trace_state)
    · rw [piT, show piR sh de ch y = (([], [], []), 0, 2) from (if_pos ho).trans (if_neg hy)]
      repeat' ((first | (conv => whnf) | skip); (first | ((with_reducible intro h); first | contradiction | omega | (conv => whnf) | skip) | (with_reducible refine And.intro ?_ ?_) | ((with_reducible show arithK _ _ _); refine arith_ok ⟨by omega, by omega⟩ ?_) | ((with_reducible show quoK _ _ _ _); refine quo_ok ⟨by omega, by omega⟩ (by omega) (by omega) ?_) | ((with_reducible show remK _ _ _ _); refine rem_ok (by omega) (by omega) ?_) | ((first | (with_reducible show CallA _ _ _ _ _ _) | (with_reducible show CallQ _ _ _ _ _ _)); first | (refine Ret.go (hc) rfl rfl ?_) | (refine Ret.goQ (hc) rfl rfl ?_) | (refine Ret.goP (l01In_ret _ _ _) rfl ?_) | (refine Ret.goQP (l01In_ret _ _ _) rfl ?_)) | ((with_reducible show DrawA _ _ _ _ _ _); first | (refine draw_hard hT mixed (by decide +kernel) ?_))))
      all_goals first | rfl | omega | skip
      all_goals ((conv => whnf); first | (refine ⟨[none, none, none], .tup [.agg [.sl 0 1 0, .sl 1 1 0, I 0], .sl 2 1 0, I 2], [Di [], Di [], Di []], ?_, ?_, ?_⟩; all_goals (repeat' (first | exact rfl | exact trivial | (with_reducible assumption) | refine And.intro ?_ ?_ | omega))) | trace_state)
  · rw [decide_eq_false ho] at hc
    rw [piT, show piR sh de ch y = (([], [], []), 0, 1) from if_neg ho]
    repeat' ((first | (conv => whnf) | skip); (first | ((with_reducible intro h); first | contradiction | omega | (conv => whnf) | skip) | (with_reducible refine And.intro ?_ ?_) | ((with_reducible show arithK _ _ _); refine arith_ok ⟨by omega, by omega⟩ ?_) | ((with_reducible show quoK _ _ _ _); refine quo_ok ⟨by omega, by omega⟩ (by omega) (by omega) ?_) | ((with_reducible show remK _ _ _ _); refine rem_ok (by omega) (by omega) ?_) | ((first | (with_reducible show CallA _ _ _ _ _ _) | (with_reducible show CallQ _ _ _ _ _ _)); first | (refine Ret.go (hc) rfl rfl ?_) | (refine Ret.goQ (hc) rfl rfl ?_)) | ((with_reducible show DrawA _ _ _ _ _ _); first | (refine draw_hard hT mixed (by decide +kernel) ?_))))
    all_goals first | rfl | omega | skip
    all_goals ((conv => whnf); first | (refine ⟨[none, none, none], .tup [.agg [.sl 0 1 0, .sl 1 1 0, I 0], .sl 2 1 0, I 1], [Di [], Di [], Di []], ?_, ?_, ?_⟩; all_goals (repeat' (first | exact rfl | exact trivial | (with_reducible assumption) | refine And.intro ?_ ?_ | omega))) | trace_state)
set_option maxRecDepth 100000 in
theorem implPI_call (sh de : List Int) (ch y : Int) (hs : sh.length ≤ 1048576) (hd : de.length ≤ 1048576) : CallA Tryz.prog G 60 [Cl sh de ch, I y] [] (fun v J => v = piT sh de ch y ∧ J = [Di (piR sh de ch y).1.1, Di (piR sh de ch y).1.2.1, Di (piR sh de ch y).1.2.2]) := by
  refine CallA.ends (callA_of_body hT Tryz.func60 rfl ?_)
  have hc := implClass_ret sh de ch hs hd
  by_cases ho : okC sh de ch
  · rw [decide_eq_true ho] at hc
    by_cases hy : 0 ≤ y ∧ y ≤ 100000000
    · have hpp := implPay_call sh de ch y ho hy
      have hpl := pd_len sh de (eaC sh de ch y) sh.length
      by_cases hk : keC sh de ch y ≤ 1000000000000
      · rw [decide_eq_true hk] at hpp
        rw [piT, show piR sh de ch y = ((sh, de, pd sh de (eaC sh de ch y) sh.length), keC sh de ch y, 0) from (if_pos ho).trans ((if_pos hy).trans (if_pos hk))]
        repeat' ((first | (conv => whnf) | skip); (first | ((with_reducible intro h); first | contradiction | omega | (conv => whnf) | skip) | (with_reducible refine And.intro ?_ ?_) | ((with_reducible show arithK _ _ _); refine arith_ok ⟨by omega, by omega⟩ ?_) | ((with_reducible show quoK _ _ _ _); refine quo_ok ⟨by omega, by omega⟩ (by omega) (by omega) ?_) | ((with_reducible show remK _ _ _ _); refine rem_ok (by omega) (by omega) ?_) | ((first | (with_reducible show CallA _ _ _ _ _ _) | (with_reducible show CallQ _ _ _ _ _ _)); first | (refine Ret.go (hc) rfl rfl ?_) | (refine Ret.goQ (hc) rfl rfl ?_) | (refine Ret.goP (isIncome_ret _) rfl ?_) | (refine Ret.goQP (isIncome_ret _) rfl ?_) | (refine CallA.go [] (hpp) rfl (by first | ((repeat' (first | exact rfl | exact trivial | (with_reducible assumption) | refine And.intro ?_ ?_ | omega | assumption)); done) | fail) trivial ?_)) | ((with_reducible show DrawA _ _ _ _ _ _); first | (refine draw_hard hT mixed (by decide +kernel) ?_))))
        all_goals first | rfl | omega | skip
        all_goals ((conv => whnf); first | (refine ⟨[some 2, some 3, some 4], pyT sh de (pd sh de (eaC sh de ch y) sh.length) (keC sh de ch y) 0, [Di sh, Di de, Di (pd sh de (eaC sh de ch y) sh.length)], ?_, ?_, ?_⟩; all_goals (repeat' (first | exact rfl | exact trivial | (with_reducible assumption) | refine And.intro ?_ ?_)); all_goals (first | omega | assumption); done) | trace_state)
      · rw [decide_eq_false hk] at hpp
        rw [piT, show piR sh de ch y = (([], [], []), 0, 3) from (if_pos ho).trans ((if_pos hy).trans (if_neg hk))]
        repeat' ((first | (conv => whnf) | skip); (first | ((with_reducible intro h); first | contradiction | omega | (conv => whnf) | skip) | (with_reducible refine And.intro ?_ ?_) | ((with_reducible show arithK _ _ _); refine arith_ok ⟨by omega, by omega⟩ ?_) | ((with_reducible show quoK _ _ _ _); refine quo_ok ⟨by omega, by omega⟩ (by omega) (by omega) ?_) | ((with_reducible show remK _ _ _ _); refine rem_ok (by omega) (by omega) ?_) | ((first | (with_reducible show CallA _ _ _ _ _ _) | (with_reducible show CallQ _ _ _ _ _ _)); first | (refine Ret.go (hc) rfl rfl ?_) | (refine Ret.goQ (hc) rfl rfl ?_) | (refine Ret.goP (isIncome_ret _) rfl ?_) | (refine Ret.goQP (isIncome_ret _) rfl ?_) | (refine CallA.go [] (hpp) rfl (by first | ((repeat' (first | exact rfl | exact trivial | (with_reducible assumption) | refine And.intro ?_ ?_ | omega | assumption)); done) | fail) trivial ?_)) | ((with_reducible show DrawA _ _ _ _ _ _); first | (refine draw_hard hT mixed (by decide +kernel) ?_))))
        all_goals first | rfl | omega | skip
        all_goals ((conv => whnf); first | (refine ⟨[none, none, none], .tup [.agg [.sl 0 1 0, .sl 1 1 0, I 0], .sl 2 1 0, I 3], [Di [], Di [], Di []], ?_, ?_, ?_⟩; all_goals (repeat' (first | exact rfl | exact trivial | (with_reducible assumption) | refine And.intro ?_ ?_ | omega))) | trace_state)
    · rw [piT, show piR sh de ch y = (([], [], []), 0, 2) from (if_pos ho).trans (if_neg hy)]
      repeat' ((first | (conv => whnf) | skip); (first | ((with_reducible intro h); first | contradiction | omega | (conv => whnf) | skip) | (with_reducible refine And.intro ?_ ?_) | ((with_reducible show arithK _ _ _); refine arith_ok ⟨by omega, by omega⟩ ?_) | ((with_reducible show quoK _ _ _ _); refine quo_ok ⟨by omega, by omega⟩ (by omega) (by omega) ?_) | ((with_reducible show remK _ _ _ _); refine rem_ok (by omega) (by omega) ?_) | ((first | (with_reducible show CallA _ _ _ _ _ _) | (with_reducible show CallQ _ _ _ _ _ _)); first | (refine Ret.go (hc) rfl rfl ?_) | (refine Ret.goQ (hc) rfl rfl ?_) | (refine Ret.goP (isIncome_ret _) rfl ?_) | (refine Ret.goQP (isIncome_ret _) rfl ?_)) | ((with_reducible show DrawA _ _ _ _ _ _); first | (refine draw_hard hT mixed (by decide +kernel) ?_))))
      all_goals first | rfl | omega | skip
      all_goals ((conv => whnf); first | (refine ⟨[none, none, none], .tup [.agg [.sl 0 1 0, .sl 1 1 0, I 0], .sl 2 1 0, I 2], [Di [], Di [], Di []], ?_, ?_, ?_⟩; all_goals (repeat' (first | exact rfl | exact trivial | (with_reducible assumption) | refine And.intro ?_ ?_ | omega))) | trace_state)
  · rw [decide_eq_false ho] at hc
    rw [piT, show piR sh de ch y = (([], [], []), 0, 1) from if_neg ho]
    repeat' ((first | (conv => whnf) | skip); (first | ((with_reducible intro h); first | contradiction | omega | (conv => whnf) | skip) | (with_reducible refine And.intro ?_ ?_) | ((with_reducible show arithK _ _ _); refine arith_ok ⟨by omega, by omega⟩ ?_) | ((with_reducible show quoK _ _ _ _); refine quo_ok ⟨by omega, by omega⟩ (by omega) (by omega) ?_) | ((with_reducible show remK _ _ _ _); refine rem_ok (by omega) (by omega) ?_) | ((first | (with_reducible show CallA _ _ _ _ _ _) | (with_reducible show CallQ _ _ _ _ _ _)); first | (refine Ret.go (hc) rfl rfl ?_) | (refine Ret.goQ (hc) rfl rfl ?_)) | ((with_reducible show DrawA _ _ _ _ _ _); first | (refine draw_hard hT mixed (by decide +kernel) ?_))))
    all_goals first | rfl | omega | skip
    all_goals ((conv => whnf); first | (refine ⟨[none, none, none], .tup [.agg [.sl 0 1 0, .sl 1 1 0, I 0], .sl 2 1 0, I 1], [Di [], Di [], Di []], ?_, ?_, ?_⟩; all_goals (repeat' (first | exact rfl | exact trivial | (with_reducible assumption) | refine And.intro ?_ ?_ | omega))) | trace_state)
set_option maxRecDepth 100000 in
theorem likeClasses_ret (S D : List Int) (C : Int) (hs : S.length ≤ 1048576) (hd : D.length ≤ 1048576) : Ret Tryz.prog G 62 [Cl S D C, Cl S D C] (Bo true) := by
  refine ret_of_body hT Tryz.func62 rfl ?_ rfl
  repeat' ((first | (conv => whnf) | skip); (first | ((with_reducible intro h); first | contradiction | omega | (conv => whnf) | skip) | (with_reducible refine And.intro ?_ ?_) | ((with_reducible show arithK _ _ _); refine arith_ok ⟨by omega, by omega⟩ ?_) | ((with_reducible show quoK _ _ _ _); refine quo_ok ⟨by omega, by omega⟩ (by omega) (by omega) ?_) | ((with_reducible show remK _ _ _ _); refine rem_ok (by omega) (by omega) ?_) | ((first | (with_reducible show CallA _ _ _ _ _ _) | (with_reducible show CallQ _ _ _ _ _ _)); first | (refine Ret.goP (likeInts_ret S S (by omega)) rfl ?_) | (refine Ret.goQP (likeInts_ret S S (by omega)) rfl ?_) | (refine Ret.goP (likeInts_ret D D (by omega)) rfl ?_) | (refine Ret.goQP (likeInts_ret D D (by omega)) rfl ?_)) | ((with_reducible show DrawA _ _ _ _ _ _); first | (first | (refine draw_quiet hT mixed (by decide +kernel) ?_) | (refine draw_hard hT mixed (by decide +kernel) ?_)))))
  all_goals first | rfl | omega | contradiction | trace_state
end Go.Proofs.YtenofbabiacacaaGreat
