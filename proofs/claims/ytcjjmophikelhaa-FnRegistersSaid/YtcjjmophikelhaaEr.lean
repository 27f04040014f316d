/-
  Registers drawn from bytes: the law. No conditions but those in the statements.
-/
import Derived.Test.YtcjjmophikelhaaEq
import Derived.Test.YtcjjmophikelhaaEb
set_option linter.unusedVariables false
set_option linter.unusedSimpArgs false
namespace Go.Proofs.Ytcjjmophikelhaa
open Go.AE

attribute [local irreducible] CallA LoopA DrawA CallQ arithK quoK remK eqK
theorem en_reg {xss : List (List Int)} {num bo n : Int} (h : enC xss num bo n = 0) : isReg (enR xss num bo n) := by rw [enR_ok h]; exact reg_ins h
theorem en_len {xss : List (List Int)} {num bo n : Int} (h : enC xss num bo n = 0) : (enR xss num bo n).length = xss.length + 1 := by rw [enR_ok h]; exact insL_len _ _ _
theorem en_mem {xss : List (List Int)} {num bo n : Int} (h : enC xss num bo n = 0) : mbC (enR xss num bo n) n = 0 ∧ num ∈ mbR (telQ allW (enR xss num bo n) n) (fun i => numOf ((enR xss num bo n).getD i [])) (enR xss num bo n) n := by
  obtain ⟨h1, h2⟩ := mb_yes (telQ allW (enR xss num bo n) n) (fun i => numOf ((enR xss num bo n).getD i [])) (en_reg h) (enC_inv h).2.1.2.2.1
  rw [h1, h2, enR_ok h]
  exact ⟨rfl, en_in h⟩
theorem ch_reg {num n : Int} {xss : List (List Int)} (hr : ∀ r ∈ xss, r.length = 5) (h : chC num n xss = 0) : isReg (chR 3 num n xss) ∧ isReg (chR 4 num n xss) := by rw [chR_ok h, chR_ok h]; exact reg_ch hr h
theorem ch_left {num n : Int} {xss : List (List Int)} (hr : ∀ r ∈ xss, r.length = 5) (h : chC num n xss = 0) : mbC (chR 3 num n xss) n = 0 ∧ num ∉ mbR (telQ allW (chR 3 num n xss) n) (fun i => numOf ((chR 3 num n xss).getD i [])) (chR 3 num n xss) n := by
  obtain ⟨h1, h2⟩ := mb_yes (telQ allW (chR 3 num n xss) n) (fun i => numOf ((chR 3 num n xss).getD i [])) (ch_reg hr h).1 (chC_inv h).2.1.2
  rw [h1, h2, chR_ok h]
  exact ⟨rfl, left_out hr h⟩
theorem ch_proved {num n : Int} {xss : List (List Int)} (hr : ∀ r ∈ xss, r.length = 5) (h : chC num n xss = 0) : mbC (chR 4 num n xss) n = 0 ∧ num ∉ mbR (telQ (silW n) (chR 4 num n xss) n) (fun i => numOf ((chR 4 num n xss).getD i [])) (chR 4 num n xss) n := by
  obtain ⟨h1, h2⟩ := mb_yes (telQ (silW n) (chR 4 num n xss) n) (fun i => numOf ((chR 4 num n xss).getD i [])) (ch_reg hr h).2 (chC_inv h).2.1.2
  rw [h1, h2, chR_ok h]
  exact ⟨rfl, proved_out hr h⟩
attribute [local irreducible] srcOk chR enR chC enC mbR mbC
set_option maxHeartbeats 8000000 in
set_option maxRecDepth 100000 in
theorem lawRegs_ret (code : List Int) (hn : code.length ≤ 9223372036854775807) (hb : bytesOk code) : Ret Try.prog G 6 [Rb code] (Bo true) := by
  refine ret_of_body hT Try.func6 rfl ?_ rfl
  have hbg := big_ret code
  by_cases hbig : (4096 : Int) < code.length
  · rw [decide_eq_true hbig] at hbg
    repeat' ((first | (conv => whnf) | skip); (first | ((with_reducible intro h); first | contradiction | omega | (conv => whnf) | skip) | (with_reducible refine And.intro ?_ ?_) | ((with_reducible show arithK _ _ _); refine arith_ok ⟨by omega, by omega⟩ ?_) | ((with_reducible show quoK _ _ _ _); refine quo_ok ⟨by omega, by omega⟩ (by omega) (by omega) ?_) | ((with_reducible show remK _ _ _ _); refine rem_ok (by omega) (by omega) ?_) | ((first | (with_reducible show CallA _ _ _ _ _ _) | (with_reducible show CallQ _ _ _ _ _ _)); first | (refine Ret.use (hbg) (by first | ((repeat' (first | exact rfl | exact trivial | (with_reducible assumption) | refine And.intro ?_ ?_ | omega | assumption)); done) | fail) ?_) | (refine Ret.useQ (hbg) (by first | ((repeat' (first | exact rfl | exact trivial | (with_reducible assumption) | refine And.intro ?_ ?_ | omega | assumption)); done) | fail) rfl ?_)) | ((with_reducible show DrawA _ _ _ _ _ _); first | (refine draw_hard hT mixed (by decide +kernel) ?_))))
    all_goals first | rfl | omega | contradiction | trace_state
  · rw [decide_eq_false hbig] at hbg
    replace hn : code.length ≤ 2305843009213693952 := by omega
    repeat' ((first | (conv => whnf) | skip); (first | ((with_reducible intro h); first | contradiction | omega | (conv => whnf) | skip) | (with_reducible refine And.intro ?_ ?_) | ((with_reducible show arithK _ _ _); refine arith_ok ⟨by omega, by omega⟩ ?_) | ((with_reducible show quoK _ _ _ _); refine quo_ok ⟨by omega, by omega⟩ (by omega) (by omega) ?_) | ((with_reducible show remK _ _ _ _); refine rem_ok (by omega) (by omega) ?_) | ((first | (with_reducible show CallA _ _ _ _ _ _) | (with_reducible show CallQ _ _ _ _ _ _)); first | (refine Ret.use (hbg) (by first | ((repeat' (first | exact rfl | exact trivial | (with_reducible assumption) | refine And.intro ?_ ?_ | omega | assumption)); done) | fail) ?_) | (refine Ret.useQ (hbg) (by first | ((repeat' (first | exact rfl | exact trivial | (with_reducible assumption) | refine And.intro ?_ ?_ | omega | assumption)); done) | fail) rfl ?_) | (refine CallA.goE3 false [] (drawLeave_call code hn hb) rfl (by first | ((repeat' (first | exact rfl | exact trivial | (with_reducible assumption) | refine And.intro ?_ ?_ | omega | assumption)); done) | fail) (by first | ((repeat' (first | exact rfl | exact trivial | (with_reducible assumption) | refine And.intro ?_ ?_ | omega | assumption)); done) | fail) ?_; rintro ⟨z, num, mo⟩ a0 s0 ⟨hz, _⟩; (first | (conv => whnf) | skip))) | ((with_reducible show DrawA _ _ _ _ _ _); first | (refine draw_hard hT mixed (by decide +kernel) ?_))))
    all_goals first | rfl | omega | contradiction | skip
    dsimp only at hz
    have hzr := rowsB.len hz.2
    have k1 := implLeave_call z num mo (by omega) hzr
    have k2 := specLeave_call z num mo (by omega) hzr
    have k3 := implProve_call z num mo (by omega) hzr
    have k4 := specProve_call z num mo (by omega) hzr
    have n3 := chR_len 3 num mo z
    have n4 := chR_len 4 num mo z
    repeat' ((first | (conv => whnf) | skip); (first | ((with_reducible intro h); first | contradiction | omega | (conv => whnf) | skip) | (with_reducible refine And.intro ?_ ?_) | ((with_reducible show arithK _ _ _); refine arith_ok ⟨by omega, by omega⟩ ?_) | ((with_reducible show quoK _ _ _ _); refine quo_ok ⟨by omega, by omega⟩ (by omega) (by omega) ?_) | ((with_reducible show remK _ _ _ _); refine rem_ok (by omega) (by omega) ?_) | ((first | (with_reducible show CallA _ _ _ _ _ _) | (with_reducible show CallQ _ _ _ _ _ _)); first | (refine CallA.go [] (k1) rfl (by first | ((repeat' (first | exact rfl | exact trivial | (with_reducible assumption) | refine And.intro ?_ ?_ | omega | assumption)); done) | fail) trivial ?_) | (refine CallA.go [] (k2) rfl (by first | ((repeat' (first | exact rfl | exact trivial | (with_reducible assumption) | refine And.intro ?_ ?_ | omega | assumption)); done) | fail) trivial ?_) | (refine CallA.go [] (k3) rfl (by first | ((repeat' (first | exact rfl | exact trivial | (with_reducible assumption) | refine And.intro ?_ ?_ | omega | assumption)); done) | fail) trivial ?_) | (refine CallA.go [] (k4) rfl (by first | ((repeat' (first | exact rfl | exact trivial | (with_reducible assumption) | refine And.intro ?_ ?_ | omega | assumption)); done) | fail) trivial ?_) | (refine CallA.goE3 false [] (drawEnrol_call code hn hb) rfl (by first | ((repeat' (first | exact rfl | exact trivial | (with_reducible assumption) | refine And.intro ?_ ?_ | omega | assumption)); done) | fail) (by first | ((repeat' (first | exact rfl | exact trivial | (with_reducible assumption) | refine And.intro ?_ ?_ | omega | assumption)); done) | fail) ?_; rintro ⟨y, num2, bo, mo2⟩ a1 s1 ⟨hy, _⟩; (first | (conv => whnf) | skip))) | ((with_reducible show DrawA _ _ _ _ _ _); first | (refine draw_hard hT mixed (by decide +kernel) ?_))))
    all_goals first | rfl | omega | contradiction | skip
    dsimp only at hy
    have hyr := rowsB.len hy.2
    have l2 : (y, num2, bo, mo2).fst.length = y.length := rfl
    have k5 := implEnrol_call y num2 bo mo2 (by omega)
    have k6 := specEnrol_call y num2 bo mo2 (by omega)
    have n5 := enR_len y num2 bo mo2
    have k7 := likeM_ret (chR 3 num mo z) (by omega)
    have k8 := likeM_ret (chR 4 num mo z) (by omega)
    have k9 := likeM_ret (enR y num2 bo mo2) (by omega)
    have k10 := implReg_ret z (by omega)
    have k11 := specReg_ret z (by omega)
    have k12 := implMem_call (enR y num2 bo mo2) mo2 (by omega)
    have k13 := implReg_ret (enR y num2 bo mo2) (by omega)
    have k14 := implMem_call (chR 3 num mo z) mo (by omega)
    have k15 := implSil_call (chR 4 num mo z) mo (by omega)
    have k16 := implReg_ret (chR 3 num mo z) (by omega)
    have k17 := implReg_ret (chR 4 num mo z) (by omega)
    have m1 := mbR_len (telQ allW (enR y num2 bo mo2) mo2) (fun i => numOf ((enR y num2 bo mo2).getD i [])) (enR y num2 bo mo2) mo2
    have m2 := mbR_len (telQ allW (chR 3 num mo z) mo) (fun i => numOf ((chR 3 num mo z).getD i [])) (chR 3 num mo z) mo
    have m3 := mbR_len (telQ (silW mo) (chR 4 num mo z) mo) (fun i => numOf ((chR 4 num mo z).getD i [])) (chR 4 num mo z) mo
    have k18 := hasInt_ret _ num2 (Nat.le_trans m1 (by decide))
    have k19 := hasInt_ret _ num (Nat.le_trans m2 (by decide))
    have k20 := hasInt_ret _ num (Nat.le_trans m3 (by decide))
    rcases hzb : decide (isReg z) with _ | _
    all_goals rw [hzb] at k10 k11
    all_goals by_cases he : enC y num2 bo mo2 = 0
    all_goals by_cases hc : chC num mo z = 0
    all_goals try (
      obtain ⟨c1, c2⟩ := en_mem he
      have l1 := en_len he
      rw [decide_eq_true (en_reg he)] at k13
      rw [decide_eq_true c2] at k18)
    all_goals try (
      obtain ⟨d1, d2⟩ := ch_left hzr hc
      obtain ⟨e1, e2⟩ := ch_proved hzr hc
      rw [decide_eq_true (ch_reg hzr hc).1] at k16
      rw [decide_eq_true (ch_reg hzr hc).2] at k17
      rw [decide_eq_false d2] at k19
      rw [decide_eq_false e2] at k20)
    repeat' ((first | (conv => whnf) | skip); (first | ((with_reducible intro h); first | contradiction | omega | (conv => whnf) | skip) | (with_reducible refine And.intro ?_ ?_) | ((with_reducible show arithK _ _ _); refine arith_ok ⟨by omega, by omega⟩ ?_) | ((with_reducible show quoK _ _ _ _); refine quo_ok ⟨by omega, by omega⟩ (by omega) (by omega) ?_) | ((with_reducible show remK _ _ _ _); refine rem_ok (by omega) (by omega) ?_) | ((first | (with_reducible show CallA _ _ _ _ _ _) | (with_reducible show CallQ _ _ _ _ _ _)); first | (refine CallA.go [] (k5) rfl (by first | ((repeat' (first | exact rfl | exact trivial | (with_reducible assumption) | refine And.intro ?_ ?_ | omega | assumption)); done) | fail) trivial ?_) | (refine CallA.go [] (k6) rfl (by first | ((repeat' (first | exact rfl | exact trivial | (with_reducible assumption) | refine And.intro ?_ ?_ | omega | assumption)); done) | fail) trivial ?_) | (refine Ret.use (k7) (by first | ((repeat' (first | exact rfl | exact trivial | (with_reducible assumption) | refine And.intro ?_ ?_ | omega | assumption)); done) | fail) ?_) | (refine Ret.useQ (k7) (by first | ((repeat' (first | exact rfl | exact trivial | (with_reducible assumption) | refine And.intro ?_ ?_ | omega | assumption)); done) | fail) rfl ?_) | (refine Ret.use (k8) (by first | ((repeat' (first | exact rfl | exact trivial | (with_reducible assumption) | refine And.intro ?_ ?_ | omega | assumption)); done) | fail) ?_) | (refine Ret.useQ (k8) (by first | ((repeat' (first | exact rfl | exact trivial | (with_reducible assumption) | refine And.intro ?_ ?_ | omega | assumption)); done) | fail) rfl ?_) | (refine Ret.use (k9) (by first | ((repeat' (first | exact rfl | exact trivial | (with_reducible assumption) | refine And.intro ?_ ?_ | omega | assumption)); done) | fail) ?_) | (refine Ret.useQ (k9) (by first | ((repeat' (first | exact rfl | exact trivial | (with_reducible assumption) | refine And.intro ?_ ?_ | omega | assumption)); done) | fail) rfl ?_) | (refine Ret.use (k10) (by first | ((repeat' (first | exact rfl | exact trivial | (with_reducible assumption) | refine And.intro ?_ ?_ | omega | assumption)); done) | fail) ?_) | (refine Ret.useQ (k10) (by first | ((repeat' (first | exact rfl | exact trivial | (with_reducible assumption) | refine And.intro ?_ ?_ | omega | assumption)); done) | fail) rfl ?_) | (refine Ret.use (k11) (by first | ((repeat' (first | exact rfl | exact trivial | (with_reducible assumption) | refine And.intro ?_ ?_ | omega | assumption)); done) | fail) ?_) | (refine Ret.useQ (k11) (by first | ((repeat' (first | exact rfl | exact trivial | (with_reducible assumption) | refine And.intro ?_ ?_ | omega | assumption)); done) | fail) rfl ?_) | (refine CallA.go [] (k12) rfl (by first | ((repeat' (first | exact rfl | exact trivial | (with_reducible assumption) | refine And.intro ?_ ?_ | omega | assumption)); done) | fail) trivial ?_) | (refine Ret.use (k18) (by first | ((repeat' (first | exact rfl | exact trivial | (with_reducible assumption) | refine And.intro ?_ ?_ | omega | assumption)); done) | fail) ?_) | (refine Ret.useQ (k18) (by first | ((repeat' (first | exact rfl | exact trivial | (with_reducible assumption) | refine And.intro ?_ ?_ | omega | assumption)); done) | fail) rfl ?_) | (refine Ret.use (k13) (by first | ((repeat' (first | exact rfl | exact trivial | (with_reducible assumption) | refine And.intro ?_ ?_ | omega | assumption)); done) | fail) ?_) | (refine Ret.useQ (k13) (by first | ((repeat' (first | exact rfl | exact trivial | (with_reducible assumption) | refine And.intro ?_ ?_ | omega | assumption)); done) | fail) rfl ?_) | (refine CallA.go [] (k14) rfl (by first | ((repeat' (first | exact rfl | exact trivial | (with_reducible assumption) | refine And.intro ?_ ?_ | omega | assumption)); done) | fail) trivial ?_) | (refine CallA.go [] (k15) rfl (by first | ((repeat' (first | exact rfl | exact trivial | (with_reducible assumption) | refine And.intro ?_ ?_ | omega | assumption)); done) | fail) trivial ?_) | (refine Ret.use (k19) (by first | ((repeat' (first | exact rfl | exact trivial | (with_reducible assumption) | refine And.intro ?_ ?_ | omega | assumption)); done) | fail) ?_) | (refine Ret.useQ (k19) (by first | ((repeat' (first | exact rfl | exact trivial | (with_reducible assumption) | refine And.intro ?_ ?_ | omega | assumption)); done) | fail) rfl ?_) | (refine Ret.use (k20) (by first | ((repeat' (first | exact rfl | exact trivial | (with_reducible assumption) | refine And.intro ?_ ?_ | omega | assumption)); done) | fail) ?_) | (refine Ret.useQ (k20) (by first | ((repeat' (first | exact rfl | exact trivial | (with_reducible assumption) | refine And.intro ?_ ?_ | omega | assumption)); done) | fail) rfl ?_) | (refine Ret.use (k16) (by first | ((repeat' (first | exact rfl | exact trivial | (with_reducible assumption) | refine And.intro ?_ ?_ | omega | assumption)); done) | fail) ?_) | (refine Ret.useQ (k16) (by first | ((repeat' (first | exact rfl | exact trivial | (with_reducible assumption) | refine And.intro ?_ ?_ | omega | assumption)); done) | fail) rfl ?_) | (refine Ret.use (k17) (by first | ((repeat' (first | exact rfl | exact trivial | (with_reducible assumption) | refine And.intro ?_ ?_ | omega | assumption)); done) | fail) ?_) | (refine Ret.useQ (k17) (by first | ((repeat' (first | exact rfl | exact trivial | (with_reducible assumption) | refine And.intro ?_ ?_ | omega | assumption)); done) | fail) rfl ?_)) | ((with_reducible show DrawA _ _ _ _ _ _); first | (refine draw_hard hT mixed (by decide +kernel) ?_))))
    all_goals first | rfl | omega | contradiction | trace_state
end Go.Proofs.Ytcjjmophikelhaa
