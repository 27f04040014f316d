/-
  Years that run one after the other: the walks. No conditions but those in the statements.
-/
import Derived.Test.YtenofbabiacacaaGreatMn
set_option linter.unusedVariables false
set_option linter.unusedSimpArgs false
namespace Go.Proofs.YtenofbabiacacaaGreat
open Go.AE

attribute [local irreducible] CallA LoopA DrawA CallQ arithK quoK remK eqK
attribute [local irreducible] cols cN cM cD cC dur pTop pBase lv clS eDs okT sumH agL nets loads tot run clC
noncomputable def ryG (f : Int) (ls : List Int) (r : Int) (hs : List (List Int)) (fu co rt ys : Int) : Prop := okF f ls r hs ∧ okD fu ∧ okD co ∧ okR rt ∧ (0 ≤ ys ∧ ys ≤ 40)
noncomputable instance (f : Int) (ls : List Int) (r : Int) (hs : List (List Int)) (fu co rt ys : Int) : Decidable (ryG f ls r hs fu co rt ys) := Classical.propDecidable _
noncomputable def ryP (f : Int) (ls : List Int) (r : Int) (hs : List (List Int)) (fu co rt ys : Int) : List (List Int) × Int := if ryG f ls r hs fu co rt ys then run f ls r co rt ys.toNat hs fu else ([], if okF f ls r hs then 2 else 1)
abbrev Dy (xss : List (List Int)) : Blk := .data (.recs 7 xss)
abbrev ryT (p : List (List Int) × Int) : AV := .tup [.sl 0 7 p.1.length, I p.2]
abbrev ryI (f : Int) (ls : List Int) (r : Int) (hs0 : List (List Int)) (fu0 co rt : Int) (Y : Nat) (p : Nat × List (List Int) × List (List Int) × Int) : Prop :=
  p.1 ≤ Y ∧ okF f ls r p.2.2.1 ∧ okD p.2.2.2 ∧ p.2.1.length = p.1 ∧ run f ls r co rt Y hs0 fu0 = glue p.2.1 (run f ls r co rt (Y - p.1) p.2.2.1 p.2.2.2)
theorem it_bd {fu n rt : Int} (h1 : okD fu) (h2 : 0 ≤ n ∧ n ≤ 3000000030000000) (h3 : okR rt) : (0 ≤ (fu + n) * rt ∧ (fu + n) * rt ≤ 3001000030000000 * 200) ∧ 0 ≤ (fu + n) * rt / 1000 := by
  have h := mul_in (a := fu + n) (A := 3001000030000000) (b := rt) (B := 200) (by omega) (by omega) h3.1 h3.2
  omega
set_option maxHeartbeats 4000000 in
set_option maxRecDepth 100000 in
theorem implRY_call (f : Int) (ls : List Int) (r : Int) (hs : List (List Int)) (fu co rt ys : Int) (hn : ls.length ≤ 1048576) (hh : hs.length ≤ 1048576) : CallA Tryz.prog G 27 [Bs f ls r, Rh hs, I fu, I co, I rt, I ys] [] (fun v J => v = ryT (ryP f ls r hs fu co rt ys) ∧ J = [Dy (ryP f ls r hs fu co rt ys).1]) := by
  refine CallA.ends (callA_of_body hT Tryz.func27 rfl ?_)
  by_cases hg : ryG f ls r hs fu co rt ys
  · rw [show ryP f ls r hs fu co rt ys = run f ls r co rt ys.toNat hs fu from if_pos hg]
    obtain ⟨ho, g1, g2, g3, g4⟩ := hg
    obtain ⟨Y, rfl⟩ : ∃ Y : Nat, ys = Y := ⟨ys.toNat, by omega⟩
    rw [show ((Y : Int)).toNat = Y from rfl]
    repeat' ((first | (conv => whnf) | skip); (first | ((with_reducible intro h); first | contradiction | omega | (conv => whnf) | skip) | (with_reducible refine And.intro ?_ ?_) | ((with_reducible show arithK _ _ _); refine arith_ok ⟨by omega, by omega⟩ ?_) | ((with_reducible show quoK _ _ _ _); refine quo_ok ⟨by omega, by omega⟩ (by omega) (by omega) ?_) | ((with_reducible show remK _ _ _ _); refine rem_ok (by omega) (by omega) ?_) | ((first | (with_reducible show CallA _ _ _ _ _ _) | (with_reducible show CallQ _ _ _ _ _ _)); first | (refine Ret.goP (implPortfolio_ret f ls r hs hn hh) rfl ?_) | (refine Ret.goQP (implPortfolio_ret f ls r hs hn hh) rfl ?_) | (refine Ret.goP (implFund_ret _) rfl ?_) | (refine Ret.goQP (implFund_ret _) rfl ?_) | (refine Ret.goP (implRate_ret _) rfl ?_) | (refine Ret.goQP (implRate_ret _) rfl ?_) | (refine Ret.goP (inRange_ret _ _ _) rfl ?_) | (refine Ret.goQP (inRange_ret _ _ _) rfl ?_)) | ((with_reducible show DrawA _ _ _ _ _ _); first | (first | (refine draw_quiet hT mixed (by decide +kernel) ?_) | (refine draw_hard hT mixed (by decide +kernel) ?_)))))
    all_goals first | omega | exact absurd ho (by assumption) | exact absurd g1 (by assumption) | exact absurd g2 (by assumption) | exact absurd g3 (by assumption) | exact absurd g4 (by assumption) | skip
    refine loop_rule hT (ryI f ls r hs fu co rt Y) 104 2 [1, 2, 3, 4, 6, 14, 45, 46] (fun p => [Rh p.2.2.1, I p.2.2.2, I co, I rt, .ptr 0 0, .sl 2 7 p.2.1.length, I Y, I p.1]) (fun p => [.cells [I f, Ri ls, I r], .dead, Dy p.2.1]) (fun p => Y - p.1) ((0, [], hs, fu)) (Nat.le_of_ble_eq_true rfl) ?_ ?_ ?_
    · exact ⟨Nat.zero_le _, ho, g1, rfl, (glue_empty _ (run_clean Y hs fu)).symm⟩
    · (refine ⟨rfl, [some 1], ?_, ?_⟩; all_goals (repeat' (first | exact rfl | exact trivial | (with_reducible assumption) | refine And.intro ?_ ?_)); all_goals (first | omega | assumption); done)
    · rintro ⟨k, acc, hk, fk⟩ ⟨i1, i2, i3, i4, i5⟩
      dsimp only at i1 i2 i3 i4 i5 ⊢
      have hl := i2.2.1
      by_cases hy : k < Y
      · obtain ⟨m, hm⟩ : ∃ m, Y - k = m + 1 := ⟨Y - k - 1, by omega⟩
        have hm2 : Y - (k + 1) = m := by omega
        rw [hm] at i5
        by_cases hz : hk.length = 0
        · rw [run_nil hz, glue_nil] at i5
          rw [i5]
          repeat' ((first | (conv => whnf) | skip); (first | ((with_reducible intro h); first | contradiction | omega | (conv => whnf) | skip) | (with_reducible refine And.intro ?_ ?_) | ((with_reducible show arithK _ _ _); refine arith_ok ⟨by omega, by omega⟩ ?_) | ((with_reducible show quoK _ _ _ _); refine quo_ok ⟨by omega, by omega⟩ (by omega) (by omega) ?_) | ((with_reducible show remK _ _ _ _); refine rem_ok (by omega) (by omega) ?_) | ((first | (with_reducible show CallA _ _ _ _ _ _) | (with_reducible show CallQ _ _ _ _ _ _)); first | fail) | ((with_reducible show DrawA _ _ _ _ _ _); first | (first | (refine draw_quiet hT mixed (by decide +kernel) ?_) | (refine draw_hard hT mixed (by decide +kernel) ?_)))))
          all_goals first | omega | (refine ⟨[some 2], .tup [.sl 0 7 acc.length, I 0], [Dy acc], ?_, ?_, ?_⟩; all_goals (repeat' (first | exact rfl | exact trivial | (with_reducible assumption) | refine And.intro ?_ ?_)); all_goals (first | omega | assumption); done) | trace_state
        · have hd := eDs_ok i2
          have hb := sums_bd i2 hd
          have hi := it_bd i3 hb.1 g3
          have hp := implPrem_ret f ls r hk i2
          have hx := implDths_ro f ls r hk i2
          by_cases a1 : okD (nets f ls r hk)
          · by_cases a2 : okD (itr f ls r hk fk rt)
            · have hcl := implClose_ro f ls r hk (exD f ls hk) fk co (itr f ls r hk fk rt) hn i2 hd i3 g2 a2
              by_cases a3 : clQ f ls r hk (exD f ls hk) fk co (itr f ls r hk fk rt)
              · have hyr : isYr fk (nets f ls r hk) (loads f ls r hk) co (itr f ls r hk fk rt) (clm f ls hk (exD f ls hk)) (tot f ls r (laterX f ls hk)) := by
                  have h1 := a3.2
                  unfold yrQ at h1
                  exact h1
                have hyb := yr_bd hyr
                have hlo := later_ok i2 hd a3.1
                have hen := implEndF_ret fk (nets f ls r hk) (loads f ls r hk) co (itr f ls r hk fk rt) (clm f ls hk (exD f ls hk)) (tot f ls r (laterX f ls hk)) hyr
                rw [clT, yL, whL_yes a3, yT_yes a3, clC_zero a3] at hcl
                by_cases a4 : okD (endX f ls r hk fk co rt)
                · have hgo : goX f ls r hk fk co rt := ⟨⟨a1, a2⟩, a3, a4⟩
                  rw [run_go hz hgo acc] at i5
                  repeat' ((first | (conv => whnf) | skip); (first | ((with_reducible intro h); first | contradiction | omega | (conv => whnf) | skip) | (with_reducible refine And.intro ?_ ?_) | ((with_reducible show arithK _ _ _); refine arith_ok ⟨by omega, by omega⟩ ?_) | ((with_reducible show quoK _ _ _ _); refine quo_ok ⟨by omega, by omega⟩ (by omega) (by omega) ?_) | ((with_reducible show remK _ _ _ _); refine rem_ok (by omega) (by omega) ?_) | ((first | (with_reducible show CallA _ _ _ _ _ _) | (with_reducible show CallQ _ _ _ _ _ _)); first | (refine Ret.go (hp) rfl rfl ?_) | (refine Ret.goQ (hp) rfl rfl ?_) | (refine Ret.goP (implFund_ret _) rfl ?_) | (refine Ret.goQP (implFund_ret _) rfl ?_) | (refine CallA.go0 [] (hx) rfl (by first | ((repeat' (first | exact rfl | exact trivial | (with_reducible assumption) | refine And.intro ?_ ?_ | omega | assumption)); done) | fail) trivial ?_) | (refine CallA.go0 [] (hcl) rfl (by first | ((repeat' (first | exact rfl | exact trivial | (with_reducible assumption) | refine And.intro ?_ ?_ | omega | assumption)); done) | fail) trivial ?_) | (refine Ret.go (hen) rfl rfl ?_) | (refine Ret.goQ (hen) rfl rfl ?_)) | ((with_reducible show DrawA _ _ _ _ _ _); first | (refine draw_hard hT mixed (by decide +kernel) ?_))))
                  all_goals first | omega | exact absurd a1 (by assumption) | exact absurd a2 (by assumption) | exact absurd a4 (by assumption) | exact rfl | (show (acc.length + 1) * 56 ≤ _; omega) | skip
                  all_goals ((conv => whnf); refine ⟨(k + 1, acc ++ [rowX f ls r hk fk co rt], laterX f ls hk, endX f ls r hk fk co rt), ⟨by dsimp only; omega, hlo, a4, by dsimp only; rw [List.length_append, i4]; rfl, by dsimp only; rw [hm2]; exact i5⟩, ?_, by dsimp only; omega⟩; first | (refine ⟨rfl, [some 5], ?_, ?_⟩; all_goals (repeat' (first | exact rfl | exact trivial | (with_reducible assumption) | refine And.intro ?_ ?_)); all_goals (first | omega | assumption); done) | (refine ⟨rfl, [some 4], ?_, ?_⟩; all_goals (repeat' (first | exact rfl | exact trivial | (with_reducible assumption) | refine And.intro ?_ ?_)); all_goals (first | omega | assumption); done) | (refine ⟨rfl, [some 6], ?_, ?_⟩; all_goals (repeat' (first | exact rfl | exact trivial | (with_reducible assumption) | refine And.intro ?_ ?_)); all_goals (first | omega | assumption); done) | (refine ⟨rfl, [some 3], ?_, ?_⟩; all_goals (repeat' (first | exact rfl | exact trivial | (with_reducible assumption) | refine And.intro ?_ ?_)); all_goals (first | omega | assumption); done) | (refine ⟨rfl, [some 7], ?_, ?_⟩; all_goals (repeat' (first | exact rfl | exact trivial | (with_reducible assumption) | refine And.intro ?_ ?_)); all_goals (first | omega | assumption); done) | trace_state)
                · have hcd : cdX f ls r hk fk co rt = 3 := if_neg (fun e => e.2 a3)
                  obtain ⟨i6, i7⟩ := run_no (n := m) (r := r) (co := co) (rt := rt) hz (fun e => a4 e.2.2) acc
                  rw [i6] at i5
                  rw [i5]
                  repeat' ((first | (conv => whnf) | skip); (first | ((with_reducible intro h); first | contradiction | omega | (conv => whnf) | skip) | (with_reducible refine And.intro ?_ ?_) | ((with_reducible show arithK _ _ _); refine arith_ok ⟨by omega, by omega⟩ ?_) | ((with_reducible show quoK _ _ _ _); refine quo_ok ⟨by omega, by omega⟩ (by omega) (by omega) ?_) | ((with_reducible show remK _ _ _ _); refine rem_ok (by omega) (by omega) ?_) | ((first | (with_reducible show CallA _ _ _ _ _ _) | (with_reducible show CallQ _ _ _ _ _ _)); first | (refine Ret.go (hp) rfl rfl ?_) | (refine Ret.goQ (hp) rfl rfl ?_) | (refine Ret.goP (implFund_ret _) rfl ?_) | (refine Ret.goQP (implFund_ret _) rfl ?_) | (refine CallA.go0 [] (hx) rfl (by first | ((repeat' (first | exact rfl | exact trivial | (with_reducible assumption) | refine And.intro ?_ ?_ | omega | assumption)); done) | fail) trivial ?_) | (refine CallA.go0 [] (hcl) rfl (by first | ((repeat' (first | exact rfl | exact trivial | (with_reducible assumption) | refine And.intro ?_ ?_ | omega | assumption)); done) | fail) trivial ?_) | (refine Ret.go (hen) rfl rfl ?_) | (refine Ret.goQ (hen) rfl rfl ?_)) | ((with_reducible show DrawA _ _ _ _ _ _); first | (refine draw_hard hT mixed (by decide +kernel) ?_))))
                  all_goals first | omega | exact absurd a1 (by assumption) | exact absurd a2 (by assumption) | exact absurd (by assumption) a4 | exact rfl | (show (acc.length + 1) * 56 ≤ _; omega) | (refine ⟨[none], .tup [.sl 0 7 0, I (cdX f ls r hk fk co rt)], [Dy []], ?_, ?_, ?_⟩; all_goals (repeat' (first | exact rfl | exact trivial | omega | (rw [hcd]; done) | exact hcd.symm | refine And.intro ?_ ?_))) | trace_state
              · have hcd : cdX f ls r hk fk co rt = clC f ls r hk (exD f ls hk) fk co (itr f ls r hk fk rt) := if_pos ⟨⟨a1, a2⟩, a3⟩
                have hne := clC_ne a3
                rw [clT, yL, whL_no a3, yT_no a3] at hcl
                obtain ⟨i6, i7⟩ := run_no (n := m) (r := r) (co := co) (rt := rt) hz (fun e => a3 e.2.1) acc
                rw [i6] at i5
                rw [i5]
                repeat' ((first | (conv => whnf) | skip); (first | ((with_reducible intro h); first | contradiction | omega | (conv => whnf) | skip) | (with_reducible refine And.intro ?_ ?_) | ((with_reducible show arithK _ _ _); refine arith_ok ⟨by omega, by omega⟩ ?_) | ((with_reducible show quoK _ _ _ _); refine quo_ok ⟨by omega, by omega⟩ (by omega) (by omega) ?_) | ((with_reducible show remK _ _ _ _); refine rem_ok (by omega) (by omega) ?_) | ((first | (with_reducible show CallA _ _ _ _ _ _) | (with_reducible show CallQ _ _ _ _ _ _)); first | (refine Ret.go (hp) rfl rfl ?_) | (refine Ret.goQ (hp) rfl rfl ?_) | (refine Ret.goP (implFund_ret _) rfl ?_) | (refine Ret.goQP (implFund_ret _) rfl ?_) | (refine CallA.go0 [] (hx) rfl (by first | ((repeat' (first | exact rfl | exact trivial | (with_reducible assumption) | refine And.intro ?_ ?_ | omega | assumption)); done) | fail) trivial ?_) | (refine CallA.go0 [] (hcl) rfl (by first | ((repeat' (first | exact rfl | exact trivial | (with_reducible assumption) | refine And.intro ?_ ?_ | omega | assumption)); done) | fail) trivial ?_)) | ((with_reducible show DrawA _ _ _ _ _ _); first | (refine draw_hard hT mixed (by decide +kernel) ?_))))
                all_goals first | omega | exact absurd a1 (by assumption) | exact absurd a2 (by assumption) | (refine ⟨[none], .tup [.sl 0 7 0, I (cdX f ls r hk fk co rt)], [Dy []], ?_, ?_, ?_⟩; all_goals (repeat' (first | exact rfl | exact trivial | omega | (rw [hcd]; done) | exact hcd.symm | refine And.intro ?_ ?_))) | trace_state
            · have hcd : cdX f ls r hk fk co rt = 3 := if_neg (fun e => a2 e.1.2)
              obtain ⟨i6, i7⟩ := run_no (n := m) (r := r) (co := co) (rt := rt) hz (fun e => a2 e.1.2) acc
              rw [i6] at i5
              rw [i5]
              repeat' ((first | (conv => whnf) | skip); (first | ((with_reducible intro h); first | contradiction | omega | (conv => whnf) | skip) | (with_reducible refine And.intro ?_ ?_) | ((with_reducible show arithK _ _ _); refine arith_ok ⟨by omega, by omega⟩ ?_) | ((with_reducible show quoK _ _ _ _); refine quo_ok ⟨by omega, by omega⟩ (by omega) (by omega) ?_) | ((with_reducible show remK _ _ _ _); refine rem_ok (by omega) (by omega) ?_) | ((first | (with_reducible show CallA _ _ _ _ _ _) | (with_reducible show CallQ _ _ _ _ _ _)); first | (refine Ret.go (hp) rfl rfl ?_) | (refine Ret.goQ (hp) rfl rfl ?_) | (refine Ret.goP (implFund_ret _) rfl ?_) | (refine Ret.goQP (implFund_ret _) rfl ?_)) | ((with_reducible show DrawA _ _ _ _ _ _); first | (refine draw_hard hT mixed (by decide +kernel) ?_))))
              all_goals first | omega | exact absurd a1 (by assumption) | exact absurd (by assumption) a2 | (refine ⟨[none], .tup [.sl 0 7 0, I (cdX f ls r hk fk co rt)], [Dy []], ?_, ?_, ?_⟩; all_goals (repeat' (first | exact rfl | exact trivial | omega | (rw [hcd]; done) | exact hcd.symm | refine And.intro ?_ ?_))) | trace_state
          · have hcd : cdX f ls r hk fk co rt = 3 := if_neg (fun e => a1 e.1.1)
            obtain ⟨i6, i7⟩ := run_no (n := m) (r := r) (co := co) (rt := rt) hz (fun e => a1 e.1.1) acc
            rw [i6] at i5
            rw [i5]
            repeat' ((first | (conv => whnf) | skip); (first | ((with_reducible intro h); first | contradiction | omega | (conv => whnf) | skip) | (with_reducible refine And.intro ?_ ?_) | ((with_reducible show arithK _ _ _); refine arith_ok ⟨by omega, by omega⟩ ?_) | ((with_reducible show quoK _ _ _ _); refine quo_ok ⟨by omega, by omega⟩ (by omega) (by omega) ?_) | ((with_reducible show remK _ _ _ _); refine rem_ok (by omega) (by omega) ?_) | ((first | (with_reducible show CallA _ _ _ _ _ _) | (with_reducible show CallQ _ _ _ _ _ _)); first | (refine Ret.go (hp) rfl rfl ?_) | (refine Ret.goQ (hp) rfl rfl ?_) | (refine Ret.goP (implFund_ret _) rfl ?_) | (refine Ret.goQP (implFund_ret _) rfl ?_)) | ((with_reducible show DrawA _ _ _ _ _ _); first | (refine draw_hard hT mixed (by decide +kernel) ?_))))
            all_goals first | omega | exact absurd (by assumption) a1 | (refine ⟨[none], .tup [.sl 0 7 0, I (cdX f ls r hk fk co rt)], [Dy []], ?_, ?_, ?_⟩; all_goals (repeat' (first | exact rfl | exact trivial | omega | (rw [hcd]; done) | exact hcd.symm | refine And.intro ?_ ?_))) | trace_state
      · obtain rfl : k = Y := by omega
        rw [Nat.sub_self, run_zero, glue_nil] at i5
        rw [i5]
        repeat' ((first | (conv => whnf) | skip); (first | ((with_reducible intro h); first | contradiction | omega | (conv => whnf) | skip) | (with_reducible refine And.intro ?_ ?_) | ((with_reducible show arithK _ _ _); refine arith_ok ⟨by omega, by omega⟩ ?_) | ((with_reducible show quoK _ _ _ _); refine quo_ok ⟨by omega, by omega⟩ (by omega) (by omega) ?_) | ((with_reducible show remK _ _ _ _); refine rem_ok (by omega) (by omega) ?_) | ((first | (with_reducible show CallA _ _ _ _ _ _) | (with_reducible show CallQ _ _ _ _ _ _)); first | fail) | ((with_reducible show DrawA _ _ _ _ _ _); first | (first | (refine draw_quiet hT mixed (by decide +kernel) ?_) | (refine draw_hard hT mixed (by decide +kernel) ?_)))))
        all_goals first | omega | (refine ⟨[some 2], .tup [.sl 0 7 acc.length, I 0], [Dy acc], ?_, ?_, ?_⟩; all_goals (repeat' (first | exact rfl | exact trivial | (with_reducible assumption) | refine And.intro ?_ ?_)); all_goals (first | omega | assumption); done) | trace_state
  · by_cases ho : okF f ls r hs
    · rw [show ryP f ls r hs fu co rt ys = ([], 2) from (if_neg hg).trans (by rw [if_pos ho])]
      have hf : ¬ (okD fu ∧ okD co ∧ okR rt ∧ 0 ≤ ys ∧ ys ≤ 40) := fun e => hg ⟨ho, e⟩
      repeat' ((first | (conv => whnf) | skip); (first | ((with_reducible intro h); first | contradiction | omega | (conv => whnf) | skip) | (with_reducible refine And.intro ?_ ?_) | ((with_reducible show arithK _ _ _); refine arith_ok ⟨by omega, by omega⟩ ?_) | ((with_reducible show quoK _ _ _ _); refine quo_ok ⟨by omega, by omega⟩ (by omega) (by omega) ?_) | ((with_reducible show remK _ _ _ _); refine rem_ok (by omega) (by omega) ?_) | ((first | (with_reducible show CallA _ _ _ _ _ _) | (with_reducible show CallQ _ _ _ _ _ _)); first | (refine Ret.goP (implPortfolio_ret f ls r hs hn hh) rfl ?_) | (refine Ret.goQP (implPortfolio_ret f ls r hs hn hh) rfl ?_) | (refine Ret.goP (implFund_ret _) rfl ?_) | (refine Ret.goQP (implFund_ret _) rfl ?_) | (refine Ret.goP (implRate_ret _) rfl ?_) | (refine Ret.goQP (implRate_ret _) rfl ?_) | (refine Ret.goP (inRange_ret _ _ _) rfl ?_) | (refine Ret.goQP (inRange_ret _ _ _) rfl ?_)) | ((with_reducible show DrawA _ _ _ _ _ _); first | (first | (refine draw_quiet hT mixed (by decide +kernel) ?_) | (refine draw_hard hT mixed (by decide +kernel) ?_)))))
      all_goals first | omega | exact absurd ho (by assumption) | exact (hf ⟨by assumption, by assumption, by assumption, by assumption⟩).elim | (refine ⟨[none], .tup [.sl 0 7 0, I 2], [Dy []], ?_, ?_, ?_⟩; all_goals (repeat' (first | exact rfl | exact trivial | (with_reducible assumption) | refine And.intro ?_ ?_ | omega))) | trace_state
    · rw [show ryP f ls r hs fu co rt ys = ([], 1) from (if_neg hg).trans (by rw [if_neg ho])]
      repeat' ((first | (conv => whnf) | skip); (first | ((with_reducible intro h); first | contradiction | omega | (conv => whnf) | skip) | (with_reducible refine And.intro ?_ ?_) | ((with_reducible show arithK _ _ _); refine arith_ok ⟨by omega, by omega⟩ ?_) | ((with_reducible show quoK _ _ _ _); refine quo_ok ⟨by omega, by omega⟩ (by omega) (by omega) ?_) | ((with_reducible show remK _ _ _ _); refine rem_ok (by omega) (by omega) ?_) | ((first | (with_reducible show CallA _ _ _ _ _ _) | (with_reducible show CallQ _ _ _ _ _ _)); first | (refine Ret.goP (implPortfolio_ret f ls r hs hn hh) rfl ?_) | (refine Ret.goQP (implPortfolio_ret f ls r hs hn hh) rfl ?_)) | ((with_reducible show DrawA _ _ _ _ _ _); first | (first | (refine draw_quiet hT mixed (by decide +kernel) ?_) | (refine draw_hard hT mixed (by decide +kernel) ?_)))))
      all_goals first | omega | exact absurd (by assumption) ho | (refine ⟨[none], .tup [.sl 0 7 0, I 1], [Dy []], ?_, ?_, ?_⟩; all_goals (repeat' (first | exact rfl | exact trivial | (with_reducible assumption) | refine And.intro ?_ ?_ | omega))) | trace_state
set_option maxHeartbeats 4000000 in
set_option maxRecDepth 100000 in
theorem specRY_call (f : Int) (ls : List Int) (r : Int) (hs : List (List Int)) (fu co rt ys : Int) (hn : ls.length ≤ 1048576) (hh : hs.length ≤ 1048576) : CallA Tryz.prog G 26 [Bs f ls r, Rh hs, I fu, I co, I rt, I ys] [] (fun v J => v = ryT (ryP f ls r hs fu co rt ys) ∧ J = [Dy (ryP f ls r hs fu co rt ys).1]) := by
  refine CallA.ends (callA_of_body hT Tryz.func26 rfl ?_)
  by_cases hg : ryG f ls r hs fu co rt ys
  · rw [show ryP f ls r hs fu co rt ys = run f ls r co rt ys.toNat hs fu from if_pos hg]
    obtain ⟨ho, g1, g2, g3, g4⟩ := hg
    obtain ⟨Y, rfl⟩ : ∃ Y : Nat, ys = Y := ⟨ys.toNat, by omega⟩
    rw [show ((Y : Int)).toNat = Y from rfl]
    repeat' ((first | (conv => whnf) | skip); (first | ((with_reducible intro h); first | contradiction | omega | (conv => whnf) | skip) | (with_reducible refine And.intro ?_ ?_) | ((with_reducible show arithK _ _ _); refine arith_ok ⟨by omega, by omega⟩ ?_) | ((with_reducible show quoK _ _ _ _); refine quo_ok ⟨by omega, by omega⟩ (by omega) (by omega) ?_) | ((with_reducible show remK _ _ _ _); refine rem_ok (by omega) (by omega) ?_) | ((first | (with_reducible show CallA _ _ _ _ _ _) | (with_reducible show CallQ _ _ _ _ _ _)); first | (refine Ret.goP (specPortfolio_ret f ls r hs hn hh) rfl ?_) | (refine Ret.goQP (specPortfolio_ret f ls r hs hn hh) rfl ?_) | (refine Ret.goP (specFund_ret _) rfl ?_) | (refine Ret.goQP (specFund_ret _) rfl ?_) | (refine Ret.goP (specRate_ret _) rfl ?_) | (refine Ret.goQP (specRate_ret _) rfl ?_) | (refine Ret.goP (l01In_ret _ _ _) rfl ?_) | (refine Ret.goQP (l01In_ret _ _ _) rfl ?_)) | ((with_reducible show DrawA _ _ _ _ _ _); first | (first | (refine draw_quiet hT mixed (by decide +kernel) ?_) | (refine draw_hard hT mixed (by decide +kernel) ?_)))))
    all_goals first | omega | exact absurd ho (by assumption) | exact absurd g1 (by assumption) | exact absurd g2 (by assumption) | exact absurd g3 (by assumption) | exact absurd g4 (by assumption) | skip
    refine loop_rule hT (ryI f ls r hs fu co rt Y) 106 2 [1, 2, 3, 4, 5, 6, 14, 15] (fun p => [Rh p.2.2.1, I p.2.2.2, I co, I rt, I Y, .ptr 0 0, .sl 2 7 p.2.1.length, I p.1]) (fun p => [.cells [I f, Ri ls, I r], .dead, Dy p.2.1]) (fun p => Y - p.1) ((0, [], hs, fu)) (Nat.le_of_ble_eq_true rfl) ?_ ?_ ?_
    · exact ⟨Nat.zero_le _, ho, g1, rfl, (glue_empty _ (run_clean Y hs fu)).symm⟩
    · (refine ⟨rfl, [some 1], ?_, ?_⟩; all_goals (repeat' (first | exact rfl | exact trivial | (with_reducible assumption) | refine And.intro ?_ ?_)); all_goals (first | omega | assumption); done)
    · rintro ⟨k, acc, hk, fk⟩ ⟨i1, i2, i3, i4, i5⟩
      dsimp only at i1 i2 i3 i4 i5 ⊢
      have hl := i2.2.1
      by_cases hy : k < Y
      · obtain ⟨m, hm⟩ : ∃ m, Y - k = m + 1 := ⟨Y - k - 1, by omega⟩
        have hm2 : Y - (k + 1) = m := by omega
        rw [hm] at i5
        by_cases hz : hk.length = 0
        · rw [run_nil hz, glue_nil] at i5
          rw [i5]
          repeat' ((first | (conv => whnf) | skip); (first | ((with_reducible intro h); first | contradiction | omega | (conv => whnf) | skip) | (with_reducible refine And.intro ?_ ?_) | ((with_reducible show arithK _ _ _); refine arith_ok ⟨by omega, by omega⟩ ?_) | ((with_reducible show quoK _ _ _ _); refine quo_ok ⟨by omega, by omega⟩ (by omega) (by omega) ?_) | ((with_reducible show remK _ _ _ _); refine rem_ok (by omega) (by omega) ?_) | ((first | (with_reducible show CallA _ _ _ _ _ _) | (with_reducible show CallQ _ _ _ _ _ _)); first | fail) | ((with_reducible show DrawA _ _ _ _ _ _); first | (first | (refine draw_quiet hT mixed (by decide +kernel) ?_) | (refine draw_hard hT mixed (by decide +kernel) ?_)))))
          all_goals first | omega | (refine ⟨[some 2], .tup [.sl 0 7 acc.length, I 0], [Dy acc], ?_, ?_, ?_⟩; all_goals (repeat' (first | exact rfl | exact trivial | (with_reducible assumption) | refine And.intro ?_ ?_)); all_goals (first | omega | assumption); done) | trace_state
        · have hd := eDs_ok i2
          have hb := sums_bd i2 hd
          have hi := it_bd i3 hb.1 g3
          have hp := specPrem_ret f ls r hk hn i2
          have hx := specDths_ro f ls r hk i2
          by_cases a1 : okD (nets f ls r hk)
          · by_cases a2 : okD (itr f ls r hk fk rt)
            · have hcl := specClose_ro f ls r hk (exD f ls hk) fk co (itr f ls r hk fk rt) hn i2 hd
              by_cases a3 : clQ f ls r hk (exD f ls hk) fk co (itr f ls r hk fk rt)
              · have hyr : isYr fk (nets f ls r hk) (loads f ls r hk) co (itr f ls r hk fk rt) (clm f ls hk (exD f ls hk)) (tot f ls r (laterX f ls hk)) := by
                  have h1 := a3.2
                  unfold yrQ at h1
                  exact h1
                have hyb := yr_bd hyr
                have hlo := later_ok i2 hd a3.1
                have hen := specEnd2_ret fk (nets f ls r hk) (loads f ls r hk) co (itr f ls r hk fk rt) (clm f ls hk (exD f ls hk)) (tot f ls r (laterX f ls hk)) hyr
                rw [clT, yL, whL_yes a3, yT_yes a3, clC_zero a3] at hcl
                by_cases a4 : okD (endX f ls r hk fk co rt)
                · have hgo : goX f ls r hk fk co rt := ⟨⟨a1, a2⟩, a3, a4⟩
                  rw [run_go hz hgo acc] at i5
                  repeat' ((first | (conv => whnf) | skip); (first | ((with_reducible intro h); first | contradiction | omega | (conv => whnf) | skip) | (with_reducible refine And.intro ?_ ?_) | ((with_reducible show arithK _ _ _); refine arith_ok ⟨by omega, by omega⟩ ?_) | ((with_reducible show quoK _ _ _ _); refine quo_ok ⟨by omega, by omega⟩ (by omega) (by omega) ?_) | ((with_reducible show remK _ _ _ _); refine rem_ok (by omega) (by omega) ?_) | ((first | (with_reducible show CallA _ _ _ _ _ _) | (with_reducible show CallQ _ _ _ _ _ _)); first | (refine Ret.go (hp) rfl rfl ?_) | (refine Ret.goQ (hp) rfl rfl ?_) | (refine Ret.goP (specFund_ret _) rfl ?_) | (refine Ret.goQP (specFund_ret _) rfl ?_) | (refine CallA.go0 [] (hx) rfl (by first | ((repeat' (first | exact rfl | exact trivial | (with_reducible assumption) | refine And.intro ?_ ?_ | omega | assumption)); done) | fail) trivial ?_) | (refine CallA.go0 [] (hcl) rfl (by first | ((repeat' (first | exact rfl | exact trivial | (with_reducible assumption) | refine And.intro ?_ ?_ | omega | assumption)); done) | fail) trivial ?_) | (refine Ret.go (hen) rfl rfl ?_) | (refine Ret.goQ (hen) rfl rfl ?_)) | ((with_reducible show DrawA _ _ _ _ _ _); first | (refine draw_hard hT mixed (by decide +kernel) ?_))))
                  all_goals first | omega | exact absurd a1 (by assumption) | exact absurd a2 (by assumption) | exact absurd a4 (by assumption) | exact rfl | (show (acc.length + 1) * 56 ≤ _; omega) | skip
                  all_goals ((conv => whnf); refine ⟨(k + 1, acc ++ [rowX f ls r hk fk co rt], laterX f ls hk, endX f ls r hk fk co rt), ⟨by dsimp only; omega, hlo, a4, by dsimp only; rw [List.length_append, i4]; rfl, by dsimp only; rw [hm2]; exact i5⟩, ?_, by dsimp only; omega⟩; first | (refine ⟨rfl, [some 5], ?_, ?_⟩; all_goals (repeat' (first | exact rfl | exact trivial | (with_reducible assumption) | refine And.intro ?_ ?_)); all_goals (first | omega | assumption); done) | (refine ⟨rfl, [some 4], ?_, ?_⟩; all_goals (repeat' (first | exact rfl | exact trivial | (with_reducible assumption) | refine And.intro ?_ ?_)); all_goals (first | omega | assumption); done) | (refine ⟨rfl, [some 6], ?_, ?_⟩; all_goals (repeat' (first | exact rfl | exact trivial | (with_reducible assumption) | refine And.intro ?_ ?_)); all_goals (first | omega | assumption); done) | (refine ⟨rfl, [some 3], ?_, ?_⟩; all_goals (repeat' (first | exact rfl | exact trivial | (with_reducible assumption) | refine And.intro ?_ ?_)); all_goals (first | omega | assumption); done) | (refine ⟨rfl, [some 7], ?_, ?_⟩; all_goals (repeat' (first | exact rfl | exact trivial | (with_reducible assumption) | refine And.intro ?_ ?_)); all_goals (first | omega | assumption); done) | trace_state)
                · have hcd : cdX f ls r hk fk co rt = 3 := if_neg (fun e => e.2 a3)
                  obtain ⟨i6, i7⟩ := run_no (n := m) (r := r) (co := co) (rt := rt) hz (fun e => a4 e.2.2) acc
                  rw [i6] at i5
                  rw [i5]
                  repeat' ((first | (conv => whnf) | skip); (first | ((with_reducible intro h); first | contradiction | omega | (conv => whnf) | skip) | (with_reducible refine And.intro ?_ ?_) | ((with_reducible show arithK _ _ _); refine arith_ok ⟨by omega, by omega⟩ ?_) | ((with_reducible show quoK _ _ _ _); refine quo_ok ⟨by omega, by omega⟩ (by omega) (by omega) ?_) | ((with_reducible show remK _ _ _ _); refine rem_ok (by omega) (by omega) ?_) | ((first | (with_reducible show CallA _ _ _ _ _ _) | (with_reducible show CallQ _ _ _ _ _ _)); first | (refine Ret.go (hp) rfl rfl ?_) | (refine Ret.goQ (hp) rfl rfl ?_) | (refine Ret.goP (specFund_ret _) rfl ?_) | (refine Ret.goQP (specFund_ret _) rfl ?_) | (refine CallA.go0 [] (hx) rfl (by first | ((repeat' (first | exact rfl | exact trivial | (with_reducible assumption) | refine And.intro ?_ ?_ | omega | assumption)); done) | fail) trivial ?_) | (refine CallA.go0 [] (hcl) rfl (by first | ((repeat' (first | exact rfl | exact trivial | (with_reducible assumption) | refine And.intro ?_ ?_ | omega | assumption)); done) | fail) trivial ?_) | (refine Ret.go (hen) rfl rfl ?_) | (refine Ret.goQ (hen) rfl rfl ?_)) | ((with_reducible show DrawA _ _ _ _ _ _); first | (refine draw_hard hT mixed (by decide +kernel) ?_))))
                  all_goals first | omega | exact absurd a1 (by assumption) | exact absurd a2 (by assumption) | exact absurd (by assumption) a4 | exact rfl | (show (acc.length + 1) * 56 ≤ _; omega) | (refine ⟨[none], .tup [.sl 0 7 0, I (cdX f ls r hk fk co rt)], [Dy []], ?_, ?_, ?_⟩; all_goals (repeat' (first | exact rfl | exact trivial | omega | (rw [hcd]; done) | exact hcd.symm | refine And.intro ?_ ?_))) | trace_state
              · have hcd : cdX f ls r hk fk co rt = clC f ls r hk (exD f ls hk) fk co (itr f ls r hk fk rt) := if_pos ⟨⟨a1, a2⟩, a3⟩
                have hne := clC_ne a3
                rw [clT, yL, whL_no a3, yT_no a3] at hcl
                obtain ⟨i6, i7⟩ := run_no (n := m) (r := r) (co := co) (rt := rt) hz (fun e => a3 e.2.1) acc
                rw [i6] at i5
                rw [i5]
                repeat' ((first | (conv => whnf) | skip); (first | ((with_reducible intro h); first | contradiction | omega | (conv => whnf) | skip) | (with_reducible refine And.intro ?_ ?_) | ((with_reducible show arithK _ _ _); refine arith_ok ⟨by omega, by omega⟩ ?_) | ((with_reducible show quoK _ _ _ _); refine quo_ok ⟨by omega, by omega⟩ (by omega) (by omega) ?_) | ((with_reducible show remK _ _ _ _); refine rem_ok (by omega) (by omega) ?_) | ((first | (with_reducible show CallA _ _ _ _ _ _) | (with_reducible show CallQ _ _ _ _ _ _)); first | (refine Ret.go (hp) rfl rfl ?_) | (refine Ret.goQ (hp) rfl rfl ?_) | (refine Ret.goP (specFund_ret _) rfl ?_) | (refine Ret.goQP (specFund_ret _) rfl ?_) | (refine CallA.go0 [] (hx) rfl (by first | ((repeat' (first | exact rfl | exact trivial | (with_reducible assumption) | refine And.intro ?_ ?_ | omega | assumption)); done) | fail) trivial ?_) | (refine CallA.go0 [] (hcl) rfl (by first | ((repeat' (first | exact rfl | exact trivial | (with_reducible assumption) | refine And.intro ?_ ?_ | omega | assumption)); done) | fail) trivial ?_)) | ((with_reducible show DrawA _ _ _ _ _ _); first | (refine draw_hard hT mixed (by decide +kernel) ?_))))
                all_goals first | omega | exact absurd a1 (by assumption) | exact absurd a2 (by assumption) | (refine ⟨[none], .tup [.sl 0 7 0, I (cdX f ls r hk fk co rt)], [Dy []], ?_, ?_, ?_⟩; all_goals (repeat' (first | exact rfl | exact trivial | omega | (rw [hcd]; done) | exact hcd.symm | refine And.intro ?_ ?_))) | trace_state
            · have hcd : cdX f ls r hk fk co rt = 3 := if_neg (fun e => a2 e.1.2)
              obtain ⟨i6, i7⟩ := run_no (n := m) (r := r) (co := co) (rt := rt) hz (fun e => a2 e.1.2) acc
              rw [i6] at i5
              rw [i5]
              repeat' ((first | (conv => whnf) | skip); (first | ((with_reducible intro h); first | contradiction | omega | (conv => whnf) | skip) | (with_reducible refine And.intro ?_ ?_) | ((with_reducible show arithK _ _ _); refine arith_ok ⟨by omega, by omega⟩ ?_) | ((with_reducible show quoK _ _ _ _); refine quo_ok ⟨by omega, by omega⟩ (by omega) (by omega) ?_) | ((with_reducible show remK _ _ _ _); refine rem_ok (by omega) (by omega) ?_) | ((first | (with_reducible show CallA _ _ _ _ _ _) | (with_reducible show CallQ _ _ _ _ _ _)); first | (refine Ret.go (hp) rfl rfl ?_) | (refine Ret.goQ (hp) rfl rfl ?_) | (refine Ret.goP (specFund_ret _) rfl ?_) | (refine Ret.goQP (specFund_ret _) rfl ?_)) | ((with_reducible show DrawA _ _ _ _ _ _); first | (refine draw_hard hT mixed (by decide +kernel) ?_))))
              all_goals first | omega | exact absurd a1 (by assumption) | exact absurd (by assumption) a2 | (refine ⟨[none], .tup [.sl 0 7 0, I (cdX f ls r hk fk co rt)], [Dy []], ?_, ?_, ?_⟩; all_goals (repeat' (first | exact rfl | exact trivial | omega | (rw [hcd]; done) | exact hcd.symm | refine And.intro ?_ ?_))) | trace_state
          · have hcd : cdX f ls r hk fk co rt = 3 := if_neg (fun e => a1 e.1.1)
            obtain ⟨i6, i7⟩ := run_no (n := m) (r := r) (co := co) (rt := rt) hz (fun e => a1 e.1.1) acc
            rw [i6] at i5
            rw [i5]
            repeat' ((first | (conv => whnf) | skip); (first | ((with_reducible intro h); first | contradiction | omega | (conv => whnf) | skip) | (with_reducible refine And.intro ?_ ?_) | ((with_reducible show arithK _ _ _); refine arith_ok ⟨by omega, by omega⟩ ?_) | ((with_reducible show quoK _ _ _ _); refine quo_ok ⟨by omega, by omega⟩ (by omega) (by omega) ?_) | ((with_reducible show remK _ _ _ _); refine rem_ok (by omega) (by omega) ?_) | ((first | (with_reducible show CallA _ _ _ _ _ _) | (with_reducible show CallQ _ _ _ _ _ _)); first | (refine Ret.go (hp) rfl rfl ?_) | (refine Ret.goQ (hp) rfl rfl ?_) | (refine Ret.goP (specFund_ret _) rfl ?_) | (refine Ret.goQP (specFund_ret _) rfl ?_)) | ((with_reducible show DrawA _ _ _ _ _ _); first | (refine draw_hard hT mixed (by decide +kernel) ?_))))
            all_goals first | omega | exact absurd (by assumption) a1 | (refine ⟨[none], .tup [.sl 0 7 0, I (cdX f ls r hk fk co rt)], [Dy []], ?_, ?_, ?_⟩; all_goals (repeat' (first | exact rfl | exact trivial | omega | (rw [hcd]; done) | exact hcd.symm | refine And.intro ?_ ?_))) | trace_state
      · obtain rfl : k = Y := by omega
        rw [Nat.sub_self, run_zero, glue_nil] at i5
        rw [i5]
        repeat' ((first | (conv => whnf) | skip); (first | ((with_reducible intro h); first | contradiction | omega | (conv => whnf) | skip) | (with_reducible refine And.intro ?_ ?_) | ((with_reducible show arithK _ _ _); refine arith_ok ⟨by omega, by omega⟩ ?_) | ((with_reducible show quoK _ _ _ _); refine quo_ok ⟨by omega, by omega⟩ (by omega) (by omega) ?_) | ((with_reducible show remK _ _ _ _); refine rem_ok (by omega) (by omega) ?_) | ((first | (with_reducible show CallA _ _ _ _ _ _) | (with_reducible show CallQ _ _ _ _ _ _)); first | fail) | ((with_reducible show DrawA _ _ _ _ _ _); first | (first | (refine draw_quiet hT mixed (by decide +kernel) ?_) | (refine draw_hard hT mixed (by decide +kernel) ?_)))))
        all_goals first | omega | (refine ⟨[some 2], .tup [.sl 0 7 acc.length, I 0], [Dy acc], ?_, ?_, ?_⟩; all_goals (repeat' (first | exact rfl | exact trivial | (with_reducible assumption) | refine And.intro ?_ ?_)); all_goals (first | omega | assumption); done) | trace_state
  · by_cases ho : okF f ls r hs
    · rw [show ryP f ls r hs fu co rt ys = ([], 2) from (if_neg hg).trans (by rw [if_pos ho])]
      have hf : ¬ (okD fu ∧ okD co ∧ okR rt ∧ 0 ≤ ys ∧ ys ≤ 40) := fun e => hg ⟨ho, e⟩
      repeat' ((first | (conv => whnf) | skip); (first | ((with_reducible intro h); first | contradiction | omega | (conv => whnf) | skip) | (with_reducible refine And.intro ?_ ?_) | ((with_reducible show arithK _ _ _); refine arith_ok ⟨by omega, by omega⟩ ?_) | ((with_reducible show quoK _ _ _ _); refine quo_ok ⟨by omega, by omega⟩ (by omega) (by omega) ?_) | ((with_reducible show remK _ _ _ _); refine rem_ok (by omega) (by omega) ?_) | ((first | (with_reducible show CallA _ _ _ _ _ _) | (with_reducible show CallQ _ _ _ _ _ _)); first | (refine Ret.goP (specPortfolio_ret f ls r hs hn hh) rfl ?_) | (refine Ret.goQP (specPortfolio_ret f ls r hs hn hh) rfl ?_) | (refine Ret.goP (specFund_ret _) rfl ?_) | (refine Ret.goQP (specFund_ret _) rfl ?_) | (refine Ret.goP (specRate_ret _) rfl ?_) | (refine Ret.goQP (specRate_ret _) rfl ?_) | (refine Ret.goP (l01In_ret _ _ _) rfl ?_) | (refine Ret.goQP (l01In_ret _ _ _) rfl ?_)) | ((with_reducible show DrawA _ _ _ _ _ _); first | (first | (refine draw_quiet hT mixed (by decide +kernel) ?_) | (refine draw_hard hT mixed (by decide +kernel) ?_)))))
      all_goals first | omega | exact absurd ho (by assumption) | exact (hf ⟨by assumption, by assumption, by assumption, by assumption⟩).elim | (refine ⟨[none], .tup [.sl 0 7 0, I 2], [Dy []], ?_, ?_, ?_⟩; all_goals (repeat' (first | exact rfl | exact trivial | (with_reducible assumption) | refine And.intro ?_ ?_ | omega))) | trace_state
    · rw [show ryP f ls r hs fu co rt ys = ([], 1) from (if_neg hg).trans (by rw [if_neg ho])]
      repeat' ((first | (conv => whnf) | skip); (first | ((with_reducible intro h); first | contradiction | omega | (conv => whnf) | skip) | (with_reducible refine And.intro ?_ ?_) | ((with_reducible show arithK _ _ _); refine arith_ok ⟨by omega, by omega⟩ ?_) | ((with_reducible show quoK _ _ _ _); refine quo_ok ⟨by omega, by omega⟩ (by omega) (by omega) ?_) | ((with_reducible show remK _ _ _ _); refine rem_ok (by omega) (by omega) ?_) | ((first | (with_reducible show CallA _ _ _ _ _ _) | (with_reducible show CallQ _ _ _ _ _ _)); first | (refine Ret.goP (specPortfolio_ret f ls r hs hn hh) rfl ?_) | (refine Ret.goQP (specPortfolio_ret f ls r hs hn hh) rfl ?_)) | ((with_reducible show DrawA _ _ _ _ _ _); first | (first | (refine draw_quiet hT mixed (by decide +kernel) ?_) | (refine draw_hard hT mixed (by decide +kernel) ?_)))))
      all_goals first | omega | exact absurd (by assumption) ho | (refine ⟨[none], .tup [.sl 0 7 0, I 1], [Dy []], ?_, ?_, ?_⟩; all_goals (repeat' (first | exact rfl | exact trivial | (with_reducible assumption) | refine And.intro ?_ ?_ | omega))) | trace_state
end Go.Proofs.YtenofbabiacacaaGreat
