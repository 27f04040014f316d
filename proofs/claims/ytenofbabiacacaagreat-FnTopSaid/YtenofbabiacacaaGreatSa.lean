/-
  Life tables: what the functions return. No conditions but those in the statements.
-/
import Derived.Test.YtenofbabiacacaaGreatIn
set_option linter.unusedVariables false
set_option linter.unusedSimpArgs false
namespace Go.Proofs.YtenofbabiacacaaGreat
open Go.AE

attribute [local irreducible] CallA LoopA DrawA CallQ arithK quoK remK eqK
abbrev Tb (f : Int) (ls : List Int) : AV := .agg [I f, Ri ls]
def hdT (f : Int) (ls : List Int) : Prop := (2 ≤ ls.length ∧ ls.length ≤ 120) ∧ (0 ≤ f ∧ f ≤ 100) ∧ ls.getD 0 0 ≤ 1000000 ∧ ls.getD (ls.length - 1) 0 = 0 ∧ f + ls.length - 1 ≤ 150
def stT (ls : List Int) (i : Nat) : Prop := 1 ≤ ls.getD i 0 ∧ (0 < i → ls.getD i 0 ≤ ls.getD (i - 1) 0)
def okT (f : Int) (ls : List Int) : Prop := hdT f ls ∧ ∀ i, i < ls.length - 1 → stT ls i
noncomputable instance (f : Int) (ls : List Int) : Decidable (okT f ls) := Classical.propDecidable _
theorem st_next {ls : List Int} {i : Nat} (h : ∀ j, j < i → stT ls j) (hi : stT ls i) : ∀ j, j < i + 1 → stT ls j := fun j hj => by
  by_cases he : j = i
  · rw [he]; exact hi
  · exact h j (by omega)
set_option maxRecDepth 100000 in
theorem len_ret (ls : List Int) : Ret Tryz.prog G 158 [Ri ls] (I ls.length) := by
  refine ret_of_body hT Tryz.func158 rfl ?_ rfl
  repeat' (first | (intro h; first | contradiction | omega | (conv => whnf) | skip) | (refine And.intro ?_ ?_) | (refine arith_ok ⟨by omega, by omega⟩ ?_) | (first | (refine draw_quiet hT mixed (by decide +kernel) ?_) | (refine draw_hard hT mixed (by decide +kernel) ?_)) | fail)
  all_goals first | rfl | omega
theorem sub_getD {ls : List Int} {m i : Nat} (hi : i < m) : ((ls.drop 0).take m).getD i 0 = ls.getD i 0 := by
  rw [List.drop_zero, List.getD_eq_getElem?_getD, List.getD_eq_getElem?_getD, List.getElem?_take, if_pos hi]
theorem last_eq {ls : List Int} (h : 1 ≤ ls.length) : ls.getD ((ls.length : Int) - 1).toNat 0 = ls.getD (ls.length - 1) 0 := by
  rw [show ((ls.length : Int) - 1).toNat = ls.length - 1 by omega]
set_option maxRecDepth 100000 in
theorem implTable_ret (f : Int) (ls : List Int) (hn : ls.length ≤ 1048576) : Ret Tryz.prog G 174 [Tb f ls] (Bo (decide (okT f ls))) := by
  refine ret_of_body hT Tryz.func174 rfl ?_ rfl
  have e0 : ls.getD (Int.toNat 0) 0 = ls.getD 0 0 := rfl
  by_cases hh : hdT f ls
  · have hh' := hh
    unfold hdT at hh'
    have e1 := last_eq (ls := ls) (by omega)
    have e2 : ((ls.drop 0).take (((ls.length : Int) - 1).toNat - 0)).length = ls.length - 1 := by simp
    have e3 : ((ls.length : Int) - 1).toNat - 0 = ls.length - 1 := by omega
    repeat' (first | (intro h; first | contradiction | omega | (conv => whnf) | skip) | (refine And.intro ?_ ?_) | (refine arith_ok ⟨by omega, by omega⟩ ?_) | (first | (refine draw_quiet hT mixed (by decide +kernel) ?_) | (refine draw_hard hT mixed (by decide +kernel) ?_)) | (refine Ret.go (len_ret _) rfl rfl ?_) | (refine Ret.goQ (len_ret _) rfl rfl ?_) | (refine Ret.goP (inRange_ret _ _ _) rfl ?_) | (refine Ret.goQP (inRange_ret _ _ _) rfl ?_))
    all_goals first | omega | skip
    refine loop_rule hT (fun i : Nat => i ≤ ls.length - 1 ∧ ∀ j, j < i → stT ls j) 70 1 [1, 3, 46, 47, 48] (fun i => [.ptr 0 0, I ls.length, Ri ((ls.drop 0).take (((ls.length : Int) - 1).toNat - 0)), I ((ls.length - 1 : Nat) : Int), I i]) (fun _ => [.cells [I f, Ri ls]]) (fun i => ls.length - 1 - i) (0) (Nat.le_of_ble_eq_true rfl) ?_ ?_ ?_
    · exact ⟨Nat.zero_le _, fun j hj => absurd hj (Nat.not_lt_zero j)⟩
    · (first | (refine ⟨rfl, [], ?_, ?_⟩; all_goals (repeat' (first | exact rfl | exact trivial | (with_reducible assumption) | refine And.intro ?_ ?_)); all_goals (first | omega | assumption | ((repeat' (first | exact e2 | exact rfl | exact trivial | (with_reducible assumption) | refine And.intro ?_ ?_ | omega | assumption)); done)); done) | (refine ⟨rfl, [some 1], ?_, ?_⟩; all_goals (repeat' (first | exact rfl | exact trivial | (with_reducible assumption) | refine And.intro ?_ ?_)); all_goals (first | omega | assumption | ((repeat' (first | exact e2 | exact rfl | exact trivial | (with_reducible assumption) | refine And.intro ?_ ?_ | omega | assumption)); done)); done) | (refine ⟨rfl, [some 2], ?_, ?_⟩; all_goals (repeat' (first | exact rfl | exact trivial | (with_reducible assumption) | refine And.intro ?_ ?_)); all_goals (first | omega | assumption | ((repeat' (first | exact e2 | exact rfl | exact trivial | (with_reducible assumption) | refine And.intro ?_ ?_ | omega | assumption)); done)); done) | (refine ⟨rfl, [some 3], ?_, ?_⟩; all_goals (repeat' (first | exact rfl | exact trivial | (with_reducible assumption) | refine And.intro ?_ ?_)); all_goals (first | omega | assumption | ((repeat' (first | exact e2 | exact rfl | exact trivial | (with_reducible assumption) | refine And.intro ?_ ?_ | omega | assumption)); done)); done) | (refine ⟨rfl, [some 0], ?_, ?_⟩; all_goals (repeat' (first | exact rfl | exact trivial | (with_reducible assumption) | refine And.intro ?_ ?_)); all_goals (first | omega | assumption | ((repeat' (first | exact e2 | exact rfl | exact trivial | (with_reducible assumption) | refine And.intro ?_ ?_ | omega | assumption)); done)); done) | (refine ⟨rfl, [some 4], ?_, ?_⟩; all_goals (repeat' (first | exact rfl | exact trivial | (with_reducible assumption) | refine And.intro ?_ ?_)); all_goals (first | omega | assumption | ((repeat' (first | exact e2 | exact rfl | exact trivial | (with_reducible assumption) | refine And.intro ?_ ?_ | omega | assumption)); done)); done) | (refine ⟨rfl, [some 5], ?_, ?_⟩; all_goals (repeat' (first | exact rfl | exact trivial | (with_reducible assumption) | refine And.intro ?_ ?_)); all_goals (first | omega | assumption | ((repeat' (first | exact e2 | exact rfl | exact trivial | (with_reducible assumption) | refine And.intro ?_ ?_ | omega | assumption)); done)); done) | (refine ⟨rfl, [some 6], ?_, ?_⟩; all_goals (repeat' (first | exact rfl | exact trivial | (with_reducible assumption) | refine And.intro ?_ ?_)); all_goals (first | omega | assumption | ((repeat' (first | exact e2 | exact rfl | exact trivial | (with_reducible assumption) | refine And.intro ?_ ?_ | omega | assumption)); done)); done))
    · rintro i ⟨h1, h2⟩
      by_cases hi : i < ls.length - 1
      · have g1 : ((ls.drop 0).take (((ls.length : Int) - 1).toNat - 0)).getD ((i : Int)).toNat 0 = ls.getD i 0 := sub_getD (by omega)
        have g2 : ls.getD ((i : Int) - 1).toNat 0 = ls.getD (i - 1) 0 := by rw [show ((i : Int) - 1).toNat = i - 1 by omega]
        by_cases hs : stT ls i
        · have hs' := hs
          unfold stT at hs'
          repeat' (first | (intro h; first | contradiction | omega | (conv => whnf) | skip) | (refine And.intro ?_ ?_) | (refine arith_ok ⟨by omega, by omega⟩ ?_) | (first | (refine draw_quiet hT mixed (by decide +kernel) ?_) | (refine draw_hard hT mixed (by decide +kernel) ?_)) | fail)
          all_goals first | omega | skip
          all_goals (refine ⟨i + 1, ⟨by omega, st_next h2 hs⟩, ?_, by omega⟩; (first | (refine ⟨rfl, [], ?_, ?_⟩; all_goals (repeat' (first | exact rfl | exact trivial | (with_reducible assumption) | refine And.intro ?_ ?_)); all_goals (first | omega | assumption); done) | (refine ⟨rfl, [some 1], ?_, ?_⟩; all_goals (repeat' (first | exact rfl | exact trivial | (with_reducible assumption) | refine And.intro ?_ ?_)); all_goals (first | omega | assumption); done) | (refine ⟨rfl, [some 2], ?_, ?_⟩; all_goals (repeat' (first | exact rfl | exact trivial | (with_reducible assumption) | refine And.intro ?_ ?_)); all_goals (first | omega | assumption); done) | (refine ⟨rfl, [some 3], ?_, ?_⟩; all_goals (repeat' (first | exact rfl | exact trivial | (with_reducible assumption) | refine And.intro ?_ ?_)); all_goals (first | omega | assumption); done) | (refine ⟨rfl, [some 0], ?_, ?_⟩; all_goals (repeat' (first | exact rfl | exact trivial | (with_reducible assumption) | refine And.intro ?_ ?_)); all_goals (first | omega | assumption); done) | (refine ⟨rfl, [some 4], ?_, ?_⟩; all_goals (repeat' (first | exact rfl | exact trivial | (with_reducible assumption) | refine And.intro ?_ ?_)); all_goals (first | omega | assumption); done) | (refine ⟨rfl, [some 5], ?_, ?_⟩; all_goals (repeat' (first | exact rfl | exact trivial | (with_reducible assumption) | refine And.intro ?_ ?_)); all_goals (first | omega | assumption); done) | (refine ⟨rfl, [some 6], ?_, ?_⟩; all_goals (repeat' (first | exact rfl | exact trivial | (with_reducible assumption) | refine And.intro ?_ ?_)); all_goals (first | omega | assumption); done)))
        · have hs' := hs
          unfold stT at hs'
          repeat' (first | (intro h; first | contradiction | omega | (conv => whnf) | skip) | (refine And.intro ?_ ?_) | (refine arith_ok ⟨by omega, by omega⟩ ?_) | (first | (refine draw_quiet hT mixed (by decide +kernel) ?_) | (refine draw_hard hT mixed (by decide +kernel) ?_)) | fail)
          all_goals first | omega | (exact bv_false fun ho => hs (ho.2 i hi)) | skip
      · have hi' : i = ls.length - 1 := by omega
        repeat' (first | (intro h; first | contradiction | omega | (conv => whnf) | skip) | (refine And.intro ?_ ?_) | (refine arith_ok ⟨by omega, by omega⟩ ?_) | (first | (refine draw_quiet hT mixed (by decide +kernel) ?_) | (refine draw_hard hT mixed (by decide +kernel) ?_)) | fail)
        all_goals first | omega | (exact bv_true ⟨hh, fun j hj => h2 j (by omega)⟩) | trace_state
  · have hh' := hh
    unfold hdT at hh'
    by_cases h1 : 1 ≤ ls.length
    · have e1 := last_eq h1
      repeat' (first | (intro h; first | contradiction | omega | (conv => whnf) | skip) | (refine And.intro ?_ ?_) | (refine arith_ok ⟨by omega, by omega⟩ ?_) | (first | (refine draw_quiet hT mixed (by decide +kernel) ?_) | (refine draw_hard hT mixed (by decide +kernel) ?_)) | (refine Ret.go (len_ret _) rfl rfl ?_) | (refine Ret.goQ (len_ret _) rfl rfl ?_) | (refine Ret.goP (inRange_ret _ _ _) rfl ?_) | (refine Ret.goQP (inRange_ret _ _ _) rfl ?_))
      all_goals first | omega | (exact bv_false fun ho => hh ho.1) | trace_state
    · repeat' (first | (intro h; first | contradiction | omega | (conv => whnf) | skip) | (refine And.intro ?_ ?_) | (refine arith_ok ⟨by omega, by omega⟩ ?_) | (first | (refine draw_quiet hT mixed (by decide +kernel) ?_) | (refine draw_hard hT mixed (by decide +kernel) ?_)) | (refine Ret.go (len_ret _) rfl rfl ?_) | (refine Ret.goQ (len_ret _) rfl rfl ?_) | (refine Ret.goP (inRange_ret _ _ _) rfl ?_) | (refine Ret.goQP (inRange_ret _ _ _) rfl ?_))
      all_goals first | omega | (exact bv_false fun ho => hh ho.1) | trace_state
theorem st_last {f : Int} {ls : List Int} (h : hdT f ls) (hs : ∀ j, j < ls.length - 1 → stT ls j) : ls.getD (ls.length - 1) 0 ≤ ls.getD (ls.length - 1 - 1) 0 := by
  have h0 := h
  unfold hdT at h0
  have := (hs (ls.length - 1 - 1) (by omega)).1
  omega
set_option maxRecDepth 100000 in
theorem specTable_ret (f : Int) (ls : List Int) (hn : ls.length ≤ 1048576) : Ret Tryz.prog G 171 [Tb f ls] (Bo (decide (okT f ls))) := by
  refine ret_of_body hT Tryz.func171 rfl ?_ rfl
  have e0 : ls.getD (Int.toNat 0) 0 = ls.getD 0 0 := rfl
  by_cases hh : hdT f ls ∧ 1 ≤ ls.getD 0 0
  · have hh' := hh
    unfold hdT at hh'
    have e1 := last_eq (ls := ls) (by omega)
    repeat' (first | (intro h; first | contradiction | omega | (conv => whnf) | skip) | (refine And.intro ?_ ?_) | (refine arith_ok ⟨by omega, by omega⟩ ?_) | (first | (refine draw_quiet hT mixed (by decide +kernel) ?_) | (refine draw_hard hT mixed (by decide +kernel) ?_)) | (refine Ret.goP (l01In_ret _ _ _) rfl ?_) | (refine Ret.goQP (l01In_ret _ _ _) rfl ?_))
    all_goals first | omega | skip
    refine loop_rule hT (fun i : Nat => 1 ≤ i ∧ i ≤ ls.length ∧ ∀ j, j < i → j < ls.length - 1 → stT ls j) 76 1 [1, 3, 4] (fun i => [.ptr 0 0, I ls.length, I i]) (fun _ => [.cells [I f, Ri ls]]) (fun i => ls.length - i) (1) (Nat.le_of_ble_eq_true rfl) ?_ ?_ ?_
    · refine ⟨Nat.le_refl _, by omega, fun j hj _ => ?_⟩
      obtain rfl : j = 0 := by omega
      exact ⟨hh.2, fun h => absurd h (Nat.lt_irrefl _)⟩
    · (first | (refine ⟨rfl, [], ?_, ?_⟩; all_goals (repeat' (first | exact rfl | exact trivial | (with_reducible assumption) | refine And.intro ?_ ?_)); all_goals (first | omega | assumption); done) | (refine ⟨rfl, [some 1], ?_, ?_⟩; all_goals (repeat' (first | exact rfl | exact trivial | (with_reducible assumption) | refine And.intro ?_ ?_)); all_goals (first | omega | assumption); done) | (refine ⟨rfl, [some 2], ?_, ?_⟩; all_goals (repeat' (first | exact rfl | exact trivial | (with_reducible assumption) | refine And.intro ?_ ?_)); all_goals (first | omega | assumption); done) | (refine ⟨rfl, [some 3], ?_, ?_⟩; all_goals (repeat' (first | exact rfl | exact trivial | (with_reducible assumption) | refine And.intro ?_ ?_)); all_goals (first | omega | assumption); done) | (refine ⟨rfl, [some 0], ?_, ?_⟩; all_goals (repeat' (first | exact rfl | exact trivial | (with_reducible assumption) | refine And.intro ?_ ?_)); all_goals (first | omega | assumption); done) | (refine ⟨rfl, [some 4], ?_, ?_⟩; all_goals (repeat' (first | exact rfl | exact trivial | (with_reducible assumption) | refine And.intro ?_ ?_)); all_goals (first | omega | assumption); done) | (refine ⟨rfl, [some 5], ?_, ?_⟩; all_goals (repeat' (first | exact rfl | exact trivial | (with_reducible assumption) | refine And.intro ?_ ?_)); all_goals (first | omega | assumption); done) | (refine ⟨rfl, [some 6], ?_, ?_⟩; all_goals (repeat' (first | exact rfl | exact trivial | (with_reducible assumption) | refine And.intro ?_ ?_)); all_goals (first | omega | assumption); done))
    · rintro i ⟨h1, h2, h3⟩
      by_cases hi : i < ls.length
      · have g1 : ls.getD ((i : Int)).toNat 0 = ls.getD i 0 := rfl
        have g2 : ls.getD ((i : Int) - 1).toNat 0 = ls.getD (i - 1) 0 := by rw [show ((i : Int) - 1).toNat = i - 1 by omega]
        by_cases hl : i = ls.length - 1
        · have hla := st_last hh.1 (fun j hj => h3 j (by omega) hj)
          rw [← hl] at hla
          repeat' (first | (intro h; first | contradiction | omega | (conv => whnf) | skip) | (refine And.intro ?_ ?_) | (refine arith_ok ⟨by omega, by omega⟩ ?_) | (first | (refine draw_quiet hT mixed (by decide +kernel) ?_) | (refine draw_hard hT mixed (by decide +kernel) ?_)) | fail)
          all_goals first | omega | skip
          all_goals (refine ⟨i + 1, ⟨by omega, by omega, fun j hj hj2 => h3 j (by omega) hj2⟩, ?_, by omega⟩; (first | (refine ⟨rfl, [], ?_, ?_⟩; all_goals (repeat' (first | exact rfl | exact trivial | (with_reducible assumption) | refine And.intro ?_ ?_)); all_goals (first | omega | assumption); done) | (refine ⟨rfl, [some 1], ?_, ?_⟩; all_goals (repeat' (first | exact rfl | exact trivial | (with_reducible assumption) | refine And.intro ?_ ?_)); all_goals (first | omega | assumption); done) | (refine ⟨rfl, [some 2], ?_, ?_⟩; all_goals (repeat' (first | exact rfl | exact trivial | (with_reducible assumption) | refine And.intro ?_ ?_)); all_goals (first | omega | assumption); done) | (refine ⟨rfl, [some 3], ?_, ?_⟩; all_goals (repeat' (first | exact rfl | exact trivial | (with_reducible assumption) | refine And.intro ?_ ?_)); all_goals (first | omega | assumption); done) | (refine ⟨rfl, [some 0], ?_, ?_⟩; all_goals (repeat' (first | exact rfl | exact trivial | (with_reducible assumption) | refine And.intro ?_ ?_)); all_goals (first | omega | assumption); done) | (refine ⟨rfl, [some 4], ?_, ?_⟩; all_goals (repeat' (first | exact rfl | exact trivial | (with_reducible assumption) | refine And.intro ?_ ?_)); all_goals (first | omega | assumption); done) | (refine ⟨rfl, [some 5], ?_, ?_⟩; all_goals (repeat' (first | exact rfl | exact trivial | (with_reducible assumption) | refine And.intro ?_ ?_)); all_goals (first | omega | assumption); done) | (refine ⟨rfl, [some 6], ?_, ?_⟩; all_goals (repeat' (first | exact rfl | exact trivial | (with_reducible assumption) | refine And.intro ?_ ?_)); all_goals (first | omega | assumption); done)))
        · by_cases hs : stT ls i
          · have hs' := hs
            unfold stT at hs'
            repeat' (first | (intro h; first | contradiction | omega | (conv => whnf) | skip) | (refine And.intro ?_ ?_) | (refine arith_ok ⟨by omega, by omega⟩ ?_) | (first | (refine draw_quiet hT mixed (by decide +kernel) ?_) | (refine draw_hard hT mixed (by decide +kernel) ?_)) | fail)
            all_goals first | omega | skip
            all_goals (refine ⟨i + 1, ⟨by omega, by omega, fun j hj hj2 => by
              by_cases he : j = i
              · rw [he]; exact hs
              · exact h3 j (by omega) hj2⟩, ?_, by omega⟩; (first | (refine ⟨rfl, [], ?_, ?_⟩; all_goals (repeat' (first | exact rfl | exact trivial | (with_reducible assumption) | refine And.intro ?_ ?_)); all_goals (first | omega | assumption); done) | (refine ⟨rfl, [some 1], ?_, ?_⟩; all_goals (repeat' (first | exact rfl | exact trivial | (with_reducible assumption) | refine And.intro ?_ ?_)); all_goals (first | omega | assumption); done) | (refine ⟨rfl, [some 2], ?_, ?_⟩; all_goals (repeat' (first | exact rfl | exact trivial | (with_reducible assumption) | refine And.intro ?_ ?_)); all_goals (first | omega | assumption); done) | (refine ⟨rfl, [some 3], ?_, ?_⟩; all_goals (repeat' (first | exact rfl | exact trivial | (with_reducible assumption) | refine And.intro ?_ ?_)); all_goals (first | omega | assumption); done) | (refine ⟨rfl, [some 0], ?_, ?_⟩; all_goals (repeat' (first | exact rfl | exact trivial | (with_reducible assumption) | refine And.intro ?_ ?_)); all_goals (first | omega | assumption); done) | (refine ⟨rfl, [some 4], ?_, ?_⟩; all_goals (repeat' (first | exact rfl | exact trivial | (with_reducible assumption) | refine And.intro ?_ ?_)); all_goals (first | omega | assumption); done) | (refine ⟨rfl, [some 5], ?_, ?_⟩; all_goals (repeat' (first | exact rfl | exact trivial | (with_reducible assumption) | refine And.intro ?_ ?_)); all_goals (first | omega | assumption); done) | (refine ⟨rfl, [some 6], ?_, ?_⟩; all_goals (repeat' (first | exact rfl | exact trivial | (with_reducible assumption) | refine And.intro ?_ ?_)); all_goals (first | omega | assumption); done)))
          · have hs' := hs
            unfold stT at hs'
            repeat' (first | (intro h; first | contradiction | omega | (conv => whnf) | skip) | (refine And.intro ?_ ?_) | (refine arith_ok ⟨by omega, by omega⟩ ?_) | (first | (refine draw_quiet hT mixed (by decide +kernel) ?_) | (refine draw_hard hT mixed (by decide +kernel) ?_)) | fail)
            all_goals first | omega | (exact bv_false fun ho => hs (ho.2 i (by omega))) | skip
      · repeat' (first | (intro h; first | contradiction | omega | (conv => whnf) | skip) | (refine And.intro ?_ ?_) | (refine arith_ok ⟨by omega, by omega⟩ ?_) | (first | (refine draw_quiet hT mixed (by decide +kernel) ?_) | (refine draw_hard hT mixed (by decide +kernel) ?_)) | fail)
        all_goals first | omega | (exact bv_true ⟨hh.1, fun j hj => h3 j (by omega) hj⟩) | trace_state
  · have hf : ¬ okT f ls := fun ho => hh ⟨ho.1, (ho.2 0 (by have := ho.1; unfold hdT at this; omega)).1⟩
    have hh' := hh
    unfold hdT at hh'
    by_cases h1 : 1 ≤ ls.length
    · have e1 := last_eq h1
      repeat' (first | (intro h; first | contradiction | omega | (conv => whnf) | skip) | (refine And.intro ?_ ?_) | (refine arith_ok ⟨by omega, by omega⟩ ?_) | (first | (refine draw_quiet hT mixed (by decide +kernel) ?_) | (refine draw_hard hT mixed (by decide +kernel) ?_)) | (refine Ret.goP (l01In_ret _ _ _) rfl ?_) | (refine Ret.goQP (l01In_ret _ _ _) rfl ?_))
      all_goals first | omega | (exact bv_false hf) | trace_state
    · repeat' (first | (intro h; first | contradiction | omega | (conv => whnf) | skip) | (refine And.intro ?_ ?_) | (refine arith_ok ⟨by omega, by omega⟩ ?_) | (first | (refine draw_quiet hT mixed (by decide +kernel) ?_) | (refine draw_hard hT mixed (by decide +kernel) ?_)) | (refine Ret.goP (l01In_ret _ _ _) rfl ?_) | (refine Ret.goQP (l01In_ret _ _ _) rfl ?_))
      all_goals first | omega | (exact bv_false hf) | trace_state
/-- The lives at an age. -/
def lv (f : Int) (ls : List Int) (x : Int) : Int := if x - f < ls.length then ls.getD (x - f).toNat 0 else 0
theorem lv_bd {f : Int} {ls : List Int} (h : okT f ls) (x : Int) : 0 ≤ lv f ls x ∧ lv f ls x ≤ 1000000 := by
  have key : ∀ i, i < ls.length → 0 ≤ ls.getD i 0 ∧ ls.getD i 0 ≤ 1000000 := fun i => by
    have h0 := h.1
    unfold hdT at h0
    induction i with
    | zero => intro _; have := (h.2 0 (by omega)).1; omega
    | succ i ih =>
      intro hi
      have h1 := ih (by omega)
      by_cases hl : i + 1 = ls.length - 1
      · rw [hl]; omega
      · have h2 := h.2 (i + 1) (by omega)
        unfold stT at h2
        rw [show i + 1 - 1 = i by omega] at h2
        omega
  unfold lv
  split
  · rename_i hx
    by_cases hl : (x - f).toNat < ls.length
    · exact key _ hl
    · rw [List.getD_eq_getElem?_getD, List.getElem?_eq_none (by omega)]
      exact ⟨Int.le_refl _, by decide⟩
  · exact ⟨Int.le_refl _, by decide⟩
theorem lv_mono {f : Int} {ls : List Int} (h : okT f ls) {x : Int} (hx : f ≤ x) : lv f ls (x + 1) ≤ lv f ls x := by
  have h0 := h.1
  unfold hdT at h0
  unfold lv
  by_cases h1 : x + 1 - f < ls.length
  · rw [if_pos h1, if_pos (by omega), show (x + 1 - f).toNat = (x - f).toNat + 1 by omega]
    by_cases hl : (x - f).toNat + 1 = ls.length - 1
    · have := (h.2 (x - f).toNat (by omega)).1
      rw [hl]; omega
    · have h2 := h.2 ((x - f).toNat + 1) (by omega)
      unfold stT at h2
      rw [show (x - f).toNat + 1 - 1 = (x - f).toNat by omega] at h2
      exact h2.2 (by omega)
  · rw [if_neg h1]
    exact (lv_bd h x).1
theorem lv_end {f : Int} {ls : List Int} (h : okT f ls) {x : Int} (hx : f + ls.length - 1 ≤ x) : lv f ls x = 0 := by
  have h0 := h.1
  unfold hdT at h0
  unfold lv
  split
  · rw [show (x - f).toNat = ls.length - 1 by omega]; omega
  · rfl
theorem lv_pos {f : Int} {ls : List Int} (h : okT f ls) {x : Int} (_ : f ≤ x) (hx : x < f + ls.length - 1) : 1 ≤ lv f ls x := by
  have h0 := h.1
  unfold hdT at h0
  unfold lv
  rw [if_pos (by omega)]
  exact (h.2 (x - f).toNat (by omega)).1
set_option maxRecDepth 100000 in
theorem implEnd_ret (f : Int) (ls : List Int) (ho : okT f ls) : Ret Tryz.prog G 166 [Tb f ls] (I (f + ls.length - 1)) := by
  refine ret_of_body hT Tryz.func166 rfl ?_ rfl
  have h0 := ho.1
  unfold hdT at h0
  repeat' (first | (intro h; first | contradiction | omega | (conv => whnf) | skip) | (refine And.intro ?_ ?_) | (refine arith_ok ⟨by omega, by omega⟩ ?_) | (first | (refine draw_quiet hT mixed (by decide +kernel) ?_) | (refine draw_hard hT mixed (by decide +kernel) ?_)) | (refine Ret.go (len_ret _) rfl rfl ?_) | (refine Ret.goQ (len_ret _) rfl rfl ?_))
  all_goals first | rfl | omega | trace_state
set_option maxRecDepth 100000 in
theorem specEnd_ret (f : Int) (ls : List Int) (ho : okT f ls) : Ret Tryz.prog G 178 [Tb f ls] (I (f + ls.length - 1)) := by
  refine ret_of_body hT Tryz.func178 rfl ?_ rfl
  have h0 := ho.1
  unfold hdT at h0
  repeat' (first | (intro h; first | contradiction | omega | (conv => whnf) | skip) | (refine And.intro ?_ ?_) | (refine arith_ok ⟨by omega, by omega⟩ ?_) | (first | (refine draw_quiet hT mixed (by decide +kernel) ?_) | (refine draw_hard hT mixed (by decide +kernel) ?_)) | fail)
  all_goals first | rfl | omega | trace_state
set_option maxRecDepth 100000 in
theorem implLives_ret (f : Int) (ls : List Int) (x : Int) (ho : okT f ls) (hx : f ≤ x ∧ x ≤ 1000) : Ret Tryz.prog G 142 [Tb f ls, I x] (I (lv f ls x)) := by
  refine ret_of_body hT Tryz.func142 rfl ?_ rfl
  have h0 := ho.1
  unfold hdT at h0
  by_cases hb : x - f < ls.length
  · have he : lv f ls x = ls.getD (x - f).toNat 0 := if_pos hb
    rw [he]
    repeat' (first | (intro h; first | contradiction | omega | (conv => whnf) | skip) | (refine And.intro ?_ ?_) | (refine arith_ok ⟨by omega, by omega⟩ ?_) | (first | (refine draw_quiet hT mixed (by decide +kernel) ?_) | (refine draw_hard hT mixed (by decide +kernel) ?_)) | (refine Ret.go (implEnd_ret f ls ho) rfl rfl ?_) | (refine Ret.goQ (implEnd_ret f ls ho) rfl rfl ?_))
    all_goals first | rfl | omega | trace_state
  · have he : lv f ls x = 0 := if_neg hb
    rw [he]
    repeat' (first | (intro h; first | contradiction | omega | (conv => whnf) | skip) | (refine And.intro ?_ ?_) | (refine arith_ok ⟨by omega, by omega⟩ ?_) | (first | (refine draw_quiet hT mixed (by decide +kernel) ?_) | (refine draw_hard hT mixed (by decide +kernel) ?_)) | (refine Ret.go (implEnd_ret f ls ho) rfl rfl ?_) | (refine Ret.goQ (implEnd_ret f ls ho) rfl rfl ?_))
    all_goals first | rfl | omega | trace_state
set_option maxRecDepth 100000 in
theorem specLives_ret (f : Int) (ls : List Int) (x : Int) (ho : okT f ls) (hx : f ≤ x ∧ x ≤ 1000) : Ret Tryz.prog G 136 [Tb f ls, I x] (I (lv f ls x)) := by
  refine ret_of_body hT Tryz.func136 rfl ?_ rfl
  have h0 := ho.1
  unfold hdT at h0
  by_cases hb : x - f < ls.length
  · have he : lv f ls x = ls.getD (x - f).toNat 0 := if_pos hb
    rw [he]
    repeat' (first | (intro h; first | contradiction | omega | (conv => whnf) | skip) | (refine And.intro ?_ ?_) | (refine arith_ok ⟨by omega, by omega⟩ ?_) | (first | (refine draw_quiet hT mixed (by decide +kernel) ?_) | (refine draw_hard hT mixed (by decide +kernel) ?_)) | fail)
    all_goals first | rfl | omega | trace_state
  · have he : lv f ls x = 0 := if_neg hb
    rw [he]
    repeat' (first | (intro h; first | contradiction | omega | (conv => whnf) | skip) | (refine And.intro ?_ ?_) | (refine arith_ok ⟨by omega, by omega⟩ ?_) | (first | (refine draw_quiet hT mixed (by decide +kernel) ?_) | (refine draw_hard hT mixed (by decide +kernel) ?_)) | fail)
    all_goals first | rfl | omega | trace_state
set_option maxRecDepth 100000 in
theorem implDeaths_ret (f : Int) (ls : List Int) (x : Int) (ho : okT f ls) (hx : f ≤ x ∧ x ≤ 999) : Ret Tryz.prog G 141 [Tb f ls, I x] (I (lv f ls x - lv f ls (x + 1))) := by
  refine ret_of_body hT Tryz.func141 rfl ?_ rfl
  have h0 := ho.1
  unfold hdT at h0
  have h1 := lv_bd ho x
  have h2 := lv_bd ho (x + 1)
  repeat' (first | (intro h; first | contradiction | omega | (conv => whnf) | skip) | (refine And.intro ?_ ?_) | (refine arith_ok ⟨by omega, by omega⟩ ?_) | (first | (refine draw_quiet hT mixed (by decide +kernel) ?_) | (refine draw_hard hT mixed (by decide +kernel) ?_)) | (refine Ret.go (implLives_ret f ls _ ho (by omega)) rfl rfl ?_) | (refine Ret.goQ (implLives_ret f ls _ ho (by omega)) rfl rfl ?_))
  all_goals first | rfl | omega | trace_state
end Go.Proofs.YtenofbabiacacaaGreat
