/-
  Deaths and claims of a year: what the functions return. No conditions but those in the statements.
-/
import Derived.Test.YtenofbabiacacaaGreatSd
namespace Go.Proofs.YtenofbabiacacaaGreat
open Go.AE

attribute [local irreducible] CallA LoopA DrawA CallQ arithK quoK remK eqK
attribute [local irreducible] cols cN cM cD cC dur pTop pBase lv
abbrev hdur (f : Int) (ls : List Int) (h : List Int) : Int := dur f ls (h.getD 0 0) (h.getD 1 0) (h.getD 2 0)
def dOk (hs : List (List Int)) (ds : List Int) : Prop := ds.length = hs.length ∧ ∀ i, i < hs.length → 0 ≤ ds.getD i 0 ∧ ds.getD i 0 ≤ (hs.getD i []).getD 6 0
noncomputable instance (hs : List (List Int)) (ds : List Int) : Decidable (dOk hs ds) := Classical.propDecidable _
noncomputable def cDt (f : Int) (ls : List Int) (r : Int) (hs : List (List Int)) (ds : List Int) (b : Bool) : Int := if okF f ls r hs then (if b = true ∧ dOk hs ds then 0 else 2) else 1
theorem dth_step {hs : List (List Int)} {ds : List Int} {i : Nat} (h : ∀ j, j < i → 0 ≤ ds.getD j 0 ∧ ds.getD j 0 ≤ (hs.getD j []).getD 6 0) (hi : 0 ≤ ds.getD i 0 ∧ ds.getD i 0 ≤ (hs.getD i []).getD 6 0) : ∀ j, j < i + 1 → 0 ≤ ds.getD j 0 ∧ ds.getD j 0 ≤ (hs.getD j []).getD 6 0 := fun j hj => by
  by_cases he : j = i
  · rw [he]; exact hi
  · exact h j (by omega)
theorem okF_len {f : Int} {ls : List Int} {r : Int} {hs : List (List Int)} (h : okF f ls r hs) : hs.length ≤ 30 := h.2.1
set_option maxHeartbeats 4000000 in
set_option maxRecDepth 100000 in
theorem implCheck_ret (f : Int) (ls : List Int) (r : Int) (hs : List (List Int)) (ds : List Int) (hn : ls.length ≤ 1048576) (hh : hs.length ≤ 1048576) (hd : ds.length ≤ 1048576) : Ret Tryz.prog G 73 [Bs f ls r, Rh hs, Ri ds] (I (cDt f ls r hs ds true)) := by
  refine ret_of_body hT Tryz.func73 rfl ?_ rfl
  by_cases ho : okF f ls r hs
  · by_cases hl : ds.length = hs.length
    · repeat' (first | (intro h; first | contradiction | omega | (conv => whnf) | skip) | (refine And.intro ?_ ?_) | (refine arith_ok ⟨by omega, by omega⟩ ?_) | (first | (refine draw_quiet hT mixed (by decide +kernel) ?_) | (refine draw_hard hT mixed (by decide +kernel) ?_)) | (refine Ret.goP (implPortfolio_ret f ls r hs hn hh) rfl ?_) | (refine Ret.goQP (implPortfolio_ret f ls r hs hn hh) rfl ?_))
      all_goals first | omega | exact absurd ho (by assumption) | skip
      refine loop_rule hT (fun i : Nat => i ≤ hs.length ∧ ∀ j, j < i → 0 ≤ ds.getD j 0 ∧ ds.getD j 0 ≤ (hs.getD j []).getD 6 0) 34 1 [1, 2, 3, 18, 19, 20] (fun i => [Rh hs, Ri ds, .ptr 0 0, Rh hs, I hs.length, I i]) (fun _ => [.cells [I f, Ri ls, I r]]) (fun i => hs.length - i) (0) (Nat.le_of_ble_eq_true rfl) ?_ ?_ ?_
      · exact ⟨Nat.zero_le _, fun j hj => absurd hj (Nat.not_lt_zero j)⟩
      · (first | (refine ⟨rfl, [], ?_, ?_⟩; all_goals (repeat' (first | exact rfl | exact trivial | omega | assumption | fail | refine And.intro ?_ ?_)); done) | (refine ⟨rfl, [some 1], ?_, ?_⟩; all_goals (repeat' (first | exact rfl | exact trivial | omega | assumption | fail | refine And.intro ?_ ?_)); done) | (refine ⟨rfl, [some 2], ?_, ?_⟩; all_goals (repeat' (first | exact rfl | exact trivial | omega | assumption | fail | refine And.intro ?_ ?_)); done) | (refine ⟨rfl, [some 3], ?_, ?_⟩; all_goals (repeat' (first | exact rfl | exact trivial | omega | assumption | fail | refine And.intro ?_ ?_)); done) | (refine ⟨rfl, [some 0], ?_, ?_⟩; all_goals (repeat' (first | exact rfl | exact trivial | omega | assumption | fail | refine And.intro ?_ ?_)); done) | (refine ⟨rfl, [some 4], ?_, ?_⟩; all_goals (repeat' (first | exact rfl | exact trivial | omega | assumption | fail | refine And.intro ?_ ?_)); done) | (refine ⟨rfl, [some 5], ?_, ?_⟩; all_goals (repeat' (first | exact rfl | exact trivial | omega | assumption | fail | refine And.intro ?_ ?_)); done) | (refine ⟨rfl, [some 6], ?_, ?_⟩; all_goals (repeat' (first | exact rfl | exact trivial | omega | assumption | fail | refine And.intro ?_ ?_)); done))
      · rintro i ⟨h1, h2⟩
        by_cases hi : i < hs.length
        · by_cases hdi : 0 ≤ ds.getD ((i : Int)).toNat 0 ∧ ds.getD ((i : Int)).toNat 0 ≤ (hs.getD ((i : Int)).toNat []).getD 6 0
          · repeat' (first | (intro h; first | contradiction | omega | (conv => whnf) | skip) | (refine And.intro ?_ ?_) | (refine arith_ok ⟨by omega, by omega⟩ ?_) | (first | (refine draw_quiet hT mixed (by decide +kernel) ?_) | (refine draw_hard hT mixed (by decide +kernel) ?_)) | (refine Ret.goP (inRange_ret _ _ _) rfl ?_) | (refine Ret.goQP (inRange_ret _ _ _) rfl ?_))
            all_goals first | omega | exact absurd hdi (by assumption) | ((conv => whnf); refine ⟨i + 1, ⟨by omega, dth_step h2 hdi⟩, ?_, by omega⟩; (first | (refine ⟨rfl, [], ?_, ?_⟩; all_goals (repeat' (first | exact rfl | exact trivial | omega | assumption | fail | refine And.intro ?_ ?_)); done) | (refine ⟨rfl, [some 1], ?_, ?_⟩; all_goals (repeat' (first | exact rfl | exact trivial | omega | assumption | fail | refine And.intro ?_ ?_)); done) | (refine ⟨rfl, [some 2], ?_, ?_⟩; all_goals (repeat' (first | exact rfl | exact trivial | omega | assumption | fail | refine And.intro ?_ ?_)); done) | (refine ⟨rfl, [some 3], ?_, ?_⟩; all_goals (repeat' (first | exact rfl | exact trivial | omega | assumption | fail | refine And.intro ?_ ?_)); done) | (refine ⟨rfl, [some 0], ?_, ?_⟩; all_goals (repeat' (first | exact rfl | exact trivial | omega | assumption | fail | refine And.intro ?_ ?_)); done) | (refine ⟨rfl, [some 4], ?_, ?_⟩; all_goals (repeat' (first | exact rfl | exact trivial | omega | assumption | fail | refine And.intro ?_ ?_)); done) | (refine ⟨rfl, [some 5], ?_, ?_⟩; all_goals (repeat' (first | exact rfl | exact trivial | omega | assumption | fail | refine And.intro ?_ ?_)); done) | (refine ⟨rfl, [some 6], ?_, ?_⟩; all_goals (repeat' (first | exact rfl | exact trivial | omega | assumption | fail | refine And.intro ?_ ?_)); done))) | trace_state
          · have hc : cDt f ls r hs ds true = 2 := (if_pos ho).trans (if_neg fun e => hdi (e.2.2 i hi))
            rw [hc]
            repeat' (first | (intro h; first | contradiction | omega | (conv => whnf) | skip) | (refine And.intro ?_ ?_) | (refine arith_ok ⟨by omega, by omega⟩ ?_) | (first | (refine draw_quiet hT mixed (by decide +kernel) ?_) | (refine draw_hard hT mixed (by decide +kernel) ?_)) | (refine Ret.goP (inRange_ret _ _ _) rfl ?_) | (refine Ret.goQP (inRange_ret _ _ _) rfl ?_))
            all_goals first | omega | rfl | exact absurd (by assumption) hdi | trace_state
        · have hc : cDt f ls r hs ds true = 0 := (if_pos ho).trans (if_pos ⟨rfl, hl, fun j hj => h2 j (by omega)⟩)
          rw [hc]
          repeat' (first | (intro h; first | contradiction | omega | (conv => whnf) | skip) | (refine And.intro ?_ ?_) | (refine arith_ok ⟨by omega, by omega⟩ ?_) | (first | (refine draw_quiet hT mixed (by decide +kernel) ?_) | (refine draw_hard hT mixed (by decide +kernel) ?_)) | fail)
          all_goals first | omega | rfl | trace_state
    · have hc : cDt f ls r hs ds true = 2 := (if_pos ho).trans (if_neg fun e => hl e.2.1)
      rw [hc]
      repeat' (first | (intro h; first | contradiction | omega | (conv => whnf) | skip) | (refine And.intro ?_ ?_) | (refine arith_ok ⟨by omega, by omega⟩ ?_) | (first | (refine draw_quiet hT mixed (by decide +kernel) ?_) | (refine draw_hard hT mixed (by decide +kernel) ?_)) | (refine Ret.goP (implPortfolio_ret f ls r hs hn hh) rfl ?_) | (refine Ret.goQP (implPortfolio_ret f ls r hs hn hh) rfl ?_))
      all_goals first | omega | rfl | exact absurd ho (by assumption) | trace_state
  · have hc : cDt f ls r hs ds true = 1 := if_neg ho
    rw [hc]
    repeat' (first | (intro h; first | contradiction | omega | (conv => whnf) | skip) | (refine And.intro ?_ ?_) | (refine arith_ok ⟨by omega, by omega⟩ ?_) | (first | (refine draw_quiet hT mixed (by decide +kernel) ?_) | (refine draw_hard hT mixed (by decide +kernel) ?_)) | (refine Ret.goP (implPortfolio_ret f ls r hs hn hh) rfl ?_) | (refine Ret.goQP (implPortfolio_ret f ls r hs hn hh) rfl ?_))
    all_goals first | omega | rfl | exact absurd (by assumption) ho | trace_state
set_option maxHeartbeats 4000000 in
set_option maxRecDepth 100000 in
theorem specCode_ret (f : Int) (ls : List Int) (r : Int) (hs : List (List Int)) (ds : List Int) (b : Bool) (hn : ls.length ≤ 1048576) (hh : hs.length ≤ 1048576) (hd : ds.length ≤ 1048576) : Ret Tryz.prog G 70 [Bs f ls r, Rh hs, Ri ds, Bo b] (I (cDt f ls r hs ds b)) := by
  refine ret_of_body hT Tryz.func70 rfl ?_ rfl
  by_cases ho : okF f ls r hs
  · cases b
    · have hc : cDt f ls r hs ds false = 2 := (if_pos ho).trans (if_neg fun e => by have := e.1; cases this)
      rw [hc]
      repeat' (first | (intro h; first | contradiction | omega | (conv => whnf) | skip) | (refine And.intro ?_ ?_) | (refine arith_ok ⟨by omega, by omega⟩ ?_) | (first | (refine draw_quiet hT mixed (by decide +kernel) ?_) | (refine draw_hard hT mixed (by decide +kernel) ?_)) | (refine Ret.goP (specPortfolio_ret f ls r hs hn hh) rfl ?_) | (refine Ret.goQP (specPortfolio_ret f ls r hs hn hh) rfl ?_))
      all_goals first | omega | rfl | exact absurd ho (by assumption) | skip
      refine loop_rule hT (fun i : Nat => i = 0) 43 1 [1, 2, 3, 4, 9] (fun i => [Rh hs, Ri ds, Bo false, .ptr 0 0, I i]) (fun _ => [.cells [I f, Ri ls, I r]]) (fun i => i) (0) (Nat.le_of_ble_eq_true rfl) ?_ ?_ ?_
      · rfl
      · (first | (refine ⟨rfl, [], ?_, ?_⟩; all_goals (repeat' (first | exact rfl | exact trivial | omega | assumption | fail | refine And.intro ?_ ?_)); done) | (refine ⟨rfl, [some 1], ?_, ?_⟩; all_goals (repeat' (first | exact rfl | exact trivial | omega | assumption | fail | refine And.intro ?_ ?_)); done) | (refine ⟨rfl, [some 2], ?_, ?_⟩; all_goals (repeat' (first | exact rfl | exact trivial | omega | assumption | fail | refine And.intro ?_ ?_)); done) | (refine ⟨rfl, [some 3], ?_, ?_⟩; all_goals (repeat' (first | exact rfl | exact trivial | omega | assumption | fail | refine And.intro ?_ ?_)); done) | (refine ⟨rfl, [some 0], ?_, ?_⟩; all_goals (repeat' (first | exact rfl | exact trivial | omega | assumption | fail | refine And.intro ?_ ?_)); done) | (refine ⟨rfl, [some 4], ?_, ?_⟩; all_goals (repeat' (first | exact rfl | exact trivial | omega | assumption | fail | refine And.intro ?_ ?_)); done) | (refine ⟨rfl, [some 5], ?_, ?_⟩; all_goals (repeat' (first | exact rfl | exact trivial | omega | assumption | fail | refine And.intro ?_ ?_)); done) | (refine ⟨rfl, [some 6], ?_, ?_⟩; all_goals (repeat' (first | exact rfl | exact trivial | omega | assumption | fail | refine And.intro ?_ ?_)); done))
      · rintro i rfl
        repeat' (first | (intro h; first | contradiction | omega | (conv => whnf) | skip) | (refine And.intro ?_ ?_) | (refine arith_ok ⟨by omega, by omega⟩ ?_) | (first | (refine draw_quiet hT mixed (by decide +kernel) ?_) | (refine draw_hard hT mixed (by decide +kernel) ?_)) | fail)
        all_goals first | omega | rfl | trace_state
    · by_cases hl : ds.length = hs.length
      · repeat' (first | (intro h; first | contradiction | omega | (conv => whnf) | skip) | (refine And.intro ?_ ?_) | (refine arith_ok ⟨by omega, by omega⟩ ?_) | (first | (refine draw_quiet hT mixed (by decide +kernel) ?_) | (refine draw_hard hT mixed (by decide +kernel) ?_)) | (refine Ret.goP (specPortfolio_ret f ls r hs hn hh) rfl ?_) | (refine Ret.goQP (specPortfolio_ret f ls r hs hn hh) rfl ?_))
        all_goals first | omega | exact absurd ho (by assumption) | skip
        refine loop_rule hT (fun p : Nat × Bool => p.1 ≤ hs.length ∧ (p.2 = true → ∀ j, j < p.1 → 0 ≤ ds.getD j 0 ∧ ds.getD j 0 ≤ (hs.getD j []).getD 6 0) ∧ (p.2 = false → ¬ dOk hs ds)) 43 1 [1, 2, 3, 4, 9] (fun p => [Rh hs, Ri ds, Bo p.2, .ptr 0 0, I p.1]) (fun _ => [.cells [I f, Ri ls, I r]]) (fun p => hs.length - p.1) ((0, true)) (Nat.le_of_ble_eq_true rfl) ?_ ?_ ?_
        · exact ⟨Nat.zero_le _, fun _ j hj => absurd hj (Nat.not_lt_zero j), fun h => by cases h⟩
        · (first | (refine ⟨rfl, [], ?_, ?_⟩; all_goals (repeat' (first | exact rfl | exact trivial | omega | assumption | fail | refine And.intro ?_ ?_)); done) | (refine ⟨rfl, [some 1], ?_, ?_⟩; all_goals (repeat' (first | exact rfl | exact trivial | omega | assumption | fail | refine And.intro ?_ ?_)); done) | (refine ⟨rfl, [some 2], ?_, ?_⟩; all_goals (repeat' (first | exact rfl | exact trivial | omega | assumption | fail | refine And.intro ?_ ?_)); done) | (refine ⟨rfl, [some 3], ?_, ?_⟩; all_goals (repeat' (first | exact rfl | exact trivial | omega | assumption | fail | refine And.intro ?_ ?_)); done) | (refine ⟨rfl, [some 0], ?_, ?_⟩; all_goals (repeat' (first | exact rfl | exact trivial | omega | assumption | fail | refine And.intro ?_ ?_)); done) | (refine ⟨rfl, [some 4], ?_, ?_⟩; all_goals (repeat' (first | exact rfl | exact trivial | omega | assumption | fail | refine And.intro ?_ ?_)); done) | (refine ⟨rfl, [some 5], ?_, ?_⟩; all_goals (repeat' (first | exact rfl | exact trivial | omega | assumption | fail | refine And.intro ?_ ?_)); done) | (refine ⟨rfl, [some 6], ?_, ?_⟩; all_goals (repeat' (first | exact rfl | exact trivial | omega | assumption | fail | refine And.intro ?_ ?_)); done))
        · rintro ⟨i, b⟩ ⟨h1, h2, h3⟩
          dsimp only at h1 h2 h3 ⊢
          cases b
          · have hc : cDt f ls r hs ds true = 2 := (if_pos ho).trans (if_neg fun e => h3 rfl e.2)
            rw [hc]
            repeat' (first | (intro h; first | contradiction | omega | (conv => whnf) | skip) | (refine And.intro ?_ ?_) | (refine arith_ok ⟨by omega, by omega⟩ ?_) | (first | (refine draw_quiet hT mixed (by decide +kernel) ?_) | (refine draw_hard hT mixed (by decide +kernel) ?_)) | fail)
            all_goals first | omega | rfl | trace_state
          · by_cases hi : i < hs.length
            · by_cases hdi : 0 ≤ ds.getD ((i : Int)).toNat 0 ∧ ds.getD ((i : Int)).toNat 0 ≤ (hs.getD ((i : Int)).toNat []).getD 6 0
              · repeat' (first | (intro h; first | contradiction | omega | (conv => whnf) | skip) | (refine And.intro ?_ ?_) | (refine arith_ok ⟨by omega, by omega⟩ ?_) | (first | (refine draw_quiet hT mixed (by decide +kernel) ?_) | (refine draw_hard hT mixed (by decide +kernel) ?_)) | (refine Ret.goP (l01In_ret _ _ _) rfl ?_) | (refine Ret.goQP (l01In_ret _ _ _) rfl ?_))
                all_goals first | omega | exact absurd hdi (by assumption) | ((conv => whnf); refine ⟨(i + 1, true), ⟨by dsimp only; omega, fun _ => dth_step (h2 rfl) hdi, fun h => (by cases h)⟩, ?_, by dsimp only; omega⟩; (first | (refine ⟨rfl, [], ?_, ?_⟩; all_goals (repeat' (first | exact rfl | exact trivial | omega | assumption | fail | refine And.intro ?_ ?_)); done) | (refine ⟨rfl, [some 1], ?_, ?_⟩; all_goals (repeat' (first | exact rfl | exact trivial | omega | assumption | fail | refine And.intro ?_ ?_)); done) | (refine ⟨rfl, [some 2], ?_, ?_⟩; all_goals (repeat' (first | exact rfl | exact trivial | omega | assumption | fail | refine And.intro ?_ ?_)); done) | (refine ⟨rfl, [some 3], ?_, ?_⟩; all_goals (repeat' (first | exact rfl | exact trivial | omega | assumption | fail | refine And.intro ?_ ?_)); done) | (refine ⟨rfl, [some 0], ?_, ?_⟩; all_goals (repeat' (first | exact rfl | exact trivial | omega | assumption | fail | refine And.intro ?_ ?_)); done) | (refine ⟨rfl, [some 4], ?_, ?_⟩; all_goals (repeat' (first | exact rfl | exact trivial | omega | assumption | fail | refine And.intro ?_ ?_)); done) | (refine ⟨rfl, [some 5], ?_, ?_⟩; all_goals (repeat' (first | exact rfl | exact trivial | omega | assumption | fail | refine And.intro ?_ ?_)); done) | (refine ⟨rfl, [some 6], ?_, ?_⟩; all_goals (repeat' (first | exact rfl | exact trivial | omega | assumption | fail | refine And.intro ?_ ?_)); done))) | trace_state
              · repeat' (first | (intro h; first | contradiction | omega | (conv => whnf) | skip) | (refine And.intro ?_ ?_) | (refine arith_ok ⟨by omega, by omega⟩ ?_) | (first | (refine draw_quiet hT mixed (by decide +kernel) ?_) | (refine draw_hard hT mixed (by decide +kernel) ?_)) | (refine Ret.goP (l01In_ret _ _ _) rfl ?_) | (refine Ret.goQP (l01In_ret _ _ _) rfl ?_))
                all_goals first | omega | exact absurd (by assumption) hdi | ((conv => whnf); refine ⟨(i + 1, false), ⟨by dsimp only; omega, fun h => (by cases h), fun _ e => hdi (e.2 i hi)⟩, ?_, by dsimp only; omega⟩; (first | (refine ⟨rfl, [], ?_, ?_⟩; all_goals (repeat' (first | exact rfl | exact trivial | omega | assumption | fail | refine And.intro ?_ ?_)); done) | (refine ⟨rfl, [some 1], ?_, ?_⟩; all_goals (repeat' (first | exact rfl | exact trivial | omega | assumption | fail | refine And.intro ?_ ?_)); done) | (refine ⟨rfl, [some 2], ?_, ?_⟩; all_goals (repeat' (first | exact rfl | exact trivial | omega | assumption | fail | refine And.intro ?_ ?_)); done) | (refine ⟨rfl, [some 3], ?_, ?_⟩; all_goals (repeat' (first | exact rfl | exact trivial | omega | assumption | fail | refine And.intro ?_ ?_)); done) | (refine ⟨rfl, [some 0], ?_, ?_⟩; all_goals (repeat' (first | exact rfl | exact trivial | omega | assumption | fail | refine And.intro ?_ ?_)); done) | (refine ⟨rfl, [some 4], ?_, ?_⟩; all_goals (repeat' (first | exact rfl | exact trivial | omega | assumption | fail | refine And.intro ?_ ?_)); done) | (refine ⟨rfl, [some 5], ?_, ?_⟩; all_goals (repeat' (first | exact rfl | exact trivial | omega | assumption | fail | refine And.intro ?_ ?_)); done) | (refine ⟨rfl, [some 6], ?_, ?_⟩; all_goals (repeat' (first | exact rfl | exact trivial | omega | assumption | fail | refine And.intro ?_ ?_)); done))) | trace_state
            · have hc : cDt f ls r hs ds true = 0 := (if_pos ho).trans (if_pos ⟨rfl, hl, fun j hj => h2 rfl j (by omega)⟩)
              rw [hc]
              repeat' (first | (intro h; first | contradiction | omega | (conv => whnf) | skip) | (refine And.intro ?_ ?_) | (refine arith_ok ⟨by omega, by omega⟩ ?_) | (first | (refine draw_quiet hT mixed (by decide +kernel) ?_) | (refine draw_hard hT mixed (by decide +kernel) ?_)) | fail)
              all_goals first | omega | rfl | trace_state
      · have hc : cDt f ls r hs ds true = 2 := (if_pos ho).trans (if_neg fun e => hl e.2.1)
        rw [hc]
        repeat' (first | (intro h; first | contradiction | omega | (conv => whnf) | skip) | (refine And.intro ?_ ?_) | (refine arith_ok ⟨by omega, by omega⟩ ?_) | (first | (refine draw_quiet hT mixed (by decide +kernel) ?_) | (refine draw_hard hT mixed (by decide +kernel) ?_)) | (refine Ret.goP (specPortfolio_ret f ls r hs hn hh) rfl ?_) | (refine Ret.goQP (specPortfolio_ret f ls r hs hn hh) rfl ?_))
        all_goals first | omega | rfl | exact absurd ho (by assumption) | skip
        refine loop_rule hT (fun i : Nat => i = 0) 43 1 [1, 2, 3, 4, 9] (fun i => [Rh hs, Ri ds, Bo false, .ptr 0 0, I i]) (fun _ => [.cells [I f, Ri ls, I r]]) (fun i => i) (0) (Nat.le_of_ble_eq_true rfl) ?_ ?_ ?_
        · rfl
        · (first | (refine ⟨rfl, [], ?_, ?_⟩; all_goals (repeat' (first | exact rfl | exact trivial | omega | assumption | fail | refine And.intro ?_ ?_)); done) | (refine ⟨rfl, [some 1], ?_, ?_⟩; all_goals (repeat' (first | exact rfl | exact trivial | omega | assumption | fail | refine And.intro ?_ ?_)); done) | (refine ⟨rfl, [some 2], ?_, ?_⟩; all_goals (repeat' (first | exact rfl | exact trivial | omega | assumption | fail | refine And.intro ?_ ?_)); done) | (refine ⟨rfl, [some 3], ?_, ?_⟩; all_goals (repeat' (first | exact rfl | exact trivial | omega | assumption | fail | refine And.intro ?_ ?_)); done) | (refine ⟨rfl, [some 0], ?_, ?_⟩; all_goals (repeat' (first | exact rfl | exact trivial | omega | assumption | fail | refine And.intro ?_ ?_)); done) | (refine ⟨rfl, [some 4], ?_, ?_⟩; all_goals (repeat' (first | exact rfl | exact trivial | omega | assumption | fail | refine And.intro ?_ ?_)); done) | (refine ⟨rfl, [some 5], ?_, ?_⟩; all_goals (repeat' (first | exact rfl | exact trivial | omega | assumption | fail | refine And.intro ?_ ?_)); done) | (refine ⟨rfl, [some 6], ?_, ?_⟩; all_goals (repeat' (first | exact rfl | exact trivial | omega | assumption | fail | refine And.intro ?_ ?_)); done))
        · rintro i rfl
          repeat' (first | (intro h; first | contradiction | omega | (conv => whnf) | skip) | (refine And.intro ?_ ?_) | (refine arith_ok ⟨by omega, by omega⟩ ?_) | (first | (refine draw_quiet hT mixed (by decide +kernel) ?_) | (refine draw_hard hT mixed (by decide +kernel) ?_)) | fail)
          all_goals first | omega | rfl | trace_state
  · have hc : cDt f ls r hs ds b = 1 := if_neg ho
    rw [hc]
    cases b
    · repeat' (first | (intro h; first | contradiction | omega | (conv => whnf) | skip) | (refine And.intro ?_ ?_) | (refine arith_ok ⟨by omega, by omega⟩ ?_) | (first | (refine draw_quiet hT mixed (by decide +kernel) ?_) | (refine draw_hard hT mixed (by decide +kernel) ?_)) | (refine Ret.goP (specPortfolio_ret f ls r hs hn hh) rfl ?_) | (refine Ret.goQP (specPortfolio_ret f ls r hs hn hh) rfl ?_))
      all_goals first | omega | rfl | exact absurd (by assumption) ho | trace_state
    · repeat' (first | (intro h; first | contradiction | omega | (conv => whnf) | skip) | (refine And.intro ?_ ?_) | (refine arith_ok ⟨by omega, by omega⟩ ?_) | (first | (refine draw_quiet hT mixed (by decide +kernel) ?_) | (refine draw_hard hT mixed (by decide +kernel) ?_)) | (refine Ret.goP (specPortfolio_ret f ls r hs hn hh) rfl ?_) | (refine Ret.goQP (specPortfolio_ret f ls r hs hn hh) rfl ?_))
      all_goals first | omega | rfl | exact absurd (by assumption) ho | trace_state
/-! Claims -/
set_option maxRecDepth 100000 in
theorem specLast_ret (f : Int) (ls : List Int) (r : Int) (h : List Int) (ho : okP f ls r (h.getD 0 0) (h.getD 1 0) (h.getD 2 0) (h.getD 3 0) (h.getD 4 0)) : Ret Tryz.prog G 147 [Bs f ls r, WH h] (Bo (decide (h.getD 5 0 = hdur f ls h - 1))) := by
  refine ret_of_body hT Tryz.func147 rfl ?_ rfl
  have hb := dur_bd ho
  have hc := specDur_ret f ls r (h.getD 0 0) (h.getD 1 0) (h.getD 2 0) (h.getD 3 0) (h.getD 4 0) ho
  repeat' (first | (intro h; first | contradiction | omega | (conv => whnf) | skip) | (refine And.intro ?_ ?_) | (refine arith_ok ⟨by omega, by omega⟩ ?_) | (first | (refine draw_quiet hT mixed (by decide +kernel) ?_) | (refine draw_hard hT mixed (by decide +kernel) ?_)) | (refine Ret.go (hc) rfl rfl ?_) | (refine Ret.goQ (hc) rfl rfl ?_))
  all_goals first | omega | exact bv_true (by assumption) | exact bv_false (by assumption) | trace_state
set_option maxRecDepth 100000 in
theorem matures_ret (f : Int) (ls : List Int) (r : Int) (h : List Int) (ho : okP f ls r (h.getD 0 0) (h.getD 1 0) (h.getD 2 0) (h.getD 3 0) (h.getD 4 0)) : Ret Tryz.prog G 130 [WH h, Bs f ls r] (Bo (decide (2 ≤ h.getD 0 0 ∧ h.getD 5 0 = hdur f ls h - 1))) := by
  refine ret_of_body hT Tryz.func130 rfl ?_ rfl
  have hb := dur_bd ho
  have hc := implDur_ret f ls r (h.getD 0 0) (h.getD 1 0) (h.getD 2 0) (h.getD 3 0) (h.getD 4 0) ho
  repeat' (first | (intro h; first | contradiction | omega | (conv => whnf) | skip) | (refine And.intro ?_ ?_) | (refine arith_ok ⟨by omega, by omega⟩ ?_) | (first | (refine draw_quiet hT mixed (by decide +kernel) ?_) | (refine draw_hard hT mixed (by decide +kernel) ?_)) | (refine Ret.go (hc) rfl rfl ?_) | (refine Ret.goQ (hc) rfl rfl ?_))
  all_goals first | omega | exact bv_true ⟨by assumption, by assumption⟩ | (exact bv_false fun e => absurd e.2 (by assumption)) | (exact bv_false fun e => absurd e.1 (by omega)) | trace_state
def cl1 (f : Int) (ls : List Int) (h : List Int) (d : Int) : Int := (if h.getD 0 0 = 3 then 0 else d * h.getD 3 0) + (if 2 ≤ h.getD 0 0 ∧ h.getD 5 0 = hdur f ls h - 1 then (h.getD 6 0 - d) * h.getD 3 0 else 0)
def clS (f : Int) (ls : List Int) (hs : List (List Int)) (ds : List Int) : Nat → Int
  | 0 => 0
  | i + 1 => clS f ls hs ds i + cl1 f ls (hs.getD i []) (ds.getD i 0)
theorem clS_next (f : Int) (ls : List Int) (hs : List (List Int)) (ds : List Int) (i : Nat) : clS f ls hs ds (i + 1) = clS f ls hs ds i + cl1 f ls (hs.getD i []) (ds.getD i 0) := rfl
theorem okH_sum {f : Int} {ls : List Int} {r : Int} {h : List Int} (ho : okH f ls r h) : (1 ≤ h.getD 3 0 ∧ h.getD 3 0 ≤ 100000000) ∧ (0 ≤ h.getD 0 0 ∧ h.getD 0 0 ≤ 3) ∧ 0 ≤ h.getD 6 0 ∧ h.getD 6 0 ≤ 1000000 := by
  have := ho.1.1.2.1
  unfold okA at this
  exact ⟨this.2.2.1, this.1, ho.2⟩
theorem cl_parts {c d S : Int} (hd : 0 ≤ d ∧ d ≤ c) (hc : c ≤ 1000000) (hS : 1 ≤ S ∧ S ≤ 100000000) : (0 ≤ d * S ∧ d * S ≤ 100000000000000) ∧ 0 ≤ (c - d) * S ∧ (c - d) * S ≤ 100000000000000 := by
  have h1 := mul_in (a := d) (A := 1000000) (b := S) (B := 100000000) hd.1 (by omega) (by omega) hS.2
  have h2 := mul_in (a := c - d) (A := 1000000) (b := S) (B := 100000000) (by omega) (by omega) (by omega) hS.2
  omega
theorem clS_bd {f : Int} {ls : List Int} {r : Int} {hs : List (List Int)} {ds : List Int} (ho : okF f ls r hs) (hd : dOk hs ds) : ∀ i, i ≤ hs.length → 0 ≤ clS f ls hs ds i ∧ clS f ls hs ds i ≤ 200000000000000 * i
  | 0, _ => by simp [clS]
  | i + 1, hi => by
    have ih := clS_bd ho hd i (by omega)
    have h1 := okH_sum (ho.2.2 (hs.getD i []) (getD_mem (by omega)))
    have h2 := cl_parts (hd.2 i (by omega)) h1.2.2.2 h1.1
    rw [clS_next]
    unfold cl1
    split <;> split <;> omega
attribute [local irreducible] clS
theorem cl1_a {f : Int} {ls h : List Int} {d : Int} (hk : h.getD 0 0 = 3) (hm : 2 ≤ h.getD 0 0 ∧ h.getD 5 0 = hdur f ls h - 1) : cl1 f ls h d = (h.getD 6 0 - d) * h.getD 3 0 := by
  unfold cl1; rw [if_pos hk, if_pos hm, Int.zero_add]
theorem cl1_b {f : Int} {ls h : List Int} {d : Int} (hk : h.getD 0 0 = 3) (hm : ¬ (2 ≤ h.getD 0 0 ∧ h.getD 5 0 = hdur f ls h - 1)) : cl1 f ls h d = 0 := by
  unfold cl1; rw [if_pos hk, if_neg hm]; rfl
theorem cl1_c {f : Int} {ls h : List Int} {d : Int} (hk : ¬ h.getD 0 0 = 3) (hm : 2 ≤ h.getD 0 0 ∧ h.getD 5 0 = hdur f ls h - 1) : cl1 f ls h d = d * h.getD 3 0 + (h.getD 6 0 - d) * h.getD 3 0 := by
  unfold cl1; rw [if_neg hk, if_pos hm]
theorem cl1_d {f : Int} {ls h : List Int} {d : Int} (hk : ¬ h.getD 0 0 = 3) (hm : ¬ (2 ≤ h.getD 0 0 ∧ h.getD 5 0 = hdur f ls h - 1)) : cl1 f ls h d = d * h.getD 3 0 := by
  unfold cl1; rw [if_neg hk, if_neg hm, Int.add_zero]
attribute [local irreducible] cl1
set_option maxHeartbeats 4000000 in
set_option maxRecDepth 100000 in
theorem implClaims_ret (f : Int) (ls : List Int) (r : Int) (hs : List (List Int)) (ds : List Int) (ho : okF f ls r hs) (hd : dOk hs ds) : Ret Tryz.prog G 77 [Bs f ls r, Rh hs, Ri ds] (I (clS f ls hs ds hs.length)) := by
  refine ret_of_body hT Tryz.func77 rfl ?_ rfl
  have hl := ho.2.1
  have hdl := hd.1
  repeat' (first | (intro h; first | contradiction | omega | (conv => whnf) | skip) | (refine And.intro ?_ ?_) | (refine arith_ok ⟨by omega, by omega⟩ ?_) | (first | (refine draw_quiet hT mixed (by decide +kernel) ?_) | (refine draw_hard hT mixed (by decide +kernel) ?_)) | fail)
  refine loop_rule hT (fun i : Nat => i ≤ hs.length) 49 1 [1, 2, 3, 7, 10, 11, 12] (fun i => [Rh hs, Ri ds, .ptr 0 0, I (clS f ls hs ds i), Rh hs, I hs.length, I i]) (fun _ => [.cells [I f, Ri ls, I r]]) (fun i => hs.length - i) (0) (Nat.le_of_ble_eq_true rfl) ?_ ?_ ?_
  · exact Nat.zero_le _
  · (first | (refine ⟨rfl, [], ?_, ?_⟩; all_goals (repeat' (first | exact rfl | exact trivial | omega | assumption | (unfold clS; rfl) | refine And.intro ?_ ?_)); done) | (refine ⟨rfl, [some 1], ?_, ?_⟩; all_goals (repeat' (first | exact rfl | exact trivial | omega | assumption | (unfold clS; rfl) | refine And.intro ?_ ?_)); done) | (refine ⟨rfl, [some 2], ?_, ?_⟩; all_goals (repeat' (first | exact rfl | exact trivial | omega | assumption | (unfold clS; rfl) | refine And.intro ?_ ?_)); done) | (refine ⟨rfl, [some 3], ?_, ?_⟩; all_goals (repeat' (first | exact rfl | exact trivial | omega | assumption | (unfold clS; rfl) | refine And.intro ?_ ?_)); done) | (refine ⟨rfl, [some 0], ?_, ?_⟩; all_goals (repeat' (first | exact rfl | exact trivial | omega | assumption | (unfold clS; rfl) | refine And.intro ?_ ?_)); done) | (refine ⟨rfl, [some 4], ?_, ?_⟩; all_goals (repeat' (first | exact rfl | exact trivial | omega | assumption | (unfold clS; rfl) | refine And.intro ?_ ?_)); done) | (refine ⟨rfl, [some 5], ?_, ?_⟩; all_goals (repeat' (first | exact rfl | exact trivial | omega | assumption | (unfold clS; rfl) | refine And.intro ?_ ?_)); done) | (refine ⟨rfl, [some 6], ?_, ?_⟩; all_goals (repeat' (first | exact rfl | exact trivial | omega | assumption | (unfold clS; rfl) | refine And.intro ?_ ?_)); done))
  · rintro i h1
    have hbd := clS_bd ho hd i h1
    by_cases hi : i < hs.length
    · have hoh := ho.2.2 (hs.getD ((i : Int)).toNat []) (getD_mem hi)
      have hsm := okH_sum hoh
      have hdi : 0 ≤ ds.getD ((i : Int)).toNat 0 ∧ ds.getD ((i : Int)).toNat 0 ≤ (hs.getD ((i : Int)).toNat []).getD 6 0 := hd.2 i hi
      have hpp := cl_parts hdi hsm.2.2.2 hsm.1
      have hmr := matures_ret f ls r (hs.getD ((i : Int)).toNat []) hoh.1.1
      have hnx : clS f ls hs ds (i + 1) = clS f ls hs ds i + cl1 f ls (hs.getD ((i : Int)).toNat []) (ds.getD ((i : Int)).toNat 0) := clS_next f ls hs ds i
      by_cases hk : (hs.getD ((i : Int)).toNat []).getD 0 0 = 3
      · by_cases hm : 2 ≤ (hs.getD ((i : Int)).toNat []).getD 0 0 ∧ (hs.getD ((i : Int)).toNat []).getD 5 0 = hdur f ls (hs.getD ((i : Int)).toNat []) - 1
        · rw [cl1_a hk hm] at hnx
          (repeat' (first | (intro h; first | contradiction | omega | (conv => whnf) | skip) | (refine And.intro ?_ ?_) | (refine arith_ok ⟨by omega, by omega⟩ ?_) | (first | (refine draw_quiet hT mixed (by decide +kernel) ?_) | (refine draw_hard hT mixed (by decide +kernel) ?_)) | (refine Ret.goP (hmr) rfl ?_) | (refine Ret.goQP (hmr) rfl ?_))); all_goals first | omega | exact absurd hm (by assumption) | exact absurd (by assumption) hm | ((conv => whnf); refine ⟨i + 1, by omega, ?_, by omega⟩; (first | (refine ⟨rfl, [], ?_, ?_⟩; all_goals (repeat' (first | exact rfl | exact trivial | omega | assumption | exact hnx.symm | refine And.intro ?_ ?_)); done) | (refine ⟨rfl, [some 1], ?_, ?_⟩; all_goals (repeat' (first | exact rfl | exact trivial | omega | assumption | exact hnx.symm | refine And.intro ?_ ?_)); done) | (refine ⟨rfl, [some 2], ?_, ?_⟩; all_goals (repeat' (first | exact rfl | exact trivial | omega | assumption | exact hnx.symm | refine And.intro ?_ ?_)); done) | (refine ⟨rfl, [some 3], ?_, ?_⟩; all_goals (repeat' (first | exact rfl | exact trivial | omega | assumption | exact hnx.symm | refine And.intro ?_ ?_)); done) | (refine ⟨rfl, [some 0], ?_, ?_⟩; all_goals (repeat' (first | exact rfl | exact trivial | omega | assumption | exact hnx.symm | refine And.intro ?_ ?_)); done) | (refine ⟨rfl, [some 4], ?_, ?_⟩; all_goals (repeat' (first | exact rfl | exact trivial | omega | assumption | exact hnx.symm | refine And.intro ?_ ?_)); done) | (refine ⟨rfl, [some 5], ?_, ?_⟩; all_goals (repeat' (first | exact rfl | exact trivial | omega | assumption | exact hnx.symm | refine And.intro ?_ ?_)); done) | (refine ⟨rfl, [some 6], ?_, ?_⟩; all_goals (repeat' (first | exact rfl | exact trivial | omega | assumption | exact hnx.symm | refine And.intro ?_ ?_)); done))) | trace_state
        · rw [cl1_b hk hm, Int.add_zero] at hnx
          (repeat' (first | (intro h; first | contradiction | omega | (conv => whnf) | skip) | (refine And.intro ?_ ?_) | (refine arith_ok ⟨by omega, by omega⟩ ?_) | (first | (refine draw_quiet hT mixed (by decide +kernel) ?_) | (refine draw_hard hT mixed (by decide +kernel) ?_)) | (refine Ret.goP (hmr) rfl ?_) | (refine Ret.goQP (hmr) rfl ?_))); all_goals first | omega | exact absurd hm (by assumption) | exact absurd (by assumption) hm | ((conv => whnf); refine ⟨i + 1, by omega, ?_, by omega⟩; (first | (refine ⟨rfl, [], ?_, ?_⟩; all_goals (repeat' (first | exact rfl | exact trivial | omega | assumption | exact hnx.symm | refine And.intro ?_ ?_)); done) | (refine ⟨rfl, [some 1], ?_, ?_⟩; all_goals (repeat' (first | exact rfl | exact trivial | omega | assumption | exact hnx.symm | refine And.intro ?_ ?_)); done) | (refine ⟨rfl, [some 2], ?_, ?_⟩; all_goals (repeat' (first | exact rfl | exact trivial | omega | assumption | exact hnx.symm | refine And.intro ?_ ?_)); done) | (refine ⟨rfl, [some 3], ?_, ?_⟩; all_goals (repeat' (first | exact rfl | exact trivial | omega | assumption | exact hnx.symm | refine And.intro ?_ ?_)); done) | (refine ⟨rfl, [some 0], ?_, ?_⟩; all_goals (repeat' (first | exact rfl | exact trivial | omega | assumption | exact hnx.symm | refine And.intro ?_ ?_)); done) | (refine ⟨rfl, [some 4], ?_, ?_⟩; all_goals (repeat' (first | exact rfl | exact trivial | omega | assumption | exact hnx.symm | refine And.intro ?_ ?_)); done) | (refine ⟨rfl, [some 5], ?_, ?_⟩; all_goals (repeat' (first | exact rfl | exact trivial | omega | assumption | exact hnx.symm | refine And.intro ?_ ?_)); done) | (refine ⟨rfl, [some 6], ?_, ?_⟩; all_goals (repeat' (first | exact rfl | exact trivial | omega | assumption | exact hnx.symm | refine And.intro ?_ ?_)); done))) | trace_state
      · by_cases hm : 2 ≤ (hs.getD ((i : Int)).toNat []).getD 0 0 ∧ (hs.getD ((i : Int)).toNat []).getD 5 0 = hdur f ls (hs.getD ((i : Int)).toNat []) - 1
        · rw [cl1_c hk hm, ← Int.add_assoc] at hnx
          (repeat' (first | (intro h; first | contradiction | omega | (conv => whnf) | skip) | (refine And.intro ?_ ?_) | (refine arith_ok ⟨by omega, by omega⟩ ?_) | (first | (refine draw_quiet hT mixed (by decide +kernel) ?_) | (refine draw_hard hT mixed (by decide +kernel) ?_)) | (refine Ret.goP (hmr) rfl ?_) | (refine Ret.goQP (hmr) rfl ?_))); all_goals first | omega | exact absurd hm (by assumption) | exact absurd (by assumption) hm | ((conv => whnf); refine ⟨i + 1, by omega, ?_, by omega⟩; (first | (refine ⟨rfl, [], ?_, ?_⟩; all_goals (repeat' (first | exact rfl | exact trivial | omega | assumption | exact hnx.symm | refine And.intro ?_ ?_)); done) | (refine ⟨rfl, [some 1], ?_, ?_⟩; all_goals (repeat' (first | exact rfl | exact trivial | omega | assumption | exact hnx.symm | refine And.intro ?_ ?_)); done) | (refine ⟨rfl, [some 2], ?_, ?_⟩; all_goals (repeat' (first | exact rfl | exact trivial | omega | assumption | exact hnx.symm | refine And.intro ?_ ?_)); done) | (refine ⟨rfl, [some 3], ?_, ?_⟩; all_goals (repeat' (first | exact rfl | exact trivial | omega | assumption | exact hnx.symm | refine And.intro ?_ ?_)); done) | (refine ⟨rfl, [some 0], ?_, ?_⟩; all_goals (repeat' (first | exact rfl | exact trivial | omega | assumption | exact hnx.symm | refine And.intro ?_ ?_)); done) | (refine ⟨rfl, [some 4], ?_, ?_⟩; all_goals (repeat' (first | exact rfl | exact trivial | omega | assumption | exact hnx.symm | refine And.intro ?_ ?_)); done) | (refine ⟨rfl, [some 5], ?_, ?_⟩; all_goals (repeat' (first | exact rfl | exact trivial | omega | assumption | exact hnx.symm | refine And.intro ?_ ?_)); done) | (refine ⟨rfl, [some 6], ?_, ?_⟩; all_goals (repeat' (first | exact rfl | exact trivial | omega | assumption | exact hnx.symm | refine And.intro ?_ ?_)); done))) | trace_state
        · rw [cl1_d hk hm] at hnx
          (repeat' (first | (intro h; first | contradiction | omega | (conv => whnf) | skip) | (refine And.intro ?_ ?_) | (refine arith_ok ⟨by omega, by omega⟩ ?_) | (first | (refine draw_quiet hT mixed (by decide +kernel) ?_) | (refine draw_hard hT mixed (by decide +kernel) ?_)) | (refine Ret.goP (hmr) rfl ?_) | (refine Ret.goQP (hmr) rfl ?_))); all_goals first | omega | exact absurd hm (by assumption) | exact absurd (by assumption) hm | ((conv => whnf); refine ⟨i + 1, by omega, ?_, by omega⟩; (first | (refine ⟨rfl, [], ?_, ?_⟩; all_goals (repeat' (first | exact rfl | exact trivial | omega | assumption | exact hnx.symm | refine And.intro ?_ ?_)); done) | (refine ⟨rfl, [some 1], ?_, ?_⟩; all_goals (repeat' (first | exact rfl | exact trivial | omega | assumption | exact hnx.symm | refine And.intro ?_ ?_)); done) | (refine ⟨rfl, [some 2], ?_, ?_⟩; all_goals (repeat' (first | exact rfl | exact trivial | omega | assumption | exact hnx.symm | refine And.intro ?_ ?_)); done) | (refine ⟨rfl, [some 3], ?_, ?_⟩; all_goals (repeat' (first | exact rfl | exact trivial | omega | assumption | exact hnx.symm | refine And.intro ?_ ?_)); done) | (refine ⟨rfl, [some 0], ?_, ?_⟩; all_goals (repeat' (first | exact rfl | exact trivial | omega | assumption | exact hnx.symm | refine And.intro ?_ ?_)); done) | (refine ⟨rfl, [some 4], ?_, ?_⟩; all_goals (repeat' (first | exact rfl | exact trivial | omega | assumption | exact hnx.symm | refine And.intro ?_ ?_)); done) | (refine ⟨rfl, [some 5], ?_, ?_⟩; all_goals (repeat' (first | exact rfl | exact trivial | omega | assumption | exact hnx.symm | refine And.intro ?_ ?_)); done) | (refine ⟨rfl, [some 6], ?_, ?_⟩; all_goals (repeat' (first | exact rfl | exact trivial | omega | assumption | exact hnx.symm | refine And.intro ?_ ?_)); done))) | trace_state
    · obtain rfl : i = hs.length := by omega
      repeat' (first | (intro h; first | contradiction | omega | (conv => whnf) | skip) | (refine And.intro ?_ ?_) | (refine arith_ok ⟨by omega, by omega⟩ ?_) | (first | (refine draw_quiet hT mixed (by decide +kernel) ?_) | (refine draw_hard hT mixed (by decide +kernel) ?_)) | fail)
      all_goals first | omega | rfl | trace_state
set_option maxHeartbeats 4000000 in
set_option maxRecDepth 100000 in
theorem specClaims_ret (f : Int) (ls : List Int) (r : Int) (hs : List (List Int)) (ds : List Int) (ho : okF f ls r hs) (hd : dOk hs ds) : Ret Tryz.prog G 103 [Bs f ls r, Rh hs, Ri ds] (I (clS f ls hs ds hs.length)) := by
  refine ret_of_body hT Tryz.func103 rfl ?_ rfl
  have hl := ho.2.1
  have hdl := hd.1
  repeat' (first | (intro h; first | contradiction | omega | (conv => whnf) | skip) | (refine And.intro ?_ ?_) | (refine arith_ok ⟨by omega, by omega⟩ ?_) | (first | (refine draw_quiet hT mixed (by decide +kernel) ?_) | (refine draw_hard hT mixed (by decide +kernel) ?_)) | fail)
  refine loop_rule hT (fun i : Nat => i ≤ hs.length) 63 1 [1, 2, 3, 7, 8] (fun i => [Rh hs, Ri ds, .ptr 0 0, I (clS f ls hs ds i), I i]) (fun _ => [.cells [I f, Ri ls, I r]]) (fun i => hs.length - i) (0) (Nat.le_of_ble_eq_true rfl) ?_ ?_ ?_
  · exact Nat.zero_le _
  · (first | (refine ⟨rfl, [], ?_, ?_⟩; all_goals (repeat' (first | exact rfl | exact trivial | omega | assumption | (unfold clS; rfl) | refine And.intro ?_ ?_)); done) | (refine ⟨rfl, [some 1], ?_, ?_⟩; all_goals (repeat' (first | exact rfl | exact trivial | omega | assumption | (unfold clS; rfl) | refine And.intro ?_ ?_)); done) | (refine ⟨rfl, [some 2], ?_, ?_⟩; all_goals (repeat' (first | exact rfl | exact trivial | omega | assumption | (unfold clS; rfl) | refine And.intro ?_ ?_)); done) | (refine ⟨rfl, [some 3], ?_, ?_⟩; all_goals (repeat' (first | exact rfl | exact trivial | omega | assumption | (unfold clS; rfl) | refine And.intro ?_ ?_)); done) | (refine ⟨rfl, [some 0], ?_, ?_⟩; all_goals (repeat' (first | exact rfl | exact trivial | omega | assumption | (unfold clS; rfl) | refine And.intro ?_ ?_)); done) | (refine ⟨rfl, [some 4], ?_, ?_⟩; all_goals (repeat' (first | exact rfl | exact trivial | omega | assumption | (unfold clS; rfl) | refine And.intro ?_ ?_)); done) | (refine ⟨rfl, [some 5], ?_, ?_⟩; all_goals (repeat' (first | exact rfl | exact trivial | omega | assumption | (unfold clS; rfl) | refine And.intro ?_ ?_)); done) | (refine ⟨rfl, [some 6], ?_, ?_⟩; all_goals (repeat' (first | exact rfl | exact trivial | omega | assumption | (unfold clS; rfl) | refine And.intro ?_ ?_)); done))
  · rintro i h1
    have hbd := clS_bd ho hd i h1
    by_cases hi : i < hs.length
    · have hoh := ho.2.2 (hs.getD ((i : Int)).toNat []) (getD_mem hi)
      have hsm := okH_sum hoh
      have hdi : 0 ≤ ds.getD ((i : Int)).toNat 0 ∧ ds.getD ((i : Int)).toNat 0 ≤ (hs.getD ((i : Int)).toNat []).getD 6 0 := hd.2 i hi
      have hpp := cl_parts hdi hsm.2.2.2 hsm.1
      have hmr := specLast_ret f ls r (hs.getD ((i : Int)).toNat []) hoh.1.1
      have hnx : clS f ls hs ds (i + 1) = clS f ls hs ds i + cl1 f ls (hs.getD ((i : Int)).toNat []) (ds.getD ((i : Int)).toNat 0) := clS_next f ls hs ds i
      by_cases hk : (hs.getD ((i : Int)).toNat []).getD 0 0 = 3
      · by_cases hm : 2 ≤ (hs.getD ((i : Int)).toNat []).getD 0 0 ∧ (hs.getD ((i : Int)).toNat []).getD 5 0 = hdur f ls (hs.getD ((i : Int)).toNat []) - 1
        · rw [cl1_a hk hm] at hnx
          (repeat' (first | (intro h; first | contradiction | omega | (conv => whnf) | skip) | (refine And.intro ?_ ?_) | (refine arith_ok ⟨by omega, by omega⟩ ?_) | (first | (refine draw_quiet hT mixed (by decide +kernel) ?_) | (refine draw_hard hT mixed (by decide +kernel) ?_)) | (refine Ret.goP (hmr) rfl ?_) | (refine Ret.goQP (hmr) rfl ?_))); all_goals first | omega | ((conv => whnf); refine ⟨i + 1, by omega, ?_, by omega⟩; (first | (refine ⟨rfl, [], ?_, ?_⟩; all_goals (repeat' (first | exact rfl | exact trivial | omega | assumption | exact hnx.symm | refine And.intro ?_ ?_)); done) | (refine ⟨rfl, [some 1], ?_, ?_⟩; all_goals (repeat' (first | exact rfl | exact trivial | omega | assumption | exact hnx.symm | refine And.intro ?_ ?_)); done) | (refine ⟨rfl, [some 2], ?_, ?_⟩; all_goals (repeat' (first | exact rfl | exact trivial | omega | assumption | exact hnx.symm | refine And.intro ?_ ?_)); done) | (refine ⟨rfl, [some 3], ?_, ?_⟩; all_goals (repeat' (first | exact rfl | exact trivial | omega | assumption | exact hnx.symm | refine And.intro ?_ ?_)); done) | (refine ⟨rfl, [some 0], ?_, ?_⟩; all_goals (repeat' (first | exact rfl | exact trivial | omega | assumption | exact hnx.symm | refine And.intro ?_ ?_)); done) | (refine ⟨rfl, [some 4], ?_, ?_⟩; all_goals (repeat' (first | exact rfl | exact trivial | omega | assumption | exact hnx.symm | refine And.intro ?_ ?_)); done) | (refine ⟨rfl, [some 5], ?_, ?_⟩; all_goals (repeat' (first | exact rfl | exact trivial | omega | assumption | exact hnx.symm | refine And.intro ?_ ?_)); done) | (refine ⟨rfl, [some 6], ?_, ?_⟩; all_goals (repeat' (first | exact rfl | exact trivial | omega | assumption | exact hnx.symm | refine And.intro ?_ ?_)); done))) | trace_state
        · rw [cl1_b hk hm, Int.add_zero] at hnx
          (repeat' (first | (intro h; first | contradiction | omega | (conv => whnf) | skip) | (refine And.intro ?_ ?_) | (refine arith_ok ⟨by omega, by omega⟩ ?_) | (first | (refine draw_quiet hT mixed (by decide +kernel) ?_) | (refine draw_hard hT mixed (by decide +kernel) ?_)) | (refine Ret.goP (hmr) rfl ?_) | (refine Ret.goQP (hmr) rfl ?_))); all_goals first | omega | ((conv => whnf); refine ⟨i + 1, by omega, ?_, by omega⟩; (first | (refine ⟨rfl, [], ?_, ?_⟩; all_goals (repeat' (first | exact rfl | exact trivial | omega | assumption | exact hnx.symm | refine And.intro ?_ ?_)); done) | (refine ⟨rfl, [some 1], ?_, ?_⟩; all_goals (repeat' (first | exact rfl | exact trivial | omega | assumption | exact hnx.symm | refine And.intro ?_ ?_)); done) | (refine ⟨rfl, [some 2], ?_, ?_⟩; all_goals (repeat' (first | exact rfl | exact trivial | omega | assumption | exact hnx.symm | refine And.intro ?_ ?_)); done) | (refine ⟨rfl, [some 3], ?_, ?_⟩; all_goals (repeat' (first | exact rfl | exact trivial | omega | assumption | exact hnx.symm | refine And.intro ?_ ?_)); done) | (refine ⟨rfl, [some 0], ?_, ?_⟩; all_goals (repeat' (first | exact rfl | exact trivial | omega | assumption | exact hnx.symm | refine And.intro ?_ ?_)); done) | (refine ⟨rfl, [some 4], ?_, ?_⟩; all_goals (repeat' (first | exact rfl | exact trivial | omega | assumption | exact hnx.symm | refine And.intro ?_ ?_)); done) | (refine ⟨rfl, [some 5], ?_, ?_⟩; all_goals (repeat' (first | exact rfl | exact trivial | omega | assumption | exact hnx.symm | refine And.intro ?_ ?_)); done) | (refine ⟨rfl, [some 6], ?_, ?_⟩; all_goals (repeat' (first | exact rfl | exact trivial | omega | assumption | exact hnx.symm | refine And.intro ?_ ?_)); done))) | trace_state
      · by_cases hm : 2 ≤ (hs.getD ((i : Int)).toNat []).getD 0 0 ∧ (hs.getD ((i : Int)).toNat []).getD 5 0 = hdur f ls (hs.getD ((i : Int)).toNat []) - 1
        · rw [cl1_c hk hm, ← Int.add_assoc] at hnx
          (repeat' (first | (intro h; first | contradiction | omega | (conv => whnf) | skip) | (refine And.intro ?_ ?_) | (refine arith_ok ⟨by omega, by omega⟩ ?_) | (first | (refine draw_quiet hT mixed (by decide +kernel) ?_) | (refine draw_hard hT mixed (by decide +kernel) ?_)) | (refine Ret.goP (hmr) rfl ?_) | (refine Ret.goQP (hmr) rfl ?_))); all_goals first | omega | ((conv => whnf); refine ⟨i + 1, by omega, ?_, by omega⟩; (first | (refine ⟨rfl, [], ?_, ?_⟩; all_goals (repeat' (first | exact rfl | exact trivial | omega | assumption | exact hnx.symm | refine And.intro ?_ ?_)); done) | (refine ⟨rfl, [some 1], ?_, ?_⟩; all_goals (repeat' (first | exact rfl | exact trivial | omega | assumption | exact hnx.symm | refine And.intro ?_ ?_)); done) | (refine ⟨rfl, [some 2], ?_, ?_⟩; all_goals (repeat' (first | exact rfl | exact trivial | omega | assumption | exact hnx.symm | refine And.intro ?_ ?_)); done) | (refine ⟨rfl, [some 3], ?_, ?_⟩; all_goals (repeat' (first | exact rfl | exact trivial | omega | assumption | exact hnx.symm | refine And.intro ?_ ?_)); done) | (refine ⟨rfl, [some 0], ?_, ?_⟩; all_goals (repeat' (first | exact rfl | exact trivial | omega | assumption | exact hnx.symm | refine And.intro ?_ ?_)); done) | (refine ⟨rfl, [some 4], ?_, ?_⟩; all_goals (repeat' (first | exact rfl | exact trivial | omega | assumption | exact hnx.symm | refine And.intro ?_ ?_)); done) | (refine ⟨rfl, [some 5], ?_, ?_⟩; all_goals (repeat' (first | exact rfl | exact trivial | omega | assumption | exact hnx.symm | refine And.intro ?_ ?_)); done) | (refine ⟨rfl, [some 6], ?_, ?_⟩; all_goals (repeat' (first | exact rfl | exact trivial | omega | assumption | exact hnx.symm | refine And.intro ?_ ?_)); done))) | trace_state
        · rw [cl1_d hk hm] at hnx
          (repeat' (first | (intro h; first | contradiction | omega | (conv => whnf) | skip) | (refine And.intro ?_ ?_) | (refine arith_ok ⟨by omega, by omega⟩ ?_) | (first | (refine draw_quiet hT mixed (by decide +kernel) ?_) | (refine draw_hard hT mixed (by decide +kernel) ?_)) | (refine Ret.goP (hmr) rfl ?_) | (refine Ret.goQP (hmr) rfl ?_))); all_goals first | omega | ((conv => whnf); refine ⟨i + 1, by omega, ?_, by omega⟩; (first | (refine ⟨rfl, [], ?_, ?_⟩; all_goals (repeat' (first | exact rfl | exact trivial | omega | assumption | exact hnx.symm | refine And.intro ?_ ?_)); done) | (refine ⟨rfl, [some 1], ?_, ?_⟩; all_goals (repeat' (first | exact rfl | exact trivial | omega | assumption | exact hnx.symm | refine And.intro ?_ ?_)); done) | (refine ⟨rfl, [some 2], ?_, ?_⟩; all_goals (repeat' (first | exact rfl | exact trivial | omega | assumption | exact hnx.symm | refine And.intro ?_ ?_)); done) | (refine ⟨rfl, [some 3], ?_, ?_⟩; all_goals (repeat' (first | exact rfl | exact trivial | omega | assumption | exact hnx.symm | refine And.intro ?_ ?_)); done) | (refine ⟨rfl, [some 0], ?_, ?_⟩; all_goals (repeat' (first | exact rfl | exact trivial | omega | assumption | exact hnx.symm | refine And.intro ?_ ?_)); done) | (refine ⟨rfl, [some 4], ?_, ?_⟩; all_goals (repeat' (first | exact rfl | exact trivial | omega | assumption | exact hnx.symm | refine And.intro ?_ ?_)); done) | (refine ⟨rfl, [some 5], ?_, ?_⟩; all_goals (repeat' (first | exact rfl | exact trivial | omega | assumption | exact hnx.symm | refine And.intro ?_ ?_)); done) | (refine ⟨rfl, [some 6], ?_, ?_⟩; all_goals (repeat' (first | exact rfl | exact trivial | omega | assumption | exact hnx.symm | refine And.intro ?_ ?_)); done))) | trace_state
    · obtain rfl : i = hs.length := by omega
      repeat' (first | (intro h; first | contradiction | omega | (conv => whnf) | skip) | (refine And.intro ?_ ?_) | (refine arith_ok ⟨by omega, by omega⟩ ?_) | (first | (refine draw_quiet hT mixed (by decide +kernel) ?_) | (refine draw_hard hT mixed (by decide +kernel) ?_)) | fail)
      all_goals first | omega | rfl | trace_state
/-! Expected deaths -/
def eD (f : Int) (ls : List Int) (h : List Int) : Int := h.getD 6 0 * (lv f ls (h.getD 1 0 + h.getD 5 0) - lv f ls (h.getD 1 0 + h.getD 5 0 + 1)) / lv f ls (h.getD 1 0 + h.getD 5 0)
theorem cD_lv {f : Int} {ls : List Int} {r x : Int} (ho : okT f ls) (h : cD f ls r x ≠ 0) : 1 ≤ lv f ls x := by
  have h1 := lv_bd ho x
  by_cases h2 : lv f ls x < 1
  · exfalso
    refine h ?_
    unfold cD
    split
    · rw [show lv f ls x = 0 by omega, Int.zero_mul]
    · rfl
  · omega
def eDs (f : Int) (ls : List Int) (hs : List (List Int)) (i : Nat) : List Int := (hs.take i).map (eD f ls)
theorem eDs_next {f : Int} {ls : List Int} {hs : List (List Int)} {i : Nat} (h : i < hs.length) : eDs f ls hs i ++ [eD f ls (hs.getD i [])] = eDs f ls hs (i + 1) := by
  unfold eDs
  rw [take_snoc [] h, List.map_append]; rfl
theorem eDs_len {f : Int} {ls : List Int} {hs : List (List Int)} {i : Nat} (h : i ≤ hs.length) : (eDs f ls hs i).length = i := by
  unfold eDs
  rw [List.length_map, List.length_take]; omega
attribute [local irreducible] eDs
set_option maxHeartbeats 4000000 in
set_option maxRecDepth 100000 in
theorem implDths_call (f : Int) (ls : List Int) (r : Int) (hs : List (List Int)) (ho : okF f ls r hs) : CallA Tryz.prog G 90 [Bs f ls r, Rh hs] [] (fun v J => v = .sl 0 1 hs.length ∧ J = [Di (eDs f ls hs hs.length)]) := by
  refine CallA.ends (callA_of_body hT Tryz.func90 rfl ?_)
  have hl := ho.2.1
  repeat' (first | (intro h; first | contradiction | omega | (conv => whnf) | skip) | (refine And.intro ?_ ?_) | (refine arith_ok ⟨by omega, by omega⟩ ?_) | (first | (refine draw_quiet hT mixed (by decide +kernel) ?_) | (refine draw_hard hT mixed (by decide +kernel) ?_)) | fail)
  refine loop_rule hT (fun i : Nat => i ≤ hs.length) 39 2 [1, 2, 5, 10, 11, 12] (fun i => [Rh hs, .ptr 0 0, .sl 2 1 i, Rh hs, I hs.length, I i]) (fun i => [.cells [I f, Ri ls, I r], .dead, Di (eDs f ls hs i)]) (fun i => hs.length - i) (0) (Nat.le_of_ble_eq_true rfl) ?_ ?_ ?_
  · exact Nat.zero_le _
  · have h0 : eDs f ls hs 0 = [] := by unfold eDs; rfl
    (refine ⟨rfl, [some 1], ?_, ?_⟩; all_goals (repeat' (first | exact rfl | exact trivial | omega | assumption | exact congrArg (D.ints .i64) h0.symm | refine And.intro ?_ ?_)); done)
  · rintro i h1
    by_cases hi : i < hs.length
    · have hoh := ho.2.2 (hs.getD ((i : Int)).toNat []) (getD_mem hi)
      have hsm := okH_sum hoh
      have hdb := dur_bd hoh.1.1
      have hq := hoh.1.2.1
      have hlv := cD_lv ho.1.1 hoh.1.2.2
      have hl1 := lv_bd ho.1.1 ((hs.getD ((i : Int)).toNat []).getD 1 0 + (hs.getD ((i : Int)).toNat []).getD 5 0)
      have hl2 := lv_bd ho.1.1 ((hs.getD ((i : Int)).toNat []).getD 1 0 + (hs.getD ((i : Int)).toNat []).getD 5 0 + 1)
      have hl3 := lv_mono ho.1.1 (x := (hs.getD ((i : Int)).toNat []).getD 1 0 + (hs.getD ((i : Int)).toNat []).getD 5 0) (by omega)
      have hmu := mul_in (a := (hs.getD ((i : Int)).toNat []).getD 6 0) (A := 1000000) (b := lv f ls ((hs.getD ((i : Int)).toNat []).getD 1 0 + (hs.getD ((i : Int)).toNat []).getD 5 0) - lv f ls ((hs.getD ((i : Int)).toNat []).getD 1 0 + (hs.getD ((i : Int)).toNat []).getD 5 0 + 1)) (B := 1000000) (by omega) (by omega) (by omega) (by omega)
      have hel := eDs_len (f := f) (ls := ls) h1
      have hel1 := eDs_len (f := f) (ls := ls) (hs := hs) (i := i + 1) (by omega)
      have hen := eDs_next (f := f) (ls := ls) hi
      have hel2 : (eDs f ls hs i ++ [eD f ls (hs.getD i [])]).length = i + 1 := by rw [hen, hel1]
      repeat' (first | (intro h; first | contradiction | omega | (conv => whnf) | skip) | (refine And.intro ?_ ?_) | (refine arith_ok ⟨by omega, by omega⟩ ?_) | (first | (refine draw_quiet hT mixed (by decide +kernel) ?_) | (refine draw_hard hT mixed (by decide +kernel) ?_)) | (refine Ret.go (implDeaths_ret f ls _ ho.1.1 (by omega)) rfl rfl ?_) | (refine Ret.goQ (implDeaths_ret f ls _ ho.1.1 (by omega)) rfl rfl ?_) | (refine Ret.go (implLives_ret f ls _ ho.1.1 (by omega)) rfl rfl ?_) | (refine Ret.goQ (implLives_ret f ls _ ho.1.1 (by omega)) rfl rfl ?_) | (refine quo_ok ⟨by omega, by omega⟩ (by omega) (by omega) ?_) | (refine rem_ok (by omega) (by omega) ?_))
      all_goals first | omega | exact hel.symm | (rw [hel]; show (i + 1) * 8 ≤ _; omega) | rfl | skip
      all_goals first | ((conv => whnf); refine ⟨i + 1, by omega, ?_, by omega⟩; first | (refine ⟨rfl, [some 5], ?_, ?_⟩; all_goals (repeat' (first | exact rfl | exact trivial | omega | assumption | first | exact hel2 | exact congrArg (D.ints .i64) hen | refine And.intro ?_ ?_)); done) | (refine ⟨rfl, [some 4], ?_, ?_⟩; all_goals (repeat' (first | exact rfl | exact trivial | omega | assumption | first | exact hel2 | exact congrArg (D.ints .i64) hen | refine And.intro ?_ ?_)); done)) | trace_state
    · obtain rfl : i = hs.length := by omega
      repeat' (first | (intro h; first | contradiction | omega | (conv => whnf) | skip) | (refine And.intro ?_ ?_) | (refine arith_ok ⟨by omega, by omega⟩ ?_) | (first | (refine draw_quiet hT mixed (by decide +kernel) ?_) | (refine draw_hard hT mixed (by decide +kernel) ?_)) | fail)
      all_goals first | omega | skip
      refine ⟨[some 2], .sl 0 1 hs.length, [Di (eDs f ls hs hs.length)], ?_, ?_, ⟨rfl, rfl⟩⟩ <;> (repeat' (first | exact rfl | exact trivial | omega | refine And.intro ?_ ?_))
set_option maxHeartbeats 4000000 in
set_option maxRecDepth 100000 in
theorem specDths_call (f : Int) (ls : List Int) (r : Int) (hs : List (List Int)) (ho : okF f ls r hs) : CallA Tryz.prog G 86 [Bs f ls r, Rh hs] [] (fun v J => v = .sl 0 1 hs.length ∧ J = [Di (eDs f ls hs hs.length)]) := by
  refine CallA.ends (callA_of_body hT Tryz.func86 rfl ?_)
  have hl := ho.2.1
  repeat' (first | (intro h; first | contradiction | omega | (conv => whnf) | skip) | (refine And.intro ?_ ?_) | (refine arith_ok ⟨by omega, by omega⟩ ?_) | (first | (refine draw_quiet hT mixed (by decide +kernel) ?_) | (refine draw_hard hT mixed (by decide +kernel) ?_)) | fail)
  refine loop_rule hT (fun i : Nat => i ≤ hs.length) 51 2 [1, 2, 5, 6] (fun i => [Rh hs, .ptr 0 0, .sl 2 1 i, I i]) (fun i => [.cells [I f, Ri ls, I r], .dead, Di (eDs f ls hs i)]) (fun i => hs.length - i) (0) (Nat.le_of_ble_eq_true rfl) ?_ ?_ ?_
  · exact Nat.zero_le _
  · have h0 : eDs f ls hs 0 = [] := by unfold eDs; rfl
    (refine ⟨rfl, [some 1], ?_, ?_⟩; all_goals (repeat' (first | exact rfl | exact trivial | omega | assumption | exact congrArg (D.ints .i64) h0.symm | refine And.intro ?_ ?_)); done)
  · rintro i h1
    by_cases hi : i < hs.length
    · have hoh := ho.2.2 (hs.getD ((i : Int)).toNat []) (getD_mem hi)
      have hsm := okH_sum hoh
      have hdb := dur_bd hoh.1.1
      have hq := hoh.1.2.1
      have hlv := cD_lv ho.1.1 hoh.1.2.2
      have hl1 := lv_bd ho.1.1 ((hs.getD ((i : Int)).toNat []).getD 1 0 + (hs.getD ((i : Int)).toNat []).getD 5 0)
      have hl2 := lv_bd ho.1.1 ((hs.getD ((i : Int)).toNat []).getD 1 0 + (hs.getD ((i : Int)).toNat []).getD 5 0 + 1)
      have hl3 := lv_mono ho.1.1 (x := (hs.getD ((i : Int)).toNat []).getD 1 0 + (hs.getD ((i : Int)).toNat []).getD 5 0) (by omega)
      have hmu := mul_in (a := (hs.getD ((i : Int)).toNat []).getD 6 0) (A := 1000000) (b := lv f ls ((hs.getD ((i : Int)).toNat []).getD 1 0 + (hs.getD ((i : Int)).toNat []).getD 5 0) - lv f ls ((hs.getD ((i : Int)).toNat []).getD 1 0 + (hs.getD ((i : Int)).toNat []).getD 5 0 + 1)) (B := 1000000) (by omega) (by omega) (by omega) (by omega)
      have hel := eDs_len (f := f) (ls := ls) h1
      have hel1 := eDs_len (f := f) (ls := ls) (hs := hs) (i := i + 1) (by omega)
      have hen := eDs_next (f := f) (ls := ls) hi
      have hel2 : (eDs f ls hs i ++ [eD f ls (hs.getD i [])]).length = i + 1 := by rw [hen, hel1]
      repeat' (first | (intro h; first | contradiction | omega | (conv => whnf) | skip) | (refine And.intro ?_ ?_) | (refine arith_ok ⟨by omega, by omega⟩ ?_) | (first | (refine draw_quiet hT mixed (by decide +kernel) ?_) | (refine draw_hard hT mixed (by decide +kernel) ?_)) | (refine Ret.go (specLives_ret f ls _ ho.1.1 (by omega)) rfl rfl ?_) | (refine Ret.goQ (specLives_ret f ls _ ho.1.1 (by omega)) rfl rfl ?_) | (refine quo_ok ⟨by omega, by omega⟩ (by omega) (by omega) ?_) | (refine rem_ok (by omega) (by omega) ?_))
      all_goals first | omega | exact hel.symm | (rw [hel]; show (i + 1) * 8 ≤ _; omega) | rfl | skip
      all_goals first | ((conv => whnf); refine ⟨i + 1, by omega, ?_, by omega⟩; first | (refine ⟨rfl, [some 4], ?_, ?_⟩; all_goals (repeat' (first | exact rfl | exact trivial | omega | assumption | first | exact hel2 | exact congrArg (D.ints .i64) hen | refine And.intro ?_ ?_)); done) | (refine ⟨rfl, [some 5], ?_, ?_⟩; all_goals (repeat' (first | exact rfl | exact trivial | omega | assumption | first | exact hel2 | exact congrArg (D.ints .i64) hen | refine And.intro ?_ ?_)); done)) | trace_state
    · obtain rfl : i = hs.length := by omega
      repeat' (first | (intro h; first | contradiction | omega | (conv => whnf) | skip) | (refine And.intro ?_ ?_) | (refine arith_ok ⟨by omega, by omega⟩ ?_) | (first | (refine draw_quiet hT mixed (by decide +kernel) ?_) | (refine draw_hard hT mixed (by decide +kernel) ?_)) | fail)
      all_goals first | omega | skip
      refine ⟨[some 2], .sl 0 1 hs.length, [Di (eDs f ls hs hs.length)], ?_, ?_, ⟨rfl, rfl⟩⟩ <;> (repeat' (first | exact rfl | exact trivial | omega | refine And.intro ?_ ?_))
end Go.Proofs.YtenofbabiacacaaGreat
