/-
  Bases and policies: what the functions return. No conditions but those in the statements.
-/
import Derived.Test.YtenofbabiacacaaGreatSb
set_option linter.unusedVariables false
set_option linter.unusedSimpArgs false
namespace Go.Proofs.YtenofbabiacacaaGreat
open Go.AE

attribute [local irreducible] CallA LoopA DrawA CallQ arithK quoK remK eqK
theorem CallA.go0 {P : Program} {G : Nat → Option D} {f : FuncId} {args dargs : List AV} {H H0 J0 : List Blk} {r : AV} {K : AV → List Blk → Prop} (ids : List Nat) (h : CallA P G f dargs H0 fun v J => v = r ∧ J = J0) (hi : idsOk H.length ids = true)
    (ha : vmL (amV false ids H) args dargs) (hh : heapA false ids H ids H0) (hk : lenB H 0 fun n => mergeK ids (shB false ids n) J0 H fun H' => deepK (shV false ids n r) fun v => K v H') : CallA P G f args H K :=
  h.use false ids hi ha hh fun v J ⟨h1, h2⟩ => by
    subst h1 h2
    rw [lenB_eq, mergeK_eq, deepK_eq, Nat.zero_add] at hk
    exact hk
abbrev Bs (f : Int) (ls : List Int) (r : Int) : AV := .agg [I f, Ri ls, I r]
abbrev Po (k a y s l : Int) : AV := .agg [I k, I a, I y, I s, I l]
abbrev okB (f : Int) (ls : List Int) (r : Int) : Prop := okT f ls ∧ okR r
def okA (f k a y s : Int) : Prop := (0 ≤ k ∧ k ≤ 3) ∧ (f ≤ a ∧ a ≤ 150) ∧ (1 ≤ s ∧ s ≤ 100000000) ∧ (0 ≤ y ∧ y ≤ 120) ∧ a + y ≤ 150 ∧ (y = 0 ↔ k = 0)
def okP (f : Int) (ls : List Int) (r k a y s l : Int) : Prop := okB f ls r ∧ okA f k a y s ∧ (0 ≤ l ∧ l ≤ 1000) ∧ ∀ j : Nat, (j : Int) < max 1 y → cD f ls r (a + j) ≠ 0
noncomputable instance (f : Int) (ls : List Int) (r k a y s l : Int) : Decidable (okP f ls r k a y s l) := Classical.propDecidable _
noncomputable instance (f k a y s : Int) : Decidable (okA f k a y s) := Classical.propDecidable _
set_option maxRecDepth 100000 in
theorem implRate_ret (r : Int) : Ret Tryz.prog G 88 [I r] (Bo (decide (okR r))) := by
  refine ret_of_body hT Tryz.func88 rfl ?_ rfl
  repeat' (first | (intro h; first | contradiction | omega | (conv => whnf) | skip) | (refine And.intro ?_ ?_) | (refine arith_ok ⟨by omega, by omega⟩ ?_) | (first | (refine draw_quiet hT mixed (by decide +kernel) ?_) | (refine draw_hard hT mixed (by decide +kernel) ?_)) | (refine Ret.goP (inRange_ret _ _ _) rfl ?_) | (refine Ret.goQP (inRange_ret _ _ _) rfl ?_))
  all_goals first | exact bv_true (by assumption) | exact bv_false (by assumption)
set_option maxRecDepth 100000 in
theorem specRate_ret (r : Int) : Ret Tryz.prog G 83 [I r] (Bo (decide (okR r))) := by
  refine ret_of_body hT Tryz.func83 rfl ?_ rfl
  repeat' (first | (intro h; first | contradiction | omega | (conv => whnf) | skip) | (refine And.intro ?_ ?_) | (refine arith_ok ⟨by omega, by omega⟩ ?_) | (first | (refine draw_quiet hT mixed (by decide +kernel) ?_) | (refine draw_hard hT mixed (by decide +kernel) ?_)) | (refine Ret.goP (l01In_ret _ _ _) rfl ?_) | (refine Ret.goQP (l01In_ret _ _ _) rfl ?_))
  all_goals first | exact bv_true (by assumption) | exact bv_false (by assumption)
set_option maxRecDepth 100000 in
theorem implYears_ret (y : Int) : Ret Tryz.prog G 204 [I y] (Bo (decide (0 ≤ y ∧ y ≤ 120))) := by
  refine ret_of_body hT Tryz.func204 rfl ?_ rfl
  repeat' (first | (intro h; first | contradiction | omega | (conv => whnf) | skip) | (refine And.intro ?_ ?_) | (refine arith_ok ⟨by omega, by omega⟩ ?_) | (first | (refine draw_quiet hT mixed (by decide +kernel) ?_) | (refine draw_hard hT mixed (by decide +kernel) ?_)) | (refine Ret.goP (inRange_ret _ _ _) rfl ?_) | (refine Ret.goQP (inRange_ret _ _ _) rfl ?_))
  all_goals first | exact bv_true (by assumption) | exact bv_false (by assumption)
set_option maxRecDepth 100000 in
theorem specSum_ret (n : Int) : Ret Tryz.prog G 180 [I n] (Bo (decide (1 ≤ n ∧ n ≤ 100000000))) := by
  refine ret_of_body hT Tryz.func180 rfl ?_ rfl
  repeat' (first | (intro h; first | contradiction | omega | (conv => whnf) | skip) | (refine And.intro ?_ ?_) | (refine arith_ok ⟨by omega, by omega⟩ ?_) | (first | (refine draw_quiet hT mixed (by decide +kernel) ?_) | (refine draw_hard hT mixed (by decide +kernel) ?_)) | (refine Ret.goP (l01In_ret _ _ _) rfl ?_) | (refine Ret.goQP (l01In_ret _ _ _) rfl ?_))
  all_goals first | exact bv_true (by assumption) | exact bv_false (by assumption)
set_option maxRecDepth 100000 in
theorem implBasis_ret (f : Int) (ls : List Int) (r : Int) (hn : ls.length ≤ 1048576) : Ret Tryz.prog G 137 [Bs f ls r] (Bo (decide (okB f ls r))) := by
  refine ret_of_body hT Tryz.func137 rfl ?_ rfl
  repeat' (first | (intro h; first | contradiction | omega | (conv => whnf) | skip) | (refine And.intro ?_ ?_) | (refine arith_ok ⟨by omega, by omega⟩ ?_) | (first | (refine draw_quiet hT mixed (by decide +kernel) ?_) | (refine draw_hard hT mixed (by decide +kernel) ?_)) | (refine Ret.goP (implTable_ret f ls hn) rfl ?_) | (refine Ret.goQP (implTable_ret f ls hn) rfl ?_) | (refine Ret.goP (implRate_ret _) rfl ?_) | (refine Ret.goQP (implRate_ret _) rfl ?_))
  all_goals first | exact bv_true ⟨by assumption, by assumption⟩ | exact bv_false (fun h => absurd h.2 (by assumption)) | exact bv_false (fun h => absurd h.1 (by assumption)) | trace_state
set_option maxRecDepth 100000 in
theorem specBasis_ret (f : Int) (ls : List Int) (r : Int) (hn : ls.length ≤ 1048576) : Ret Tryz.prog G 133 [Bs f ls r] (Bo (decide (okB f ls r))) := by
  refine ret_of_body hT Tryz.func133 rfl ?_ rfl
  repeat' (first | (intro h; first | contradiction | omega | (conv => whnf) | skip) | (refine And.intro ?_ ?_) | (refine arith_ok ⟨by omega, by omega⟩ ?_) | (first | (refine draw_quiet hT mixed (by decide +kernel) ?_) | (refine draw_hard hT mixed (by decide +kernel) ?_)) | (refine Ret.goP (specTable_ret f ls hn) rfl ?_) | (refine Ret.goQP (specTable_ret f ls hn) rfl ?_) | (refine Ret.goP (specRate_ret _) rfl ?_) | (refine Ret.goQP (specRate_ret _) rfl ?_))
  all_goals first | exact bv_true ⟨by assumption, by assumption⟩ | exact bv_false (fun h => absurd h.2 (by assumption)) | exact bv_false (fun h => absurd h.1 (by assumption)) | trace_state
set_option maxRecDepth 100000 in
theorem implAssurance_ret (f : Int) (ls : List Int) (r k a y s : Int) (hf : -9000000000000000000 ≤ f) : Ret Tryz.prog G 181 [Tb f ls, I r, I k, I a, I y, I s] (Bo (decide (okR r ∧ okA f k a y s))) := by
  refine ret_of_body hT Tryz.func181 rfl ?_ rfl
  by_cases hk : k = 0
  · by_cases hy : y = 0
    · subst hk hy
      repeat' (first | (intro h; first | contradiction | omega | (conv => whnf) | skip) | (refine And.intro ?_ ?_) | (refine arith_ok ⟨by omega, by omega⟩ ?_) | (first | (refine draw_quiet hT mixed (by decide +kernel) ?_) | (refine draw_hard hT mixed (by decide +kernel) ?_)) | (refine Ret.goP (implRate_ret _) rfl ?_) | (refine Ret.goQP (implRate_ret _) rfl ?_) | (refine Ret.goP (implYears_ret _) rfl ?_) | (refine Ret.goQP (implYears_ret _) rfl ?_) | (refine Ret.goP (inRange_ret _ _ _) rfl ?_) | (refine Ret.goQP (inRange_ret _ _ _) rfl ?_))
      all_goals first | omega | (exact bv_true (by unfold okA; omega)) | (exact bv_false (by unfold okA; omega)) | trace_state
    · repeat' (first | (intro h; first | contradiction | omega | (conv => whnf) | skip) | (refine And.intro ?_ ?_) | (refine arith_ok ⟨by omega, by omega⟩ ?_) | (first | (refine draw_quiet hT mixed (by decide +kernel) ?_) | (refine draw_hard hT mixed (by decide +kernel) ?_)) | (refine Ret.goP (implRate_ret _) rfl ?_) | (refine Ret.goQP (implRate_ret _) rfl ?_) | (refine Ret.goP (implYears_ret _) rfl ?_) | (refine Ret.goQP (implYears_ret _) rfl ?_) | (refine Ret.goP (inRange_ret _ _ _) rfl ?_) | (refine Ret.goQP (inRange_ret _ _ _) rfl ?_))
      all_goals first | omega | (exact bv_true (by unfold okA; omega)) | (exact bv_false (by unfold okA; omega)) | trace_state
  · repeat' (first | (intro h; first | contradiction | omega | (conv => whnf) | skip) | (refine And.intro ?_ ?_) | (refine arith_ok ⟨by omega, by omega⟩ ?_) | (first | (refine draw_quiet hT mixed (by decide +kernel) ?_) | (refine draw_hard hT mixed (by decide +kernel) ?_)) | (refine Ret.goP (implRate_ret _) rfl ?_) | (refine Ret.goQP (implRate_ret _) rfl ?_) | (refine Ret.goP (implYears_ret _) rfl ?_) | (refine Ret.goQP (implYears_ret _) rfl ?_) | (refine Ret.goP (inRange_ret _ _ _) rfl ?_) | (refine Ret.goQP (inRange_ret _ _ _) rfl ?_))
    all_goals first | omega | (exact bv_true (by unfold okA; omega)) | (exact bv_false (by unfold okA; omega)) | trace_state
/-! The codes of the reference -/
set_option maxRecDepth 100000 in
theorem spec05_ret (f : Int) (ls : List Int) (r x : Int) (ho : okB f ls r) : Ret Tryz.prog G 212 [Tb f ls, I r, I x] (I (if f ≤ x ∧ x ≤ 150 then 0 else 2)) := by
  refine ret_of_body hT Tryz.func212 rfl ?_ rfl
  have h0 := ho.1.1
  unfold hdT at h0
  have hR := ho.2
  by_cases hx : f ≤ x ∧ x ≤ 150
  · rw [if_pos hx]
    repeat' (first | (intro h; first | contradiction | omega | (conv => whnf) | skip) | (refine And.intro ?_ ?_) | (refine arith_ok ⟨by omega, by omega⟩ ?_) | (first | (refine draw_quiet hT mixed (by decide +kernel) ?_) | (refine draw_hard hT mixed (by decide +kernel) ?_)) | (refine Ret.goP (specTable_ret f ls (by omega)) rfl ?_) | (refine Ret.goQP (specTable_ret f ls (by omega)) rfl ?_) | (refine Ret.goP (specRate_ret _) rfl ?_) | (refine Ret.goQP (specRate_ret _) rfl ?_) | (refine Ret.goP (l01In_ret _ _ _) rfl ?_) | (refine Ret.goQP (l01In_ret _ _ _) rfl ?_))
    all_goals first | rfl | omega | exact absurd ho.1 (by assumption) | trace_state
  · rw [if_neg hx]
    repeat' (first | (intro h; first | contradiction | omega | (conv => whnf) | skip) | (refine And.intro ?_ ?_) | (refine arith_ok ⟨by omega, by omega⟩ ?_) | (first | (refine draw_quiet hT mixed (by decide +kernel) ?_) | (refine draw_hard hT mixed (by decide +kernel) ?_)) | (refine Ret.goP (specTable_ret f ls (by omega)) rfl ?_) | (refine Ret.goQP (specTable_ret f ls (by omega)) rfl ?_) | (refine Ret.goP (specRate_ret _) rfl ?_) | (refine Ret.goQP (specRate_ret _) rfl ?_) | (refine Ret.goP (l01In_ret _ _ _) rfl ?_) | (refine Ret.goQP (l01In_ret _ _ _) rfl ?_))
    all_goals first | rfl | omega | exact absurd ho.1 (by assumption) | trace_state
def c06 (f : Int) (ls : List Int) (r a : Int) (b : Bool) (y : Int) : Int := if (f ≤ a ∧ a ≤ 150) ∧ b = true ∧ (0 ≤ y ∧ y ≤ 120) ∧ a + y ≤ 150 then (if cD f ls r a = 0 then 5 else 0) else 2
set_option maxRecDepth 100000 in
theorem spec06_ret (f : Int) (ls : List Int) (r a : Int) (b : Bool) (y : Int) (ho : okB f ls r) : Ret Tryz.prog G 203 [Tb f ls, I r, I a, Bo b, I y] (I (c06 f ls r a b y)) := by
  refine ret_of_body hT Tryz.func203 rfl ?_ rfl
  have h5 := spec05_ret f ls r a ho
  have h0 := ho.1.1
  unfold hdT at h0
  by_cases hx : f ≤ a ∧ a ≤ 150
  · rw [if_pos hx] at h5
    cases b
    · have hc : c06 f ls r a false y = 2 := if_neg (fun e => by have := e.2.1; cases this)
      rw [hc]
      repeat' (first | (intro h; first | contradiction | omega | (conv => whnf) | skip) | (refine And.intro ?_ ?_) | (refine arith_ok ⟨by omega, by omega⟩ ?_) | (first | (refine draw_quiet hT mixed (by decide +kernel) ?_) | (refine draw_hard hT mixed (by decide +kernel) ?_)) | (refine Ret.go (h5) rfl rfl ?_) | (refine Ret.goQ (h5) rfl rfl ?_) | (refine Ret.goP (l01In_ret _ _ _) rfl ?_) | (refine Ret.goQP (l01In_ret _ _ _) rfl ?_))
      all_goals first | rfl | omega | trace_state
    · by_cases hy : (0 ≤ y ∧ y ≤ 120) ∧ a + y ≤ 150
      · have hc : c06 f ls r a true y = if cD f ls r a = 0 then 5 else 0 := if_pos ⟨hx, rfl, hy⟩
        rw [hc]
        by_cases hd : cD f ls r a = 0
        · rw [if_pos hd]
          repeat' (first | (intro h; first | contradiction | omega | (conv => whnf) | skip) | (refine And.intro ?_ ?_) | (refine arith_ok ⟨by omega, by omega⟩ ?_) | (first | (refine draw_quiet hT mixed (by decide +kernel) ?_) | (refine draw_hard hT mixed (by decide +kernel) ?_)) | (refine Ret.go (h5) rfl rfl ?_) | (refine Ret.goQ (h5) rfl rfl ?_) | (refine Ret.goP (l01In_ret _ _ _) rfl ?_) | (refine Ret.goQP (l01In_ret _ _ _) rfl ?_) | (refine Ret.go (specD_ret f ls r a ho.1 ho.2 (by omega)) rfl rfl ?_) | (refine Ret.goQ (specD_ret f ls r a ho.1 ho.2 (by omega)) rfl rfl ?_))
          all_goals first | rfl | omega | trace_state
        · rw [if_neg hd]
          repeat' (first | (intro h; first | contradiction | omega | (conv => whnf) | skip) | (refine And.intro ?_ ?_) | (refine arith_ok ⟨by omega, by omega⟩ ?_) | (first | (refine draw_quiet hT mixed (by decide +kernel) ?_) | (refine draw_hard hT mixed (by decide +kernel) ?_)) | (refine Ret.go (h5) rfl rfl ?_) | (refine Ret.goQ (h5) rfl rfl ?_) | (refine Ret.goP (l01In_ret _ _ _) rfl ?_) | (refine Ret.goQP (l01In_ret _ _ _) rfl ?_) | (refine Ret.go (specD_ret f ls r a ho.1 ho.2 (by omega)) rfl rfl ?_) | (refine Ret.goQ (specD_ret f ls r a ho.1 ho.2 (by omega)) rfl rfl ?_))
          all_goals first | rfl | omega | trace_state
      · have hc : c06 f ls r a true y = 2 := if_neg (fun e => hy e.2.2)
        rw [hc]
        repeat' (first | (intro h; first | contradiction | omega | (conv => whnf) | skip) | (refine And.intro ?_ ?_) | (refine arith_ok ⟨by omega, by omega⟩ ?_) | (first | (refine draw_quiet hT mixed (by decide +kernel) ?_) | (refine draw_hard hT mixed (by decide +kernel) ?_)) | (refine Ret.go (h5) rfl rfl ?_) | (refine Ret.goQ (h5) rfl rfl ?_) | (refine Ret.goP (l01In_ret _ _ _) rfl ?_) | (refine Ret.goQP (l01In_ret _ _ _) rfl ?_))
        all_goals first | rfl | omega | trace_state
  · rw [if_neg hx] at h5
    have hc : c06 f ls r a b y = 2 := if_neg (fun e => hx e.1)
    rw [hc]
    repeat' (first | (intro h; first | contradiction | omega | (conv => whnf) | skip) | (refine And.intro ?_ ?_) | (refine arith_ok ⟨by omega, by omega⟩ ?_) | (first | (refine draw_quiet hT mixed (by decide +kernel) ?_) | (refine draw_hard hT mixed (by decide +kernel) ?_)) | (refine Ret.go (h5) rfl rfl ?_) | (refine Ret.goQ (h5) rfl rfl ?_))
    all_goals first | rfl | omega | trace_state
set_option maxRecDepth 100000 in
theorem spec07_ret (f : Int) (ls : List Int) (r k a y : Int) (b : Bool) (ho : okB f ls r) : Ret Tryz.prog G 179 [Tb f ls, I r, I k, I a, I y, Bo b] (I (c06 f ls r a (b && decide ((0 ≤ k ∧ k ≤ 3) ∧ (y = 0 ↔ k = 0))) y)) := by
  refine ret_of_body hT Tryz.func179 rfl ?_ rfl
  cases b
  · rw [Bool.false_and]
    by_cases hk : k = 0
    · by_cases hy : y = 0
      · repeat' (first | (intro h; first | contradiction | omega | (conv => whnf) | skip) | (refine And.intro ?_ ?_) | (refine arith_ok ⟨by omega, by omega⟩ ?_) | (first | (refine draw_quiet hT mixed (by decide +kernel) ?_) | (refine draw_hard hT mixed (by decide +kernel) ?_)) | (refine Ret.go (spec06_ret f ls r a _ y ho) rfl rfl ?_) | (refine Ret.goQ (spec06_ret f ls r a _ y ho) rfl rfl ?_) | (refine Ret.goP (l01In_ret _ _ _) rfl ?_) | (refine Ret.goQP (l01In_ret _ _ _) rfl ?_))
        all_goals first | rfl | omega | trace_state
      · repeat' (first | (intro h; first | contradiction | omega | (conv => whnf) | skip) | (refine And.intro ?_ ?_) | (refine arith_ok ⟨by omega, by omega⟩ ?_) | (first | (refine draw_quiet hT mixed (by decide +kernel) ?_) | (refine draw_hard hT mixed (by decide +kernel) ?_)) | (refine Ret.go (spec06_ret f ls r a _ y ho) rfl rfl ?_) | (refine Ret.goQ (spec06_ret f ls r a _ y ho) rfl rfl ?_) | (refine Ret.goP (l01In_ret _ _ _) rfl ?_) | (refine Ret.goQP (l01In_ret _ _ _) rfl ?_))
        all_goals first | rfl | omega | trace_state
    · repeat' (first | (intro h; first | contradiction | omega | (conv => whnf) | skip) | (refine And.intro ?_ ?_) | (refine arith_ok ⟨by omega, by omega⟩ ?_) | (first | (refine draw_quiet hT mixed (by decide +kernel) ?_) | (refine draw_hard hT mixed (by decide +kernel) ?_)) | (refine Ret.go (spec06_ret f ls r a _ y ho) rfl rfl ?_) | (refine Ret.goQ (spec06_ret f ls r a _ y ho) rfl rfl ?_) | (refine Ret.goP (l01In_ret _ _ _) rfl ?_) | (refine Ret.goQP (l01In_ret _ _ _) rfl ?_))
      all_goals first | rfl | omega | trace_state
  · rw [Bool.true_and]
    by_cases hh : (0 ≤ k ∧ k ≤ 3) ∧ (y = 0 ↔ k = 0)
    · rw [decide_eq_true hh]
      by_cases hk : k = 0
      · repeat' (first | (intro h; first | contradiction | omega | (conv => whnf) | skip) | (refine And.intro ?_ ?_) | (refine arith_ok ⟨by omega, by omega⟩ ?_) | (first | (refine draw_quiet hT mixed (by decide +kernel) ?_) | (refine draw_hard hT mixed (by decide +kernel) ?_)) | (refine Ret.go (spec06_ret f ls r a _ y ho) rfl rfl ?_) | (refine Ret.goQ (spec06_ret f ls r a _ y ho) rfl rfl ?_) | (refine Ret.goP (l01In_ret _ _ _) rfl ?_) | (refine Ret.goQP (l01In_ret _ _ _) rfl ?_))
        all_goals first | rfl | omega | trace_state
      · repeat' (first | (intro h; first | contradiction | omega | (conv => whnf) | skip) | (refine And.intro ?_ ?_) | (refine arith_ok ⟨by omega, by omega⟩ ?_) | (first | (refine draw_quiet hT mixed (by decide +kernel) ?_) | (refine draw_hard hT mixed (by decide +kernel) ?_)) | (refine Ret.go (spec06_ret f ls r a _ y ho) rfl rfl ?_) | (refine Ret.goQ (spec06_ret f ls r a _ y ho) rfl rfl ?_) | (refine Ret.goP (l01In_ret _ _ _) rfl ?_) | (refine Ret.goQP (l01In_ret _ _ _) rfl ?_))
        all_goals first | rfl | omega | trace_state
    · rw [decide_eq_false hh]
      by_cases hk : k = 0
      · repeat' (first | (intro h; first | contradiction | omega | (conv => whnf) | skip) | (refine And.intro ?_ ?_) | (refine arith_ok ⟨by omega, by omega⟩ ?_) | (first | (refine draw_quiet hT mixed (by decide +kernel) ?_) | (refine draw_hard hT mixed (by decide +kernel) ?_)) | (refine Ret.go (spec06_ret f ls r a _ y ho) rfl rfl ?_) | (refine Ret.goQ (spec06_ret f ls r a _ y ho) rfl rfl ?_) | (refine Ret.goP (l01In_ret _ _ _) rfl ?_) | (refine Ret.goQP (l01In_ret _ _ _) rfl ?_))
        all_goals first | rfl | omega | trace_state
      · repeat' (first | (intro h; first | contradiction | omega | (conv => whnf) | skip) | (refine And.intro ?_ ?_) | (refine arith_ok ⟨by omega, by omega⟩ ?_) | (first | (refine draw_quiet hT mixed (by decide +kernel) ?_) | (refine draw_hard hT mixed (by decide +kernel) ?_)) | (refine Ret.go (spec06_ret f ls r a _ y ho) rfl rfl ?_) | (refine Ret.goQ (spec06_ret f ls r a _ y ho) rfl rfl ?_) | (refine Ret.goP (l01In_ret _ _ _) rfl ?_) | (refine Ret.goQP (l01In_ret _ _ _) rfl ?_))
        all_goals first | rfl | omega | trace_state
set_option maxRecDepth 100000 in
theorem at_ret (f : Int) (ls : List Int) (r x : Int) (ho : okT f ls) (hx : f ≤ x ∧ x ≤ 150) : Ret Tryz.prog G 182 [Bs f ls r, Rc (cols f ls r), I x] (.agg [I (cD f ls r x), I (cN f ls r x), I (cC f ls r x), I (cM f ls r x)]) := by
  refine ret_of_body hT Tryz.func182 rfl ?_ rfl
  have h0 := ho.1
  unfold hdT at h0
  have hl := cols_len f ls r
  have hc := cols_at (ls := ls) (r := r) hx.1 hx.2
  repeat' (first | (intro h; first | contradiction | omega | (conv => whnf) | skip) | (refine And.intro ?_ ?_) | (refine arith_ok ⟨by omega, by omega⟩ ?_) | (first | (refine draw_quiet hT mixed (by decide +kernel) ?_) | (refine draw_hard hT mixed (by decide +kernel) ?_)) | fail)
  all_goals first | rfl | omega | skip
  all_goals ((conv => whnf); rw [hc]; rfl)
theorem dn_snoc {f : Int} {ls : List Int} {r a : Int} {k : Nat} (h : ∀ j, j < k → cD f ls r (a + (j : Nat)) ≠ 0) (hk : cD f ls r (a + (k : Nat)) ≠ 0) : ∀ j, j < k + 1 → cD f ls r (a + (j : Nat)) ≠ 0 := fun j hj => by
  by_cases he : j = k
  · rw [he]; exact hk
  · exact h j (by omega)
attribute [local irreducible] cols cN cM cD cC
set_option maxHeartbeats 4000000 in
set_option maxRecDepth 100000 in
theorem implPolicy_ret (f : Int) (ls : List Int) (r k a y s l : Int) (hn : ls.length ≤ 1048576) : Ret Tryz.prog G 149 [Bs f ls r, Po k a y s l] (Bo (decide (okP f ls r k a y s l))) := by
  refine ret_of_body hT Tryz.func149 rfl ?_ rfl
  by_cases hb : okB f ls r
  · by_cases ha : (okR r ∧ okA f k a y s) ∧ (0 ≤ l ∧ l ≤ 1000)
    · have h0 := hb.1.1
      unfold hdT at h0
      have ha' := ha.1.2
      unfold okA at ha'
      repeat' (first | (intro h; first | contradiction | omega | (conv => whnf) | skip) | (refine And.intro ?_ ?_) | (refine arith_ok ⟨by omega, by omega⟩ ?_) | (first | (refine draw_quiet hT mixed (by decide +kernel) ?_) | (refine draw_hard hT mixed (by decide +kernel) ?_)) | (refine Ret.goP (implBasis_ret f ls r hn) rfl ?_) | (refine Ret.goQP (implBasis_ret f ls r hn) rfl ?_) | (refine Ret.goP (implAssurance_ret f ls r k a y s (by omega)) rfl ?_) | (refine Ret.goQP (implAssurance_ret f ls r k a y s (by omega)) rfl ?_) | (refine Ret.goP (inRange_ret _ _ _) rfl ?_) | (refine Ret.goQP (inRange_ret _ _ _) rfl ?_) | (refine CallA.go0 [] (columns_ro f ls r hb.1 hb.2) rfl (by first | ((repeat' (first | exact rfl | exact trivial | (with_reducible assumption) | refine And.intro ?_ ?_ | omega | assumption)); done) | fail) trivial ?_))
      all_goals first | omega | exact absurd hb (by assumption) | exact absurd ha.1 (by assumption) | skip
      refine loop_rule hT (fun j : Nat => (j : Int) ≤ max 1 y ∧ ∀ i, i < j → cD f ls r (a + (i : Nat)) ≠ 0) 53 2 [2, 3, 5, 39, 40] (fun j => [.ptr 0 0, .ptr 1 0, Rc (cols f ls r), I (max 1 y), I j]) (fun _ => [.cells [I f, Ri ls, I r], .cells [I k, I a, I y, I s, I l]]) (fun j => (max 1 y).toNat - j) (0) (Nat.le_of_ble_eq_true rfl) ?_ ?_ ?_
      · exact ⟨by omega, fun i hi => absurd hi (Nat.not_lt_zero i)⟩
      · (first | (refine ⟨rfl, [], ?_, ?_⟩; all_goals (repeat' (first | exact rfl | exact trivial | (with_reducible assumption) | refine And.intro ?_ ?_)); all_goals (first | omega | assumption); done) | (refine ⟨rfl, [some 1], ?_, ?_⟩; all_goals (repeat' (first | exact rfl | exact trivial | (with_reducible assumption) | refine And.intro ?_ ?_)); all_goals (first | omega | assumption); done) | (refine ⟨rfl, [some 2], ?_, ?_⟩; all_goals (repeat' (first | exact rfl | exact trivial | (with_reducible assumption) | refine And.intro ?_ ?_)); all_goals (first | omega | assumption); done) | (refine ⟨rfl, [some 3], ?_, ?_⟩; all_goals (repeat' (first | exact rfl | exact trivial | (with_reducible assumption) | refine And.intro ?_ ?_)); all_goals (first | omega | assumption); done) | (refine ⟨rfl, [some 0], ?_, ?_⟩; all_goals (repeat' (first | exact rfl | exact trivial | (with_reducible assumption) | refine And.intro ?_ ?_)); all_goals (first | omega | assumption); done) | (refine ⟨rfl, [some 4], ?_, ?_⟩; all_goals (repeat' (first | exact rfl | exact trivial | (with_reducible assumption) | refine And.intro ?_ ?_)); all_goals (first | omega | assumption); done) | (refine ⟨rfl, [some 5], ?_, ?_⟩; all_goals (repeat' (first | exact rfl | exact trivial | (with_reducible assumption) | refine And.intro ?_ ?_)); all_goals (first | omega | assumption); done) | (refine ⟨rfl, [some 6], ?_, ?_⟩; all_goals (repeat' (first | exact rfl | exact trivial | (with_reducible assumption) | refine And.intro ?_ ?_)); all_goals (first | omega | assumption); done))
      · rintro j ⟨h1, h2⟩
        by_cases hj : (j : Int) < max 1 y
        · by_cases hd : cD f ls r (a + (j : Nat)) = 0
          · repeat' (first | (intro h; first | contradiction | omega | (conv => whnf) | skip) | (refine And.intro ?_ ?_) | (refine arith_ok ⟨by omega, by omega⟩ ?_) | (first | (refine draw_quiet hT mixed (by decide +kernel) ?_) | (refine draw_hard hT mixed (by decide +kernel) ?_)) | (refine Ret.go (at_ret f ls r _ hb.1 (by omega)) rfl rfl ?_) | (refine Ret.goQ (at_ret f ls r _ hb.1 (by omega)) rfl rfl ?_))
            all_goals first | omega | (exact bv_false fun ho => ho.2.2.2 j hj hd) | exact absurd hd (by assumption) | trace_state
          · repeat' (first | (intro h; first | contradiction | omega | (conv => whnf) | skip) | (refine And.intro ?_ ?_) | (refine arith_ok ⟨by omega, by omega⟩ ?_) | (first | (refine draw_quiet hT mixed (by decide +kernel) ?_) | (refine draw_hard hT mixed (by decide +kernel) ?_)) | (refine Ret.go (at_ret f ls r _ hb.1 (by omega)) rfl rfl ?_) | (refine Ret.goQ (at_ret f ls r _ hb.1 (by omega)) rfl rfl ?_))
            all_goals first | omega | exact absurd (by assumption) hd | (refine ⟨j + 1, ⟨by omega, dn_snoc h2 hd⟩, ?_, by omega⟩; (first | (refine ⟨rfl, [], ?_, ?_⟩; all_goals (repeat' (first | exact rfl | exact trivial | (with_reducible assumption) | refine And.intro ?_ ?_)); all_goals (first | omega | assumption); done) | (refine ⟨rfl, [some 1], ?_, ?_⟩; all_goals (repeat' (first | exact rfl | exact trivial | (with_reducible assumption) | refine And.intro ?_ ?_)); all_goals (first | omega | assumption); done) | (refine ⟨rfl, [some 2], ?_, ?_⟩; all_goals (repeat' (first | exact rfl | exact trivial | (with_reducible assumption) | refine And.intro ?_ ?_)); all_goals (first | omega | assumption); done) | (refine ⟨rfl, [some 3], ?_, ?_⟩; all_goals (repeat' (first | exact rfl | exact trivial | (with_reducible assumption) | refine And.intro ?_ ?_)); all_goals (first | omega | assumption); done) | (refine ⟨rfl, [some 0], ?_, ?_⟩; all_goals (repeat' (first | exact rfl | exact trivial | (with_reducible assumption) | refine And.intro ?_ ?_)); all_goals (first | omega | assumption); done) | (refine ⟨rfl, [some 4], ?_, ?_⟩; all_goals (repeat' (first | exact rfl | exact trivial | (with_reducible assumption) | refine And.intro ?_ ?_)); all_goals (first | omega | assumption); done) | (refine ⟨rfl, [some 5], ?_, ?_⟩; all_goals (repeat' (first | exact rfl | exact trivial | (with_reducible assumption) | refine And.intro ?_ ?_)); all_goals (first | omega | assumption); done) | (refine ⟨rfl, [some 6], ?_, ?_⟩; all_goals (repeat' (first | exact rfl | exact trivial | (with_reducible assumption) | refine And.intro ?_ ?_)); all_goals (first | omega | assumption); done))) | trace_state
        · repeat' (first | (intro h; first | contradiction | omega | (conv => whnf) | skip) | (refine And.intro ?_ ?_) | (refine arith_ok ⟨by omega, by omega⟩ ?_) | (first | (refine draw_quiet hT mixed (by decide +kernel) ?_) | (refine draw_hard hT mixed (by decide +kernel) ?_)) | fail)
          all_goals first | omega | (exact bv_true ⟨hb, ha.1.2, ha.2, fun i hi => h2 i (by omega)⟩) | trace_state
    · have h0 := hb.1.1
      unfold hdT at h0
      repeat' (first | (intro h; first | contradiction | omega | (conv => whnf) | skip) | (refine And.intro ?_ ?_) | (refine arith_ok ⟨by omega, by omega⟩ ?_) | (first | (refine draw_quiet hT mixed (by decide +kernel) ?_) | (refine draw_hard hT mixed (by decide +kernel) ?_)) | (refine Ret.goP (implBasis_ret f ls r hn) rfl ?_) | (refine Ret.goQP (implBasis_ret f ls r hn) rfl ?_) | (refine Ret.goP (implAssurance_ret f ls r k a y s (by omega)) rfl ?_) | (refine Ret.goQP (implAssurance_ret f ls r k a y s (by omega)) rfl ?_) | (refine Ret.goP (inRange_ret _ _ _) rfl ?_) | (refine Ret.goQP (inRange_ret _ _ _) rfl ?_))
      all_goals first | omega | exact absurd hb (by assumption) | (exact bv_false fun ho => ha ⟨⟨hb.2, ho.2.1⟩, ho.2.2.1⟩) | exact absurd ⟨by assumption, by assumption⟩ ha | trace_state
  · repeat' (first | (intro h; first | contradiction | omega | (conv => whnf) | skip) | (refine And.intro ?_ ?_) | (refine arith_ok ⟨by omega, by omega⟩ ?_) | (first | (refine draw_quiet hT mixed (by decide +kernel) ?_) | (refine draw_hard hT mixed (by decide +kernel) ?_)) | (refine Ret.goP (implBasis_ret f ls r hn) rfl ?_) | (refine Ret.goQP (implBasis_ret f ls r hn) rfl ?_))
    all_goals first | omega | exact absurd (by assumption) hb | (exact bv_false fun ho => hb ho.1) | trace_state
set_option maxHeartbeats 4000000 in
set_option maxRecDepth 100000 in
theorem specPolicy_ret (f : Int) (ls : List Int) (r k a y s l : Int) (hn : ls.length ≤ 1048576) : Ret Tryz.prog G 144 [Bs f ls r, Po k a y s l] (Bo (decide (okP f ls r k a y s l))) := by
  refine ret_of_body hT Tryz.func144 rfl ?_ rfl
  by_cases hb : okB f ls r
  · by_cases hl : 0 ≤ l ∧ l ≤ 1000
    · have h7 := spec07_ret f ls r k a y (decide (1 ≤ s ∧ s ≤ 100000000)) hb
      have h0 := hb.1.1
      unfold hdT at h0
      by_cases hA : okA f k a y s
      · have ha' := hA
        unfold okA at ha'
        rw [decide_eq_true (show 1 ≤ s ∧ s ≤ 100000000 by omega), decide_eq_true (show (0 ≤ k ∧ k ≤ 3) ∧ (y = 0 ↔ k = 0) by omega), Bool.true_and] at h7
        by_cases hd : cD f ls r a = 0
        · have hc : c06 f ls r a true y = 5 := (if_pos ⟨by omega, rfl, by omega⟩).trans (if_pos hd)
          rw [hc] at h7
          have hnp : ¬ okP f ls r k a y s l := fun ho => ho.2.2.2 0 (by omega) (by rw [show a + ((0 : Nat) : Int) = a by omega]; exact hd)
          repeat' (first | (intro h; first | contradiction | omega | (conv => whnf) | skip) | (refine And.intro ?_ ?_) | (refine arith_ok ⟨by omega, by omega⟩ ?_) | (first | (refine draw_quiet hT mixed (by decide +kernel) ?_) | (refine draw_hard hT mixed (by decide +kernel) ?_)) | (refine Ret.goP (specBasis_ret f ls r hn) rfl ?_) | (refine Ret.goQP (specBasis_ret f ls r hn) rfl ?_) | (refine Ret.goP (l01In_ret _ _ _) rfl ?_) | (refine Ret.goQP (l01In_ret _ _ _) rfl ?_) | (refine Ret.goP (specSum_ret _) rfl ?_) | (refine Ret.goQP (specSum_ret _) rfl ?_) | (refine Ret.go (h7) rfl rfl ?_) | (refine Ret.goQ (h7) rfl rfl ?_))
          all_goals first | omega | exact absurd hb (by assumption) | exact bv_false hnp | trace_state
        · have hc : c06 f ls r a true y = 0 := (if_pos ⟨by omega, rfl, by omega⟩).trans (if_neg hd)
          rw [hc] at h7
          repeat' (first | (intro h; first | contradiction | omega | (conv => whnf) | skip) | (refine And.intro ?_ ?_) | (refine arith_ok ⟨by omega, by omega⟩ ?_) | (first | (refine draw_quiet hT mixed (by decide +kernel) ?_) | (refine draw_hard hT mixed (by decide +kernel) ?_)) | (refine Ret.goP (specBasis_ret f ls r hn) rfl ?_) | (refine Ret.goQP (specBasis_ret f ls r hn) rfl ?_) | (refine Ret.goP (l01In_ret _ _ _) rfl ?_) | (refine Ret.goQP (l01In_ret _ _ _) rfl ?_) | (refine Ret.goP (specSum_ret _) rfl ?_) | (refine Ret.goQP (specSum_ret _) rfl ?_) | (refine Ret.go (h7) rfl rfl ?_) | (refine Ret.goQ (h7) rfl rfl ?_))
          all_goals first | omega | exact absurd hb (by assumption) | skip
          refine loop_rule hT (fun j : Nat => (j : Int) ≤ y ∧ ∀ i, i < j → cD f ls r (a + (i : Nat)) ≠ 0) 46 2 [2, 3, 5] (fun j => [.ptr 0 0, .ptr 1 0, I j]) (fun _ => [.cells [I f, Ri ls, I r], .cells [I k, I a, I y, I s, I l]]) (fun j => y.toNat - j) (0) (Nat.le_of_ble_eq_true rfl) ?_ ?_ ?_
          · exact ⟨by omega, fun i hi => absurd hi (Nat.not_lt_zero i)⟩
          · (first | (refine ⟨rfl, [], ?_, ?_⟩; all_goals (repeat' (first | exact rfl | exact trivial | (with_reducible assumption) | refine And.intro ?_ ?_)); all_goals (first | omega | assumption); done) | (refine ⟨rfl, [some 1], ?_, ?_⟩; all_goals (repeat' (first | exact rfl | exact trivial | (with_reducible assumption) | refine And.intro ?_ ?_)); all_goals (first | omega | assumption); done) | (refine ⟨rfl, [some 2], ?_, ?_⟩; all_goals (repeat' (first | exact rfl | exact trivial | (with_reducible assumption) | refine And.intro ?_ ?_)); all_goals (first | omega | assumption); done) | (refine ⟨rfl, [some 3], ?_, ?_⟩; all_goals (repeat' (first | exact rfl | exact trivial | (with_reducible assumption) | refine And.intro ?_ ?_)); all_goals (first | omega | assumption); done) | (refine ⟨rfl, [some 0], ?_, ?_⟩; all_goals (repeat' (first | exact rfl | exact trivial | (with_reducible assumption) | refine And.intro ?_ ?_)); all_goals (first | omega | assumption); done) | (refine ⟨rfl, [some 4], ?_, ?_⟩; all_goals (repeat' (first | exact rfl | exact trivial | (with_reducible assumption) | refine And.intro ?_ ?_)); all_goals (first | omega | assumption); done) | (refine ⟨rfl, [some 5], ?_, ?_⟩; all_goals (repeat' (first | exact rfl | exact trivial | (with_reducible assumption) | refine And.intro ?_ ?_)); all_goals (first | omega | assumption); done) | (refine ⟨rfl, [some 6], ?_, ?_⟩; all_goals (repeat' (first | exact rfl | exact trivial | (with_reducible assumption) | refine And.intro ?_ ?_)); all_goals (first | omega | assumption); done))
          · rintro j ⟨h1, h2⟩
            by_cases hj : (j : Int) < y
            · by_cases hd2 : cD f ls r (a + (j : Nat)) = 0
              · repeat' (first | (intro h; first | contradiction | omega | (conv => whnf) | skip) | (refine And.intro ?_ ?_) | (refine arith_ok ⟨by omega, by omega⟩ ?_) | (first | (refine draw_quiet hT mixed (by decide +kernel) ?_) | (refine draw_hard hT mixed (by decide +kernel) ?_)) | (refine Ret.go (specD_ret f ls r _ hb.1 hb.2 (by omega)) rfl rfl ?_) | (refine Ret.goQ (specD_ret f ls r _ hb.1 hb.2 (by omega)) rfl rfl ?_))
                all_goals first | omega | (exact bv_false fun ho => ho.2.2.2 j (by omega) hd2) | exact absurd hd2 (by assumption) | trace_state
              · repeat' (first | (intro h; first | contradiction | omega | (conv => whnf) | skip) | (refine And.intro ?_ ?_) | (refine arith_ok ⟨by omega, by omega⟩ ?_) | (first | (refine draw_quiet hT mixed (by decide +kernel) ?_) | (refine draw_hard hT mixed (by decide +kernel) ?_)) | (refine Ret.go (specD_ret f ls r _ hb.1 hb.2 (by omega)) rfl rfl ?_) | (refine Ret.goQ (specD_ret f ls r _ hb.1 hb.2 (by omega)) rfl rfl ?_))
                all_goals first | omega | exact absurd (by assumption) hd2 | (refine ⟨j + 1, ⟨by omega, dn_snoc h2 hd2⟩, ?_, by omega⟩; (first | (refine ⟨rfl, [], ?_, ?_⟩; all_goals (repeat' (first | exact rfl | exact trivial | (with_reducible assumption) | refine And.intro ?_ ?_)); all_goals (first | omega | assumption); done) | (refine ⟨rfl, [some 1], ?_, ?_⟩; all_goals (repeat' (first | exact rfl | exact trivial | (with_reducible assumption) | refine And.intro ?_ ?_)); all_goals (first | omega | assumption); done) | (refine ⟨rfl, [some 2], ?_, ?_⟩; all_goals (repeat' (first | exact rfl | exact trivial | (with_reducible assumption) | refine And.intro ?_ ?_)); all_goals (first | omega | assumption); done) | (refine ⟨rfl, [some 3], ?_, ?_⟩; all_goals (repeat' (first | exact rfl | exact trivial | (with_reducible assumption) | refine And.intro ?_ ?_)); all_goals (first | omega | assumption); done) | (refine ⟨rfl, [some 0], ?_, ?_⟩; all_goals (repeat' (first | exact rfl | exact trivial | (with_reducible assumption) | refine And.intro ?_ ?_)); all_goals (first | omega | assumption); done) | (refine ⟨rfl, [some 4], ?_, ?_⟩; all_goals (repeat' (first | exact rfl | exact trivial | (with_reducible assumption) | refine And.intro ?_ ?_)); all_goals (first | omega | assumption); done) | (refine ⟨rfl, [some 5], ?_, ?_⟩; all_goals (repeat' (first | exact rfl | exact trivial | (with_reducible assumption) | refine And.intro ?_ ?_)); all_goals (first | omega | assumption); done) | (refine ⟨rfl, [some 6], ?_, ?_⟩; all_goals (repeat' (first | exact rfl | exact trivial | (with_reducible assumption) | refine And.intro ?_ ?_)); all_goals (first | omega | assumption); done))) | trace_state
            · have hall : ∀ j : Nat, (j : Int) < max 1 y → cD f ls r (a + j) ≠ 0 := fun i hi => by
                by_cases hz : i = 0
                · subst hz; rw [show a + ((0 : Nat) : Int) = a by omega]; exact hd
                · exact h2 i (by omega)
              repeat' (first | (intro h; first | contradiction | omega | (conv => whnf) | skip) | (refine And.intro ?_ ?_) | (refine arith_ok ⟨by omega, by omega⟩ ?_) | (first | (refine draw_quiet hT mixed (by decide +kernel) ?_) | (refine draw_hard hT mixed (by decide +kernel) ?_)) | fail)
              all_goals first | omega | (exact bv_true ⟨hb, hA, hl, hall⟩) | trace_state
      · have hnp : ¬ okP f ls r k a y s l := fun ho => hA ho.2.1
        have hc : c06 f ls r a (decide (1 ≤ s ∧ s ≤ 100000000) && decide ((0 ≤ k ∧ k ≤ 3) ∧ (y = 0 ↔ k = 0))) y = 2 := if_neg (fun e => hA (by
          obtain ⟨e1, e2, e3⟩ := e
          rw [Bool.and_eq_true, decide_eq_true_eq, decide_eq_true_eq] at e2
          unfold okA
          omega))
        rw [hc] at h7
        by_cases hs : 1 ≤ s ∧ s ≤ 100000000
        · rw [decide_eq_true hs] at h7
          repeat' (first | (intro h; first | contradiction | omega | (conv => whnf) | skip) | (refine And.intro ?_ ?_) | (refine arith_ok ⟨by omega, by omega⟩ ?_) | (first | (refine draw_quiet hT mixed (by decide +kernel) ?_) | (refine draw_hard hT mixed (by decide +kernel) ?_)) | (refine Ret.goP (specBasis_ret f ls r hn) rfl ?_) | (refine Ret.goQP (specBasis_ret f ls r hn) rfl ?_) | (refine Ret.goP (l01In_ret _ _ _) rfl ?_) | (refine Ret.goQP (l01In_ret _ _ _) rfl ?_) | (refine Ret.goP (specSum_ret _) rfl ?_) | (refine Ret.goQP (specSum_ret _) rfl ?_) | (refine Ret.go (h7) rfl rfl ?_) | (refine Ret.goQ (h7) rfl rfl ?_))
          all_goals first | omega | exact absurd hb (by assumption) | exact bv_false hnp | trace_state
        · rw [decide_eq_false hs] at h7
          repeat' (first | (intro h; first | contradiction | omega | (conv => whnf) | skip) | (refine And.intro ?_ ?_) | (refine arith_ok ⟨by omega, by omega⟩ ?_) | (first | (refine draw_quiet hT mixed (by decide +kernel) ?_) | (refine draw_hard hT mixed (by decide +kernel) ?_)) | (refine Ret.goP (specBasis_ret f ls r hn) rfl ?_) | (refine Ret.goQP (specBasis_ret f ls r hn) rfl ?_) | (refine Ret.goP (l01In_ret _ _ _) rfl ?_) | (refine Ret.goQP (l01In_ret _ _ _) rfl ?_) | (refine Ret.goP (specSum_ret _) rfl ?_) | (refine Ret.goQP (specSum_ret _) rfl ?_) | (refine Ret.go (h7) rfl rfl ?_) | (refine Ret.goQ (h7) rfl rfl ?_))
          all_goals first | omega | exact absurd hb (by assumption) | exact bv_false hnp | trace_state
    · repeat' (first | (intro h; first | contradiction | omega | (conv => whnf) | skip) | (refine And.intro ?_ ?_) | (refine arith_ok ⟨by omega, by omega⟩ ?_) | (first | (refine draw_quiet hT mixed (by decide +kernel) ?_) | (refine draw_hard hT mixed (by decide +kernel) ?_)) | (refine Ret.goP (specBasis_ret f ls r hn) rfl ?_) | (refine Ret.goQP (specBasis_ret f ls r hn) rfl ?_) | (refine Ret.goP (l01In_ret _ _ _) rfl ?_) | (refine Ret.goQP (l01In_ret _ _ _) rfl ?_))
      all_goals first | omega | exact absurd hb (by assumption) | (exact bv_false fun ho => hl ho.2.2.1) | trace_state
  · repeat' (first | (intro h; first | contradiction | omega | (conv => whnf) | skip) | (refine And.intro ?_ ?_) | (refine arith_ok ⟨by omega, by omega⟩ ?_) | (first | (refine draw_quiet hT mixed (by decide +kernel) ?_) | (refine draw_hard hT mixed (by decide +kernel) ?_)) | (refine Ret.goP (specBasis_ret f ls r hn) rfl ?_) | (refine Ret.goQP (specBasis_ret f ls r hn) rfl ?_))
    all_goals first | omega | exact absurd (by assumption) hb | (exact bv_false fun ho => hb ho.1) | trace_state
end Go.Proofs.YtenofbabiacacaaGreat
