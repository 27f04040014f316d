/-
  Lists of integers in a range; the first place of which a function holds. No conditions but those in the statements.
-/
import Derived.Test.YtenofbabiacacaaGreatInts
set_option linter.unusedVariables false
set_option linter.unusedSimpArgs false
namespace Go.Proofs.YtenofbabiacacaaGreat
open Go.AE

attribute [local irreducible] CallA LoopA DrawA CallQ arithK quoK remK eqK
/-- All of them lie in a range. -/
def allR (xs : List Int) (lo hi : Int) : Prop := ∀ x ∈ xs, lo ≤ x ∧ x ≤ hi
instance (xs : List Int) (lo hi : Int) : Decidable (allR xs lo hi) := by unfold allR; infer_instance
set_option maxRecDepth 100000 in
theorem l01Within_ret (xs : List Int) (most lo hi : Int) (hn : xs.length ≤ 2305843009213693952) : Ret Tryz.prog G 146 [Ri xs, I most, I lo, I hi] (Bo (decide (allR xs lo hi ∧ (xs.length : Int) ≤ most))) := by
  refine ret_of_body hT Tryz.func146 rfl ?_ rfl
  repeat' (first | (intro h; first | contradiction | omega | (conv => whnf) | skip) | (refine And.intro ?_ ?_) | (refine arith_ok ⟨by omega, by omega⟩ ?_) | (first | (refine draw_quiet hT mixed (by decide +kernel) ?_) | (refine draw_hard hT mixed (by decide +kernel) ?_)) | fail)
  refine loop_rule hT (fun i : Nat => i ≤ xs.length ∧ ∀ x ∈ xs.take i, lo ≤ x ∧ x ≤ hi) 28 0 [0, 1, 2, 3, 9] (fun i => [Ri xs, I most, I lo, I hi, I i]) (fun _ => []) (fun i => xs.length - i) (0) (Nat.le_of_ble_eq_true rfl) ?_ ?_ ?_
  · exact ⟨Nat.zero_le _, by simp⟩
  · (refine ⟨rfl, [], ?_, ?_⟩; all_goals (repeat' (first | exact rfl | exact trivial | (with_reducible assumption) | refine And.intro ?_ ?_ | omega)))
  · rintro i ⟨h1, h2⟩
    repeat' (first | (intro h; first | contradiction | omega | (conv => whnf) | skip) | (refine And.intro ?_ ?_) | (refine arith_ok ⟨by omega, by omega⟩ ?_) | (first | (refine draw_quiet hT mixed (by decide +kernel) ?_) | (refine draw_hard hT mixed (by decide +kernel) ?_)) | (refine Ret.goP (l01In_ret _ _ _) rfl ?_) | (refine Ret.goQP (l01In_ret _ _ _) rfl ?_))
    all_goals first | omega | skip
    · refine ⟨i + 1, ⟨by omega, all_snoc 0 (by omega) h2 (by assumption)⟩, ?_, by omega⟩
      (refine ⟨rfl, [], ?_, ?_⟩; all_goals (repeat' (first | exact rfl | exact trivial | (with_reducible assumption) | refine And.intro ?_ ?_ | omega)))
    · refine bv_false fun h => ?_
      have := h.1 (xs.getD i 0) (getD_mem (by omega))
      contradiction
    · exact bv_true ⟨all_end (by omega) h2, by assumption⟩
    · exact bv_false fun h => absurd h.2 (by assumption)
/-- The place that IndexFunc tells. -/
def idxOf (p : Int → Bool) (xs : List Int) : Int := if firstOf p xs < xs.length then (firstOf p xs : Int) else -1
set_option maxRecDepth 100000 in
theorem indexFuncI_ret (f : FuncId) (caps : List AV) (p : Int → Bool) (xs : List Int) (hn : xs.length ≤ 2305843009213693952) (hc : capsOk caps = true) (hp : ∀ i, i < xs.length → Ret Tryz.prog G f (I (xs.getD i 0) :: caps) (Bo (p (xs.getD i 0)))) :
    Ret Tryz.prog G 198 [Ri xs, .fn f caps] (I (idxOf p xs)) := by
  refine ret_of_body hT Tryz.func198 rfl ?_ rfl
  repeat' (first | (intro h; first | contradiction | omega | (conv => whnf) | skip) | (refine And.intro ?_ ?_) | (refine arith_ok ⟨by omega, by omega⟩ ?_) | (first | (refine draw_quiet hT mixed (by decide +kernel) ?_) | (refine draw_hard hT mixed (by decide +kernel) ?_)) | fail)
  refine loop_rule hT (fun i : Nat => i ≤ xs.length ∧ ∀ j, j < i → p (xs.getD j 0) = false) 19 0 [0, 1, 7, 8] (fun i => [Ri xs, .fn f caps, I xs.length, I i]) (fun _ => []) (fun i => xs.length - i) (0) (Nat.le_of_ble_eq_true rfl) ?_ ?_ ?_
  · exact ⟨Nat.zero_le _, fun j h => absurd h (Nat.not_lt_zero j)⟩
  · (refine ⟨rfl, [], ?_, ?_⟩; all_goals (repeat' (first | exact rfl | exact trivial | (with_reducible assumption) | refine And.intro ?_ ?_ | omega)))
    all_goals exact caps_vm hc
  · rintro i ⟨h1, h2⟩
    repeat' (first | (intro h; first | contradiction | omega | (conv => whnf) | skip) | (refine And.intro ?_ ?_) | (refine arith_ok ⟨by omega, by omega⟩ ?_) | (first | (refine draw_quiet hT mixed (by decide +kernel) ?_) | (refine draw_hard hT mixed (by decide +kernel) ?_)) | (refine Ret.goB (hp i (by omega)) (caps_self hc) ?_))
    all_goals first | omega | skip
    · have : firstOf p xs = i := firstOf_eq 0 (by omega) h2 fun _ => h
      exact iv (by unfold idxOf; rw [if_pos (by omega), this])
    · refine ⟨i + 1, ⟨by omega, fun j hj => ?_⟩, ?_, by omega⟩
      · by_cases hji : j = i
        · rw [hji]; exact h
        · exact h2 j (by omega)
      · (refine ⟨rfl, [], ?_, ?_⟩; all_goals (repeat' (first | exact rfl | exact trivial | (with_reducible assumption) | refine And.intro ?_ ?_ | omega)))
        all_goals exact caps_vm hc
    · have : firstOf p xs = xs.length := firstOf_eq 0 (Nat.le_refl _) (fun j hj => h2 j (by omega)) fun h => absurd h (Nat.lt_irrefl _)
      exact iv (by unfold idxOf; rw [if_neg (by omega)])
set_option maxRecDepth 100000 in
theorem containsFuncI_ret (f : FuncId) (caps : List AV) (p : Int → Bool) (xs : List Int) (hn : xs.length ≤ 2305843009213693952) (hc : capsOk caps = true) (hp : ∀ i, i < xs.length → Ret Tryz.prog G f (I (xs.getD i 0) :: caps) (Bo (p (xs.getD i 0)))) :
    Ret Tryz.prog G 169 [Ri xs, .fn f caps] (Bo (xs.any p)) := by
  refine ret_of_body hT Tryz.func169 rfl ?_ rfl
  have h0 := indexFuncI_ret f caps p xs hn hc hp
  have hiff := firstOf_lt_iff p xs
  have hs : ([Ri xs, .fn f caps] : List AV).all selfV = true := by
    simp only [List.all_cons, List.all_nil, Bool.and_true, Bool.and_eq_true]
    exact ⟨rfl, List.all_eq_true.2 fun c h => by have := List.all_eq_true.1 hc c h; simp only [Bool.and_eq_true] at this; exact this.1⟩
  repeat' (first | (intro h; first | contradiction | omega | (conv => whnf) | skip) | (refine And.intro ?_ ?_) | (refine arith_ok ⟨by omega, by omega⟩ ?_) | (first | (refine draw_quiet hT mixed (by decide +kernel) ?_) | (refine draw_hard hT mixed (by decide +kernel) ?_)) | (refine Ret.go h0 hs rfl ?_))
  all_goals
    refine bv ?_
    unfold idxOf at h
    split at h
    · rename_i hlt
      first | omega | (symm; rw [List.any_eq_true]; exact hiff.1 hlt)
    · rename_i hlt
      first | omega | (symm; rw [Bool.eq_false_iff]; intro hany; exact hlt (hiff.2 (List.any_eq_true.1 hany)))
set_option maxRecDepth 100000 in
theorem allIn1_ret (n lo hi : Int) : Ret Tryz.prog G 170 [I n, .rpc [I lo] 0, .rpc [I hi] 0] (Bo (!decide (lo ≤ n ∧ n ≤ hi))) := by
  refine ret_of_body hT Tryz.func170 rfl ?_ rfl
  repeat' (first | (intro h; first | contradiction | omega | (conv => whnf) | skip) | (refine And.intro ?_ ?_) | (refine arith_ok ⟨by omega, by omega⟩ ?_) | (first | (refine draw_quiet hT mixed (by decide +kernel) ?_) | (refine draw_hard hT mixed (by decide +kernel) ?_)) | (refine Ret.goP (inRange_ret _ _ _) rfl ?_) | (refine Ret.goQP (inRange_ret _ _ _) rfl ?_))
  all_goals (exact bv (by simp; omega))
theorem any_not (xs : List Int) (lo hi : Int) : (xs.any fun n => !decide (lo ≤ n ∧ n ≤ hi)) = !decide (allR xs lo hi) := by
  cases h : (xs.any fun n => !decide (lo ≤ n ∧ n ≤ hi)) with
  | true =>
    obtain ⟨x, h1, h2⟩ := List.any_eq_true.1 h
    have : ¬ allR xs lo hi := fun ha => by simp [ha x h1] at h2
    simp [this]
  | false =>
    have : allR xs lo hi := fun x hx => by simpa using List.any_eq_false.1 h x hx
    simp [this]
set_option maxRecDepth 100000 in
theorem allIn_ret (xs : List Int) (lo hi : Int) (hn : xs.length ≤ 2305843009213693952) : Ret Tryz.prog G 132 [Ri xs, I lo, I hi] (Bo (decide (allR xs lo hi))) := by
  refine ret_of_body hT Tryz.func132 rfl ?_ rfl
  have h0 := containsFuncI_ret 170 [.rpc [I lo] 0, .rpc [I hi] 0] (fun n => !decide (lo ≤ n ∧ n ≤ hi)) xs hn rfl fun i _ => allIn1_ret _ _ _
  rw [any_not] at h0
  repeat' (first | (intro h; first | contradiction | omega | (conv => whnf) | skip) | (refine And.intro ?_ ?_) | (refine arith_ok ⟨by omega, by omega⟩ ?_) | (first | (refine draw_quiet hT mixed (by decide +kernel) ?_) | (refine draw_hard hT mixed (by decide +kernel) ?_)) | (refine Ret.useB (h0) (by first | ((repeat' (first | exact rfl | exact trivial | (with_reducible assumption) | refine And.intro ?_ ?_ | omega | assumption)); done) | fail) ?_) | (refine Ret.useQB (h0) (by first | ((repeat' (first | exact rfl | exact trivial | (with_reducible assumption) | refine And.intro ?_ ?_ | omega | assumption)); done) | fail) ?_))
  all_goals exact bv (by simpa using h.symm)
end Go.Proofs.YtenofbabiacacaaGreat
