/-
  Lists of claims: what the functions return. No conditions but those in the statements.
-/
import Derived.Test.YtpgckkoogicplaaDoorRecs
import Derived.Test.YtpgckkoogicplaaDoorFb
set_option linter.unusedVariables false
set_option linter.unusedSimpArgs false
namespace Go.Proofs.YtpgckkoogicplaaDoor
open Go.AE

attribute [local irreducible] CallA LoopA DrawA CallQ arithK quoK remK eqK
def rowCl (r : List Int) : Prop := isCl (r.getD 0 0) (r.getD 1 0) (r.getD 2 0) (r.getD 3 0) (r.getD 4 0) (r.getD 5 0)
instance (r : List Int) : Decidable (rowCl r) := by unfold rowCl; infer_instance
def allCl (xss : List (List Int)) : Prop := ∀ r ∈ xss, rowCl r
instance (xss : List (List Int)) : Decidable (allCl xss) := by unfold allCl; infer_instance
def areCl (xss : List (List Int)) : Prop := allCl xss ∧ xss.length ≤ 40
instance (xss : List (List Int)) : Decidable (areCl xss) := by unfold areCl; infer_instance
set_option maxRecDepth 100000 in
theorem l25Claims_ret (xss : List (List Int)) (hn : xss.length ≤ 2305843009213693952) : Ret Tryd.prog G 52 [RClaim xss] (Bo (decide (areCl xss))) := by
  refine ret_of_body hT Tryd.func52 rfl ?_ rfl
  repeat' (first | (intro h; first | contradiction | omega | (conv => whnf) | skip) | (refine And.intro ?_ ?_) | (refine arith_ok ⟨by omega, by omega⟩ ?_) | (first | (refine draw_quiet hT mixed (by decide +kernel) ?_) | (refine draw_hard hT mixed (by decide +kernel) ?_)) | fail)
  refine loop_rule hT (fun i : Nat => i ≤ xss.length ∧ ∀ r ∈ xss.take i, rowCl r) 19 0 [0, 3] (fun i => [RClaim xss, I i]) (fun _ => []) (fun i => xss.length - i) (0) (Nat.le_of_ble_eq_true rfl) ?_ ?_ ?_
  · exact ⟨Nat.zero_le _, by simp⟩
  · (refine ⟨rfl, [], ?_, ?_⟩; all_goals (repeat' (first | exact rfl | exact trivial | (with_reducible assumption) | refine And.intro ?_ ?_ | omega)))
  · rintro i ⟨h1, h2⟩
    repeat' (first | (intro h; first | contradiction | omega | (conv => whnf) | skip) | (refine And.intro ?_ ?_) | (refine arith_ok ⟨by omega, by omega⟩ ?_) | (first | (refine draw_quiet hT mixed (by decide +kernel) ?_) | (refine draw_hard hT mixed (by decide +kernel) ?_)) | (refine Ret.goP (specIsClaim_ret _ _ _ _ _ _) rfl ?_) | (refine Ret.goQP (specIsClaim_ret _ _ _ _ _ _) rfl ?_))
    all_goals first | omega | skip
    · refine ⟨i + 1, ⟨by omega, all_snoc [] (by omega) h2 h⟩, ?_, by omega⟩
      (refine ⟨rfl, [], ?_, ?_⟩; all_goals (repeat' (first | exact rfl | exact trivial | (with_reducible assumption) | refine And.intro ?_ ?_ | omega)))
    · refine bv_false fun hh => ?_
      have := hh.1 (xss.getD i []) (getD_mem (by omega))
      contradiction
    · exact bv_true ⟨all_end (by omega) h2, by omega⟩
    · exact bv_false fun hh => by have := hh.2; omega
set_option maxRecDepth 100000 in
theorem areClaims1_ret (r : List Int) : Ret Tryd.prog G 60 [WClaim r] (Bo (!decide (rowCl r))) := by
  refine ret_of_body hT Tryd.func60 rfl ?_ rfl
  repeat' (first | (intro h; first | contradiction | omega | (conv => whnf) | skip) | (refine And.intro ?_ ?_) | (refine arith_ok ⟨by omega, by omega⟩ ?_) | (first | (refine draw_quiet hT mixed (by decide +kernel) ?_) | (refine draw_hard hT mixed (by decide +kernel) ?_)) | (refine Ret.goP (implIsClaim_ret _ _ _ _ _ _) rfl ?_) | (refine Ret.goQP (implIsClaim_ret _ _ _ _ _ _) rfl ?_))
  all_goals first | exact bv (by rw [decide_eq_true (show rowCl r from h)]; rfl) | exact bv (by rw [decide_eq_false (show ¬ rowCl r from h)]; rfl)
theorem any_notCl (xss : List (List Int)) : (xss.any fun r => !decide (rowCl r)) = !decide (allCl xss) := by
  cases h : (xss.any fun r => !decide (rowCl r)) with
  | true =>
    obtain ⟨x, h1, h2⟩ := List.any_eq_true.1 h
    have : ¬ allCl xss := fun ha => by simp [ha x h1] at h2
    simp [this]
  | false =>
    have : allCl xss := fun x hx => by simpa using List.any_eq_false.1 h x hx
    simp [this]
set_option maxRecDepth 100000 in
theorem areClaims_ret (xss : List (List Int)) (hn : xss.length ≤ 2305843009213693952) : Ret Tryd.prog G 53 [RClaim xss] (Bo (decide (areCl xss))) := by
  refine ret_of_body hT Tryd.func53 rfl ?_ rfl
  have h0 := containsFuncClaim_ret 60 [] (fun r => !decide (rowCl r)) xss hn rfl fun i _ => areClaims1_ret _
  rw [any_notCl] at h0
  repeat' (first | (intro h; first | contradiction | omega | (conv => whnf) | skip) | (refine And.intro ?_ ?_) | (refine arith_ok ⟨by omega, by omega⟩ ?_) | (first | (refine draw_quiet hT mixed (by decide +kernel) ?_) | (refine draw_hard hT mixed (by decide +kernel) ?_)) | (refine Ret.useB (h0) (by first | ((repeat' (first | exact rfl | exact trivial | (with_reducible assumption) | refine And.intro ?_ ?_ | omega | assumption)); done) | fail) ?_) | (refine Ret.useQB (h0) (by first | ((repeat' (first | exact rfl | exact trivial | (with_reducible assumption) | refine And.intro ?_ ?_ | omega | assumption)); done) | fail) ?_))
  · refine bv_false ?_
    exact fun hh => by have := hh.1; simp [this] at h
  · refine bv_true ?_
    exact ⟨by simpa using h, by omega⟩
  · refine bv_false ?_
    exact fun hh => by have := hh.2; omega
/-! ### Sums by states -/
def addCl (s r : List Int) : List Int := s.set (r.getD 5 0).toNat (s.getD (r.getD 5 0).toNat 0 + r.getD 3 0)
def sumsL (xss : List (List Int)) : List Int := xss.foldl addCl [0, 0, 0, 0]
theorem sumsL_snoc (xss : List (List Int)) (r : List Int) : sumsL (xss ++ [r]) = addCl (sumsL xss) r := by simp [sumsL]
theorem addCl_len (s r : List Int) : (addCl s r).length = s.length := by simp [addCl]
theorem sumsL_len (xss : List (List Int)) : (sumsL xss).length = 4 := by
  have gen : ∀ (xss : List (List Int)) (s : List Int), (xss.foldl addCl s).length = s.length := fun xss => by
    induction xss with
    | nil => intro s; rfl
    | cons r xss ih => intro s; simp only [List.foldl_cons]; rw [ih, addCl_len]
  exact gen xss _
theorem sumsL_bd : ∀ (xss : List (List Int)), (∀ r ∈ xss, rowCl r) → ∀ j, 0 ≤ (sumsL xss).getD j 0 ∧ (sumsL xss).getD j 0 ≤ 100000000 * (xss.length : Int) := by
  have gen : ∀ (xss : List (List Int)) (s : List Int) (b : Int), (∀ r ∈ xss, rowCl r) → (∀ j, 0 ≤ s.getD j 0 ∧ s.getD j 0 ≤ b) → ∀ j, 0 ≤ (xss.foldl addCl s).getD j 0 ∧ (xss.foldl addCl s).getD j 0 ≤ b + 100000000 * (xss.length : Int) := fun xss => by
    induction xss with
    | nil => intro s b _ h j; have := h j; simp only [List.foldl_nil, List.length_nil]; omega
    | cons r xss ih =>
      intro s b hr h j
      have h3 := (hr r (by simp)).2.2.2.1
      have := ih (addCl s r) (b + 100000000) (fun r' h' => hr r' (by simp [h'])) (fun j => by
        unfold addCl
        rw [getD_set]
        have h1 := h j
        have h2 := h (r.getD 5 0).toNat
        split <;> omega) j
      simp only [List.foldl_cons, List.length_cons]
      omega
  intro xss hr j
  have := gen xss [0, 0, 0, 0] 0 hr (fun j => by match j with | 0 => simp | 1 => simp | 2 => simp | 3 => simp | j + 4 => simp) j
  unfold sumsL
  omega
def csR (xss : List (List Int)) : List Int := if areCl xss then sumsL xss else []
def csC (xss : List (List Int)) : Int := if areCl xss then 0 else 1
theorem csR_len (xss : List (List Int)) : (csR xss).length ≤ 4 := by unfold csR; split <;> simp [sumsL_len]
abbrev csT (xss : List (List Int)) : AV := .tup [.sl 0 1 (csR xss).length, I (csC xss)]
theorem cs_yes {xss : List (List Int)} (h : areCl xss) : csR xss = sumsL xss ∧ csC xss = 0 := by simp [csR, csC, h]
theorem cs_no {xss : List (List Int)} (h : ¬ areCl xss) : csR xss = [] ∧ csC xss = 1 := by simp [csR, csC, h]
end Go.Proofs.YtpgckkoogicplaaDoor
