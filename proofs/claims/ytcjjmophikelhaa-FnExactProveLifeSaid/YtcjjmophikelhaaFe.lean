/-
  Who leaves a register, who proves to be alive: what the functions return. No conditions but those in the statements.
-/
import Derived.Test.YtcjjmophikelhaaFd
set_option linter.unusedVariables false
set_option linter.unusedSimpArgs false
namespace Go.Proofs.Ytcjjmophikelhaa
open Go.AE

attribute [local irreducible] CallA LoopA DrawA CallQ arithK quoK remK eqK
/-! ### Where a member stands -/
def loP (num : Int) (r : List Int) : Bool := decide (num ≤ r.getD 0 0)
def eqP (num : Int) (r : List Int) : Bool := decide (r.getD 0 0 = num)
def lo (num : Int) (xss : List (List Int)) : Nat := firstOf (loP num) xss
theorem lo_le (num : Int) (xss : List (List Int)) : lo num xss ≤ xss.length := firstOf_le _ _
def hasM (num : Int) (xss : List (List Int)) : Prop := lo num xss < xss.length ∧ (xss.getD ((lo num xss : Nat) : Int).toNat []).getD 0 0 = num
instance (num : Int) (xss : List (List Int)) : Decidable (hasM num xss) := by unfold hasM; infer_instance
theorem reg_mono {xss : List (List Int)} (ha : isReg xss) (i : Nat) : ∀ j, i ≤ j → j < xss.length → (xss.getD i []).getD 0 0 ≤ (xss.getD j []).getD 0 0 := by
  intro j
  induction j with
  | zero =>
    intro h _
    obtain rfl : i = 0 := by omega
    exact Int.le_refl _
  | succ j ih =>
    intro h hj
    by_cases e : i = j + 1
    · subst e; exact Int.le_refl _
    · have h1 := ih (by omega) (by omega)
      have h2 := (ha.1 (j + 1) hj).2 (by omega)
      have e1 : (((j + 1 : Nat) : Int) - 1).toNat = j := by omega
      rw [e1] at h2
      have h3 : (xss.getD j []).getD 0 0 < (xss.getD (j + 1) []).getD 0 0 := h2
      omega
theorem lo_spec (num : Int) (xss : List (List Int)) : (∀ j, j < lo num xss → (xss.getD j []).getD 0 0 < num) ∧ (lo num xss < xss.length → num ≤ (xss.getD (lo num xss) []).getD 0 0) := by
  obtain ⟨h1, h2⟩ := firstOf_spec (loP num) [] xss
  refine ⟨fun j hj => ?_, fun h => of_decide_eq_true (h2 h)⟩
  have := of_decide_eq_false (h1 j hj)
  omega
theorem idx_yes {num : Int} {xss : List (List Int)} (hf : hasM num xss) : idxMember (eqP num) xss = ((lo num xss : Nat) : Int) := by
  obtain ⟨h1, h2⟩ := lo_spec num xss
  have : firstOf (eqP num) xss = lo num xss := firstOf_eq [] (lo_le _ _) (fun j hj => decide_eq_false (by have := h1 j hj; omega)) fun _ => decide_eq_true hf.2
  unfold idxMember
  rw [this, if_pos hf.1]
theorem idx_no {num : Int} {xss : List (List Int)} (ha : isReg xss) (hf : ¬ hasM num xss) : idxMember (eqP num) xss = -1 := by
  obtain ⟨h1, h2⟩ := lo_spec num xss
  have : firstOf (eqP num) xss = xss.length := firstOf_eq [] (Nat.le_refl _) (fun j hj => decide_eq_false fun e => hf (by
    by_cases hl : j < lo num xss
    · have := h1 j hl; omega
    · have h3 : lo num xss < xss.length := by omega
      have h4 := h2 h3
      have h5 := reg_mono ha (lo num xss) j (by omega) hj
      exact ⟨h3, show (xss.getD (lo num xss) []).getD 0 0 = num by omega⟩)) fun h => absurd h (Nat.lt_irrefl _)
  unfold idxMember
  rw [if_neg (by omega)]
/-! ### What is changed -/
def argsOk (num n : Int) : Prop := (1 ≤ num ∧ num ≤ 1000000) ∧ (0 ≤ n ∧ n ≤ 35999)
instance (num n : Int) : Decidable (argsOk num n) := by unfold argsOk; infer_instance
def openM (n : Int) (r : List Int) : Prop := r.getD 3 0 = -1 ∧ r.getD 4 0 ≤ n
instance (n : Int) (r : List Int) : Decidable (openM n r) := by unfold openM; infer_instance
def rowLo (num : Int) (xss : List (List Int)) : List Int := xss.getD ((lo num xss : Nat) : Int).toNat []
def chC (num n : Int) (xss : List (List Int)) : Int := if isReg xss then (if argsOk num n then (if hasM num xss then (if openM n (rowLo num xss) then 0 else 5) else 4) else 2) else 1
def chAt (num n : Int) (xss : List (List Int)) : Int := if chC num n xss = 0 then ((lo num xss : Nat) : Int) else 0
def chL (j : Nat) (n : Int) (xss : List (List Int)) (i : Nat) : List (List Int) := xss.set i (setInts (xss.getD i []) j [n])
def chR (j : Nat) (num n : Int) (xss : List (List Int)) : List (List Int) := if chC num n xss = 0 then chL j n xss (lo num xss) else []
abbrev chT (j : Nat) (num n : Int) (xss : List (List Int)) : AV := .tup [.sl 0 5 (chR j num n xss).length, I (chC num n xss)]
theorem chC_ok {num n : Int} {xss : List (List Int)} (h1 : isReg xss) (h2 : argsOk num n) (h3 : hasM num xss) (h4 : openM n (rowLo num xss)) : chC num n xss = 0 := by simp [chC, h1, h2, h3, h4]
theorem chC_5 {num n : Int} {xss : List (List Int)} (h1 : isReg xss) (h2 : argsOk num n) (h3 : hasM num xss) (h4 : ¬ openM n (rowLo num xss)) : chC num n xss = 5 := by simp [chC, h1, h2, h3, h4]
theorem chC_4 {num n : Int} {xss : List (List Int)} (h1 : isReg xss) (h2 : argsOk num n) (h3 : ¬ hasM num xss) : chC num n xss = 4 := by simp [chC, h1, h2, h3]
theorem chC_2 {num n : Int} {xss : List (List Int)} (h1 : isReg xss) (h2 : ¬ argsOk num n) : chC num n xss = 2 := by simp [chC, h1, h2]
theorem chC_1 {num n : Int} {xss : List (List Int)} (h1 : ¬ isReg xss) : chC num n xss = 1 := by simp [chC, h1]
theorem chR_ok {j : Nat} {num n : Int} {xss : List (List Int)} (h : chC num n xss = 0) : chR j num n xss = chL j n xss (lo num xss) := by simp [chR, h]
theorem chR_no {j : Nat} {num n c : Int} {xss : List (List Int)} (h : chC num n xss = c) (hc : c ≠ 0) : chR j num n xss = [] := by simp [chR, h, hc]
theorem chAt_ok {num n : Int} {xss : List (List Int)} (h : chC num n xss = 0) : chAt num n xss = ((lo num xss : Nat) : Int) := by simp [chAt, h]
theorem chAt_no {num n c : Int} {xss : List (List Int)} (h : chC num n xss = c) (hc : c ≠ 0) : chAt num n xss = 0 := by simp [chAt, h, hc]
/-! ### The functions -/
set_option maxRecDepth 100000 in
theorem l26Index_ret (num : Int) (xss : List (List Int)) (hn : xss.length ≤ 2305843009213693952) : Ret Try.prog G 36 [RMember xss, I num] (I ((lo num xss : Nat) : Int)) := by
  refine ret_of_body hT Try.func36 rfl ?_ rfl
  repeat' (first | (intro h; first | contradiction | omega | (conv => whnf) | skip) | (refine And.intro ?_ ?_) | (refine arith_ok ⟨by omega, by omega⟩ ?_) | (first | (refine draw_quiet hT mixed (by decide +kernel) ?_) | (refine draw_hard hT mixed (by decide +kernel) ?_)) | fail)
  refine loop_rule hT (fun i : Nat => i ≤ xss.length ∧ ∀ j, j < i → loP num (xss.getD j []) = false) 22 0 [0, 1, 5] (fun i => [RMember xss, I num, I i]) (fun _ => []) (fun i => xss.length - i) (0) (Nat.le_of_ble_eq_true rfl) ?_ ?_ ?_
  · exact ⟨Nat.zero_le _, fun j h => absurd h (Nat.not_lt_zero j)⟩
  · (first | (refine ⟨rfl, [], ?_, ?_⟩; all_goals (repeat' (first | exact rfl | exact trivial | (with_reducible assumption) | refine And.intro ?_ ?_)); all_goals (first | omega | assumption); done) | (refine ⟨rfl, [some 1], ?_, ?_⟩; all_goals (repeat' (first | exact rfl | exact trivial | (with_reducible assumption) | refine And.intro ?_ ?_)); all_goals (first | omega | assumption); done) | (refine ⟨rfl, [some 2], ?_, ?_⟩; all_goals (repeat' (first | exact rfl | exact trivial | (with_reducible assumption) | refine And.intro ?_ ?_)); all_goals (first | omega | assumption); done) | (refine ⟨rfl, [some 3], ?_, ?_⟩; all_goals (repeat' (first | exact rfl | exact trivial | (with_reducible assumption) | refine And.intro ?_ ?_)); all_goals (first | omega | assumption); done) | (refine ⟨rfl, [some 0], ?_, ?_⟩; all_goals (repeat' (first | exact rfl | exact trivial | (with_reducible assumption) | refine And.intro ?_ ?_)); all_goals (first | omega | assumption); done) | (refine ⟨rfl, [some 4], ?_, ?_⟩; all_goals (repeat' (first | exact rfl | exact trivial | (with_reducible assumption) | refine And.intro ?_ ?_)); all_goals (first | omega | assumption); done) | (refine ⟨rfl, [some 5], ?_, ?_⟩; all_goals (repeat' (first | exact rfl | exact trivial | (with_reducible assumption) | refine And.intro ?_ ?_)); all_goals (first | omega | assumption); done) | (refine ⟨rfl, [some 6], ?_, ?_⟩; all_goals (repeat' (first | exact rfl | exact trivial | (with_reducible assumption) | refine And.intro ?_ ?_)); all_goals (first | omega | assumption); done))
  · rintro i ⟨h1, h2⟩
    repeat' (first | (intro h; first | contradiction | omega | (conv => whnf) | skip) | (refine And.intro ?_ ?_) | (refine arith_ok ⟨by omega, by omega⟩ ?_) | (first | (refine draw_quiet hT mixed (by decide +kernel) ?_) | (refine draw_hard hT mixed (by decide +kernel) ?_)) | fail)
    all_goals first | omega | (show _ < xss.length; omega) | skip
    all_goals first
      | (refine ⟨i + 1, ⟨by omega, fun j hj => ?_⟩, ?_, by omega⟩; ((by_cases e : j = i); (subst e; exact decide_eq_false (Int.not_le.2 h)); (exact h2 j (by omega))); (first | (refine ⟨rfl, [], ?_, ?_⟩; all_goals (repeat' (first | exact rfl | exact trivial | (with_reducible assumption) | refine And.intro ?_ ?_)); all_goals (first | omega | assumption); done) | (refine ⟨rfl, [some 1], ?_, ?_⟩; all_goals (repeat' (first | exact rfl | exact trivial | (with_reducible assumption) | refine And.intro ?_ ?_)); all_goals (first | omega | assumption); done) | (refine ⟨rfl, [some 2], ?_, ?_⟩; all_goals (repeat' (first | exact rfl | exact trivial | (with_reducible assumption) | refine And.intro ?_ ?_)); all_goals (first | omega | assumption); done) | (refine ⟨rfl, [some 3], ?_, ?_⟩; all_goals (repeat' (first | exact rfl | exact trivial | (with_reducible assumption) | refine And.intro ?_ ?_)); all_goals (first | omega | assumption); done) | (refine ⟨rfl, [some 0], ?_, ?_⟩; all_goals (repeat' (first | exact rfl | exact trivial | (with_reducible assumption) | refine And.intro ?_ ?_)); all_goals (first | omega | assumption); done) | (refine ⟨rfl, [some 4], ?_, ?_⟩; all_goals (repeat' (first | exact rfl | exact trivial | (with_reducible assumption) | refine And.intro ?_ ?_)); all_goals (first | omega | assumption); done) | (refine ⟨rfl, [some 5], ?_, ?_⟩; all_goals (repeat' (first | exact rfl | exact trivial | (with_reducible assumption) | refine And.intro ?_ ?_)); all_goals (first | omega | assumption); done) | (refine ⟨rfl, [some 6], ?_, ?_⟩; all_goals (repeat' (first | exact rfl | exact trivial | (with_reducible assumption) | refine And.intro ?_ ?_)); all_goals (first | omega | assumption); done)))
      | (refine iv ?_; have : lo num xss = i := firstOf_eq [] (by omega) h2 (fun _ => decide_eq_true (Int.not_lt.1 h)); omega)
      | (refine iv ?_; have : lo num xss = i := firstOf_eq [] (by omega) h2 (fun hh => absurd hh (by omega)); omega)
      | trace_state
set_option maxRecDepth 100000 in
theorem l26Find_ret (num n : Int) (xss : List (List Int)) (hn : xss.length ≤ 2305843009213693952) : Ret Try.prog G 27 [RMember xss, I num, I n] (.tup [I (chAt num n xss), I (chC num n xss)]) := by
  refine ret_of_body hT Try.func27 rfl ?_ rfl
  have hlo := lo_le num xss
  by_cases ha : isReg xss
  · by_cases hb : argsOk num n
    · by_cases hc : hasM num xss
      · have hc1 := hc.1
        have hc2 := hc.2
        by_cases hd : openM n (rowLo num xss)
        · have h0 := chC_ok ha hb hc hd
          rw [chAt_ok h0, h0]
          have hd1 : (xss.getD ((lo num xss : Nat) : Int).toNat []).getD 3 0 = -1 := hd.1
          have hd2 : (xss.getD ((lo num xss : Nat) : Int).toNat []).getD 4 0 ≤ n := hd.2
          have hb1 := hb.1
          have hb2 := hb.2
          repeat' (first | (intro h; first | contradiction | omega | (conv => whnf) | skip) | (refine And.intro ?_ ?_) | (refine arith_ok ⟨by omega, by omega⟩ ?_) | (first | (refine draw_quiet hT mixed (by decide +kernel) ?_) | (refine draw_hard hT mixed (by decide +kernel) ?_)) | (refine Ret.goP (l01In_ret _ _ _) rfl ?_) | (refine Ret.goQP (l01In_ret _ _ _) rfl ?_) | (refine Ret.goP (l02Month_ret _) rfl ?_) | (refine Ret.goQP (l02Month_ret _) rfl ?_) | (refine Ret.go (code_ok ha) rfl rfl ?_) | (refine Ret.goQ (code_ok ha) rfl rfl ?_) | (refine Ret.go (code_no2 ha) rfl rfl ?_) | (refine Ret.goQ (code_no2 ha) rfl rfl ?_) | (refine Ret.go (l26Index_ret num xss (by omega)) rfl rfl ?_) | (refine Ret.goQ (l26Index_ret num xss (by omega)) rfl rfl ?_))
          all_goals first | rfl | omega | skip
        · have h0 := chC_5 ha hb hc hd
          rw [chAt_no h0 (by decide), h0]
          have hb1 := hb.1
          have hb2 := hb.2
          repeat' (first | (intro h; first | contradiction | omega | (conv => whnf) | skip) | (refine And.intro ?_ ?_) | (refine arith_ok ⟨by omega, by omega⟩ ?_) | (first | (refine draw_quiet hT mixed (by decide +kernel) ?_) | (refine draw_hard hT mixed (by decide +kernel) ?_)) | (refine Ret.goP (l01In_ret _ _ _) rfl ?_) | (refine Ret.goQP (l01In_ret _ _ _) rfl ?_) | (refine Ret.goP (l02Month_ret _) rfl ?_) | (refine Ret.goQP (l02Month_ret _) rfl ?_) | (refine Ret.go (code_ok ha) rfl rfl ?_) | (refine Ret.goQ (code_ok ha) rfl rfl ?_) | (refine Ret.go (code_no2 ha) rfl rfl ?_) | (refine Ret.goQ (code_no2 ha) rfl rfl ?_) | (refine Ret.go (l26Index_ret num xss (by omega)) rfl rfl ?_) | (refine Ret.goQ (l26Index_ret num xss (by omega)) rfl rfl ?_))
          all_goals first | rfl | omega | exact absurd (show openM n (rowLo num xss) from ⟨Classical.not_not.1 (by assumption), Int.not_lt.1 (by assumption)⟩) hd
      · have h0 := chC_4 ha hb hc
        rw [chAt_no h0 (by decide), h0]
        have hb1 := hb.1
        have hb2 := hb.2
        repeat' (first | (intro h; first | contradiction | omega | (conv => whnf) | skip) | (refine And.intro ?_ ?_) | (refine arith_ok ⟨by omega, by omega⟩ ?_) | (first | (refine draw_quiet hT mixed (by decide +kernel) ?_) | (refine draw_hard hT mixed (by decide +kernel) ?_)) | (refine Ret.goP (l01In_ret _ _ _) rfl ?_) | (refine Ret.goQP (l01In_ret _ _ _) rfl ?_) | (refine Ret.goP (l02Month_ret _) rfl ?_) | (refine Ret.goQP (l02Month_ret _) rfl ?_) | (refine Ret.go (code_ok ha) rfl rfl ?_) | (refine Ret.goQ (code_ok ha) rfl rfl ?_) | (refine Ret.go (code_no2 ha) rfl rfl ?_) | (refine Ret.goQ (code_no2 ha) rfl rfl ?_) | (refine Ret.go (l26Index_ret num xss (by omega)) rfl rfl ?_) | (refine Ret.goQ (l26Index_ret num xss (by omega)) rfl rfl ?_))
        all_goals first | rfl | omega | exact absurd (show hasM num xss from ⟨by omega, by first | assumption | omega⟩) hc
    · have h0 := chC_2 ha hb
      rw [chAt_no h0 (by decide), h0]
      repeat' (first | (intro h; first | contradiction | omega | (conv => whnf) | skip) | (refine And.intro ?_ ?_) | (refine arith_ok ⟨by omega, by omega⟩ ?_) | (first | (refine draw_quiet hT mixed (by decide +kernel) ?_) | (refine draw_hard hT mixed (by decide +kernel) ?_)) | (refine Ret.goP (l01In_ret _ _ _) rfl ?_) | (refine Ret.goQP (l01In_ret _ _ _) rfl ?_) | (refine Ret.goP (l02Month_ret _) rfl ?_) | (refine Ret.goQP (l02Month_ret _) rfl ?_) | (refine Ret.go (code_ok ha) rfl rfl ?_) | (refine Ret.goQ (code_ok ha) rfl rfl ?_) | (refine Ret.go (code_no2 ha) rfl rfl ?_) | (refine Ret.goQ (code_no2 ha) rfl rfl ?_))
      all_goals first | rfl | omega | exact absurd (show argsOk num n from ⟨by assumption, by assumption⟩) hb
  · have h0 := chC_1 (num := num) (n := n) ha
    rw [chAt_no h0 (by decide), h0]
    repeat' (first | (intro h; first | contradiction | omega | (conv => whnf) | skip) | (refine And.intro ?_ ?_) | (refine arith_ok ⟨by omega, by omega⟩ ?_) | (first | (refine draw_quiet hT mixed (by decide +kernel) ?_) | (refine draw_hard hT mixed (by decide +kernel) ?_)) | (refine Ret.goP (l01In_ret _ _ _) rfl ?_) | (refine Ret.goQP (l01In_ret _ _ _) rfl ?_) | (refine Ret.goP (l02Month_ret _) rfl ?_) | (refine Ret.goQP (l02Month_ret _) rfl ?_) | (refine Ret.go (code_no1 _ ha hn) rfl rfl ?_) | (refine Ret.goQ (code_no1 _ ha hn) rfl rfl ?_))
    all_goals first | rfl | omega
set_option maxRecDepth 100000 in
theorem indexOf1_ret (num : Int) (r : List Int) : Ret Try.prog G 54 [WMember r, .rpc [I num] 0] (Bo (eqP num r)) := by
  refine ret_of_body hT Try.func54 rfl ?_ rfl
  repeat' (first | (intro h; first | contradiction | omega | (conv => whnf) | skip) | (refine And.intro ?_ ?_) | (refine arith_ok ⟨by omega, by omega⟩ ?_) | (first | (refine draw_quiet hT mixed (by decide +kernel) ?_) | (refine draw_hard hT mixed (by decide +kernel) ?_)) | fail)
  all_goals first | exact bv_true (by assumption) | exact bv_false (by assumption) | trace_state
set_option maxRecDepth 100000 in
theorem indexOf_ret (num : Int) (xss : List (List Int)) (hn : xss.length ≤ 2305843009213693952) : Ret Try.prog G 39 [RMember xss, I num] (I (idxMember (eqP num) xss)) := by
  refine ret_of_body hT Try.func39 rfl ?_ rfl
  have hc := indexFuncMember_ret 54 [.rpc [I num] 0] (eqP num) xss hn rfl fun i _ => indexOf1_ret _ _
  repeat' (first | (intro h; first | contradiction | omega | (conv => whnf) | skip) | (refine And.intro ?_ ?_) | (refine arith_ok ⟨by omega, by omega⟩ ?_) | (first | (refine draw_quiet hT mixed (by decide +kernel) ?_) | (refine draw_hard hT mixed (by decide +kernel) ?_)) | (refine Ret.use (hc) (by first | ((repeat' (first | exact rfl | exact trivial | (with_reducible assumption) | refine And.intro ?_ ?_ | omega | assumption)); done) | fail) ?_) | (refine Ret.useQ (hc) (by first | ((repeat' (first | exact rfl | exact trivial | (with_reducible assumption) | refine And.intro ?_ ?_ | omega | assumption)); done) | fail) rfl ?_))
  all_goals rfl
set_option maxRecDepth 100000 in
theorem clone_call (xss : List (List Int)) (hx : xss.length ≤ 1048576) : CallA Try.prog G 41 [RMember xss] [] (fun v J => v = .sl 0 5 xss.length ∧ J = [DMember xss]) := by
  refine CallA.ends (callA_of_body hT Try.func41 rfl ?_)
  repeat' (first | (intro h; first | contradiction | omega | (conv => whnf) | skip) | (refine And.intro ?_ ?_) | (refine arith_ok ⟨by omega, by omega⟩ ?_) | (first | (refine draw_quiet hT mixed (by decide +kernel) ?_) | (refine draw_hard hT mixed (by decide +kernel) ?_)) | fail)
  all_goals first | omega | (show 0 = 0; rfl) | (simp only [List.length_nil]; omega) | skip
  all_goals first
    | (obtain rfl := List.eq_nil_of_length_eq_zero h; (refine ⟨[none], .sl 0 5 0, [DMember []], ?_, ?_, ?_⟩; all_goals (repeat' (first | exact rfl | exact trivial | (with_reducible assumption) | refine And.intro ?_ ?_ | omega))); done)
    | ((first | (refine ⟨[], .sl 0 5 xss.length, [DMember xss], ?_, ?_, ?_⟩; all_goals (repeat' (first | exact rfl | exact trivial | (with_reducible assumption) | refine And.intro ?_ ?_)); all_goals (first | omega | assumption); done) | (refine ⟨[some 1], .sl 0 5 xss.length, [DMember xss], ?_, ?_, ?_⟩; all_goals (repeat' (first | exact rfl | exact trivial | (with_reducible assumption) | refine And.intro ?_ ?_)); all_goals (first | omega | assumption); done) | (refine ⟨[some 0], .sl 0 5 xss.length, [DMember xss], ?_, ?_, ?_⟩; all_goals (repeat' (first | exact rfl | exact trivial | (with_reducible assumption) | refine And.intro ?_ ?_)); all_goals (first | omega | assumption); done) | (refine ⟨[some 2], .sl 0 5 xss.length, [DMember xss], ?_, ?_, ?_⟩; all_goals (repeat' (first | exact rfl | exact trivial | (with_reducible assumption) | refine And.intro ?_ ?_)); all_goals (first | omega | assumption); done) | (refine ⟨[some 3], .sl 0 5 xss.length, [DMember xss], ?_, ?_, ?_⟩; all_goals (repeat' (first | exact rfl | exact trivial | (with_reducible assumption) | refine And.intro ?_ ?_)); all_goals (first | omega | assumption); done) | (refine ⟨[some 4], .sl 0 5 xss.length, [DMember xss], ?_, ?_, ?_⟩; all_goals (repeat' (first | exact rfl | exact trivial | (with_reducible assumption) | refine And.intro ?_ ?_)); all_goals (first | omega | assumption); done) | (refine ⟨[some 5], .sl 0 5 xss.length, [DMember xss], ?_, ?_, ?_⟩; all_goals (repeat' (first | exact rfl | exact trivial | (with_reducible assumption) | refine And.intro ?_ ?_)); all_goals (first | omega | assumption); done)))
    | trace_state
set_option maxRecDepth 100000 in
theorem leave1_call (yss : List (List Int)) (n : Int) (i : Nat) (hi : i < yss.length) (hr : ∀ r ∈ yss, r.length = 5) : CallA Try.prog G 30 [.eptr 0 5 i 0, .rpc [I n] 0] [DMember yss] (fun v J => v = .tup [] ∧ J = [DMember (chL 3 n yss i)]) := by
  refine CallA.ends (callA_of_body hT Try.func30 rfl ?_)
  have hl : (yss.getD i []).length = 5 := hr _ (getD_mem hi)
  repeat' (first | (intro h; first | contradiction | omega | (conv => whnf) | skip) | (refine And.intro ?_ ?_) | (refine arith_ok ⟨by omega, by omega⟩ ?_) | (first | (refine draw_quiet hT mixed (by decide +kernel) ?_) | (refine draw_hard hT mixed (by decide +kernel) ?_)) | fail)
  all_goals first | omega | assumption | skip
  (first | (refine ⟨[], .tup [], [DMember (chL 3 n yss i)], ?_, ?_, ?_⟩; all_goals (repeat' (first | exact rfl | exact trivial | (with_reducible assumption) | refine And.intro ?_ ?_)); all_goals (first | omega | assumption); done) | (refine ⟨[some 1], .tup [], [DMember (chL 3 n yss i)], ?_, ?_, ?_⟩; all_goals (repeat' (first | exact rfl | exact trivial | (with_reducible assumption) | refine And.intro ?_ ?_)); all_goals (first | omega | assumption); done) | (refine ⟨[some 0], .tup [], [DMember (chL 3 n yss i)], ?_, ?_, ?_⟩; all_goals (repeat' (first | exact rfl | exact trivial | (with_reducible assumption) | refine And.intro ?_ ?_)); all_goals (first | omega | assumption); done) | (refine ⟨[some 2], .tup [], [DMember (chL 3 n yss i)], ?_, ?_, ?_⟩; all_goals (repeat' (first | exact rfl | exact trivial | (with_reducible assumption) | refine And.intro ?_ ?_)); all_goals (first | omega | assumption); done) | (refine ⟨[some 3], .tup [], [DMember (chL 3 n yss i)], ?_, ?_, ?_⟩; all_goals (repeat' (first | exact rfl | exact trivial | (with_reducible assumption) | refine And.intro ?_ ?_)); all_goals (first | omega | assumption); done) | (refine ⟨[some 4], .tup [], [DMember (chL 3 n yss i)], ?_, ?_, ?_⟩; all_goals (repeat' (first | exact rfl | exact trivial | (with_reducible assumption) | refine And.intro ?_ ?_)); all_goals (first | omega | assumption); done) | (refine ⟨[some 5], .tup [], [DMember (chL 3 n yss i)], ?_, ?_, ?_⟩; all_goals (repeat' (first | exact rfl | exact trivial | (with_reducible assumption) | refine And.intro ?_ ?_)); all_goals (first | omega | assumption); done))
set_option maxRecDepth 100000 in
theorem prove1_call (yss : List (List Int)) (n : Int) (i : Nat) (hi : i < yss.length) (hr : ∀ r ∈ yss, r.length = 5) : CallA Try.prog G 32 [.eptr 0 5 i 0, .rpc [I n] 0] [DMember yss] (fun v J => v = .tup [] ∧ J = [DMember (chL 4 n yss i)]) := by
  refine CallA.ends (callA_of_body hT Try.func32 rfl ?_)
  have hl : (yss.getD i []).length = 5 := hr _ (getD_mem hi)
  repeat' (first | (intro h; first | contradiction | omega | (conv => whnf) | skip) | (refine And.intro ?_ ?_) | (refine arith_ok ⟨by omega, by omega⟩ ?_) | (first | (refine draw_quiet hT mixed (by decide +kernel) ?_) | (refine draw_hard hT mixed (by decide +kernel) ?_)) | fail)
  all_goals first | omega | assumption | skip
  (first | (refine ⟨[], .tup [], [DMember (chL 4 n yss i)], ?_, ?_, ?_⟩; all_goals (repeat' (first | exact rfl | exact trivial | (with_reducible assumption) | refine And.intro ?_ ?_)); all_goals (first | omega | assumption); done) | (refine ⟨[some 1], .tup [], [DMember (chL 4 n yss i)], ?_, ?_, ?_⟩; all_goals (repeat' (first | exact rfl | exact trivial | (with_reducible assumption) | refine And.intro ?_ ?_)); all_goals (first | omega | assumption); done) | (refine ⟨[some 0], .tup [], [DMember (chL 4 n yss i)], ?_, ?_, ?_⟩; all_goals (repeat' (first | exact rfl | exact trivial | (with_reducible assumption) | refine And.intro ?_ ?_)); all_goals (first | omega | assumption); done) | (refine ⟨[some 2], .tup [], [DMember (chL 4 n yss i)], ?_, ?_, ?_⟩; all_goals (repeat' (first | exact rfl | exact trivial | (with_reducible assumption) | refine And.intro ?_ ?_)); all_goals (first | omega | assumption); done) | (refine ⟨[some 3], .tup [], [DMember (chL 4 n yss i)], ?_, ?_, ?_⟩; all_goals (repeat' (first | exact rfl | exact trivial | (with_reducible assumption) | refine And.intro ?_ ?_)); all_goals (first | omega | assumption); done) | (refine ⟨[some 4], .tup [], [DMember (chL 4 n yss i)], ?_, ?_, ?_⟩; all_goals (repeat' (first | exact rfl | exact trivial | (with_reducible assumption) | refine And.intro ?_ ?_)); all_goals (first | omega | assumption); done) | (refine ⟨[some 5], .tup [], [DMember (chL 4 n yss i)], ?_, ?_, ?_⟩; all_goals (repeat' (first | exact rfl | exact trivial | (with_reducible assumption) | refine And.intro ?_ ?_)); all_goals (first | omega | assumption); done))
end Go.Proofs.Ytcjjmophikelhaa
