/-
  How many votes are needed: what the functions return. No conditions but those in the statements.
-/
import Derived.Test.YtcdfdigehaipmaaBase
set_option linter.unusedVariables false
set_option linter.unusedSimpArgs false
namespace Go.Proofs.Ytcdfdigehaipmaa
open Go.AE

attribute [local irreducible] CallA LoopA DrawA CallQ arithK quoK remK eqK
/-- A motion is carried. -/
def car (y n s : Int) : Prop := 0 < y ∧ (s = 1000 → n = 0) ∧ (s ≠ 1000 → s * (y + n) < 1000 * y)
instance (y n s : Int) : Decidable (car y n s) := by unfold car; infer_instance
theorem mul_bnd {s t : Int} (h1 : 1 ≤ s) (h2 : s ≤ 1000) (h3 : 0 ≤ t) (h4 : t ≤ 200000) : 0 ≤ s * t ∧ s * t ≤ 200000000 := mul_in (A := 1000) (B := 200000) (by omega) h2 h3 h4
set_option maxRecDepth 100000 in
theorem specCarried_ret (y n s : Int) (hy : 0 ≤ y ∧ y ≤ 100000) (hn : 0 ≤ n ∧ n ≤ 100000) (hs : 1 ≤ s ∧ s ≤ 1000) : Ret Try.prog G 48 [.v (.int .i64 y), .v (.int .i64 n), .v (.int .i64 s)] (.v (.bool (decide (car y n s)))) := by
  have hm := mul_bnd (s := s) (t := y + n) hs.1 hs.2 (by omega) (by omega)
  refine ret_of_body hT Try.func48 rfl ?_ rfl
  repeat' (first | (refine arith_ok ?_ ?_) | (intro h; first | contradiction | skip) | (refine And.intro ?_ ?_))
  all_goals (first | omega | exact bv_true (by unfold car; omega) | exact bv_false (by unfold car; omega))
set_option maxRecDepth 100000 in
theorem implCarried_ret (y n s : Int) (hy : 0 ≤ y ∧ y ≤ 100000) (hn : 0 ≤ n ∧ n ≤ 100000) (hs : 1 ≤ s ∧ s ≤ 1000) : Ret Try.prog G 49 [.v (.int .i64 y), .v (.int .i64 n), .v (.int .i64 s)] (.v (.bool (decide (car y n s)))) := by
  have hm := mul_bnd (s := s) (t := y + n) hs.1 hs.2 (by omega) (by omega)
  have ht : s = 1000 → s * (y + n) = 1000 * (y + n) := fun h => by rw [h]
  refine ret_of_body hT Try.func49 rfl ?_ rfl
  repeat' (first | (refine arith_ok ?_ ?_) | (intro h; first | contradiction | skip) | (refine And.intro ?_ ?_))
  all_goals (first | omega | exact bv_true (by unfold car; omega) | exact bv_false (by unfold car; omega))
def yesN (v s : Int) : Int × Int :=
  if (1 ≤ v ∧ v ≤ 100000) ∧ (1 ≤ s ∧ s ≤ 1000) then (if s = 1000 then v else v * s / 1000 + 1, 0) else (0, 2)
theorem yes_bounds {v s : Int} (hv : 1 ≤ v ∧ v ≤ 100000) (hs : 1 ≤ s ∧ s ≤ 1000) : 0 ≤ v * s / 1000 ∧ v * s / 1000 ≤ (yesN v s).1 ∧ (yesN v s).1 ≤ v ∧ 1 ≤ (yesN v s).1 ∧ (s = 1000 → v * s / 1000 = v) ∧ 0 ≤ v * s ∧ v * s ≤ 100000000 := by
  have h1 := mul_in (a := v) (b := s) (A := 100000) (B := 1000) (by omega) (by omega) (by omega) (by omega)
  have h2 : s = 1000 → v * s = v * 1000 := fun h => by rw [h]
  have h3 : s ≤ 999 → v * s ≤ v * 999 := fun h => Int.mul_le_mul_of_nonneg_left h (by omega)
  unfold yesN
  rw [if_pos ⟨hv, hs⟩]
  by_cases h : s = 1000
  · have := h2 h
    simp only [h, if_true]
    rw [h] at this h1
    omega
  · rw [if_neg h]
    have := h3 (by omega)
    simp only
    omega
theorem yes_car {v s y : Int} (hv : 1 ≤ v ∧ v ≤ 100000) (hs : 1 ≤ s ∧ s ≤ 1000) (hy : 0 ≤ y ∧ y ≤ (yesN v s).1) : car y (v - y) s ↔ y = (yesN v s).1 := by
  have e : s * (y + (v - y)) = v * s := by rw [show y + (v - y) = v by omega, Int.mul_comm]
  unfold car
  rw [e]
  unfold yesN at *
  rw [if_pos ⟨hv, hs⟩] at *
  by_cases h : s = 1000
  · rw [if_pos h] at *
    simp only at *
    constructor
    · intro hc
      have := hc.2.1 h
      omega
    · intro hc
      exact ⟨by omega, fun _ => by omega, fun h' => absurd h h'⟩
  · rw [if_neg h] at *
    simp only at *
    constructor
    · intro hc
      have := hc.2.2 h
      omega
    · intro hc
      have := mul_in (a := v) (b := s) (A := 100000) (B := 1000) (by omega) (by omega) (by omega) (by omega)
      exact ⟨by omega, fun h' => absurd h' h, fun _ => by omega⟩
set_option maxRecDepth 100000 in
theorem specYesNeeded_ret (v s : Int) : Ret Try.prog G 15 [.v (.int .i64 v), .v (.int .i64 s)] (.tup [.v (.int .i64 (yesN v s).1), .v (.int .i64 (yesN v s).2)]) := by
  refine ret_of_body hT Try.func15 rfl ?_ rfl
  by_cases hr : (1 ≤ v ∧ v ≤ 100000) ∧ (1 ≤ s ∧ s ≤ 1000)
  · have hb := yes_bounds hr.1 hr.2
    have h2 : (yesN v s).2 = 0 := by unfold yesN; rw [if_pos hr]
    repeat' (first | (refine Ret.goP (l01In_ret _ _ _) rfl ?_) | (refine arith_ok ⟨by omega, by omega⟩ ?_) | (refine quo_ok ⟨by omega, by omega⟩ (by omega) (by omega) ?_) | (intro h; first | contradiction | omega | skip) | (refine And.intro ?_ ?_))
    refine loop_rule hT (fun y : Int => 0 ≤ y ∧ y ≤ (yesN v s).1) 29 0 [0, 1, 6] (fun y => [.v (.int .i64 v), .v (.int .i64 s), .v (.int .i64 y)]) (fun _ => []) (fun y => ((yesN v s).1 - y).toNat) (v * s / 1000) (by decide) (by omega) ?_ ?_
    · refine ⟨rfl, [], ?_, ?_⟩
      all_goals (repeat' (first | exact rfl | exact trivial | refine And.intro ?_ ?_))
    · intro y hy
      have hc := yes_car hr.1 hr.2 hy
      repeat' (first | (refine Ret.goP (specCarried_ret _ _ _ (by omega) (by omega) (by omega)) rfl ?_) | (refine arith_ok ⟨by omega, by omega⟩ ?_) | (intro h; first | contradiction | omega | skip) | (refine And.intro ?_ ?_))
      · exact tup_ii (hc.1 (by assumption)) h2.symm
      · have hne : y ≠ (yesN v s).1 := fun e => absurd (hc.2 e) (by assumption)
        refine ⟨y + 1, by omega, ⟨rfl, [], ?_, ?_⟩, by omega⟩
        all_goals (repeat' (first | exact rfl | exact trivial | refine And.intro ?_ ?_))
  · have h2 : yesN v s = (0, 2) := by unfold yesN; rw [if_neg hr]
    rw [h2]
    repeat' (first | (refine Ret.goP (l01In_ret _ _ _) rfl ?_) | (intro h; first | contradiction | omega | skip) | (refine And.intro ?_ ?_))
    all_goals (first | exact absurd ⟨by assumption, by assumption⟩ hr | rfl)
set_option maxRecDepth 100000 in
theorem implYesNeeded_ret (v s : Int) : Ret Try.prog G 16 [.v (.int .i64 v), .v (.int .i64 s)] (.tup [.v (.int .i64 (yesN v s).1), .v (.int .i64 (yesN v s).2)]) := by
  refine ret_of_body hT Try.func16 rfl ?_ rfl
  by_cases hr : (1 ≤ v ∧ v ≤ 100000) ∧ (1 ≤ s ∧ s ≤ 1000)
  · have hb := yes_bounds hr.1 hr.2
    have h2 : (yesN v s).2 = 0 := by unfold yesN; rw [if_pos hr]
    repeat' (first | (refine Ret.goP (inRange_ret _ _ _) rfl ?_) | (refine arith_ok ⟨by omega, by omega⟩ ?_) | (refine quo_ok ⟨by omega, by omega⟩ (by omega) (by omega) ?_) | (intro h; first | contradiction | omega | skip) | (refine And.intro ?_ ?_))
    refine loop_rule hT (fun y : Int => 0 ≤ y ∧ y ≤ (yesN v s).1) 25 0 [0, 1, 6] (fun y => [.v (.int .i64 v), .v (.int .i64 s), .v (.int .i64 y)]) (fun _ => []) (fun y => ((yesN v s).1 - y).toNat) (1) (by decide) (by omega) ?_ ?_
    · refine ⟨rfl, [], ?_, ?_⟩
      all_goals (repeat' (first | exact rfl | exact trivial | refine And.intro ?_ ?_))
    · intro y hy
      have hc := yes_car hr.1 hr.2 hy
      repeat' (first | (refine Ret.goP (implCarried_ret _ _ _ (by omega) (by omega) (by omega)) rfl ?_) | (refine arith_ok ⟨by omega, by omega⟩ ?_) | (intro h; first | contradiction | omega | skip) | (refine And.intro ?_ ?_))
      · exact tup_ii (hc.1 (by assumption)) h2.symm
      · have hne : y ≠ (yesN v s).1 := fun e => absurd (hc.2 e) (by assumption)
        refine ⟨y + 1, by omega, ⟨rfl, [], ?_, ?_⟩, by omega⟩
        all_goals (repeat' (first | exact rfl | exact trivial | refine And.intro ?_ ?_))
  · have h2 : yesN v s = (0, 2) := by unfold yesN; rw [if_neg hr]
    rw [h2]
    repeat' (first | (refine Ret.goP (inRange_ret _ _ _) rfl ?_) | (intro h; first | contradiction | omega | skip) | (refine And.intro ?_ ?_))
    all_goals (first | exact absurd ⟨by assumption, by assumption⟩ hr | rfl)
set_option maxRecDepth 100000 in
theorem lawYesNeeded_ret (v s : Int) : Ret Try.prog G 4 [.v (.int .i64 v), .v (.int .i64 s)] (.v (.bool true)) := by
  refine ret_of_body hT Try.func4 rfl ?_ rfl
  repeat' (first | (refine Ret.go (specYesNeeded_ret _ _) rfl rfl ?_) | (refine Ret.go (implYesNeeded_ret _ _) rfl rfl ?_) | (intro h; first | contradiction | (exact absurd rfl h) | skip) | (refine And.intro ?_ ?_))
  all_goals rfl
end Go.Proofs.Ytcdfdigehaipmaa
