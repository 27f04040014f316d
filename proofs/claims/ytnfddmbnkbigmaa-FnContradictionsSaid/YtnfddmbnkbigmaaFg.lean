/-
  The first case to which two rules apply: what the functions return. No conditions but those in the statements.
-/
import Derived.Test.YtnfddmbnkbigmaaFf
set_option linter.unusedVariables false
set_option linter.unusedSimpArgs false
namespace Go.Proofs.Ytnfddmbnkbigmaa
open Go.AE

attribute [local irreducible] CallA LoopA DrawA CallQ arithK quoK remK eqK
abbrev andI (e f : Int) : Int := bitsI .and .i64 e f
theorem and_all : ∀ e f : Fin 16, ∀ k : Fin 4, (0 ≤ andI (e.val : Nat) (f.val : Nat) ∧ andI (e.val : Nat) (f.val : Nat) ≤ 15) ∧ (0 ≤ sh (andI (e.val : Nat) (f.val : Nat)) (k.val : Nat) ∧ sh (andI (e.val : Nat) (f.val : Nat)) (k.val : Nat) ≤ 15) ∧ (sh (andI (e.val : Nat) (f.val : Nat)) (k.val : Nat) % 2 = 1 ↔ (sh (e.val : Nat) (k.val : Nat) % 2 = 1 ∧ sh (f.val : Nat) (k.val : Nat) % 2 = 1)) := by decide +kernel
theorem fin_of {x n : Int} (h : 0 ≤ x ∧ x < n) (m : Nat) (hm : n = m) : ∃ f : Fin m, x = ((f.val : Nat) : Int) := by
  obtain ⟨a, rfl⟩ := Int.eq_ofNat_of_zero_le h.1
  exact ⟨⟨a, by omega⟩, rfl⟩
theorem and_bits {e f k : Int} (he : 1 ≤ e ∧ e ≤ 15) (hf : 1 ≤ f ∧ f ≤ 15) (hk : 0 ≤ k ∧ k ≤ 3) : (0 ≤ andI e f ∧ andI e f ≤ 15) ∧ (0 ≤ sh (andI e f) k ∧ sh (andI e f) k ≤ 15) ∧ (sh (andI e f) k % 2 = 1 ↔ (sh e k % 2 = 1 ∧ sh f k % 2 = 1)) := by
  obtain ⟨a, rfl⟩ := fin_of (x := e) (n := 16) ⟨by omega, by omega⟩ 16 rfl
  obtain ⟨b, rfl⟩ := fin_of (x := f) (n := 16) ⟨by omega, by omega⟩ 16 rfl
  obtain ⟨c, rfl⟩ := fin_of (x := k) (n := 4) ⟨by omega, by omega⟩ 4 rfl
  exact and_all a b c
attribute [local irreducible] bitsI
def cA2 (r s : List Int) : Int := max (r.getD 0 0) (s.getD 0 0)
def cY2 (r s : List Int) : Int := max (r.getD 2 0) (s.getD 2 0)
def aBit (r s : List Int) (k : Int) : Int := sh (andI (r.getD 4 0) (s.getD 4 0)) k % 2
def both (r s : List Int) (k : Int) : Prop := appl r (cA2 r s) (cY2 r s) k ∧ appl s (cA2 r s) (cY2 r s) k
instance (r s : List Int) (k : Int) : Decidable (both r s k) := by unfold both; infer_instance
/-- The first kind that both have, or the last kind. -/
def kS (r s : List Int) : Int := if aBit r s 0 = 1 then 0 else if aBit r s 1 = 1 then 1 else if aBit r s 2 = 1 then 2 else 3
theorem kS_in (r s : List Int) : 0 ≤ kS r s ∧ kS r s ≤ 3 := by
  unfold kS
  split
  · omega
  · split
    · omega
    · split <;> omega
theorem kS_eq {r s : List Int} {k : Int} (hk : 0 ≤ k ∧ k ≤ 3) (h : ∀ j, 0 ≤ j → j < k → aBit r s j ≠ 1) (h2 : k < 3 → aBit r s k = 1) : kS r s = k := by
  unfold kS
  rcases (show k = 0 ∨ k = 1 ∨ k = 2 ∨ k = 3 by omega) with rfl | rfl | rfl | rfl
  · rw [if_pos (h2 (by omega))]
  · rw [if_neg (h 0 (by omega) (by omega)), if_pos (h2 (by omega))]
  · rw [if_neg (h 0 (by omega) (by omega)), if_neg (h 1 (by omega) (by omega)), if_pos (h2 (by omega))]
  · rw [if_neg (h 0 (by omega) (by omega)), if_neg (h 1 (by omega) (by omega)), if_neg (h 2 (by omega) (by omega))]
def comOk (r s : List Int) : Prop := both r s (kS r s)
instance (r s : List Int) : Decidable (comOk r s) := by unfold comOk; infer_instance
theorem both_bit {r s : List Int} (hr : rowL r) (hs : rowL s) {k : Int} (hk : 0 ≤ k ∧ k ≤ 3) (h : both r s k) : aBit r s k = 1 :=
  (and_bits hr.2.2.2.2.1 hs.2.2.2.2.1 hk).2.2.2 ⟨h.1.2.2, h.2.2.2⟩
theorem bit_both {r s : List Int} (hr : rowL r) (hs : rowL s) {j k : Int} (hj : 0 ≤ j ∧ j ≤ 3) (h : both r s k) (hb : aBit r s j = 1) : both r s j := by
  have := (and_bits hr.2.2.2.2.1 hs.2.2.2.2.1 hj).2.2.1 hb
  exact ⟨⟨h.1.1, h.1.2.1, this.1⟩, ⟨h.2.1, h.2.2.1, this.2⟩⟩
theorem kS_hit {r s : List Int} (hr : rowL r) (hs : rowL s) {k : Int} (hk : 0 ≤ k ∧ k ≤ 3) (hn : ∀ j, 0 ≤ j → j < k → ¬ both r s j) (h : both r s k) : kS r s = k :=
  kS_eq hk (fun j h0 h1 hb => hn j h0 h1 (bit_both hr hs ⟨h0, by omega⟩ h hb)) fun _ => both_bit hr hs hk h
theorem both_iff {r s : List Int} {k : Int} : both r s k ↔ (appl r (cA2 r s) (cY2 r s) k ∧ appl s (cA2 r s) (cY2 r s) k) := Iff.rfl
theorem cA2_eq (r s : List Int) : max (r.getD 0 0) (s.getD 0 0) = cA2 r s := rfl
theorem cY2_eq (r s : List Int) : max (r.getD 2 0) (s.getD 2 0) = cY2 r s := rfl
theorem com_hit {r s : List Int} (hr : rowL r) (hs : rowL s) {k : Int} (hk : 0 ≤ k ∧ k ≤ 3) (hn : ∀ j, 0 ≤ j → j < k → ¬ both r s j) (h : both r s k) : comOk r s ∧ kS r s = k := by
  have := kS_hit hr hs hk hn h
  exact ⟨by unfold comOk; rw [this]; exact h, this⟩
theorem com_miss {r s : List Int} (h : ∀ j, 0 ≤ j → j < 4 → ¬ both r s j) : ¬ comOk r s := fun hc => h (kS r s) (kS_in r s).1 (by have := (kS_in r s).2; omega) hc
theorem both_next {r s : List Int} {k : Int} (h : ∀ j, 0 ≤ j → j < k → ¬ both r s j) (hk : ¬ both r s k) : ∀ j, 0 ≤ j → j < k + 1 → ¬ both r s j := fun j h0 h1 => by
  by_cases hj : j = k
  · rw [hj]; exact hk
  · exact h j h0 (by omega)
theorem com_at {r s : List Int} {k : Int} (h : kS r s = k) : comOk r s ↔ (appl r (cA2 r s) (cY2 r s) k ∧ appl s (cA2 r s) (cY2 r s) k) := by
  unfold comOk
  rw [h]
  exact both_iff
theorem aBit_eq (r s : List Int) (k : Int) : sh (andI (r.getD 4 0) (s.getD 4 0)) k % 2 = aBit r s k := rfl
abbrev comT (r s : List Int) : AV := if comOk r s then .tup [VCase (cA2 r s) (cY2 r s) (kS r s), Bo true] else .tup [VCase 0 0 0, Bo false]
theorem comT_yes {r s : List Int} (h : comOk r s) : comT r s = .tup [VCase (cA2 r s) (cY2 r s) (kS r s), Bo true] := if_pos h
theorem comT_no {r s : List Int} (h : ¬ comOk r s) : comT r s = .tup [VCase 0 0 0, Bo false] := if_neg h
attribute [local irreducible] cA2 cY2 aBit both kS appl comOk
set_option maxRecDepth 100000 in
theorem implCommon_ret (r s : List Int) (hr : rowL r) (hs : rowL s) : Ret Try.prog G 51 [WRule r, WRule s] (comT r s) := by
  refine ret_of_body hT Try.func51 rfl ?_ (by unfold comT; split <;> rfl)
  repeat' (first | (intro h; first | contradiction | omega | (conv => whnf) | skip) | (refine And.intro ?_ ?_) | (refine arith_ok ⟨by omega, by omega⟩ ?_) | (first | (refine draw_quiet hT mixed (by decide +kernel) ?_) | (refine draw_hard hT mixed (by decide +kernel) ?_)) | fail)
  all_goals first | omega | skip
  refine loop_rule hT (fun k : Int => (0 ≤ k ∧ k ≤ 4) ∧ ∀ j, 0 ≤ j → j < k → ¬ both r s j) 35 4 [2, 3, 4, 6, 19] (fun k => [.ptr 0 0, .ptr 1 0, .ptr 2 0, .ptr 3 0, I k]) (fun k => [.cells [I (r.getD 0 0), I (r.getD 1 0), I (r.getD 2 0), I (r.getD 3 0), I (r.getD 4 0), I (r.getD 5 0)], .cells [I (s.getD 0 0), I (s.getD 1 0), I (s.getD 2 0), I (s.getD 3 0), I (s.getD 4 0), I (s.getD 5 0)], .cells [I 0, I 0, I 0], .cells [I (cA2 r s), I (cY2 r s), .un]]) (fun k => (4 - k).toNat) (0) (Nat.le_of_ble_eq_true rfl) ?_ ?_ ?_
  · exact ⟨⟨by decide, by decide⟩, fun j h0 h1 => by omega⟩
  · (first | (refine ⟨rfl, [], ?_, ?_⟩; all_goals (repeat' (first | exact rfl | exact trivial | (with_reducible assumption) | refine And.intro ?_ ?_)); all_goals (first | omega | assumption | ((repeat' (first | first | exact cA2_eq r s | exact cY2_eq r s | exact rfl | exact trivial | (with_reducible assumption) | refine And.intro ?_ ?_ | omega | assumption)); done)); done) | (refine ⟨rfl, [some 1], ?_, ?_⟩; all_goals (repeat' (first | exact rfl | exact trivial | (with_reducible assumption) | refine And.intro ?_ ?_)); all_goals (first | omega | assumption | ((repeat' (first | first | exact cA2_eq r s | exact cY2_eq r s | exact rfl | exact trivial | (with_reducible assumption) | refine And.intro ?_ ?_ | omega | assumption)); done)); done) | (refine ⟨rfl, [some 2], ?_, ?_⟩; all_goals (repeat' (first | exact rfl | exact trivial | (with_reducible assumption) | refine And.intro ?_ ?_)); all_goals (first | omega | assumption | ((repeat' (first | first | exact cA2_eq r s | exact cY2_eq r s | exact rfl | exact trivial | (with_reducible assumption) | refine And.intro ?_ ?_ | omega | assumption)); done)); done) | (refine ⟨rfl, [some 3], ?_, ?_⟩; all_goals (repeat' (first | exact rfl | exact trivial | (with_reducible assumption) | refine And.intro ?_ ?_)); all_goals (first | omega | assumption | ((repeat' (first | first | exact cA2_eq r s | exact cY2_eq r s | exact rfl | exact trivial | (with_reducible assumption) | refine And.intro ?_ ?_ | omega | assumption)); done)); done) | (refine ⟨rfl, [some 0], ?_, ?_⟩; all_goals (repeat' (first | exact rfl | exact trivial | (with_reducible assumption) | refine And.intro ?_ ?_)); all_goals (first | omega | assumption | ((repeat' (first | first | exact cA2_eq r s | exact cY2_eq r s | exact rfl | exact trivial | (with_reducible assumption) | refine And.intro ?_ ?_ | omega | assumption)); done)); done) | (refine ⟨rfl, [some 4], ?_, ?_⟩; all_goals (repeat' (first | exact rfl | exact trivial | (with_reducible assumption) | refine And.intro ?_ ?_)); all_goals (first | omega | assumption | ((repeat' (first | first | exact cA2_eq r s | exact cY2_eq r s | exact rfl | exact trivial | (with_reducible assumption) | refine And.intro ?_ ?_ | omega | assumption)); done)); done) | (refine ⟨rfl, [some 5], ?_, ?_⟩; all_goals (repeat' (first | exact rfl | exact trivial | (with_reducible assumption) | refine And.intro ?_ ?_)); all_goals (first | omega | assumption | ((repeat' (first | first | exact cA2_eq r s | exact cY2_eq r s | exact rfl | exact trivial | (with_reducible assumption) | refine And.intro ?_ ?_ | omega | assumption)); done)); done) | (refine ⟨rfl, [some 6], ?_, ?_⟩; all_goals (repeat' (first | exact rfl | exact trivial | (with_reducible assumption) | refine And.intro ?_ ?_)); all_goals (first | omega | assumption | ((repeat' (first | first | exact cA2_eq r s | exact cY2_eq r s | exact rfl | exact trivial | (with_reducible assumption) | refine And.intro ?_ ?_ | omega | assumption)); done)); done))
  · rintro k ⟨h1, h2⟩
    by_cases hk : k < 4
    · have hk3 : 0 ≤ k ∧ k ≤ 3 := by omega
      repeat' (first | (intro h; first | contradiction | omega | (conv => whnf) | skip) | (refine And.intro ?_ ?_) | (refine arith_ok ⟨by omega, by omega⟩ ?_) | (first | (refine draw_quiet hT mixed (by decide +kernel) ?_) | (refine draw_hard hT mixed (by decide +kernel) ?_)) | (refine Ret.goP (applies_ret r _ _ k hr hk3) rfl ?_) | (refine Ret.goQP (applies_ret r _ _ k hr hk3) rfl ?_) | (refine Ret.goP (applies_ret s _ _ k hs hk3) rfl ?_) | (refine Ret.goQP (applies_ret s _ _ k hs hk3) rfl ?_))
      all_goals first | omega | skip
      all_goals first
        | (obtain ⟨hc, hkS⟩ := com_hit hr hs hk3 h2 (both_iff.2 ⟨by assumption, by assumption⟩); rw [comT_yes hc, hkS]; done)
        | (refine ⟨k + 1, ⟨⟨by omega, by omega⟩, both_next h2 (fun hb => by have := both_iff.1 hb; first | exact absurd this.1 (by assumption) | exact absurd this.2 (by assumption))⟩, ?_, by omega⟩; (first | (refine ⟨rfl, [], ?_, ?_⟩; all_goals (repeat' (first | exact rfl | exact trivial | (with_reducible assumption) | refine And.intro ?_ ?_)); all_goals (first | omega | assumption); done) | (refine ⟨rfl, [some 1], ?_, ?_⟩; all_goals (repeat' (first | exact rfl | exact trivial | (with_reducible assumption) | refine And.intro ?_ ?_)); all_goals (first | omega | assumption); done) | (refine ⟨rfl, [some 2], ?_, ?_⟩; all_goals (repeat' (first | exact rfl | exact trivial | (with_reducible assumption) | refine And.intro ?_ ?_)); all_goals (first | omega | assumption); done) | (refine ⟨rfl, [some 3], ?_, ?_⟩; all_goals (repeat' (first | exact rfl | exact trivial | (with_reducible assumption) | refine And.intro ?_ ?_)); all_goals (first | omega | assumption); done) | (refine ⟨rfl, [some 0], ?_, ?_⟩; all_goals (repeat' (first | exact rfl | exact trivial | (with_reducible assumption) | refine And.intro ?_ ?_)); all_goals (first | omega | assumption); done) | (refine ⟨rfl, [some 4], ?_, ?_⟩; all_goals (repeat' (first | exact rfl | exact trivial | (with_reducible assumption) | refine And.intro ?_ ?_)); all_goals (first | omega | assumption); done) | (refine ⟨rfl, [some 5], ?_, ?_⟩; all_goals (repeat' (first | exact rfl | exact trivial | (with_reducible assumption) | refine And.intro ?_ ?_)); all_goals (first | omega | assumption); done) | (refine ⟨rfl, [some 6], ?_, ?_⟩; all_goals (repeat' (first | exact rfl | exact trivial | (with_reducible assumption) | refine And.intro ?_ ?_)); all_goals (first | omega | assumption); done)))
        | trace_state
    · have hn := com_miss (fun j h0 h3 => h2 j h0 (by omega))
      repeat' (first | (intro h; first | contradiction | omega | (conv => whnf) | skip) | (refine And.intro ?_ ?_) | (refine arith_ok ⟨by omega, by omega⟩ ?_) | (first | (refine draw_quiet hT mixed (by decide +kernel) ?_) | (refine draw_hard hT mixed (by decide +kernel) ?_)) | fail)
      all_goals first | omega | (rw [comT_no hn]; done) | trace_state
set_option maxRecDepth 100000 in
theorem specCommon_ret (r s : List Int) (hr : rowL r) (hs : rowL s) : Ret Try.prog G 52 [WRule r, WRule s] (.tup [VCase (cA2 r s) (cY2 r s) (kS r s), Bo (decide (comOk r s))]) := by
  refine ret_of_body hT Try.func52 rfl ?_ rfl
  repeat' (first | (intro h; first | contradiction | omega | (conv => whnf) | skip) | (refine And.intro ?_ ?_) | (refine arith_ok ⟨by omega, by omega⟩ ?_) | (first | (refine draw_quiet hT mixed (by decide +kernel) ?_) | (refine draw_hard hT mixed (by decide +kernel) ?_)) | fail)
  all_goals first | omega | skip
  refine loop_rule hT (fun k : Int => (0 ≤ k ∧ k ≤ 3) ∧ ∀ j, 0 ≤ j → j < k → aBit r s j ≠ 1) 47 4 [2, 3, 4, 6] (fun k => [.ptr 0 0, .ptr 1 0, .ptr 2 0, .ptr 3 0]) (fun k => [.cells [I (r.getD 0 0), I (r.getD 1 0), I (r.getD 2 0), I (r.getD 3 0), I (r.getD 4 0), I (r.getD 5 0)], .cells [I (s.getD 0 0), I (s.getD 1 0), I (s.getD 2 0), I (s.getD 3 0), I (s.getD 4 0), I (s.getD 5 0)], .cells [I 0, I 0, I 0], .cells [I (cA2 r s), I (cY2 r s), I k]]) (fun k => (3 - k).toNat) (0) (Nat.le_of_ble_eq_true rfl) ?_ ?_ ?_
  · exact ⟨⟨by decide, by decide⟩, fun j h0 h1 => by omega⟩
  · (first | (refine ⟨rfl, [], ?_, ?_⟩; all_goals (repeat' (first | exact rfl | exact trivial | (with_reducible assumption) | refine And.intro ?_ ?_)); all_goals (first | omega | assumption | ((repeat' (first | first | exact cA2_eq r s | exact cY2_eq r s | exact rfl | exact trivial | (with_reducible assumption) | refine And.intro ?_ ?_ | omega | assumption)); done)); done) | (refine ⟨rfl, [some 1], ?_, ?_⟩; all_goals (repeat' (first | exact rfl | exact trivial | (with_reducible assumption) | refine And.intro ?_ ?_)); all_goals (first | omega | assumption | ((repeat' (first | first | exact cA2_eq r s | exact cY2_eq r s | exact rfl | exact trivial | (with_reducible assumption) | refine And.intro ?_ ?_ | omega | assumption)); done)); done) | (refine ⟨rfl, [some 2], ?_, ?_⟩; all_goals (repeat' (first | exact rfl | exact trivial | (with_reducible assumption) | refine And.intro ?_ ?_)); all_goals (first | omega | assumption | ((repeat' (first | first | exact cA2_eq r s | exact cY2_eq r s | exact rfl | exact trivial | (with_reducible assumption) | refine And.intro ?_ ?_ | omega | assumption)); done)); done) | (refine ⟨rfl, [some 3], ?_, ?_⟩; all_goals (repeat' (first | exact rfl | exact trivial | (with_reducible assumption) | refine And.intro ?_ ?_)); all_goals (first | omega | assumption | ((repeat' (first | first | exact cA2_eq r s | exact cY2_eq r s | exact rfl | exact trivial | (with_reducible assumption) | refine And.intro ?_ ?_ | omega | assumption)); done)); done) | (refine ⟨rfl, [some 0], ?_, ?_⟩; all_goals (repeat' (first | exact rfl | exact trivial | (with_reducible assumption) | refine And.intro ?_ ?_)); all_goals (first | omega | assumption | ((repeat' (first | first | exact cA2_eq r s | exact cY2_eq r s | exact rfl | exact trivial | (with_reducible assumption) | refine And.intro ?_ ?_ | omega | assumption)); done)); done) | (refine ⟨rfl, [some 4], ?_, ?_⟩; all_goals (repeat' (first | exact rfl | exact trivial | (with_reducible assumption) | refine And.intro ?_ ?_)); all_goals (first | omega | assumption | ((repeat' (first | first | exact cA2_eq r s | exact cY2_eq r s | exact rfl | exact trivial | (with_reducible assumption) | refine And.intro ?_ ?_ | omega | assumption)); done)); done) | (refine ⟨rfl, [some 5], ?_, ?_⟩; all_goals (repeat' (first | exact rfl | exact trivial | (with_reducible assumption) | refine And.intro ?_ ?_)); all_goals (first | omega | assumption | ((repeat' (first | first | exact cA2_eq r s | exact cY2_eq r s | exact rfl | exact trivial | (with_reducible assumption) | refine And.intro ?_ ?_ | omega | assumption)); done)); done) | (refine ⟨rfl, [some 6], ?_, ?_⟩; all_goals (repeat' (first | exact rfl | exact trivial | (with_reducible assumption) | refine And.intro ?_ ?_)); all_goals (first | omega | assumption | ((repeat' (first | first | exact cA2_eq r s | exact cY2_eq r s | exact rfl | exact trivial | (with_reducible assumption) | refine And.intro ?_ ?_ | omega | assumption)); done)); done))
  · rintro k ⟨h1, h2⟩
    have hab := and_bits hr.2.2.2.2.1 hs.2.2.2.2.1 h1
    have hae : (bitsI BinOp.and IntKind.i64 (r.getD 4 0) (s.getD 4 0)).fdiv (2 ^ min k.toNat IntKind.i64.bits) % 2 = aBit r s k := aBit_eq r s k
    repeat' (first | (intro h; first | contradiction | omega | (conv => whnf) | skip) | (refine And.intro ?_ ?_) | (refine arith_ok ⟨by omega, by omega⟩ ?_) | (refine draw_hard hT mixed (by decide +kernel) ?_) | (refine eq_ok ?_) | (refine rem_ok hab.2.1.1 (by omega) ?_) | (refine Ret.goP (l23Applies_ret r _ _ k hr h1) rfl ?_) | (refine Ret.goQP (l23Applies_ret r _ _ k hr h1) rfl ?_) | (refine Ret.goP (l23Applies_ret s _ _ k hs h1) rfl ?_) | (refine Ret.goQP (l23Applies_ret s _ _ k hs h1) rfl ?_))
    all_goals first | omega | skip
    all_goals first
      | (have hb0 : aBit r s k = 0 := hae.symm.trans h
         refine ⟨k + 1, ⟨⟨by omega, by omega⟩, fun j h0 h3 => ?_⟩, ?_, by omega⟩
         · by_cases hj : j = k
           · rw [hj, hb0]; decide
           · exact h2 j h0 (by omega)
         · (first | (refine ⟨rfl, [], ?_, ?_⟩; all_goals (repeat' (first | exact rfl | exact trivial | (with_reducible assumption) | refine And.intro ?_ ?_)); all_goals (first | omega | assumption); done) | (refine ⟨rfl, [some 1], ?_, ?_⟩; all_goals (repeat' (first | exact rfl | exact trivial | (with_reducible assumption) | refine And.intro ?_ ?_)); all_goals (first | omega | assumption); done) | (refine ⟨rfl, [some 2], ?_, ?_⟩; all_goals (repeat' (first | exact rfl | exact trivial | (with_reducible assumption) | refine And.intro ?_ ?_)); all_goals (first | omega | assumption); done) | (refine ⟨rfl, [some 3], ?_, ?_⟩; all_goals (repeat' (first | exact rfl | exact trivial | (with_reducible assumption) | refine And.intro ?_ ?_)); all_goals (first | omega | assumption); done) | (refine ⟨rfl, [some 0], ?_, ?_⟩; all_goals (repeat' (first | exact rfl | exact trivial | (with_reducible assumption) | refine And.intro ?_ ?_)); all_goals (first | omega | assumption); done) | (refine ⟨rfl, [some 4], ?_, ?_⟩; all_goals (repeat' (first | exact rfl | exact trivial | (with_reducible assumption) | refine And.intro ?_ ?_)); all_goals (first | omega | assumption); done) | (refine ⟨rfl, [some 5], ?_, ?_⟩; all_goals (repeat' (first | exact rfl | exact trivial | (with_reducible assumption) | refine And.intro ?_ ?_)); all_goals (first | omega | assumption); done) | (refine ⟨rfl, [some 6], ?_, ?_⟩; all_goals (repeat' (first | exact rfl | exact trivial | (with_reducible assumption) | refine And.intro ?_ ?_)); all_goals (first | omega | assumption); done)))
      | (have hkS := kS_eq h1 h2 (fun h3 => by
           first
             | omega
             | (have hbn : ¬ (bitsI BinOp.and IntKind.i64 (r.getD 4 0) (s.getD 4 0)).fdiv (2 ^ min k.toNat IntKind.i64.bits) % 2 = 0 := by assumption
                omega))
         have hc := com_at hkS
         (try (conv => whnf))
         rw [hkS]
         first
           | (rw [decide_eq_true (hc.2 ⟨by assumption, by assumption⟩)]; done)
           | (rw [decide_eq_false (fun hh => by have := hc.1 hh; first | exact absurd this.1 (by assumption) | exact absurd this.2 (by assumption))]; done))
      | trace_state
end Go.Proofs.Ytnfddmbnkbigmaa
