/-
  Lists of integers: copies, equality, marks, ranges. No conditions but those in the statements.
-/
import Derived.Test.YtenofbabiacacaaGreatBase
import Derived.Test.YtenofbabiacacaaGreatAeList
set_option linter.unusedVariables false
set_option linter.unusedSimpArgs false
namespace Go.Proofs.YtenofbabiacacaaGreat
open Go.AE

attribute [local irreducible] CallA LoopA DrawA CallQ arithK quoK remK eqK
abbrev Ri (xs : List Int) : AV := .ro (.ints .i64 xs)
abbrev Di (xs : List Int) : Blk := .data (.ints .i64 xs)
set_option maxRecDepth 100000 in
theorem toInt64S_call (xs : List Int) (hn : xs.length ≤ 1048576) : CallA Tryz.prog G 14 [Ri xs] [] (fun v J => v = .sl 0 1 xs.length ∧ J = [Di xs]) := by
  refine CallA.ends (callA_of_body hT Tryz.func14 rfl ?_)
  repeat' (first | (intro h; first | contradiction | omega | (conv => whnf) | skip) | (refine And.intro ?_ ?_) | (refine arith_ok ⟨by omega, by omega⟩ ?_) | (first | (refine draw_quiet hT mixed (by decide +kernel) ?_) | (refine draw_hard hT mixed (by decide +kernel) ?_)) | fail)
  · rfl
  · omega
  · omega
  refine loop_rule hT (fun p : Nat × List Int => p.1 ≤ xs.length ∧ p.2.length = xs.length ∧ p.2.take p.1 = xs.take p.1) 22 1 [0, 3, 4] (fun p => [Ri xs, .sl 0 1 xs.length, I p.1]) (fun p => [Di p.2]) (fun p => xs.length - p.1) ((0, List.replicate xs.length 0)) (Nat.le_of_ble_eq_true rfl) ?_ ?_ ?_
  · exact ⟨Nat.zero_le _, by simp, rfl⟩
  · (refine ⟨rfl, [], ?_, ?_⟩; all_goals (repeat' (first | exact rfl | exact trivial | (with_reducible assumption) | refine And.intro ?_ ?_ | omega)))
  · rintro ⟨i, ys⟩ ⟨h1, h2, h3⟩
    dsimp only at h1 h2 h3 ⊢
    repeat' (first | (intro h; first | contradiction | omega | (conv => whnf) | skip) | (refine And.intro ?_ ?_) | (refine arith_ok ⟨by omega, by omega⟩ ?_) | (first | (refine draw_quiet hT mixed (by decide +kernel) ?_) | (refine draw_hard hT mixed (by decide +kernel) ?_)) | fail)
    all_goals first | omega | (refine ⟨(i + 1, ys.set i (xs.getD i 0)), ⟨by dsimp only; omega, by simpa using h2, set_snoc 0 h3 (by omega) h2⟩, ?_, by dsimp only; omega⟩; (refine ⟨rfl, [], ?_, ?_⟩; all_goals (repeat' (first | exact rfl | exact trivial | (with_reducible assumption) | refine And.intro ?_ ?_ | omega))); done) | skip
    obtain rfl : ys = xs := by rwa [take_all (by omega), take_all (by omega)] at h3
    (refine ⟨[some 0], .sl 0 1 ys.length, [Di ys], ?_, ?_, ?_⟩; all_goals (repeat' (first | exact rfl | exact trivial | (with_reducible assumption) | refine And.intro ?_ ?_ | omega)))
set_option maxRecDepth 100000 in
theorem eqInt64S_ret (xs ys : List Int) (hn : xs.length ≤ 2305843009213693952) : Ret Tryz.prog G 18 [Ri xs, Ri ys] (Bo (decide (xs = ys))) := by
  refine ret_of_body hT Tryz.func18 rfl ?_ rfl
  repeat' (first | (intro h; first | contradiction | omega | (conv => whnf) | skip) | (refine And.intro ?_ ?_) | (refine arith_ok ⟨by omega, by omega⟩ ?_) | (first | (refine draw_quiet hT mixed (by decide +kernel) ?_) | (refine draw_hard hT mixed (by decide +kernel) ?_)) | fail)
  · exact bv_false (fun e => by subst e; omega)
  refine loop_rule hT (fun i : Nat => i ≤ xs.length ∧ xs.take i = ys.take i) 26 0 [0, 1, 5] (fun i => [Ri xs, Ri ys, I i]) (fun _ => []) (fun i => xs.length - i) (0) (Nat.le_of_ble_eq_true rfl) ?_ ?_ ?_
  · exact ⟨Nat.zero_le _, rfl⟩
  · (refine ⟨rfl, [], ?_, ?_⟩; all_goals (repeat' (first | exact rfl | exact trivial | (with_reducible assumption) | refine And.intro ?_ ?_ | omega)))
  · rintro i ⟨h1, h2⟩
    repeat' (first | (intro h; first | contradiction | omega | (conv => whnf) | skip) | (refine And.intro ?_ ?_) | (refine arith_ok ⟨by omega, by omega⟩ ?_) | (first | (refine draw_quiet hT mixed (by decide +kernel) ?_) | (refine draw_hard hT mixed (by decide +kernel) ?_)) | fail)
    all_goals first | omega | skip
    · refine bv_false (fun e => ?_)
      subst e
      contradiction
    · have he : xs.getD i 0 = ys.getD i 0 := Decidable.of_not_not (by assumption)
      refine ⟨i + 1, ⟨by omega, ?_⟩, ?_, by omega⟩
      · rw [take_snoc 0 (by omega), take_snoc 0 (by omega), h2, he]
      · (refine ⟨rfl, [], ?_, ?_⟩; all_goals (repeat' (first | exact rfl | exact trivial | (with_reducible assumption) | refine And.intro ?_ ?_ | omega)))
    · refine bv_true ?_
      rwa [take_all (by omega), take_all (by omega)] at h2
def marks (n k : Nat) : List Int := (List.range n).map fun i => ((k + i : Nat) : Int)
theorem marks_len (n k : Nat) : (marks n k).length = n := by simp [marks]
theorem marks_get {n k i : Nat} (h : i < n) : (marks n k).getD i 0 = ((k + i : Nat) : Int) := by
  rw [marks, List.getD_eq_getElem?_getD, List.getElem?_map, List.getElem?_range h]; rfl
set_option maxRecDepth 100000 in
theorem markInt64S_call (xs : List Int) (k : Nat) (hn : xs.length ≤ 2305843009213693952) (hk : k ≤ 2305843009213693952) : CallA Tryz.prog G 24 [.sl 0 1 xs.length, I k] [Di xs] (fun v J => v = I ((k + xs.length : Nat) : Int) ∧ J = [Di (marks xs.length k)]) := by
  refine CallA.ends (callA_of_body hT Tryz.func24 rfl ?_)
  repeat' (first | (intro h; first | contradiction | omega | (conv => whnf) | skip) | (refine And.intro ?_ ?_) | (refine arith_ok ⟨by omega, by omega⟩ ?_) | (first | (refine draw_quiet hT mixed (by decide +kernel) ?_) | (refine draw_hard hT mixed (by decide +kernel) ?_)) | fail)
  refine loop_rule hT (fun p : Nat × List Int => p.1 ≤ xs.length ∧ p.2.length = xs.length ∧ p.2.take p.1 = (marks xs.length k).take p.1) 19 1 [0, 1, 5] (fun p => [.sl 0 1 xs.length, I ((k + p.1 : Nat) : Int), I p.1]) (fun p => [Di p.2]) (fun p => xs.length - p.1) ((0, xs)) (Nat.le_of_ble_eq_true rfl) ?_ ?_ ?_
  · exact ⟨Nat.zero_le _, rfl, rfl⟩
  · (refine ⟨rfl, [], ?_, ?_⟩; all_goals (repeat' (first | exact rfl | exact trivial | (with_reducible assumption) | refine And.intro ?_ ?_ | omega)))
  · rintro ⟨i, ys⟩ ⟨h1, h2, h3⟩
    dsimp only at h1 h2 h3 ⊢
    repeat' (first | (intro h; first | contradiction | omega | (conv => whnf) | skip) | (refine And.intro ?_ ?_) | (refine arith_ok ⟨by omega, by omega⟩ ?_) | (first | (refine draw_quiet hT mixed (by decide +kernel) ?_) | (refine draw_hard hT mixed (by decide +kernel) ?_)) | fail)
    all_goals first | omega | skip
    · refine ⟨(i + 1, ys.set i ((k + i : Nat) : Int)), ⟨by dsimp only; omega, by simpa using h2, ?_⟩, ?_, by dsimp only; omega⟩
      · have := set_snoc 0 h3 (by rw [marks_len]; omega) (by rw [marks_len]; exact h2)
        rwa [marks_get (by omega)] at this
      · (refine ⟨rfl, [], ?_, ?_⟩; all_goals (repeat' (first | exact rfl | exact trivial | (with_reducible assumption) | refine And.intro ?_ ?_ | omega)))
    · obtain rfl : i = xs.length := by omega
      obtain rfl : ys = marks xs.length k := by rwa [take_all (by omega), take_all (by rw [marks_len]; omega)] at h3
      (refine ⟨[], I ((k + xs.length : Nat) : Int), [Di (marks xs.length k)], ?_, ?_, ?_⟩; all_goals (repeat' (first | exact rfl | exact trivial | (with_reducible assumption) | refine And.intro ?_ ?_ | omega)))
end Go.Proofs.YtenofbabiacacaaGreat
