/-
  The first gap: what the functions return, and the law. No conditions but those in the statements.
-/
import Derived.Test.YtnfddmbnkbigmaaFd
namespace Go.Proofs.Ytnfddmbnkbigmaa
open Go.AE

attribute [local irreducible] CallA LoopA DrawA CallQ arithK quoK remK eqK
attribute [local irreducible] cnt fst fstN
/-- The first number of which q holds, or 60400. -/
def fg (q : Int → Bool) : Int := (firstOf (fun j : Nat => q (j : Int)) (List.range 60400) : Int)
theorem fg_eq {q : Int → Bool} {n : Int} (h0 : 0 ≤ n) (h1 : n ≤ 60400) (h2 : ∀ m, 0 ≤ m → m < n → q m = false) (h3 : n < 60400 → q n = true) : fg q = n := by
  obtain ⟨k, rfl⟩ := Int.eq_ofNat_of_zero_le h0
  have hr : ∀ j, j < 60400 → (List.range 60400).getD j 0 = j := fun j hj => by
    rw [List.getD_eq_getElem?_getD, List.getElem?_range hj]; rfl
  have := firstOf_eq (p := fun j : Nat => q (j : Int)) 0 (l := List.range 60400) (i := k) (by rw [List.length_range]; omega)
    (fun j hj => by rw [hr j (by omega)]; exact h2 j (by omega) (by omega))
    (fun hk => by rw [List.length_range] at hk; rw [hr k hk]; exact h3 (by omega))
  unfold fg
  rw [this]
theorem fg_in (q : Int → Bool) : 0 ≤ fg q ∧ fg q ≤ 60400 := by
  have := firstOf_le (fun j : Nat => q (j : Int)) (List.range 60400)
  rw [List.length_range] at this
  unfold fg; omega
theorem below_next {q : Int → Bool} {n : Int} (h : ∀ m, 0 ≤ m → m < n → q m = false) (hn : q n = false) : ∀ m, 0 ≤ m → m < n + 1 → q m = false := fun m h0 h1 => by
  by_cases hm : m = n
  · rw [hm]; exact hn
  · exact h m h0 (by omega)
attribute [local irreducible] fg
set_option maxRecDepth 100000 in
theorem first1_call (a y k i x1 x2 x3 : Int) : CallA Try.prog G 44 [VCase a y k, I i, .ptr 0 0] [.cells [I x1, I x2, I x3]] (fun v J => v = Bo (decide (i < 0)) ∧ J = [.cells [I a, I y, I k]]) := by
  refine CallA.ends (callA_of_body hT Try.func44 rfl ?_)
  by_cases hi : i < 0
  · rw [decide_eq_true hi]
    repeat' (first | (intro h; first | contradiction | omega | (conv => whnf) | skip) | (refine And.intro ?_ ?_) | (refine arith_ok ⟨by omega, by omega⟩ ?_) | (first | (refine draw_quiet hT mixed (by decide +kernel) ?_) | (refine draw_hard hT mixed (by decide +kernel) ?_)) | fail)
    all_goals first | omega | (first | (refine ⟨[], Bo true, [.cells [I a, I y, I k]], ?_, ?_, ?_⟩; all_goals (repeat' (first | exact rfl | exact trivial | omega | assumption | fail | refine And.intro ?_ ?_)); done) | (refine ⟨[some 1], Bo true, [.cells [I a, I y, I k]], ?_, ?_, ?_⟩; all_goals (repeat' (first | exact rfl | exact trivial | omega | assumption | fail | refine And.intro ?_ ?_)); done) | (refine ⟨[some 0], Bo true, [.cells [I a, I y, I k]], ?_, ?_, ?_⟩; all_goals (repeat' (first | exact rfl | exact trivial | omega | assumption | fail | refine And.intro ?_ ?_)); done) | (refine ⟨[some 2], Bo true, [.cells [I a, I y, I k]], ?_, ?_, ?_⟩; all_goals (repeat' (first | exact rfl | exact trivial | omega | assumption | fail | refine And.intro ?_ ?_)); done) | (refine ⟨[some 3], Bo true, [.cells [I a, I y, I k]], ?_, ?_, ?_⟩; all_goals (repeat' (first | exact rfl | exact trivial | omega | assumption | fail | refine And.intro ?_ ?_)); done) | (refine ⟨[some 4], Bo true, [.cells [I a, I y, I k]], ?_, ?_, ?_⟩; all_goals (repeat' (first | exact rfl | exact trivial | omega | assumption | fail | refine And.intro ?_ ?_)); done) | (refine ⟨[some 5], Bo true, [.cells [I a, I y, I k]], ?_, ?_, ?_⟩; all_goals (repeat' (first | exact rfl | exact trivial | omega | assumption | fail | refine And.intro ?_ ?_)); done)) | trace_state
  · rw [decide_eq_false hi]
    repeat' (first | (intro h; first | contradiction | omega | (conv => whnf) | skip) | (refine And.intro ?_ ?_) | (refine arith_ok ⟨by omega, by omega⟩ ?_) | (first | (refine draw_quiet hT mixed (by decide +kernel) ?_) | (refine draw_hard hT mixed (by decide +kernel) ?_)) | fail)
    all_goals first | omega | (first | (refine ⟨[], Bo false, [.cells [I a, I y, I k]], ?_, ?_, ?_⟩; all_goals (repeat' (first | exact rfl | exact trivial | omega | assumption | fail | refine And.intro ?_ ?_)); done) | (refine ⟨[some 1], Bo false, [.cells [I a, I y, I k]], ?_, ?_, ?_⟩; all_goals (repeat' (first | exact rfl | exact trivial | omega | assumption | fail | refine And.intro ?_ ?_)); done) | (refine ⟨[some 0], Bo false, [.cells [I a, I y, I k]], ?_, ?_, ?_⟩; all_goals (repeat' (first | exact rfl | exact trivial | omega | assumption | fail | refine And.intro ?_ ?_)); done) | (refine ⟨[some 2], Bo false, [.cells [I a, I y, I k]], ?_, ?_, ?_⟩; all_goals (repeat' (first | exact rfl | exact trivial | omega | assumption | fail | refine And.intro ?_ ?_)); done) | (refine ⟨[some 3], Bo false, [.cells [I a, I y, I k]], ?_, ?_, ?_⟩; all_goals (repeat' (first | exact rfl | exact trivial | omega | assumption | fail | refine And.intro ?_ ?_)); done) | (refine ⟨[some 4], Bo false, [.cells [I a, I y, I k]], ?_, ?_, ?_⟩; all_goals (repeat' (first | exact rfl | exact trivial | omega | assumption | fail | refine And.intro ?_ ?_)); done) | (refine ⟨[some 5], Bo false, [.cells [I a, I y, I k]], ?_, ?_, ?_⟩; all_goals (repeat' (first | exact rfl | exact trivial | omega | assumption | fail | refine And.intro ?_ ?_)); done)) | trace_state
abbrev J3 (p : Int × Int × Int) : List Blk := [.cells [I p.1, I p.2.1, I p.2.2]]
def foundAt (xss : List (List Int)) (x a s : Int) : Prop := fg (gapQ xss) < 60400 → x = cA (fg (gapQ xss)) ∧ a = cY (fg (gapQ xss)) ∧ s = cK (fg (gapQ xss))
set_option maxHeartbeats 1000000 in
set_option maxRecDepth 100000 in
theorem casesFirst_call (xss : List (List Int)) (ha : areRl xss) : CallA Try.prog G 38 [RRule xss, .fn 44 [.ptr 0 0]] [.cells [I 0, I 0, I 0]] (fun v J => ∃ (x a s : Int), v = Bo (decide (fg (gapQ xss) < 60400)) ∧ J = [.cells [I x, I a, I s]] ∧ foundAt xss x a s) := by
  refine CallA.ends (callA_of_body hT Try.func38 rfl ?_)
  repeat' (first | (intro h; first | contradiction | omega | (conv => whnf) | skip) | (refine And.intro ?_ ?_) | (refine arith_ok ⟨by omega, by omega⟩ ?_) | (refine draw_hard hT mixed (by decide +kernel) ?_) | fail)
  refine loop_rule hT (fun p : Int × Int × Int × Int => (0 ≤ p.1 ∧ p.1 ≤ 4) ∧ ∀ m, 0 ≤ m → m < p.1 * 15100 → gapQ xss m = false) 31 1 [0, 1, 9] (fun p => [RRule xss, .fn 44 [.ptr 0 0], I p.1]) (fun p => J3 p.2) (fun p => (4 - p.1).toNat) ((0, 0, 0, 0)) (Nat.le_of_ble_eq_true rfl) ?_ ?_ ?_
  · exact ⟨by dsimp only; omega, fun m h0 h1 => by dsimp only at h1; omega⟩
  · (first | (refine ⟨rfl, [], ?_, ?_⟩; all_goals (repeat' (first | exact rfl | exact trivial | omega | assumption | fail | refine And.intro ?_ ?_)); done) | (refine ⟨rfl, [some 1], ?_, ?_⟩; all_goals (repeat' (first | exact rfl | exact trivial | omega | assumption | fail | refine And.intro ?_ ?_)); done) | (refine ⟨rfl, [some 2], ?_, ?_⟩; all_goals (repeat' (first | exact rfl | exact trivial | omega | assumption | fail | refine And.intro ?_ ?_)); done) | (refine ⟨rfl, [some 3], ?_, ?_⟩; all_goals (repeat' (first | exact rfl | exact trivial | omega | assumption | fail | refine And.intro ?_ ?_)); done) | (refine ⟨rfl, [some 0], ?_, ?_⟩; all_goals (repeat' (first | exact rfl | exact trivial | omega | assumption | fail | refine And.intro ?_ ?_)); done) | (refine ⟨rfl, [some 4], ?_, ?_⟩; all_goals (repeat' (first | exact rfl | exact trivial | omega | assumption | fail | refine And.intro ?_ ?_)); done) | (refine ⟨rfl, [some 5], ?_, ?_⟩; all_goals (repeat' (first | exact rfl | exact trivial | omega | assumption | fail | refine And.intro ?_ ?_)); done) | (refine ⟨rfl, [some 6], ?_, ?_⟩; all_goals (repeat' (first | exact rfl | exact trivial | omega | assumption | fail | refine And.intro ?_ ?_)); done))
  · rintro ⟨k, x1, x2, x3⟩ ⟨h1, h2⟩
    dsimp only at h1 h2 ⊢
    by_cases hk : k < 4
    · repeat' (first | (intro h; first | contradiction | omega | (conv => whnf) | skip) | (refine And.intro ?_ ?_) | (refine arith_ok ⟨by omega, by omega⟩ ?_) | (refine draw_hard hT mixed (by decide +kernel) ?_) | fail)
      all_goals first | omega | skip
      refine loop_rule hT (fun p : Int × Int × Int × Int => (0 ≤ p.1 ∧ p.1 ≤ 151) ∧ ∀ m, 0 ≤ m → m < k * 15100 + p.1 * 100 → gapQ xss m = false) 31 1 [0, 1, 5, 9, 12] (fun p => [RRule xss, .fn 44 [.ptr 0 0], I k, I k, I p.1]) (fun p => J3 p.2) (fun p => (151 - p.1).toNat) ((0, x1, x2, x3)) (Nat.le_of_ble_eq_true rfl) ?_ ?_ ?_
      · exact ⟨by dsimp only; omega, fun m h0 h1 => h2 m h0 (by dsimp only at h1; omega)⟩
      · (first | (refine ⟨rfl, [], ?_, ?_⟩; all_goals (repeat' (first | exact rfl | exact trivial | omega | assumption | fail | refine And.intro ?_ ?_)); done) | (refine ⟨rfl, [some 1], ?_, ?_⟩; all_goals (repeat' (first | exact rfl | exact trivial | omega | assumption | fail | refine And.intro ?_ ?_)); done) | (refine ⟨rfl, [some 2], ?_, ?_⟩; all_goals (repeat' (first | exact rfl | exact trivial | omega | assumption | fail | refine And.intro ?_ ?_)); done) | (refine ⟨rfl, [some 3], ?_, ?_⟩; all_goals (repeat' (first | exact rfl | exact trivial | omega | assumption | fail | refine And.intro ?_ ?_)); done) | (refine ⟨rfl, [some 0], ?_, ?_⟩; all_goals (repeat' (first | exact rfl | exact trivial | omega | assumption | fail | refine And.intro ?_ ?_)); done) | (refine ⟨rfl, [some 4], ?_, ?_⟩; all_goals (repeat' (first | exact rfl | exact trivial | omega | assumption | fail | refine And.intro ?_ ?_)); done) | (refine ⟨rfl, [some 5], ?_, ?_⟩; all_goals (repeat' (first | exact rfl | exact trivial | omega | assumption | fail | refine And.intro ?_ ?_)); done) | (refine ⟨rfl, [some 6], ?_, ?_⟩; all_goals (repeat' (first | exact rfl | exact trivial | omega | assumption | fail | refine And.intro ?_ ?_)); done))
      · rintro ⟨a, x1, x2, x3⟩ ⟨h3, h4⟩
        dsimp only at h3 h4 ⊢
        by_cases hb : a < 151
        · repeat' (first | (intro h; first | contradiction | omega | (conv => whnf) | skip) | (refine And.intro ?_ ?_) | (refine arith_ok ⟨by omega, by omega⟩ ?_) | (refine draw_hard hT mixed (by decide +kernel) ?_) | fail)
          all_goals first | omega | skip
          refine loop_rule hT (fun p : Int × Int × Int × Int => (0 ≤ p.1 ∧ p.1 ≤ 100) ∧ ∀ m, 0 ≤ m → m < k * 15100 + a * 100 + p.1 → gapQ xss m = false) 31 1 [0, 1, 5, 6, 9, 12, 15] (fun p => [RRule xss, .fn 44 [.ptr 0 0], I k, I a, I k, I a, I p.1]) (fun p => J3 p.2) (fun p => (100 - p.1).toNat) ((0, x1, x2, x3)) (Nat.le_of_ble_eq_true rfl) ?_ ?_ ?_
          · exact ⟨by dsimp only; omega, fun m h0 h1 => h4 m h0 (by dsimp only at h1; omega)⟩
          · (first | (refine ⟨rfl, [], ?_, ?_⟩; all_goals (repeat' (first | exact rfl | exact trivial | omega | assumption | fail | refine And.intro ?_ ?_)); done) | (refine ⟨rfl, [some 1], ?_, ?_⟩; all_goals (repeat' (first | exact rfl | exact trivial | omega | assumption | fail | refine And.intro ?_ ?_)); done) | (refine ⟨rfl, [some 2], ?_, ?_⟩; all_goals (repeat' (first | exact rfl | exact trivial | omega | assumption | fail | refine And.intro ?_ ?_)); done) | (refine ⟨rfl, [some 3], ?_, ?_⟩; all_goals (repeat' (first | exact rfl | exact trivial | omega | assumption | fail | refine And.intro ?_ ?_)); done) | (refine ⟨rfl, [some 0], ?_, ?_⟩; all_goals (repeat' (first | exact rfl | exact trivial | omega | assumption | fail | refine And.intro ?_ ?_)); done) | (refine ⟨rfl, [some 4], ?_, ?_⟩; all_goals (repeat' (first | exact rfl | exact trivial | omega | assumption | fail | refine And.intro ?_ ?_)); done) | (refine ⟨rfl, [some 5], ?_, ?_⟩; all_goals (repeat' (first | exact rfl | exact trivial | omega | assumption | fail | refine And.intro ?_ ?_)); done) | (refine ⟨rfl, [some 6], ?_, ?_⟩; all_goals (repeat' (first | exact rfl | exact trivial | omega | assumption | fail | refine And.intro ?_ ?_)); done))
          · rintro ⟨y, x1, x2, x3⟩ ⟨h5, h6⟩
            dsimp only at h5 h6 ⊢
            by_cases hy : y < 100
            · have hf := fstN_at xss (k := k) (a := a) (y := y) (by omega) (by omega)
              by_cases hg : fst xss a y k < 0
              · have hq : gapQ xss (k * 15100 + a * 100 + y) = true := by unfold gapQ; rw [← hf]; exact decide_eq_true hg
                have he := fg_eq (q := gapQ xss) (n := k * 15100 + a * 100 + y) (by omega) (by omega) h6 (fun _ => hq)
                have hc := first1_call a y k (fst xss a y k) x1 x2 x3
                rw [decide_eq_true hg] at hc
                repeat' (first | (intro h; first | contradiction | omega | (conv => whnf) | skip) | (refine And.intro ?_ ?_) | (refine arith_ok ⟨by omega, by omega⟩ ?_) | (refine draw_hard hT mixed (by decide +kernel) ?_) | (refine Ret.go (decides_ret xss a y k ha ⟨by omega, by omega⟩) rfl rfl ?_) | (refine Ret.goQ (decides_ret xss a y k ha ⟨by omega, by omega⟩) rfl rfl ?_) | (refine CallA.go [0] (hc) rfl (by first | ((repeat' (first | exact rfl | exact trivial | refine And.intro ?_ ?_ | omega | assumption)); done) | fail) (by first | ((repeat' (first | exact rfl | exact trivial | refine And.intro ?_ ?_ | omega | assumption)); done) | fail) ?_))
                all_goals first | omega | skip
                all_goals (first | (conv => whnf) | skip)
                all_goals refine ⟨[], Bo true, [.cells [I a, I y, I k]], ?_, ?_, ⟨a, y, k, ?_, rfl, ?_⟩⟩
                all_goals (try (repeat' (first | exact rfl | exact trivial | refine And.intro ?_ ?_)))
                all_goals first
                  | (exact bv (decide_eq_true (by omega)).symm)
                  | (intro _; rw [he]; exact ⟨(cA_at (by omega) (by omega)).symm, (cY_at (by omega)).symm, (cK_at (by omega) (by omega)).symm⟩)
                  | trace_state
              · have hq : gapQ xss (k * 15100 + a * 100 + y) = false := by unfold gapQ; rw [← hf]; exact decide_eq_false hg
                have hc := first1_call a y k (fst xss a y k) x1 x2 x3
                rw [decide_eq_false hg] at hc
                repeat' (first | (intro h; first | contradiction | omega | (conv => whnf) | skip) | (refine And.intro ?_ ?_) | (refine arith_ok ⟨by omega, by omega⟩ ?_) | (refine draw_hard hT mixed (by decide +kernel) ?_) | (refine Ret.go (decides_ret xss a y k ha ⟨by omega, by omega⟩) rfl rfl ?_) | (refine Ret.goQ (decides_ret xss a y k ha ⟨by omega, by omega⟩) rfl rfl ?_) | (refine CallA.go [0] (hc) rfl (by first | ((repeat' (first | exact rfl | exact trivial | refine And.intro ?_ ?_ | omega | assumption)); done) | fail) (by first | ((repeat' (first | exact rfl | exact trivial | refine And.intro ?_ ?_ | omega | assumption)); done) | fail) ?_))
                all_goals first | omega | skip
                all_goals (refine ⟨(y + 1, a, y, k), ⟨by dsimp only; omega, fun m h0 h1 => below_next h6 hq m h0 (by dsimp only at h1; omega)⟩, ?_, by dsimp only; omega⟩; (first | (refine ⟨rfl, [], ?_, ?_⟩; all_goals (repeat' (first | exact rfl | exact trivial | omega | assumption | fail | refine And.intro ?_ ?_)); done) | (refine ⟨rfl, [some 1], ?_, ?_⟩; all_goals (repeat' (first | exact rfl | exact trivial | omega | assumption | fail | refine And.intro ?_ ?_)); done) | (refine ⟨rfl, [some 2], ?_, ?_⟩; all_goals (repeat' (first | exact rfl | exact trivial | omega | assumption | fail | refine And.intro ?_ ?_)); done) | (refine ⟨rfl, [some 3], ?_, ?_⟩; all_goals (repeat' (first | exact rfl | exact trivial | omega | assumption | fail | refine And.intro ?_ ?_)); done) | (refine ⟨rfl, [some 0], ?_, ?_⟩; all_goals (repeat' (first | exact rfl | exact trivial | omega | assumption | fail | refine And.intro ?_ ?_)); done) | (refine ⟨rfl, [some 4], ?_, ?_⟩; all_goals (repeat' (first | exact rfl | exact trivial | omega | assumption | fail | refine And.intro ?_ ?_)); done) | (refine ⟨rfl, [some 5], ?_, ?_⟩; all_goals (repeat' (first | exact rfl | exact trivial | omega | assumption | fail | refine And.intro ?_ ?_)); done) | (refine ⟨rfl, [some 6], ?_, ?_⟩; all_goals (repeat' (first | exact rfl | exact trivial | omega | assumption | fail | refine And.intro ?_ ?_)); done)))
            · have he : y = 100 := by omega
              repeat' (first | (intro h; first | contradiction | omega | (conv => whnf) | skip) | (refine And.intro ?_ ?_) | (refine arith_ok ⟨by omega, by omega⟩ ?_) | (refine draw_hard hT mixed (by decide +kernel) ?_) | fail)
              all_goals first | omega | skip
              all_goals (refine ⟨(a + 1, x1, x2, x3), ⟨by dsimp only; omega, fun m h0 h1 => h6 m h0 (by dsimp only at h1; omega)⟩, ?_, by dsimp only; omega⟩; (first | (refine ⟨rfl, [], ?_, ?_⟩; all_goals (repeat' (first | exact rfl | exact trivial | omega | assumption | fail | refine And.intro ?_ ?_)); done) | (refine ⟨rfl, [some 1], ?_, ?_⟩; all_goals (repeat' (first | exact rfl | exact trivial | omega | assumption | fail | refine And.intro ?_ ?_)); done) | (refine ⟨rfl, [some 2], ?_, ?_⟩; all_goals (repeat' (first | exact rfl | exact trivial | omega | assumption | fail | refine And.intro ?_ ?_)); done) | (refine ⟨rfl, [some 3], ?_, ?_⟩; all_goals (repeat' (first | exact rfl | exact trivial | omega | assumption | fail | refine And.intro ?_ ?_)); done) | (refine ⟨rfl, [some 0], ?_, ?_⟩; all_goals (repeat' (first | exact rfl | exact trivial | omega | assumption | fail | refine And.intro ?_ ?_)); done) | (refine ⟨rfl, [some 4], ?_, ?_⟩; all_goals (repeat' (first | exact rfl | exact trivial | omega | assumption | fail | refine And.intro ?_ ?_)); done) | (refine ⟨rfl, [some 5], ?_, ?_⟩; all_goals (repeat' (first | exact rfl | exact trivial | omega | assumption | fail | refine And.intro ?_ ?_)); done) | (refine ⟨rfl, [some 6], ?_, ?_⟩; all_goals (repeat' (first | exact rfl | exact trivial | omega | assumption | fail | refine And.intro ?_ ?_)); done)))
        · have he : a = 151 := by omega
          repeat' (first | (intro h; first | contradiction | omega | (conv => whnf) | skip) | (refine And.intro ?_ ?_) | (refine arith_ok ⟨by omega, by omega⟩ ?_) | (refine draw_hard hT mixed (by decide +kernel) ?_) | fail)
          all_goals first | omega | skip
          all_goals (refine ⟨(k + 1, x1, x2, x3), ⟨by dsimp only; omega, fun m h0 h1 => h4 m h0 (by dsimp only at h1; omega)⟩, ?_, by dsimp only; omega⟩; (first | (refine ⟨rfl, [], ?_, ?_⟩; all_goals (repeat' (first | exact rfl | exact trivial | omega | assumption | fail | refine And.intro ?_ ?_)); done) | (refine ⟨rfl, [some 1], ?_, ?_⟩; all_goals (repeat' (first | exact rfl | exact trivial | omega | assumption | fail | refine And.intro ?_ ?_)); done) | (refine ⟨rfl, [some 2], ?_, ?_⟩; all_goals (repeat' (first | exact rfl | exact trivial | omega | assumption | fail | refine And.intro ?_ ?_)); done) | (refine ⟨rfl, [some 3], ?_, ?_⟩; all_goals (repeat' (first | exact rfl | exact trivial | omega | assumption | fail | refine And.intro ?_ ?_)); done) | (refine ⟨rfl, [some 0], ?_, ?_⟩; all_goals (repeat' (first | exact rfl | exact trivial | omega | assumption | fail | refine And.intro ?_ ?_)); done) | (refine ⟨rfl, [some 4], ?_, ?_⟩; all_goals (repeat' (first | exact rfl | exact trivial | omega | assumption | fail | refine And.intro ?_ ?_)); done) | (refine ⟨rfl, [some 5], ?_, ?_⟩; all_goals (repeat' (first | exact rfl | exact trivial | omega | assumption | fail | refine And.intro ?_ ?_)); done) | (refine ⟨rfl, [some 6], ?_, ?_⟩; all_goals (repeat' (first | exact rfl | exact trivial | omega | assumption | fail | refine And.intro ?_ ?_)); done)))
    · have he := fg_eq (q := gapQ xss) (n := 60400) (by omega) (by omega) (fun m h0 h1 => h2 m h0 (by omega)) (fun hx => by omega)
      repeat' (first | (intro h; first | contradiction | omega | (conv => whnf) | skip) | (refine And.intro ?_ ?_) | (refine arith_ok ⟨by omega, by omega⟩ ?_) | (refine draw_hard hT mixed (by decide +kernel) ?_) | fail)
      all_goals first | omega | skip
      refine ⟨[], Bo false, [.cells [I x1, I x2, I x3]], ?_, ?_, ⟨x1, x2, x3, ?_, rfl, ?_⟩⟩
      all_goals (try (repeat' (first | exact rfl | exact trivial | refine And.intro ?_ ?_)))
      all_goals first
        | (exact bv (decide_eq_false (by omega)).symm)
        | (intro _; omega)
        | trace_state
def fgR (f : Int → Int) (xss : List (List Int)) : Int := if areRl xss ∧ fg (gapQ xss) < 60400 then f (fg (gapQ xss)) else 0
def fgC (xss : List (List Int)) : Int := if areRl xss then (if fg (gapQ xss) < 60400 then 0 else 4) else 1
theorem fgR_yes {f : Int → Int} {xss : List (List Int)} (h : areRl xss) (hf : fg (gapQ xss) < 60400) : fgR f xss = f (fg (gapQ xss)) := if_pos ⟨h, hf⟩
theorem fgR_no {f : Int → Int} {xss : List (List Int)} (h : ¬ (areRl xss ∧ fg (gapQ xss) < 60400)) : fgR f xss = 0 := if_neg h
abbrev fgT (xss : List (List Int)) : AV := .tup [VCase (fgR cA xss) (fgR cY xss) (fgR cK xss), I (fgC xss)]
theorem fgT_yes {xss : List (List Int)} (h : areRl xss) (hf : fg (gapQ xss) < 60400) : fgT xss = .tup [VCase (cA (fg (gapQ xss))) (cY (fg (gapQ xss))) (cK (fg (gapQ xss))), I 0] := by
  unfold fgT fgC
  rw [fgR_yes h hf, fgR_yes h hf, fgR_yes h hf, if_pos h, if_pos hf]
theorem fgT_no2 {xss : List (List Int)} (h : areRl xss) (hf : ¬ fg (gapQ xss) < 60400) : fgT xss = .tup [VCase 0 0 0, I 4] := by
  unfold fgT fgC
  rw [fgR_no (fun e => hf e.2), fgR_no (fun e => hf e.2), fgR_no (fun e => hf e.2), if_pos h, if_neg hf]
theorem fgT_no1 {xss : List (List Int)} (h : ¬ areRl xss) : fgT xss = .tup [VCase 0 0 0, I 1] := by
  unfold fgT fgC
  rw [fgR_no (fun e => h e.1), fgR_no (fun e => h e.1), fgR_no (fun e => h e.1), if_neg h]
set_option maxRecDepth 100000 in
theorem implFirst_ret (xss : List (List Int)) (hn : xss.length ≤ 1048576) : Ret Try.prog G 16 [RRule xss] (fgT xss) := by
  refine ret_of_body hT Try.func16 rfl ?_ rfl
  by_cases ha : areRl xss
  · have hcs := casesFirst_call xss ha
    by_cases hf : fg (gapQ xss) < 60400
    · rw [fgT_yes ha hf]
      rw [decide_eq_true hf] at hcs
      repeat' (first | (intro h; first | contradiction | omega | (conv => whnf) | skip) | (refine And.intro ?_ ?_) | (refine arith_ok ⟨by omega, by omega⟩ ?_) | (first | (refine draw_quiet hT mixed (by decide +kernel) ?_) | (refine draw_hard hT mixed (by decide +kernel) ?_)) | (refine Ret.goP (implAre_ret xss (by omega)) rfl ?_) | (refine Ret.goQP (implAre_ret xss (by omega)) rfl ?_) | (refine CallA.goE3 false [1] (hcs) rfl (by first | ((repeat' (first | exact rfl | exact trivial | refine And.intro ?_ ?_ | omega | assumption)); done) | fail) (by first | ((repeat' (first | exact rfl | exact trivial | refine And.intro ?_ ?_ | omega | assumption)); done) | fail) ?_; rintro x a s hfd; (first | (conv => whnf) | skip)))
      all_goals first | rfl | omega | skip
      all_goals (obtain ⟨h1, h2, h3⟩ := hfd hf; rw [h1, h2, h3])
    · rw [fgT_no2 ha hf]
      rw [decide_eq_false hf] at hcs
      repeat' (first | (intro h; first | contradiction | omega | (conv => whnf) | skip) | (refine And.intro ?_ ?_) | (refine arith_ok ⟨by omega, by omega⟩ ?_) | (first | (refine draw_quiet hT mixed (by decide +kernel) ?_) | (refine draw_hard hT mixed (by decide +kernel) ?_)) | (refine Ret.goP (implAre_ret xss (by omega)) rfl ?_) | (refine Ret.goQP (implAre_ret xss (by omega)) rfl ?_) | (refine CallA.goE3 false [1] (hcs) rfl (by first | ((repeat' (first | exact rfl | exact trivial | refine And.intro ?_ ?_ | omega | assumption)); done) | fail) (by first | ((repeat' (first | exact rfl | exact trivial | refine And.intro ?_ ?_ | omega | assumption)); done) | fail) ?_; rintro x a s hfd; (first | (conv => whnf) | skip)))
      all_goals first | rfl | omega | trace_state
  · rw [fgT_no1 ha]
    repeat' (first | (intro h; first | contradiction | omega | (conv => whnf) | skip) | (refine And.intro ?_ ?_) | (refine arith_ok ⟨by omega, by omega⟩ ?_) | (first | (refine draw_quiet hT mixed (by decide +kernel) ?_) | (refine draw_hard hT mixed (by decide +kernel) ?_)) | (refine Ret.goP (implAre_ret xss (by omega)) rfl ?_) | (refine Ret.goQP (implAre_ret xss (by omega)) rfl ?_))
    all_goals first | rfl | omega | trace_state
set_option maxRecDepth 100000 in
theorem specFirst_ret (xss : List (List Int)) (hn : xss.length ≤ 1048576) : Ret Try.prog G 15 [RRule xss] (fgT xss) := by
  refine ret_of_body hT Try.func15 rfl ?_ rfl
  by_cases ha : areRl xss
  · repeat' (first | (intro h; first | contradiction | omega | (conv => whnf) | skip) | (refine And.intro ?_ ?_) | (refine arith_ok ⟨by omega, by omega⟩ ?_) | (first | (refine draw_quiet hT mixed (by decide +kernel) ?_) | (refine draw_hard hT mixed (by decide +kernel) ?_)) | (refine Ret.goP (specAre_ret xss (by omega)) rfl ?_) | (refine Ret.goQP (specAre_ret xss (by omega)) rfl ?_))
    all_goals first | rfl | omega | skip
    refine loop_rule hT (fun n : Int => (0 ≤ n ∧ n ≤ 60400) ∧ ∀ m, 0 ≤ m → m < n → gapQ xss m = false) 22 1 [0, 2, 4] (fun n => [RRule xss, .ptr 0 0, I n]) (fun _ => [.cells [I 0, I 0, I 0]]) (fun n => (60400 - n).toNat) (0) (Nat.le_of_ble_eq_true rfl) ?_ ?_ ?_
    · exact ⟨⟨by decide, by decide⟩, fun m h0 h1 => by omega⟩
    · (first | (refine ⟨rfl, [], ?_, ?_⟩; all_goals (repeat' (first | exact rfl | exact trivial | omega | assumption | fail | refine And.intro ?_ ?_)); done) | (refine ⟨rfl, [some 1], ?_, ?_⟩; all_goals (repeat' (first | exact rfl | exact trivial | omega | assumption | fail | refine And.intro ?_ ?_)); done) | (refine ⟨rfl, [some 2], ?_, ?_⟩; all_goals (repeat' (first | exact rfl | exact trivial | omega | assumption | fail | refine And.intro ?_ ?_)); done) | (refine ⟨rfl, [some 3], ?_, ?_⟩; all_goals (repeat' (first | exact rfl | exact trivial | omega | assumption | fail | refine And.intro ?_ ?_)); done) | (refine ⟨rfl, [some 0], ?_, ?_⟩; all_goals (repeat' (first | exact rfl | exact trivial | omega | assumption | fail | refine And.intro ?_ ?_)); done) | (refine ⟨rfl, [some 4], ?_, ?_⟩; all_goals (repeat' (first | exact rfl | exact trivial | omega | assumption | fail | refine And.intro ?_ ?_)); done) | (refine ⟨rfl, [some 5], ?_, ?_⟩; all_goals (repeat' (first | exact rfl | exact trivial | omega | assumption | fail | refine And.intro ?_ ?_)); done) | (refine ⟨rfl, [some 6], ?_, ?_⟩; all_goals (repeat' (first | exact rfl | exact trivial | omega | assumption | fail | refine And.intro ?_ ?_)); done))
    · rintro n ⟨⟨h3, h4⟩, h5⟩
      by_cases hn2 : n < 60400
      · have hq := l23First_ret xss (cA n) (cY n) (cK n) ha (cK_in ⟨h3, hn2⟩)
        rw [show fst xss (cA n) (cY n) (cK n) = fstN xss n by unfold fstN; rfl] at hq
        repeat' (first | (intro h; first | contradiction | omega | (conv => whnf) | skip) | (refine And.intro ?_ ?_) | (refine arith_ok ⟨by omega, by omega⟩ ?_) | (first | (refine draw_quiet hT mixed (by decide +kernel) ?_) | (refine draw_hard hT mixed (by decide +kernel) ?_)) | (refine Ret.go (l23All_ret) rfl rfl ?_) | (refine Ret.goQ (l23All_ret) rfl rfl ?_) | (refine Ret.go (l23Case_ret n ⟨h3, hn2⟩) rfl rfl ?_) | (refine Ret.goQ (l23Case_ret n ⟨h3, hn2⟩) rfl rfl ?_) | (refine Ret.go (hq) rfl rfl ?_) | (refine Ret.goQ (hq) rfl rfl ?_))
        all_goals first | omega | skip
        all_goals first
          | (have he := fg_eq (q := gapQ xss) h3 h4 h5 (fun _ => decide_eq_true h); (try (conv => whnf)); rw [fgT_yes ha (by omega), he]; done)
          | (refine ⟨n + 1, ⟨⟨by omega, by omega⟩, below_next h5 (decide_eq_false h)⟩, ?_, by omega⟩; (first | (refine ⟨rfl, [], ?_, ?_⟩; all_goals (repeat' (first | exact rfl | exact trivial | omega | assumption | fail | refine And.intro ?_ ?_)); done) | (refine ⟨rfl, [some 1], ?_, ?_⟩; all_goals (repeat' (first | exact rfl | exact trivial | omega | assumption | fail | refine And.intro ?_ ?_)); done) | (refine ⟨rfl, [some 2], ?_, ?_⟩; all_goals (repeat' (first | exact rfl | exact trivial | omega | assumption | fail | refine And.intro ?_ ?_)); done) | (refine ⟨rfl, [some 3], ?_, ?_⟩; all_goals (repeat' (first | exact rfl | exact trivial | omega | assumption | fail | refine And.intro ?_ ?_)); done) | (refine ⟨rfl, [some 0], ?_, ?_⟩; all_goals (repeat' (first | exact rfl | exact trivial | omega | assumption | fail | refine And.intro ?_ ?_)); done) | (refine ⟨rfl, [some 4], ?_, ?_⟩; all_goals (repeat' (first | exact rfl | exact trivial | omega | assumption | fail | refine And.intro ?_ ?_)); done) | (refine ⟨rfl, [some 5], ?_, ?_⟩; all_goals (repeat' (first | exact rfl | exact trivial | omega | assumption | fail | refine And.intro ?_ ?_)); done) | (refine ⟨rfl, [some 6], ?_, ?_⟩; all_goals (repeat' (first | exact rfl | exact trivial | omega | assumption | fail | refine And.intro ?_ ?_)); done)))
          | trace_state
      · have he := fg_eq (q := gapQ xss) h3 h4 h5 (fun hx => absurd hx hn2)
        repeat' (first | (intro h; first | contradiction | omega | (conv => whnf) | skip) | (refine And.intro ?_ ?_) | (refine arith_ok ⟨by omega, by omega⟩ ?_) | (first | (refine draw_quiet hT mixed (by decide +kernel) ?_) | (refine draw_hard hT mixed (by decide +kernel) ?_)) | (refine Ret.go (l23All_ret) rfl rfl ?_) | (refine Ret.goQ (l23All_ret) rfl rfl ?_))
        all_goals first | omega | ((try (conv => whnf)); rw [fgT_no2 ha (by omega)]; done) | trace_state
  · rw [fgT_no1 ha]
    repeat' (first | (intro h; first | contradiction | omega | (conv => whnf) | skip) | (refine And.intro ?_ ?_) | (refine arith_ok ⟨by omega, by omega⟩ ?_) | (first | (refine draw_quiet hT mixed (by decide +kernel) ?_) | (refine draw_hard hT mixed (by decide +kernel) ?_)) | (refine Ret.goP (specAre_ret xss (by omega)) rfl ?_) | (refine Ret.goQP (specAre_ret xss (by omega)) rfl ?_))
    all_goals first | rfl | omega | trace_state
set_option maxRecDepth 100000 in
theorem eqCase_ret (a b c x y z : Int) : Ret Try.prog G 17 [VCase a b c, VCase x y z] (Bo (decide (a = x ∧ b = y ∧ c = z))) := by
  refine ret_of_body hT Try.func17 rfl ?_ rfl
  repeat' (first | (intro h; first | contradiction | omega | (conv => whnf) | skip) | (refine And.intro ?_ ?_) | (refine arith_ok ⟨by omega, by omega⟩ ?_) | (first | (refine draw_quiet hT mixed (by decide +kernel) ?_) | (refine draw_hard hT mixed (by decide +kernel) ?_)) | fail)
  all_goals (first | exact bv_true (by omega) | exact bv_false (by omega))
set_option maxRecDepth 100000 in
theorem lawFirst_ret (xss : List (List Int)) (hn : xss.length ≤ 9223372036854775807) (hr : ∀ r ∈ xss, r.length = 6) : Ret Try.prog G 5 [RRule xss] (Bo true) := by
  refine ret_of_body hT Try.func5 rfl ?_ rfl
  by_cases hbig : xss.length ≤ 1048576
  · have hsz := szRuleS_ret xss 1048576 (by omega) (by omega)
    rw [if_pos (by omega)] at hsz
    repeat' (first | (intro h; first | contradiction | omega | (conv => whnf) | skip) | (refine And.intro ?_ ?_) | (refine arith_ok ⟨by omega, by omega⟩ ?_) | (first | (refine draw_quiet hT mixed (by decide +kernel) ?_) | (refine draw_hard hT mixed (by decide +kernel) ?_)) | (refine Ret.use (hsz) (by first | ((repeat' (first | exact rfl | exact trivial | refine And.intro ?_ ?_ | omega | assumption)); done) | fail) ?_) | (refine Ret.useQ (hsz) (by first | ((repeat' (first | exact rfl | exact trivial | refine And.intro ?_ ?_ | omega | assumption)); done) | fail) rfl ?_) | (refine CallA.go [] (toRuleS_call xss (by omega) hr) rfl (by first | ((repeat' (first | exact rfl | exact trivial | refine And.intro ?_ ?_ | omega | assumption)); done) | fail) trivial ?_) | (refine Ret.use (specFirst_ret xss (by omega)) (by first | ((repeat' (first | exact rfl | exact trivial | refine And.intro ?_ ?_ | omega | assumption)); done) | fail) ?_) | (refine Ret.useQ (specFirst_ret xss (by omega)) (by first | ((repeat' (first | exact rfl | exact trivial | refine And.intro ?_ ?_ | omega | assumption)); done) | fail) rfl ?_) | (refine Ret.use (implFirst_ret xss (by omega)) (by first | ((repeat' (first | exact rfl | exact trivial | refine And.intro ?_ ?_ | omega | assumption)); done) | fail) ?_) | (refine Ret.useQ (implFirst_ret xss (by omega)) (by first | ((repeat' (first | exact rfl | exact trivial | refine And.intro ?_ ?_ | omega | assumption)); done) | fail) rfl ?_) | (refine Ret.useP (eqRuleS_ret xss xss (by omega) hr hr) (by first | ((repeat' (first | exact rfl | exact trivial | refine And.intro ?_ ?_ | omega | assumption)); done) | fail) ?_) | (refine Ret.useQP (eqRuleS_ret xss xss (by omega) hr hr) (by first | ((repeat' (first | exact rfl | exact trivial | refine And.intro ?_ ?_ | omega | assumption)); done) | fail) ?_) | (refine Ret.goP (eqCase_ret _ _ _ _ _ _) rfl ?_) | (refine Ret.goQP (eqCase_ret _ _ _ _ _ _) rfl ?_))
    all_goals first | rfl | omega | (exact absurd ⟨rfl, rfl, rfl⟩ ‹¬ (_ ∧ _ ∧ _)›) | trace_state
  · have hsz := szRuleS_ret xss 1048576 hn (by omega)
    rw [if_neg (by omega)] at hsz
    repeat' (first | (intro h; first | contradiction | omega | (conv => whnf) | skip) | (refine And.intro ?_ ?_) | (refine arith_ok ⟨by omega, by omega⟩ ?_) | (first | (refine draw_quiet hT mixed (by decide +kernel) ?_) | (refine draw_hard hT mixed (by decide +kernel) ?_)) | (refine Ret.use (hsz) (by first | ((repeat' (first | exact rfl | exact trivial | refine And.intro ?_ ?_ | omega | assumption)); done) | fail) ?_) | (refine Ret.useQ (hsz) (by first | ((repeat' (first | exact rfl | exact trivial | refine And.intro ?_ ?_ | omega | assumption)); done) | fail) rfl ?_))
    all_goals first | rfl | omega | trace_state
end Go.Proofs.Ytnfddmbnkbigmaa
