/-
  Places on ballots; ballots as they should be: what the functions return. No conditions but those in the statements.
-/
import Derived.Test.YtcdfdigehaipmaaEa
set_option linter.unusedVariables false
set_option linter.unusedSimpArgs false
namespace Go.Proofs.Ytcdfdigehaipmaa
open Go.AE

attribute [local irreducible] CallA LoopA DrawA CallQ arithK quoK remK eqK
set_option maxRecDepth 100000 in
theorem l01Has_ret (xs : List Int) (x : Int) (hn : xs.length ≤ 2305843009213693952) : Ret Try.prog G 79 [Ri xs, I x] (Bo (decide (x ∈ xs))) := by
  refine ret_of_body hT Try.func79 rfl ?_ rfl
  repeat' (first | (intro h; first | contradiction | omega | (conv => whnf) | skip) | (refine And.intro ?_ ?_) | (refine arith_ok ⟨by omega, by omega⟩ ?_) | (first | (refine draw_quiet hT mixed (by decide +kernel) ?_) | (refine draw_hard hT mixed (by decide +kernel) ?_)) | fail)
  refine loop_rule hT (fun i : Nat => i ≤ xs.length ∧ ∀ y ∈ xs.take i, y ≠ x) 18 0 [0, 1, 5] (fun i => [Ri xs, I x, I i]) (fun _ => []) (fun i => xs.length - i) (0) (Nat.le_of_ble_eq_true rfl) ?_ ?_ ?_
  · exact ⟨Nat.zero_le _, by simp⟩
  · (refine ⟨rfl, [], ?_, ?_⟩; all_goals (repeat' (first | exact rfl | exact trivial | (with_reducible assumption) | refine And.intro ?_ ?_ | omega)))
  · rintro i ⟨h1, h2⟩
    repeat' (first | (intro h; first | contradiction | omega | (conv => whnf) | skip) | (refine And.intro ?_ ?_) | (refine arith_ok ⟨by omega, by omega⟩ ?_) | (first | (refine draw_quiet hT mixed (by decide +kernel) ?_) | (refine draw_hard hT mixed (by decide +kernel) ?_)) | fail)
    all_goals first | omega | skip
    all_goals first
      | (have he : xs.getD i 0 = x := h
         exact bv_true (by rw [← he]; exact getD_mem (by omega)))
      | (refine ⟨i + 1, ⟨by omega, all_snoc 0 (by omega) h2 h⟩, ?_, by omega⟩; (refine ⟨rfl, [], ?_, ?_⟩; all_goals (repeat' (first | exact rfl | exact trivial | (with_reducible assumption) | refine And.intro ?_ ?_ | omega))); done)
      | (exact bv_false fun hm => all_end (by omega) h2 x hm rfl)
      | trace_state
/-- The place of a number in a list, or the list's length. -/
def fo (xs : List Int) (x : Int) : Nat := firstOf (fun y => decide (x = y)) xs
theorem fo_le (xs : List Int) (x : Int) : fo xs x ≤ xs.length := firstOf_le _ _
theorem fo_mem (xs : List Int) (x : Int) : fo xs x < xs.length ↔ x ∈ xs := by
  unfold fo
  rw [firstOf_lt_iff]
  exact ⟨fun ⟨y, h1, h2⟩ => by rw [of_decide_eq_true h2]; exact h1, fun h => ⟨x, h, decide_eq_true rfl⟩⟩
theorem fo_eq {xs : List Int} {x : Int} {i : Nat} (hi : i ≤ xs.length) (h : ∀ j, j < i → x ≠ xs.getD j 0) (h2 : i < xs.length → x = xs.getD i 0) : fo xs x = i :=
  firstOf_eq 0 hi (fun j hj => decide_eq_false (h j hj)) fun hlt => decide_eq_true (h2 hlt)
theorem ne_step {xs : List Int} {x : Int} {i : Nat} (h : ∀ j, j < i → x ≠ xs.getD j 0) (hi : x ≠ xs.getD i 0) : ∀ j, j < i + 1 → x ≠ xs.getD j 0 := fun j hj => by
  by_cases he : j = i
  · rw [he]; exact hi
  · exact h j (by omega)
def ixI (xs : List Int) (x : Int) : Int := if fo xs x < xs.length then (fo xs x : Int) else -1
set_option maxRecDepth 100000 in
theorem index_ret (xs : List Int) (x : Int) (hn : xs.length ≤ 2305843009213693952) : Ret Try.prog G 81 [Ri xs, I x] (I (ixI xs x)) := by
  refine ret_of_body hT Try.func81 rfl ?_ rfl
  repeat' (first | (intro h; first | contradiction | omega | (conv => whnf) | skip) | (refine And.intro ?_ ?_) | (refine arith_ok ⟨by omega, by omega⟩ ?_) | (first | (refine draw_quiet hT mixed (by decide +kernel) ?_) | (refine draw_hard hT mixed (by decide +kernel) ?_)) | fail)
  refine loop_rule hT (fun i : Nat => i ≤ xs.length ∧ ∀ j, j < i → x ≠ xs.getD j 0) 19 0 [0, 1, 7, 8] (fun i => [Ri xs, I x, I xs.length, I i]) (fun _ => []) (fun i => xs.length - i) (0) (Nat.le_of_ble_eq_true rfl) ?_ ?_ ?_
  · exact ⟨Nat.zero_le _, fun j h => absurd h (Nat.not_lt_zero j)⟩
  · (first | (refine ⟨rfl, [], ?_, ?_⟩; all_goals (repeat' (first | exact rfl | exact trivial | (with_reducible assumption) | refine And.intro ?_ ?_)); all_goals (first | omega | assumption); done) | (refine ⟨rfl, [some 1], ?_, ?_⟩; all_goals (repeat' (first | exact rfl | exact trivial | (with_reducible assumption) | refine And.intro ?_ ?_)); all_goals (first | omega | assumption); done) | (refine ⟨rfl, [some 2], ?_, ?_⟩; all_goals (repeat' (first | exact rfl | exact trivial | (with_reducible assumption) | refine And.intro ?_ ?_)); all_goals (first | omega | assumption); done) | (refine ⟨rfl, [some 3], ?_, ?_⟩; all_goals (repeat' (first | exact rfl | exact trivial | (with_reducible assumption) | refine And.intro ?_ ?_)); all_goals (first | omega | assumption); done) | (refine ⟨rfl, [some 0], ?_, ?_⟩; all_goals (repeat' (first | exact rfl | exact trivial | (with_reducible assumption) | refine And.intro ?_ ?_)); all_goals (first | omega | assumption); done) | (refine ⟨rfl, [some 4], ?_, ?_⟩; all_goals (repeat' (first | exact rfl | exact trivial | (with_reducible assumption) | refine And.intro ?_ ?_)); all_goals (first | omega | assumption); done) | (refine ⟨rfl, [some 5], ?_, ?_⟩; all_goals (repeat' (first | exact rfl | exact trivial | (with_reducible assumption) | refine And.intro ?_ ?_)); all_goals (first | omega | assumption); done) | (refine ⟨rfl, [some 6], ?_, ?_⟩; all_goals (repeat' (first | exact rfl | exact trivial | (with_reducible assumption) | refine And.intro ?_ ?_)); all_goals (first | omega | assumption); done))
  · rintro i ⟨h1, h2⟩
    repeat' (first | (intro h; first | contradiction | omega | (conv => whnf) | skip) | (refine And.intro ?_ ?_) | (refine arith_ok ⟨by omega, by omega⟩ ?_) | (first | (refine draw_quiet hT mixed (by decide +kernel) ?_) | (refine draw_hard hT mixed (by decide +kernel) ?_)) | fail)
    all_goals first | omega | skip
    all_goals first
      | (have he := fo_eq (by omega) h2 (fun _ => h)
         refine iv ?_; unfold ixI; rw [if_pos (by omega), he]; done)
      | (refine ⟨i + 1, ⟨by omega, ne_step h2 h⟩, ?_, by omega⟩; (first | (refine ⟨rfl, [], ?_, ?_⟩; all_goals (repeat' (first | exact rfl | exact trivial | (with_reducible assumption) | refine And.intro ?_ ?_)); all_goals (first | omega | assumption); done) | (refine ⟨rfl, [some 1], ?_, ?_⟩; all_goals (repeat' (first | exact rfl | exact trivial | (with_reducible assumption) | refine And.intro ?_ ?_)); all_goals (first | omega | assumption); done) | (refine ⟨rfl, [some 2], ?_, ?_⟩; all_goals (repeat' (first | exact rfl | exact trivial | (with_reducible assumption) | refine And.intro ?_ ?_)); all_goals (first | omega | assumption); done) | (refine ⟨rfl, [some 3], ?_, ?_⟩; all_goals (repeat' (first | exact rfl | exact trivial | (with_reducible assumption) | refine And.intro ?_ ?_)); all_goals (first | omega | assumption); done) | (refine ⟨rfl, [some 0], ?_, ?_⟩; all_goals (repeat' (first | exact rfl | exact trivial | (with_reducible assumption) | refine And.intro ?_ ?_)); all_goals (first | omega | assumption); done) | (refine ⟨rfl, [some 4], ?_, ?_⟩; all_goals (repeat' (first | exact rfl | exact trivial | (with_reducible assumption) | refine And.intro ?_ ?_)); all_goals (first | omega | assumption); done) | (refine ⟨rfl, [some 5], ?_, ?_⟩; all_goals (repeat' (first | exact rfl | exact trivial | (with_reducible assumption) | refine And.intro ?_ ?_)); all_goals (first | omega | assumption); done) | (refine ⟨rfl, [some 6], ?_, ?_⟩; all_goals (repeat' (first | exact rfl | exact trivial | (with_reducible assumption) | refine And.intro ?_ ?_)); all_goals (first | omega | assumption); done)))
      | (have he := fo_eq (xs := xs) (x := x) (i := i) h1 h2 (fun hlt => by omega)
         refine iv ?_; unfold ixI; rw [if_neg (by omega)]; done)
      | trace_state
set_option maxRecDepth 100000 in
theorem contains_ret (xs : List Int) (x : Int) (hn : xs.length ≤ 2305843009213693952) : Ret Try.prog G 70 [Ri xs, I x] (Bo (decide (x ∈ xs))) := by
  refine ret_of_body hT Try.func70 rfl ?_ rfl
  have hm := fo_mem xs x
  repeat' (first | (intro h; first | contradiction | omega | (conv => whnf) | skip) | (refine And.intro ?_ ?_) | (refine arith_ok ⟨by omega, by omega⟩ ?_) | (first | (refine draw_quiet hT mixed (by decide +kernel) ?_) | (refine draw_hard hT mixed (by decide +kernel) ?_)) | (refine Ret.go (index_ret xs x hn) rfl rfl ?_) | (refine Ret.goQ (index_ret xs x hn) rfl rfl ?_))
  all_goals
    unfold ixI at h
    split at h
    · rename_i hlt
      first | exact bv_true (hm.1 hlt) | omega
    · rename_i hlt
      first | (exact bv_false fun hx => hlt (hm.2 hx)) | omega
set_option maxRecDepth 100000 in
theorem placeOn_ret (xs : List Int) (x : Int) (hn : xs.length ≤ 12) : Ret Try.prog G 66 [Ri xs, I x] (I (if fo xs x < xs.length then (fo xs x : Int) else 12)) := by
  refine ret_of_body hT Try.func66 rfl ?_ rfl
  by_cases hf : fo xs x < xs.length
  · have he : ixI xs x = fo xs x := if_pos hf
    rw [if_pos hf]
    repeat' (first | (intro h; first | contradiction | omega | (conv => whnf) | skip) | (refine And.intro ?_ ?_) | (refine arith_ok ⟨by omega, by omega⟩ ?_) | (first | (refine draw_quiet hT mixed (by decide +kernel) ?_) | (refine draw_hard hT mixed (by decide +kernel) ?_)) | (refine Ret.go (index_ret xs x (by omega)) rfl rfl ?_) | (refine Ret.goQ (index_ret xs x (by omega)) rfl rfl ?_))
    all_goals first | omega | exact iv he | trace_state
  · have he : ixI xs x = -1 := if_neg hf
    rw [if_neg hf]
    repeat' (first | (intro h; first | contradiction | omega | (conv => whnf) | skip) | (refine And.intro ?_ ?_) | (refine arith_ok ⟨by omega, by omega⟩ ?_) | (first | (refine draw_quiet hT mixed (by decide +kernel) ?_) | (refine draw_hard hT mixed (by decide +kernel) ?_)) | (refine Ret.go (index_ret xs x (by omega)) rfl rfl ?_) | (refine Ret.goQ (index_ret xs x (by omega)) rfl rfl ?_))
    all_goals first | omega | rfl | trace_state
set_option maxRecDepth 100000 in
theorem l24Place_ret (xs : List Int) (x : Int) (hn : xs.length ≤ 12) : Ret Try.prog G 64 [Ri xs, I x] (I (fo xs x)) := by
  refine ret_of_body hT Try.func64 rfl ?_ rfl
  repeat' (first | (intro h; first | contradiction | omega | (conv => whnf) | skip) | (refine And.intro ?_ ?_) | (refine arith_ok ⟨by omega, by omega⟩ ?_) | (first | (refine draw_quiet hT mixed (by decide +kernel) ?_) | (refine draw_hard hT mixed (by decide +kernel) ?_)) | fail)
  refine loop_rule hT (fun i : Nat => i ≤ xs.length ∧ ∀ j, j < i → x ≠ xs.getD j 0) 21 0 [0, 1, 5] (fun i => [Ri xs, I x, I i]) (fun _ => []) (fun i => xs.length - i) (0) (Nat.le_of_ble_eq_true rfl) ?_ ?_ ?_
  · exact ⟨Nat.zero_le _, fun j h => absurd h (Nat.not_lt_zero j)⟩
  · (first | (refine ⟨rfl, [], ?_, ?_⟩; all_goals (repeat' (first | exact rfl | exact trivial | (with_reducible assumption) | refine And.intro ?_ ?_)); all_goals (first | omega | assumption); done) | (refine ⟨rfl, [some 1], ?_, ?_⟩; all_goals (repeat' (first | exact rfl | exact trivial | (with_reducible assumption) | refine And.intro ?_ ?_)); all_goals (first | omega | assumption); done) | (refine ⟨rfl, [some 2], ?_, ?_⟩; all_goals (repeat' (first | exact rfl | exact trivial | (with_reducible assumption) | refine And.intro ?_ ?_)); all_goals (first | omega | assumption); done) | (refine ⟨rfl, [some 3], ?_, ?_⟩; all_goals (repeat' (first | exact rfl | exact trivial | (with_reducible assumption) | refine And.intro ?_ ?_)); all_goals (first | omega | assumption); done) | (refine ⟨rfl, [some 0], ?_, ?_⟩; all_goals (repeat' (first | exact rfl | exact trivial | (with_reducible assumption) | refine And.intro ?_ ?_)); all_goals (first | omega | assumption); done) | (refine ⟨rfl, [some 4], ?_, ?_⟩; all_goals (repeat' (first | exact rfl | exact trivial | (with_reducible assumption) | refine And.intro ?_ ?_)); all_goals (first | omega | assumption); done) | (refine ⟨rfl, [some 5], ?_, ?_⟩; all_goals (repeat' (first | exact rfl | exact trivial | (with_reducible assumption) | refine And.intro ?_ ?_)); all_goals (first | omega | assumption); done) | (refine ⟨rfl, [some 6], ?_, ?_⟩; all_goals (repeat' (first | exact rfl | exact trivial | (with_reducible assumption) | refine And.intro ?_ ?_)); all_goals (first | omega | assumption); done))
  · rintro i ⟨h1, h2⟩
    repeat' (first | (intro h; first | contradiction | omega | (conv => whnf) | skip) | (refine And.intro ?_ ?_) | (refine arith_ok ⟨by omega, by omega⟩ ?_) | (first | (refine draw_quiet hT mixed (by decide +kernel) ?_) | (refine draw_hard hT mixed (by decide +kernel) ?_)) | fail)
    all_goals first | omega | skip
    all_goals first
      | (refine ⟨i + 1, ⟨by omega, ne_step h2 (Ne.symm h)⟩, ?_, by omega⟩; (first | (refine ⟨rfl, [], ?_, ?_⟩; all_goals (repeat' (first | exact rfl | exact trivial | (with_reducible assumption) | refine And.intro ?_ ?_)); all_goals (first | omega | assumption); done) | (refine ⟨rfl, [some 1], ?_, ?_⟩; all_goals (repeat' (first | exact rfl | exact trivial | (with_reducible assumption) | refine And.intro ?_ ?_)); all_goals (first | omega | assumption); done) | (refine ⟨rfl, [some 2], ?_, ?_⟩; all_goals (repeat' (first | exact rfl | exact trivial | (with_reducible assumption) | refine And.intro ?_ ?_)); all_goals (first | omega | assumption); done) | (refine ⟨rfl, [some 3], ?_, ?_⟩; all_goals (repeat' (first | exact rfl | exact trivial | (with_reducible assumption) | refine And.intro ?_ ?_)); all_goals (first | omega | assumption); done) | (refine ⟨rfl, [some 0], ?_, ?_⟩; all_goals (repeat' (first | exact rfl | exact trivial | (with_reducible assumption) | refine And.intro ?_ ?_)); all_goals (first | omega | assumption); done) | (refine ⟨rfl, [some 4], ?_, ?_⟩; all_goals (repeat' (first | exact rfl | exact trivial | (with_reducible assumption) | refine And.intro ?_ ?_)); all_goals (first | omega | assumption); done) | (refine ⟨rfl, [some 5], ?_, ?_⟩; all_goals (repeat' (first | exact rfl | exact trivial | (with_reducible assumption) | refine And.intro ?_ ?_)); all_goals (first | omega | assumption); done) | (refine ⟨rfl, [some 6], ?_, ?_⟩; all_goals (repeat' (first | exact rfl | exact trivial | (with_reducible assumption) | refine And.intro ?_ ?_)); all_goals (first | omega | assumption); done)))
      | (have he := fo_eq (xs := xs) (x := x) (i := i) h1 h2 (fun hlt => by first | omega | exact (Decidable.of_not_not h).symm)
         rw [he]; done)
      | trace_state
def cmpI (a b : Int) : Int := if a < b then -1 else if b < a then 1 else 0
set_option maxRecDepth 100000 in
theorem isNaN_ret (a : Int) : Ret Try.prog G 80 [I a] (Bo false) := by
  refine ret_of_body hT Try.func80 rfl ?_ rfl
  repeat' (first | (intro h; first | contradiction | omega | (conv => whnf) | skip) | (refine And.intro ?_ ?_) | (refine arith_ok ⟨by omega, by omega⟩ ?_) | (first | (refine draw_quiet hT mixed (by decide +kernel) ?_) | (refine draw_hard hT mixed (by decide +kernel) ?_)) | fail)
  all_goals first | rfl | omega
set_option maxRecDepth 100000 in
theorem compare_ret (a b : Int) : Ret Try.prog G 65 [I a, I b] (I (cmpI a b)) := by
  refine ret_of_body hT Try.func65 rfl ?_ rfl
  repeat' (first | (intro h; first | contradiction | omega | (conv => whnf) | skip) | (refine And.intro ?_ ?_) | (refine arith_ok ⟨by omega, by omega⟩ ?_) | (first | (refine draw_quiet hT mixed (by decide +kernel) ?_) | (refine draw_hard hT mixed (by decide +kernel) ?_)) | (refine Ret.go (isNaN_ret _) rfl rfl ?_) | (refine Ret.goQ (isNaN_ret _) rfl rfl ?_))
  all_goals (refine iv ?_; unfold cmpI; first | (rw [if_pos (by omega)]; done) | (rw [if_neg (by omega), if_pos (by omega)]; done) | (rw [if_neg (by omega), if_neg (by omega)]; done))
/-! ### Ballots -/
def noTwice (b : List Int) : Prop := ∀ i, i < b.length → b.getD i 0 ∉ b.take i
def ok1 (c : Int) (b : List Int) : Prop := allR b 0 (c - 1) ∧ noTwice b
def okB (c : Int) (xss : List (List Int)) : Prop := (1 ≤ c ∧ c ≤ 12) ∧ xss.length ≤ 60 ∧ ∀ b ∈ xss, ok1 c b
theorem pigeon : ∀ (n : Nat) (l : List Int), l.Nodup → (∀ x ∈ l, 0 ≤ x ∧ x < n) → l.length ≤ n
  | 0, l, _, h => by
    cases l with
    | nil => simp
    | cons x r => have := h x (by simp); omega
  | n + 1, l, hd, h => by
    by_cases hm : (n : Int) ∈ l
    · have h1 := pigeon n (l.erase n) (hd.erase _) (fun x hx => by
        have hx2 := hd.mem_erase_iff.1 hx
        have h3 := h x hx2.2
        have h4 := hx2.1
        omega)
      rw [List.length_erase_of_mem hm] at h1
      omega
    · have h1 := pigeon n l hd (fun x hx => by
        have h3 := h x hx
        have h4 : x ≠ n := fun e => hm (e ▸ hx)
        omega)
      omega
theorem noTwice_nodup {b : List Int} (h : noTwice b) : b.Nodup := by
  refine List.pairwise_iff_getElem.2 fun i j hi hj hij he => ?_
  refine h j hj ?_
  rw [getD_lt hj, ← he]
  exact List.mem_take_iff_getElem.2 ⟨i, by omega, rfl⟩
theorem ok1_len {c : Int} {b : List Int} (hc : 1 ≤ c ∧ c ≤ 12) (h : ok1 c b) : b.length ≤ 12 := by
  have := pigeon 12 b (noTwice_nodup h.2) (fun x hx => by have := h.1 x hx; omega)
  exact this
end Go.Proofs.Ytcdfdigehaipmaa
