/-
  Tontine classes: what the functions return. No conditions but those in the statements.
-/
import Derived.Test.YtenofbabiacacaaGreatIn
set_option linter.unusedVariables false
set_option linter.unusedSimpArgs false
namespace Go.Proofs.YtenofbabiacacaaGreat
open Go.AE

attribute [local irreducible] CallA LoopA DrawA CallQ arithK quoK remK eqK
set_option maxRecDepth 100000 in
theorem l01Has_ret (xs : List Int) (x : Int) (hn : xs.length ≤ 2305843009213693952) : Ret Tryz.prog G 164 [Ri xs, I x] (Bo (decide (x ∈ xs))) := by
  refine ret_of_body hT Tryz.func164 rfl ?_ rfl
  repeat' (first | (intro h; first | contradiction | omega | (conv => whnf) | skip) | (refine And.intro ?_ ?_) | (refine arith_ok ⟨by omega, by omega⟩ ?_) | (first | (refine draw_quiet hT mixed (by decide +kernel) ?_) | (refine draw_hard hT mixed (by decide +kernel) ?_)) | fail)
  refine loop_rule hT (fun i : Nat => i ≤ xs.length ∧ ∀ y ∈ xs.take i, y ≠ x) 18 0 [0, 1, 5] (fun i => [Ri xs, I x, I i]) (fun _ => []) (fun i => xs.length - i) (0) (Nat.le_of_ble_eq_true rfl) ?_ ?_ ?_
  · exact ⟨Nat.zero_le _, by simp⟩
  · (refine ⟨rfl, [], ?_, ?_⟩; all_goals (repeat' (first | exact rfl | exact trivial | (with_reducible assumption) | refine And.intro ?_ ?_ | omega)))
  · rintro i ⟨h1, h2⟩
    repeat' (first | (intro h; first | contradiction | omega | (conv => whnf) | skip) | (refine And.intro ?_ ?_) | (refine arith_ok ⟨by omega, by omega⟩ ?_) | (first | (refine draw_quiet hT mixed (by decide +kernel) ?_) | (refine draw_hard hT mixed (by decide +kernel) ?_)) | fail)
    all_goals first | omega | skip
    all_goals first
      | (have he : xs.getD i 0 = x := h
         exact bv_true (by rw [← he]; exact getD_mem (by omega)))
      | (refine ⟨i + 1, ⟨by omega, all_snoc 0 (by omega) h2 h⟩, ?_, by omega⟩; (refine ⟨rfl, [], ?_, ?_⟩; all_goals (repeat' (first | exact rfl | exact trivial | (with_reducible assumption) | refine And.intro ?_ ?_ | omega))); done)
      | (exact bv_false fun hm => all_end (by omega) h2 x hm rfl)
      | trace_state
/-- The place of a number in a list, or the list's length. -/
def fo (xs : List Int) (x : Int) : Nat := firstOf (fun y => decide (x = y)) xs
theorem fo_le (xs : List Int) (x : Int) : fo xs x ≤ xs.length := firstOf_le _ _
theorem fo_mem (xs : List Int) (x : Int) : fo xs x < xs.length ↔ x ∈ xs := by
  unfold fo
  rw [firstOf_lt_iff]
  exact ⟨fun ⟨y, h1, h2⟩ => by rw [of_decide_eq_true h2]; exact h1, fun h => ⟨x, h, decide_eq_true rfl⟩⟩
theorem fo_eq {xs : List Int} {x : Int} {i : Nat} (hi : i ≤ xs.length) (h : ∀ j, j < i → x ≠ xs.getD j 0) (h2 : i < xs.length → x = xs.getD i 0) : fo xs x = i :=
  firstOf_eq 0 hi (fun j hj => decide_eq_false (h j hj)) fun hlt => decide_eq_true (h2 hlt)
theorem ne_step {xs : List Int} {x : Int} {i : Nat} (h : ∀ j, j < i → x ≠ xs.getD j 0) (hi : x ≠ xs.getD i 0) : ∀ j, j < i + 1 → x ≠ xs.getD j 0 := fun j hj => by
  by_cases he : j = i
  · rw [he]; exact hi
  · exact h j (by omega)
def ixI (xs : List Int) (x : Int) : Int := if fo xs x < xs.length then (fo xs x : Int) else -1
set_option maxRecDepth 100000 in
theorem index_ret (xs : List Int) (x : Int) (hn : xs.length ≤ 2305843009213693952) : Ret Tryz.prog G 209 [Ri xs, I x] (I (ixI xs x)) := by
  refine ret_of_body hT Tryz.func209 rfl ?_ rfl
  repeat' (first | (intro h; first | contradiction | omega | (conv => whnf) | skip) | (refine And.intro ?_ ?_) | (refine arith_ok ⟨by omega, by omega⟩ ?_) | (first | (refine draw_quiet hT mixed (by decide +kernel) ?_) | (refine draw_hard hT mixed (by decide +kernel) ?_)) | fail)
  refine loop_rule hT (fun i : Nat => i ≤ xs.length ∧ ∀ j, j < i → x ≠ xs.getD j 0) 19 0 [0, 1, 7, 8] (fun i => [Ri xs, I x, I xs.length, I i]) (fun _ => []) (fun i => xs.length - i) (0) (Nat.le_of_ble_eq_true rfl) ?_ ?_ ?_
  · exact ⟨Nat.zero_le _, fun j h => absurd h (Nat.not_lt_zero j)⟩
  · (first | (refine ⟨rfl, [], ?_, ?_⟩; all_goals (repeat' (first | exact rfl | exact trivial | (with_reducible assumption) | refine And.intro ?_ ?_)); all_goals (first | omega | assumption); done) | (refine ⟨rfl, [some 1], ?_, ?_⟩; all_goals (repeat' (first | exact rfl | exact trivial | (with_reducible assumption) | refine And.intro ?_ ?_)); all_goals (first | omega | assumption); done) | (refine ⟨rfl, [some 2], ?_, ?_⟩; all_goals (repeat' (first | exact rfl | exact trivial | (with_reducible assumption) | refine And.intro ?_ ?_)); all_goals (first | omega | assumption); done) | (refine ⟨rfl, [some 3], ?_, ?_⟩; all_goals (repeat' (first | exact rfl | exact trivial | (with_reducible assumption) | refine And.intro ?_ ?_)); all_goals (first | omega | assumption); done) | (refine ⟨rfl, [some 0], ?_, ?_⟩; all_goals (repeat' (first | exact rfl | exact trivial | (with_reducible assumption) | refine And.intro ?_ ?_)); all_goals (first | omega | assumption); done) | (refine ⟨rfl, [some 4], ?_, ?_⟩; all_goals (repeat' (first | exact rfl | exact trivial | (with_reducible assumption) | refine And.intro ?_ ?_)); all_goals (first | omega | assumption); done) | (refine ⟨rfl, [some 5], ?_, ?_⟩; all_goals (repeat' (first | exact rfl | exact trivial | (with_reducible assumption) | refine And.intro ?_ ?_)); all_goals (first | omega | assumption); done) | (refine ⟨rfl, [some 6], ?_, ?_⟩; all_goals (repeat' (first | exact rfl | exact trivial | (with_reducible assumption) | refine And.intro ?_ ?_)); all_goals (first | omega | assumption); done))
  · rintro i ⟨h1, h2⟩
    repeat' (first | (intro h; first | contradiction | omega | (conv => whnf) | skip) | (refine And.intro ?_ ?_) | (refine arith_ok ⟨by omega, by omega⟩ ?_) | (first | (refine draw_quiet hT mixed (by decide +kernel) ?_) | (refine draw_hard hT mixed (by decide +kernel) ?_)) | fail)
    all_goals first | omega | skip
    all_goals first
      | (have he := fo_eq (by omega) h2 (fun _ => h)
         refine iv ?_; unfold ixI; rw [if_pos (by omega), he]; done)
      | (refine ⟨i + 1, ⟨by omega, ne_step h2 h⟩, ?_, by omega⟩; (first | (refine ⟨rfl, [], ?_, ?_⟩; all_goals (repeat' (first | exact rfl | exact trivial | (with_reducible assumption) | refine And.intro ?_ ?_)); all_goals (first | omega | assumption); done) | (refine ⟨rfl, [some 1], ?_, ?_⟩; all_goals (repeat' (first | exact rfl | exact trivial | (with_reducible assumption) | refine And.intro ?_ ?_)); all_goals (first | omega | assumption); done) | (refine ⟨rfl, [some 2], ?_, ?_⟩; all_goals (repeat' (first | exact rfl | exact trivial | (with_reducible assumption) | refine And.intro ?_ ?_)); all_goals (first | omega | assumption); done) | (refine ⟨rfl, [some 3], ?_, ?_⟩; all_goals (repeat' (first | exact rfl | exact trivial | (with_reducible assumption) | refine And.intro ?_ ?_)); all_goals (first | omega | assumption); done) | (refine ⟨rfl, [some 0], ?_, ?_⟩; all_goals (repeat' (first | exact rfl | exact trivial | (with_reducible assumption) | refine And.intro ?_ ?_)); all_goals (first | omega | assumption); done) | (refine ⟨rfl, [some 4], ?_, ?_⟩; all_goals (repeat' (first | exact rfl | exact trivial | (with_reducible assumption) | refine And.intro ?_ ?_)); all_goals (first | omega | assumption); done) | (refine ⟨rfl, [some 5], ?_, ?_⟩; all_goals (repeat' (first | exact rfl | exact trivial | (with_reducible assumption) | refine And.intro ?_ ?_)); all_goals (first | omega | assumption); done) | (refine ⟨rfl, [some 6], ?_, ?_⟩; all_goals (repeat' (first | exact rfl | exact trivial | (with_reducible assumption) | refine And.intro ?_ ?_)); all_goals (first | omega | assumption); done)))
      | (have he := fo_eq (xs := xs) (x := x) (i := i) h1 h2 (fun hlt => by omega)
         refine iv ?_; unfold ixI; rw [if_neg (by omega)]; done)
      | trace_state
set_option maxRecDepth 100000 in
theorem contains_ret (xs : List Int) (x : Int) (hn : xs.length ≤ 2305843009213693952) : Ret Tryz.prog G 194 [Ri xs, I x] (Bo (decide (x ∈ xs))) := by
  refine ret_of_body hT Tryz.func194 rfl ?_ rfl
  have hm := fo_mem xs x
  repeat' (first | (intro h; first | contradiction | omega | (conv => whnf) | skip) | (refine And.intro ?_ ?_) | (refine arith_ok ⟨by omega, by omega⟩ ?_) | (first | (refine draw_quiet hT mixed (by decide +kernel) ?_) | (refine draw_hard hT mixed (by decide +kernel) ?_)) | (refine Ret.go (index_ret xs x hn) rfl rfl ?_) | (refine Ret.goQ (index_ret xs x hn) rfl rfl ?_))
  all_goals
    unfold ixI at h
    split at h
    · rename_i hlt
      first | exact bv_true (hm.1 hlt) | omega
    · rename_i hlt
      first | (exact bv_false fun hx => hlt (hm.2 hx)) | omega
set_option maxRecDepth 100000 in
theorem cloneI_call (xs : List Int) (hx : xs.length ≤ 1048576) : CallA Tryz.prog G 193 [Ri xs] [] (fun v J => v = .sl 0 1 xs.length ∧ J = [Di xs]) := by
  refine CallA.ends (callA_of_body hT Tryz.func193 rfl ?_)
  repeat' (first | (intro h; first | contradiction | omega | (conv => whnf) | skip) | (refine And.intro ?_ ?_) | (refine arith_ok ⟨by omega, by omega⟩ ?_) | (first | (refine draw_quiet hT mixed (by decide +kernel) ?_) | (refine draw_hard hT mixed (by decide +kernel) ?_)) | fail)
  all_goals first | omega | (show 0 = 0; rfl) | (simp only [List.length_nil]; omega) | skip
  all_goals first
    | (obtain rfl := List.eq_nil_of_length_eq_zero h; (refine ⟨[none], .sl 0 1 0, [Di []], ?_, ?_, ?_⟩; all_goals (repeat' (first | exact rfl | exact trivial | (with_reducible assumption) | refine And.intro ?_ ?_ | omega))); done)
    | ((first | (refine ⟨[], .sl 0 1 xs.length, [Di xs], ?_, ?_, ?_⟩; all_goals (repeat' (first | exact rfl | exact trivial | (with_reducible assumption) | refine And.intro ?_ ?_)); all_goals (first | omega | assumption); done) | (refine ⟨[some 1], .sl 0 1 xs.length, [Di xs], ?_, ?_, ?_⟩; all_goals (repeat' (first | exact rfl | exact trivial | (with_reducible assumption) | refine And.intro ?_ ?_)); all_goals (first | omega | assumption); done) | (refine ⟨[some 0], .sl 0 1 xs.length, [Di xs], ?_, ?_, ?_⟩; all_goals (repeat' (first | exact rfl | exact trivial | (with_reducible assumption) | refine And.intro ?_ ?_)); all_goals (first | omega | assumption); done) | (refine ⟨[some 2], .sl 0 1 xs.length, [Di xs], ?_, ?_, ?_⟩; all_goals (repeat' (first | exact rfl | exact trivial | (with_reducible assumption) | refine And.intro ?_ ?_)); all_goals (first | omega | assumption); done) | (refine ⟨[some 3], .sl 0 1 xs.length, [Di xs], ?_, ?_, ?_⟩; all_goals (repeat' (first | exact rfl | exact trivial | (with_reducible assumption) | refine And.intro ?_ ?_)); all_goals (first | omega | assumption); done) | (refine ⟨[some 4], .sl 0 1 xs.length, [Di xs], ?_, ?_, ?_⟩; all_goals (repeat' (first | exact rfl | exact trivial | (with_reducible assumption) | refine And.intro ?_ ?_)); all_goals (first | omega | assumption); done) | (refine ⟨[some 5], .sl 0 1 xs.length, [Di xs], ?_, ?_, ?_⟩; all_goals (repeat' (first | exact rfl | exact trivial | (with_reducible assumption) | refine And.intro ?_ ?_)); all_goals (first | omega | assumption); done)))
    | trace_state
set_option maxRecDepth 100000 in
theorem ownI_call (xs : List Int) (hx : xs.length ≤ 1048576) : CallA Tryz.prog G 195 [Ri xs] [] (fun v J => v = .sl 0 1 xs.length ∧ J = [Di xs]) := by
  refine CallA.ends (callA_of_body hT Tryz.func195 rfl ?_)
  repeat' (first | (intro h; first | contradiction | omega | (conv => whnf) | skip) | (refine And.intro ?_ ?_) | (refine arith_ok ⟨by omega, by omega⟩ ?_) | (first | (refine draw_quiet hT mixed (by decide +kernel) ?_) | (refine draw_hard hT mixed (by decide +kernel) ?_)) | fail)
  all_goals first | omega | (show 0 = 0; rfl) | (simp only [List.length_nil]; omega) | skip
  all_goals first
    | ((first | (refine ⟨[], .sl 0 1 xs.length, [Di xs], ?_, ?_, ?_⟩; all_goals (repeat' (first | exact rfl | exact trivial | (with_reducible assumption) | refine And.intro ?_ ?_)); all_goals (first | omega | assumption); done) | (refine ⟨[some 1], .sl 0 1 xs.length, [Di xs], ?_, ?_, ?_⟩; all_goals (repeat' (first | exact rfl | exact trivial | (with_reducible assumption) | refine And.intro ?_ ?_)); all_goals (first | omega | assumption); done) | (refine ⟨[some 0], .sl 0 1 xs.length, [Di xs], ?_, ?_, ?_⟩; all_goals (repeat' (first | exact rfl | exact trivial | (with_reducible assumption) | refine And.intro ?_ ?_)); all_goals (first | omega | assumption); done) | (refine ⟨[some 2], .sl 0 1 xs.length, [Di xs], ?_, ?_, ?_⟩; all_goals (repeat' (first | exact rfl | exact trivial | (with_reducible assumption) | refine And.intro ?_ ?_)); all_goals (first | omega | assumption); done) | (refine ⟨[some 3], .sl 0 1 xs.length, [Di xs], ?_, ?_, ?_⟩; all_goals (repeat' (first | exact rfl | exact trivial | (with_reducible assumption) | refine And.intro ?_ ?_)); all_goals (first | omega | assumption); done) | (refine ⟨[some 4], .sl 0 1 xs.length, [Di xs], ?_, ?_, ?_⟩; all_goals (repeat' (first | exact rfl | exact trivial | (with_reducible assumption) | refine And.intro ?_ ?_)); all_goals (first | omega | assumption); done) | (refine ⟨[some 5], .sl 0 1 xs.length, [Di xs], ?_, ?_, ?_⟩; all_goals (repeat' (first | exact rfl | exact trivial | (with_reducible assumption) | refine And.intro ?_ ?_)); all_goals (first | omega | assumption); done)))
    | trace_state
set_option maxRecDepth 100000 in
theorem lenI_ret (ls : List Int) : Ret Tryz.prog G 158 [Ri ls] (I ls.length) := by
  refine ret_of_body hT Tryz.func158 rfl ?_ rfl
  repeat' (first | (intro h; first | contradiction | omega | (conv => whnf) | skip) | (refine And.intro ?_ ?_) | (refine arith_ok ⟨by omega, by omega⟩ ?_) | (first | (refine draw_quiet hT mixed (by decide +kernel) ?_) | (refine draw_hard hT mixed (by decide +kernel) ?_)) | fail)
  all_goals first | rfl | omega
abbrev Cl (sh de : List Int) (ch : Int) : AV := .agg [Ri sh, Ri de, I ch]
def hdC (sh de : List Int) (ch : Int) : Prop := (1 ≤ sh.length ∧ sh.length ≤ 60) ∧ allR sh 1 1000 ∧ allR de 0 (sh.length - 1) ∧ (0 ≤ ch ∧ ch ≤ 1000000000000)
def inc (de : List Int) (m : Nat) : Prop := ∀ i, 1 ≤ i → i < m → de.getD (i - 1) 0 < de.getD i 0
def okC (sh de : List Int) (ch : Int) : Prop := hdC sh de ch ∧ inc de de.length
noncomputable instance (sh de : List Int) (ch : Int) : Decidable (okC sh de ch) := Classical.propDecidable _
noncomputable instance (sh de : List Int) (ch : Int) : Decidable (hdC sh de ch) := Classical.propDecidable _
theorem inc_next {de : List Int} {m : Nat} (h : inc de m) (_ : 1 ≤ m) (hx : de.getD (m - 1) 0 < de.getD m 0) : inc de (m + 1) := fun i h1 h2 => by
  by_cases he : i = m
  · rw [he]; exact hx
  · exact h i h1 (by omega)
theorem inc_ge {de : List Int} (h : inc de de.length) (h0 : ∀ x ∈ de, 0 ≤ x) : ∀ i : Nat, i < de.length → (i : Int) ≤ de.getD i 0
  | 0, hi => h0 _ (getD_mem hi)
  | i + 1, hi => by
    have := inc_ge h h0 i (by omega)
    have h1 := h (i + 1) (by omega) hi
    rw [show i + 1 - 1 = i by omega] at h1
    omega
theorem okC_len {sh de : List Int} {ch : Int} (h : okC sh de ch) : de.length ≤ sh.length := by
  by_cases hz : de.length = 0
  · omega
  · have h1 := inc_ge h.2 (fun x hx => (h.1.2.2.1 x hx).1) (de.length - 1) (by omega)
    have h2 := h.1.2.2.1 _ (getD_mem (d := 0) (show de.length - 1 < de.length by omega))
    omega
set_option maxRecDepth 100000 in
theorem implClass_ret (sh de : List Int) (ch : Int) (hs : sh.length ≤ 1048576) (hd : de.length ≤ 1048576) : Ret Tryz.prog G 117 [Cl sh de ch] (Bo (decide (okC sh de ch))) := by
  refine ret_of_body hT Tryz.func117 rfl ?_ rfl
  have ha := allIn_ret sh 1 1000 (by omega)
  have hb := allIn_ret de 0 (sh.length - 1) (by omega)
  by_cases hh : hdC sh de ch
  · have hh' := hh
    obtain ⟨g1, g2, g3, g4⟩ := hh'
    repeat' ((first | (conv => whnf) | skip); (first | ((with_reducible intro h); first | contradiction | omega | (conv => whnf) | skip) | (with_reducible refine And.intro ?_ ?_) | ((with_reducible show arithK _ _ _); refine arith_ok ⟨by omega, by omega⟩ ?_) | ((with_reducible show quoK _ _ _ _); refine quo_ok ⟨by omega, by omega⟩ (by omega) (by omega) ?_) | ((with_reducible show remK _ _ _ _); refine rem_ok (by omega) (by omega) ?_) | ((first | (with_reducible show CallA _ _ _ _ _ _) | (with_reducible show CallQ _ _ _ _ _ _)); first | (refine Ret.go (lenI_ret _) rfl rfl ?_) | (refine Ret.goQ (lenI_ret _) rfl rfl ?_) | (refine Ret.goP (inRange_ret _ _ _) rfl ?_) | (refine Ret.goQP (inRange_ret _ _ _) rfl ?_) | (refine Ret.goP (ha) rfl ?_) | (refine Ret.goQP (ha) rfl ?_) | (refine Ret.goP (hb) rfl ?_) | (refine Ret.goQP (hb) rfl ?_)) | ((with_reducible show DrawA _ _ _ _ _ _); first | (first | (refine draw_quiet hT mixed (by decide +kernel) ?_) | (refine draw_hard hT mixed (by decide +kernel) ?_)))))
    all_goals first | omega | contradiction | skip
    refine loop_rule hT (fun i : Nat => 1 ≤ i ∧ (i ≤ de.length ∨ (i = 1 ∧ de.length = 0)) ∧ inc de i) 50 1 [1, 3, 4] (fun i => [.ptr 0 0, I sh.length, I i]) (fun _ => [.cells [Ri sh, Ri de, I ch]]) (fun i => de.length - i) (1) (Nat.le_of_ble_eq_true rfl) ?_ ?_ ?_
    · exact ⟨Nat.le_refl _, by omega, fun i h1 h2 => by omega⟩
    · (first | (refine ⟨rfl, [], ?_, ?_⟩; all_goals (repeat' (first | exact rfl | exact trivial | (with_reducible assumption) | refine And.intro ?_ ?_)); all_goals (first | omega | assumption); done) | (refine ⟨rfl, [some 1], ?_, ?_⟩; all_goals (repeat' (first | exact rfl | exact trivial | (with_reducible assumption) | refine And.intro ?_ ?_)); all_goals (first | omega | assumption); done) | (refine ⟨rfl, [some 2], ?_, ?_⟩; all_goals (repeat' (first | exact rfl | exact trivial | (with_reducible assumption) | refine And.intro ?_ ?_)); all_goals (first | omega | assumption); done) | (refine ⟨rfl, [some 3], ?_, ?_⟩; all_goals (repeat' (first | exact rfl | exact trivial | (with_reducible assumption) | refine And.intro ?_ ?_)); all_goals (first | omega | assumption); done) | (refine ⟨rfl, [some 0], ?_, ?_⟩; all_goals (repeat' (first | exact rfl | exact trivial | (with_reducible assumption) | refine And.intro ?_ ?_)); all_goals (first | omega | assumption); done) | (refine ⟨rfl, [some 4], ?_, ?_⟩; all_goals (repeat' (first | exact rfl | exact trivial | (with_reducible assumption) | refine And.intro ?_ ?_)); all_goals (first | omega | assumption); done) | (refine ⟨rfl, [some 5], ?_, ?_⟩; all_goals (repeat' (first | exact rfl | exact trivial | (with_reducible assumption) | refine And.intro ?_ ?_)); all_goals (first | omega | assumption); done) | (refine ⟨rfl, [some 6], ?_, ?_⟩; all_goals (repeat' (first | exact rfl | exact trivial | (with_reducible assumption) | refine And.intro ?_ ?_)); all_goals (first | omega | assumption); done))
    · rintro i ⟨h1, h2, h3⟩
      by_cases hi : i < de.length
      · have e1 : de.getD ((i : Int) - 1).toNat 0 = de.getD (i - 1) 0 := by rw [show ((i : Int) - 1).toNat = i - 1 by omega]
        have e2 : de.getD ((i : Int)).toNat 0 = de.getD i 0 := rfl
        by_cases hx : de.getD (i - 1) 0 < de.getD i 0
        · repeat' ((first | (conv => whnf) | skip); (first | ((with_reducible intro h); first | contradiction | omega | (conv => whnf) | skip) | (with_reducible refine And.intro ?_ ?_) | ((with_reducible show arithK _ _ _); refine arith_ok ⟨by omega, by omega⟩ ?_) | ((with_reducible show quoK _ _ _ _); refine quo_ok ⟨by omega, by omega⟩ (by omega) (by omega) ?_) | ((with_reducible show remK _ _ _ _); refine rem_ok (by omega) (by omega) ?_) | ((first | (with_reducible show CallA _ _ _ _ _ _) | (with_reducible show CallQ _ _ _ _ _ _)); first | fail) | ((with_reducible show DrawA _ _ _ _ _ _); first | (first | (refine draw_quiet hT mixed (by decide +kernel) ?_) | (refine draw_hard hT mixed (by decide +kernel) ?_)))))
          all_goals first | omega | skip
          all_goals ((conv => whnf); refine ⟨i + 1, ⟨by omega, by omega, inc_next h3 h1 hx⟩, ?_, by omega⟩; (first | (refine ⟨rfl, [], ?_, ?_⟩; all_goals (repeat' (first | exact rfl | exact trivial | (with_reducible assumption) | refine And.intro ?_ ?_)); all_goals (first | omega | assumption); done) | (refine ⟨rfl, [some 1], ?_, ?_⟩; all_goals (repeat' (first | exact rfl | exact trivial | (with_reducible assumption) | refine And.intro ?_ ?_)); all_goals (first | omega | assumption); done) | (refine ⟨rfl, [some 2], ?_, ?_⟩; all_goals (repeat' (first | exact rfl | exact trivial | (with_reducible assumption) | refine And.intro ?_ ?_)); all_goals (first | omega | assumption); done) | (refine ⟨rfl, [some 3], ?_, ?_⟩; all_goals (repeat' (first | exact rfl | exact trivial | (with_reducible assumption) | refine And.intro ?_ ?_)); all_goals (first | omega | assumption); done) | (refine ⟨rfl, [some 0], ?_, ?_⟩; all_goals (repeat' (first | exact rfl | exact trivial | (with_reducible assumption) | refine And.intro ?_ ?_)); all_goals (first | omega | assumption); done) | (refine ⟨rfl, [some 4], ?_, ?_⟩; all_goals (repeat' (first | exact rfl | exact trivial | (with_reducible assumption) | refine And.intro ?_ ?_)); all_goals (first | omega | assumption); done) | (refine ⟨rfl, [some 5], ?_, ?_⟩; all_goals (repeat' (first | exact rfl | exact trivial | (with_reducible assumption) | refine And.intro ?_ ?_)); all_goals (first | omega | assumption); done) | (refine ⟨rfl, [some 6], ?_, ?_⟩; all_goals (repeat' (first | exact rfl | exact trivial | (with_reducible assumption) | refine And.intro ?_ ?_)); all_goals (first | omega | assumption); done)))
        · repeat' ((first | (conv => whnf) | skip); (first | ((with_reducible intro h); first | contradiction | omega | (conv => whnf) | skip) | (with_reducible refine And.intro ?_ ?_) | ((with_reducible show arithK _ _ _); refine arith_ok ⟨by omega, by omega⟩ ?_) | ((with_reducible show quoK _ _ _ _); refine quo_ok ⟨by omega, by omega⟩ (by omega) (by omega) ?_) | ((with_reducible show remK _ _ _ _); refine rem_ok (by omega) (by omega) ?_) | ((first | (with_reducible show CallA _ _ _ _ _ _) | (with_reducible show CallQ _ _ _ _ _ _)); first | fail) | ((with_reducible show DrawA _ _ _ _ _ _); first | (first | (refine draw_quiet hT mixed (by decide +kernel) ?_) | (refine draw_hard hT mixed (by decide +kernel) ?_)))))
          all_goals first | omega | (exact bv_false fun ho => hx (ho.2 i h1 hi)) | trace_state
      · repeat' ((first | (conv => whnf) | skip); (first | ((with_reducible intro h); first | contradiction | omega | (conv => whnf) | skip) | (with_reducible refine And.intro ?_ ?_) | ((with_reducible show arithK _ _ _); refine arith_ok ⟨by omega, by omega⟩ ?_) | ((with_reducible show quoK _ _ _ _); refine quo_ok ⟨by omega, by omega⟩ (by omega) (by omega) ?_) | ((with_reducible show remK _ _ _ _); refine rem_ok (by omega) (by omega) ?_) | ((first | (with_reducible show CallA _ _ _ _ _ _) | (with_reducible show CallQ _ _ _ _ _ _)); first | fail) | ((with_reducible show DrawA _ _ _ _ _ _); first | (first | (refine draw_quiet hT mixed (by decide +kernel) ?_) | (refine draw_hard hT mixed (by decide +kernel) ?_)))))
        all_goals first | omega | (exact bv_true ⟨hh, fun j g1 g2 => h3 j g1 (by omega)⟩) | trace_state
  · have hf : ¬ okC sh de ch := fun ho => hh ho.1
    have hh' := hh
    unfold hdC at hh'
    repeat' ((first | (conv => whnf) | skip); (first | ((with_reducible intro h); first | contradiction | omega | (conv => whnf) | skip) | (with_reducible refine And.intro ?_ ?_) | ((with_reducible show arithK _ _ _); refine arith_ok ⟨by omega, by omega⟩ ?_) | ((with_reducible show quoK _ _ _ _); refine quo_ok ⟨by omega, by omega⟩ (by omega) (by omega) ?_) | ((with_reducible show remK _ _ _ _); refine rem_ok (by omega) (by omega) ?_) | ((first | (with_reducible show CallA _ _ _ _ _ _) | (with_reducible show CallQ _ _ _ _ _ _)); first | (refine Ret.go (lenI_ret _) rfl rfl ?_) | (refine Ret.goQ (lenI_ret _) rfl rfl ?_) | (refine Ret.goP (inRange_ret _ _ _) rfl ?_) | (refine Ret.goQP (inRange_ret _ _ _) rfl ?_) | (refine Ret.goP (ha) rfl ?_) | (refine Ret.goQP (ha) rfl ?_) | (refine Ret.goP (hb) rfl ?_) | (refine Ret.goQP (hb) rfl ?_)) | ((with_reducible show DrawA _ _ _ _ _ _); first | (first | (refine draw_quiet hT mixed (by decide +kernel) ?_) | (refine draw_hard hT mixed (by decide +kernel) ?_)))))
    all_goals first | omega | (exact bv_false hf) | (exact (hh' ⟨⟨by omega, by omega⟩, by assumption, by assumption, by omega⟩).elim) | trace_state
set_option maxRecDepth 100000 in
theorem specClass_ret (sh de : List Int) (ch : Int) (hs : sh.length ≤ 1048576) (hd : de.length ≤ 1048576) : Ret Tryz.prog G 120 [Cl sh de ch] (Bo (decide (okC sh de ch))) := by
  refine ret_of_body hT Tryz.func120 rfl ?_ rfl
  have ha := l01Within_ret sh 60 1 1000 (by omega)
  have hb := l01Within_ret de sh.length 0 (sh.length - 1) (by omega)
  by_cases hh : hdC sh de ch ∧ de.length ≤ sh.length
  · have hh' := hh.1
    have hl := hh.2
    obtain ⟨g1, g2, g3, g4⟩ := hh'
    rw [decide_eq_true (show allR sh 1 1000 ∧ (sh.length : Int) ≤ 60 from ⟨g2, by omega⟩)] at ha
    rw [decide_eq_true (show allR de 0 (sh.length - 1) ∧ (de.length : Int) ≤ sh.length from ⟨g3, by omega⟩)] at hb
    repeat' ((first | (conv => whnf) | skip); (first | ((with_reducible intro h); first | contradiction | omega | (conv => whnf) | skip) | (with_reducible refine And.intro ?_ ?_) | ((with_reducible show arithK _ _ _); refine arith_ok ⟨by omega, by omega⟩ ?_) | ((with_reducible show quoK _ _ _ _); refine quo_ok ⟨by omega, by omega⟩ (by omega) (by omega) ?_) | ((with_reducible show remK _ _ _ _); refine rem_ok (by omega) (by omega) ?_) | ((first | (with_reducible show CallA _ _ _ _ _ _) | (with_reducible show CallQ _ _ _ _ _ _)); first | (refine Ret.goP (l01In_ret _ _ _) rfl ?_) | (refine Ret.goQP (l01In_ret _ _ _) rfl ?_) | (refine Ret.go (ha) rfl rfl ?_) | (refine Ret.goQ (ha) rfl rfl ?_) | (refine Ret.go (hb) rfl rfl ?_) | (refine Ret.goQ (hb) rfl rfl ?_)) | ((with_reducible show DrawA _ _ _ _ _ _); first | (first | (refine draw_quiet hT mixed (by decide +kernel) ?_) | (refine draw_hard hT mixed (by decide +kernel) ?_)))))
    all_goals first | omega | contradiction | skip
    refine loop_rule hT (fun i : Nat => 1 ≤ i ∧ (i ≤ de.length ∨ (i = 1 ∧ de.length = 0)) ∧ inc de i) 50 1 [1, 4] (fun i => [.ptr 0 0, I i]) (fun _ => [.cells [Ri sh, Ri de, I ch]]) (fun i => de.length - i) (1) (Nat.le_of_ble_eq_true rfl) ?_ ?_ ?_
    · exact ⟨Nat.le_refl _, by omega, fun i h1 h2 => by omega⟩
    · (first | (refine ⟨rfl, [], ?_, ?_⟩; all_goals (repeat' (first | exact rfl | exact trivial | (with_reducible assumption) | refine And.intro ?_ ?_)); all_goals (first | omega | assumption); done) | (refine ⟨rfl, [some 1], ?_, ?_⟩; all_goals (repeat' (first | exact rfl | exact trivial | (with_reducible assumption) | refine And.intro ?_ ?_)); all_goals (first | omega | assumption); done) | (refine ⟨rfl, [some 2], ?_, ?_⟩; all_goals (repeat' (first | exact rfl | exact trivial | (with_reducible assumption) | refine And.intro ?_ ?_)); all_goals (first | omega | assumption); done) | (refine ⟨rfl, [some 3], ?_, ?_⟩; all_goals (repeat' (first | exact rfl | exact trivial | (with_reducible assumption) | refine And.intro ?_ ?_)); all_goals (first | omega | assumption); done) | (refine ⟨rfl, [some 0], ?_, ?_⟩; all_goals (repeat' (first | exact rfl | exact trivial | (with_reducible assumption) | refine And.intro ?_ ?_)); all_goals (first | omega | assumption); done) | (refine ⟨rfl, [some 4], ?_, ?_⟩; all_goals (repeat' (first | exact rfl | exact trivial | (with_reducible assumption) | refine And.intro ?_ ?_)); all_goals (first | omega | assumption); done) | (refine ⟨rfl, [some 5], ?_, ?_⟩; all_goals (repeat' (first | exact rfl | exact trivial | (with_reducible assumption) | refine And.intro ?_ ?_)); all_goals (first | omega | assumption); done) | (refine ⟨rfl, [some 6], ?_, ?_⟩; all_goals (repeat' (first | exact rfl | exact trivial | (with_reducible assumption) | refine And.intro ?_ ?_)); all_goals (first | omega | assumption); done))
    · rintro i ⟨h1, h2, h3⟩
      by_cases hi : i < de.length
      · have e1 : de.getD ((i : Int) - 1).toNat 0 = de.getD (i - 1) 0 := by rw [show ((i : Int) - 1).toNat = i - 1 by omega]
        have e2 : de.getD ((i : Int)).toNat 0 = de.getD i 0 := rfl
        by_cases hx : de.getD (i - 1) 0 < de.getD i 0
        · repeat' ((first | (conv => whnf) | skip); (first | ((with_reducible intro h); first | contradiction | omega | (conv => whnf) | skip) | (with_reducible refine And.intro ?_ ?_) | ((with_reducible show arithK _ _ _); refine arith_ok ⟨by omega, by omega⟩ ?_) | ((with_reducible show quoK _ _ _ _); refine quo_ok ⟨by omega, by omega⟩ (by omega) (by omega) ?_) | ((with_reducible show remK _ _ _ _); refine rem_ok (by omega) (by omega) ?_) | ((first | (with_reducible show CallA _ _ _ _ _ _) | (with_reducible show CallQ _ _ _ _ _ _)); first | fail) | ((with_reducible show DrawA _ _ _ _ _ _); first | (first | (refine draw_quiet hT mixed (by decide +kernel) ?_) | (refine draw_hard hT mixed (by decide +kernel) ?_)))))
          all_goals first | omega | skip
          all_goals ((conv => whnf); refine ⟨i + 1, ⟨by omega, by omega, inc_next h3 h1 hx⟩, ?_, by omega⟩; (first | (refine ⟨rfl, [], ?_, ?_⟩; all_goals (repeat' (first | exact rfl | exact trivial | (with_reducible assumption) | refine And.intro ?_ ?_)); all_goals (first | omega | assumption); done) | (refine ⟨rfl, [some 1], ?_, ?_⟩; all_goals (repeat' (first | exact rfl | exact trivial | (with_reducible assumption) | refine And.intro ?_ ?_)); all_goals (first | omega | assumption); done) | (refine ⟨rfl, [some 2], ?_, ?_⟩; all_goals (repeat' (first | exact rfl | exact trivial | (with_reducible assumption) | refine And.intro ?_ ?_)); all_goals (first | omega | assumption); done) | (refine ⟨rfl, [some 3], ?_, ?_⟩; all_goals (repeat' (first | exact rfl | exact trivial | (with_reducible assumption) | refine And.intro ?_ ?_)); all_goals (first | omega | assumption); done) | (refine ⟨rfl, [some 0], ?_, ?_⟩; all_goals (repeat' (first | exact rfl | exact trivial | (with_reducible assumption) | refine And.intro ?_ ?_)); all_goals (first | omega | assumption); done) | (refine ⟨rfl, [some 4], ?_, ?_⟩; all_goals (repeat' (first | exact rfl | exact trivial | (with_reducible assumption) | refine And.intro ?_ ?_)); all_goals (first | omega | assumption); done) | (refine ⟨rfl, [some 5], ?_, ?_⟩; all_goals (repeat' (first | exact rfl | exact trivial | (with_reducible assumption) | refine And.intro ?_ ?_)); all_goals (first | omega | assumption); done) | (refine ⟨rfl, [some 6], ?_, ?_⟩; all_goals (repeat' (first | exact rfl | exact trivial | (with_reducible assumption) | refine And.intro ?_ ?_)); all_goals (first | omega | assumption); done)))
        · repeat' ((first | (conv => whnf) | skip); (first | ((with_reducible intro h); first | contradiction | omega | (conv => whnf) | skip) | (with_reducible refine And.intro ?_ ?_) | ((with_reducible show arithK _ _ _); refine arith_ok ⟨by omega, by omega⟩ ?_) | ((with_reducible show quoK _ _ _ _); refine quo_ok ⟨by omega, by omega⟩ (by omega) (by omega) ?_) | ((with_reducible show remK _ _ _ _); refine rem_ok (by omega) (by omega) ?_) | ((first | (with_reducible show CallA _ _ _ _ _ _) | (with_reducible show CallQ _ _ _ _ _ _)); first | fail) | ((with_reducible show DrawA _ _ _ _ _ _); first | (first | (refine draw_quiet hT mixed (by decide +kernel) ?_) | (refine draw_hard hT mixed (by decide +kernel) ?_)))))
          all_goals first | omega | (exact bv_false fun ho => hx (ho.2 i h1 hi)) | trace_state
      · repeat' ((first | (conv => whnf) | skip); (first | ((with_reducible intro h); first | contradiction | omega | (conv => whnf) | skip) | (with_reducible refine And.intro ?_ ?_) | ((with_reducible show arithK _ _ _); refine arith_ok ⟨by omega, by omega⟩ ?_) | ((with_reducible show quoK _ _ _ _); refine quo_ok ⟨by omega, by omega⟩ (by omega) (by omega) ?_) | ((with_reducible show remK _ _ _ _); refine rem_ok (by omega) (by omega) ?_) | ((first | (with_reducible show CallA _ _ _ _ _ _) | (with_reducible show CallQ _ _ _ _ _ _)); first | fail) | ((with_reducible show DrawA _ _ _ _ _ _); first | (first | (refine draw_quiet hT mixed (by decide +kernel) ?_) | (refine draw_hard hT mixed (by decide +kernel) ?_)))))
        all_goals first | omega | (exact bv_true ⟨hh.1, fun j g1 g2 => h3 j g1 (by omega)⟩) | trace_state
  · have hf : ¬ okC sh de ch := fun ho => hh ⟨ho.1, okC_len ho⟩
    have hh' := hh
    unfold hdC at hh'
    repeat' ((first | (conv => whnf) | skip); (first | ((with_reducible intro h); first | contradiction | omega | (conv => whnf) | skip) | (with_reducible refine And.intro ?_ ?_) | ((with_reducible show arithK _ _ _); refine arith_ok ⟨by omega, by omega⟩ ?_) | ((with_reducible show quoK _ _ _ _); refine quo_ok ⟨by omega, by omega⟩ (by omega) (by omega) ?_) | ((with_reducible show remK _ _ _ _); refine rem_ok (by omega) (by omega) ?_) | ((first | (with_reducible show CallA _ _ _ _ _ _) | (with_reducible show CallQ _ _ _ _ _ _)); first | (refine Ret.goP (l01In_ret _ _ _) rfl ?_) | (refine Ret.goQP (l01In_ret _ _ _) rfl ?_) | (refine Ret.goP (ha) rfl ?_) | (refine Ret.goQP (ha) rfl ?_) | (refine Ret.goP (hb) rfl ?_) | (refine Ret.goQP (hb) rfl ?_)) | ((with_reducible show DrawA _ _ _ _ _ _); first | (first | (refine draw_quiet hT mixed (by decide +kernel) ?_) | (refine draw_hard hT mixed (by decide +kernel) ?_)))))
    all_goals first | omega | (exact bv_false hf) | (exact (hh' ⟨⟨⟨by omega, by omega⟩, (‹allR sh 1 1000 ∧ _›).1, (‹allR de 0 _ ∧ _›).1, by omega⟩, by omega⟩).elim) | trace_state
end Go.Proofs.YtenofbabiacacaaGreat
