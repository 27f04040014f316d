/-
  The results of a year and their entries: what the functions return, and the law. No conditions but those in the statements.
-/
import Derived.Test.YtflgpapdbaapdaaRecs
import Derived.Test.YtflgpapdbaapdaaMonth
set_option linter.unusedVariables false
set_option linter.unusedSimpArgs false
namespace Go.Proofs.Ytflgpapdbaapdaa
open Go.AE

attribute [local irreducible] CallA LoopA DrawA CallQ arithK quoK remK eqK
abbrev V7 (a b c d e f g : Int) : AV := .agg [I a, I b, I c, I d, I e, I f, I g]
set_option maxRecDepth 100000 in
theorem toYear_ret (a b c d e f g : Int) : Ret Try.prog G 6 [V7 a b c d e f g] (V7 a b c d e f g) := by
  refine ret_of_body hT Try.func6 rfl ?_ rfl
  repeat' (first | (intro h; first | contradiction | omega | (conv => whnf) | skip) | (refine And.intro ?_ ?_) | (refine arith_ok ⟨by omega, by omega⟩ ?_) | (first | (refine draw_quiet hT mixed (by decide +kernel) ?_) | (refine draw_hard hT mixed (by decide +kernel) ?_)) | fail)
  all_goals rfl
def isYr (a b c d e f g : Int) : Prop := allR [a, b, c, d, e, f, g] 0 1000000000000
instance (a b c d e f g : Int) : Decidable (isYr a b c d e f g) := by unfold isYr; infer_instance
set_option maxRecDepth 100000 in
theorem specYear_ret (a b c d e f g : Int) : Ret Try.prog G 16 [V7 a b c d e f g] (Bo (decide (isYr a b c d e f g))) := by
  refine ret_of_body hT Try.func16 rfl ?_ rfl
  have h0 := l01Within_ret [a, b, c, d, e, f, g] 7 0 1000000000000 (by simp)
  repeat' (first | (intro h; first | contradiction | omega | (conv => whnf) | skip) | (refine And.intro ?_ ?_) | (refine arith_ok ⟨by omega, by omega⟩ ?_) | (first | (refine draw_quiet hT mixed (by decide +kernel) ?_) | (refine draw_hard hT mixed (by decide +kernel) ?_)) | (refine Ret.useP (h0) (by first | ((repeat' (first | exact rfl | exact trivial | (with_reducible assumption) | refine And.intro ?_ ?_ | omega | assumption)); done) | fail) ?_) | (refine Ret.useQP (h0) (by first | ((repeat' (first | exact rfl | exact trivial | (with_reducible assumption) | refine And.intro ?_ ?_ | omega | assumption)); done) | fail) ?_))
  all_goals first | exact bv_true h.1 | exact bv_false (fun hh => h ⟨hh, by simp⟩) | trace_state
set_option maxRecDepth 100000 in
theorem implYear_ret (a b c d e f g : Int) : Ret Try.prog G 18 [V7 a b c d e f g] (Bo (decide (isYr a b c d e f g))) := by
  refine ret_of_body hT Try.func18 rfl ?_ rfl
  have h0 := allIn_ret [a, b, c, d, e, f, g] 0 1000000000000 (by simp)
  repeat' (first | (intro h; first | contradiction | omega | (conv => whnf) | skip) | (refine And.intro ?_ ?_) | (refine arith_ok ⟨by omega, by omega⟩ ?_) | (first | (refine draw_quiet hT mixed (by decide +kernel) ?_) | (refine draw_hard hT mixed (by decide +kernel) ?_)) | (refine Ret.useP (h0) (by first | ((repeat' (first | exact rfl | exact trivial | (with_reducible assumption) | refine And.intro ?_ ?_ | omega | assumption)); done) | fail) ?_) | (refine Ret.useQP (h0) (by first | ((repeat' (first | exact rfl | exact trivial | (with_reducible assumption) | refine And.intro ?_ ?_ | omega | assumption)); done) | fail) ?_))
  all_goals first | exact bv_true h | exact bv_false h | trace_state
/-- The entries of a year. -/
abbrev ents (n a b c d : Int) : List (List Int) := [[n, 0, 3, a], [n, 5, 0, b], [n, 0, 6, c], [n, 4, 0, d]]
def posQ (r : List Int) : Bool := decide (0 < r.getD 3 0)
def outs (xss : List (List Int)) (i : Nat) : List (List Int) := (xss.take i).filter posQ
theorem outs_len (xss : List (List Int)) (i : Nat) : (outs xss i).length ≤ i := Nat.le_trans (List.length_filter_le _ _) (List.length_take_le _ _)
theorem outs_yes {xss : List (List Int)} {i : Nat} (hi : i < xss.length) (h : 0 < (xss.getD i []).getD 3 0) : outs xss (i + 1) = outs xss i ++ [xss.getD i []] := by
  unfold outs
  rw [take_snoc [] hi, List.filter_append]
  have : posQ (xss.getD i []) = true := decide_eq_true h
  rw [List.filter_cons_of_pos this, List.filter_nil]
theorem outs_no {xss : List (List Int)} {i : Nat} (hi : i < xss.length) (h : ¬ 0 < (xss.getD i []).getD 3 0) : outs xss (i + 1) = outs xss i := by
  unfold outs
  rw [take_snoc [] hi, List.filter_append]
  have : ¬ posQ (xss.getD i []) = true := fun hh => h (of_decide_eq_true hh)
  rw [List.filter_cons_of_neg this, List.filter_nil, List.append_nil]
/-- None of them is too large. -/
def smallE (xss : List (List Int)) : Prop := ∀ r ∈ xss, r.getD 3 0 ≤ 1000000000
instance (xss : List (List Int)) : Decidable (smallE xss) := by unfold smallE; infer_instance
def yrOk (n a b c d e f g : Int) : Prop := isYr a b c d e f g ∧ (0 ≤ n ∧ n ≤ 35999) ∧ smallE (ents n (b + c) d e f)
instance (n a b c d e f g : Int) : Decidable (yrOk n a b c d e f g) := by unfold yrOk; infer_instance
def yrR (n a b c d e f g : Int) : List (List Int) := if yrOk n a b c d e f g then outs (ents n (b + c) d e f) 4 else []
def yrC (n a b c d e f g : Int) : Int := if isYr a b c d e f g then (if 0 ≤ n ∧ n ≤ 35999 then (if smallE (ents n (b + c) d e f) then 0 else 3) else 2) else 1
theorem yr_yes {n a b c d e f g : Int} (h1 : isYr a b c d e f g) (h2 : 0 ≤ n ∧ n ≤ 35999) (h3 : smallE (ents n (b + c) d e f)) : yrR n a b c d e f g = outs (ents n (b + c) d e f) 4 ∧ yrC n a b c d e f g = 0 := by
  unfold yrR yrC
  rw [if_pos ⟨h1, h2, h3⟩, if_pos h1, if_pos h2, if_pos h3]; exact ⟨rfl, rfl⟩
theorem yr_no3 {n a b c d e f g : Int} (h1 : isYr a b c d e f g) (h2 : 0 ≤ n ∧ n ≤ 35999) (h3 : ¬ smallE (ents n (b + c) d e f)) : yrR n a b c d e f g = [] ∧ yrC n a b c d e f g = 3 := by
  unfold yrR yrC
  rw [if_neg (fun hh => h3 hh.2.2), if_pos h1, if_pos h2, if_neg h3]; exact ⟨rfl, rfl⟩
theorem yr_no2 {n a b c d e f g : Int} (h1 : isYr a b c d e f g) (h2 : ¬ (0 ≤ n ∧ n ≤ 35999)) : yrR n a b c d e f g = [] ∧ yrC n a b c d e f g = 2 := by
  unfold yrR yrC
  rw [if_neg (fun hh => h2 hh.2.1), if_pos h1, if_neg h2]; exact ⟨rfl, rfl⟩
theorem yr_no1 {n a b c d e f g : Int} (h1 : ¬ isYr a b c d e f g) : yrR n a b c d e f g = [] ∧ yrC n a b c d e f g = 1 := by
  unfold yrR yrC
  rw [if_neg (fun hh => h1 hh.1), if_neg h1]; exact ⟨rfl, rfl⟩
theorem yrR_len (n a b c d e f g : Int) : (yrR n a b c d e f g).length ≤ 4 := by
  unfold yrR
  split
  · exact outs_len _ _
  · simp
theorem yrR_row (n a b c d e f g : Int) : ∀ r ∈ yrR n a b c d e f g, r.length = 4 := by
  unfold yrR
  split
  · intro r hr
    have hm : r ∈ ents n (b + c) d e f := List.mem_of_mem_take (List.mem_filter.1 hr).1
    simp only [ents, List.mem_cons, List.not_mem_nil, or_false] at hm
    rcases hm with rfl | rfl | rfl | rfl <;> rfl
  · intro r hr; cases hr
theorem isYr_in {a b c d e f g : Int} (h : isYr a b c d e f g) : (0 ≤ b ∧ b ≤ 1000000000000) ∧ (0 ≤ c ∧ c ≤ 1000000000000) := ⟨h b (by simp), h c (by simp)⟩
theorem ents_row {n a b c d : Int} {i : Nat} (h : i < 4) : [((ents n a b c d).getD i []).getD 0 0, ((ents n a b c d).getD i []).getD 1 0, ((ents n a b c d).getD i []).getD 2 0, ((ents n a b c d).getD i []).getD 3 0] = (ents n a b c d).getD i [] := by
  rcases (show i = 0 ∨ i = 1 ∨ i = 2 ∨ i = 3 by omega) with rfl | rfl | rfl | rfl <;> rfl
abbrev yrT (n a b c d e f g : Int) : AV := .tup [.sl 0 4 (yrR n a b c d e f g).length, I (yrC n a b c d e f g)]
theorem small_no {xss : List (List Int)} {i : Nat} (hi : i < xss.length) (h : 1000000000 < (xss.getD i []).getD 3 0) : ¬ smallE xss := fun hh => by
  have := hh _ (getD_mem (d := []) hi)
  omega
set_option maxRecDepth 100000 in
theorem implYE_call (n a b c d e f g : Int) : CallA Try.prog G 7 [V7 a b c d e f g, I n] [] (fun v J => v = yrT n a b c d e f g ∧ J = [DEntry (yrR n a b c d e f g)]) := by
  refine CallA.ends (callA_of_body hT Try.func7 rfl ?_)
  by_cases hy : isYr a b c d e f g
  · by_cases hm : 0 ≤ n ∧ n ≤ 35999
    · have hin := isYr_in hy
      repeat' (first | (intro h; first | contradiction | omega | (conv => whnf) | skip) | (refine And.intro ?_ ?_) | (refine arith_ok ⟨by omega, by omega⟩ ?_) | (first | (refine draw_quiet hT mixed (by decide +kernel) ?_) | (refine draw_hard hT mixed (by decide +kernel) ?_)) | (refine Ret.goP (implYear_ret _ _ _ _ _ _ _) rfl ?_) | (refine Ret.goQP (implYear_ret _ _ _ _ _ _ _) rfl ?_) | (refine Ret.goP (isMonth_ret _) rfl ?_) | (refine Ret.goQP (isMonth_ret _) rfl ?_))
      all_goals first | rfl | omega | skip
      refine loop_rule hT (fun i : Nat => i ≤ 4 ∧ ∀ r ∈ (ents n (b + c) d e f).take i, r.getD 3 0 ≤ 1000000000) 57 3 [7, 39, 40, 41] (fun i => [.sl 3 4 (outs (ents n (b + c) d e f) i).length, .sl 1 4 4, I 4, I i]) (fun i => [.dead, DEntry (ents n (b + c) d e f), .dead, DEntry (outs (ents n (b + c) d e f) i)]) (fun i => 4 - i) (0) (Nat.le_of_ble_eq_true rfl) ?_ ?_ ?_
      · exact ⟨Nat.zero_le _, by simp⟩
      · (first | (refine ⟨rfl, [], ?_, ?_⟩; all_goals (repeat' (first | exact rfl | exact trivial | (with_reducible assumption) | refine And.intro ?_ ?_)); all_goals (first | omega | assumption); done) | (refine ⟨rfl, [some 1], ?_, ?_⟩; all_goals (repeat' (first | exact rfl | exact trivial | (with_reducible assumption) | refine And.intro ?_ ?_)); all_goals (first | omega | assumption); done) | (refine ⟨rfl, [some 2], ?_, ?_⟩; all_goals (repeat' (first | exact rfl | exact trivial | (with_reducible assumption) | refine And.intro ?_ ?_)); all_goals (first | omega | assumption); done) | (refine ⟨rfl, [some 3], ?_, ?_⟩; all_goals (repeat' (first | exact rfl | exact trivial | (with_reducible assumption) | refine And.intro ?_ ?_)); all_goals (first | omega | assumption); done) | (refine ⟨rfl, [some 0], ?_, ?_⟩; all_goals (repeat' (first | exact rfl | exact trivial | (with_reducible assumption) | refine And.intro ?_ ?_)); all_goals (first | omega | assumption); done) | (refine ⟨rfl, [some 4], ?_, ?_⟩; all_goals (repeat' (first | exact rfl | exact trivial | (with_reducible assumption) | refine And.intro ?_ ?_)); all_goals (first | omega | assumption); done) | (refine ⟨rfl, [some 5], ?_, ?_⟩; all_goals (repeat' (first | exact rfl | exact trivial | (with_reducible assumption) | refine And.intro ?_ ?_)); all_goals (first | omega | assumption); done) | (refine ⟨rfl, [some 6], ?_, ?_⟩; all_goals (repeat' (first | exact rfl | exact trivial | (with_reducible assumption) | refine And.intro ?_ ?_)); all_goals (first | omega | assumption); done))
      · rintro i ⟨h1, h2⟩
        have hil := outs_len (ents n (b + c) d e f) i
        by_cases hi4 : i < 4
        · have hi : i < (ents n (b + c) d e f).length := hi4
          have hrow := ents_row (n := n) (a := b + c) (b := d) (c := e) (d := f) hi4
          repeat' (first | (intro h; first | contradiction | omega | (conv => whnf) | skip) | (refine And.intro ?_ ?_) | (refine arith_ok ⟨by omega, by omega⟩ ?_) | (first | (refine draw_quiet hT mixed (by decide +kernel) ?_) | (refine draw_hard hT mixed (by decide +kernel) ?_)) | fail)
          all_goals first | omega | (show 1 = 1; rfl) | (show (4 : Nat) = 4; rfl) | (show _ < (4 : Nat); omega) | (simp only [List.nil_append, List.length_cons, List.length_nil]; omega) | skip
          all_goals first
            | (have hbig : 1000000000 < ((ents n (b + c) d e f).getD i []).getD 3 0 := by assumption
               obtain ⟨e1, e2⟩ := yr_no3 (g := g) hy hm (small_no hi hbig); rw [yrT, e1, e2]; (try (conv => whnf)); (refine ⟨[none], .tup [.sl 0 4 0, I 3], [DEntry []], ?_, ?_, ?_⟩; all_goals (repeat' (first | exact rfl | exact trivial | (with_reducible assumption) | refine And.intro ?_ ?_ | omega))); done)
            | (have hp : 0 < ((ents n (b + c) d e f).getD i []).getD 3 0 := by assumption
               have hst := outs_yes hi hp; rw [← hrow] at hst; have hsl := congrArg List.length hst; (refine ⟨i + 1, ⟨by omega, all_snoc (p := fun r : List Int => r.getD 3 0 ≤ 1000000000) [] hi h2 (by first | exact Int.not_lt.1 (by assumption) | omega)⟩, ?_, by omega⟩); (first | (refine ⟨rfl, [], ?_, ?_⟩; all_goals (repeat' (first | exact rfl | exact trivial | (with_reducible assumption) | refine And.intro ?_ ?_)); all_goals (first | omega | assumption | ((repeat' (first | first | exact congrArg (D.recs 4) hst.symm | exact hsl.symm | exact rfl | exact trivial | (with_reducible assumption) | refine And.intro ?_ ?_ | omega | assumption)); done)); done) | (refine ⟨rfl, [some 1], ?_, ?_⟩; all_goals (repeat' (first | exact rfl | exact trivial | (with_reducible assumption) | refine And.intro ?_ ?_)); all_goals (first | omega | assumption | ((repeat' (first | first | exact congrArg (D.recs 4) hst.symm | exact hsl.symm | exact rfl | exact trivial | (with_reducible assumption) | refine And.intro ?_ ?_ | omega | assumption)); done)); done) | (refine ⟨rfl, [some 2], ?_, ?_⟩; all_goals (repeat' (first | exact rfl | exact trivial | (with_reducible assumption) | refine And.intro ?_ ?_)); all_goals (first | omega | assumption | ((repeat' (first | first | exact congrArg (D.recs 4) hst.symm | exact hsl.symm | exact rfl | exact trivial | (with_reducible assumption) | refine And.intro ?_ ?_ | omega | assumption)); done)); done) | (refine ⟨rfl, [some 3], ?_, ?_⟩; all_goals (repeat' (first | exact rfl | exact trivial | (with_reducible assumption) | refine And.intro ?_ ?_)); all_goals (first | omega | assumption | ((repeat' (first | first | exact congrArg (D.recs 4) hst.symm | exact hsl.symm | exact rfl | exact trivial | (with_reducible assumption) | refine And.intro ?_ ?_ | omega | assumption)); done)); done) | (refine ⟨rfl, [some 0], ?_, ?_⟩; all_goals (repeat' (first | exact rfl | exact trivial | (with_reducible assumption) | refine And.intro ?_ ?_)); all_goals (first | omega | assumption | ((repeat' (first | first | exact congrArg (D.recs 4) hst.symm | exact hsl.symm | exact rfl | exact trivial | (with_reducible assumption) | refine And.intro ?_ ?_ | omega | assumption)); done)); done) | (refine ⟨rfl, [some 4], ?_, ?_⟩; all_goals (repeat' (first | exact rfl | exact trivial | (with_reducible assumption) | refine And.intro ?_ ?_)); all_goals (first | omega | assumption | ((repeat' (first | first | exact congrArg (D.recs 4) hst.symm | exact hsl.symm | exact rfl | exact trivial | (with_reducible assumption) | refine And.intro ?_ ?_ | omega | assumption)); done)); done) | (refine ⟨rfl, [some 5], ?_, ?_⟩; all_goals (repeat' (first | exact rfl | exact trivial | (with_reducible assumption) | refine And.intro ?_ ?_)); all_goals (first | omega | assumption | ((repeat' (first | first | exact congrArg (D.recs 4) hst.symm | exact hsl.symm | exact rfl | exact trivial | (with_reducible assumption) | refine And.intro ?_ ?_ | omega | assumption)); done)); done) | (refine ⟨rfl, [some 6], ?_, ?_⟩; all_goals (repeat' (first | exact rfl | exact trivial | (with_reducible assumption) | refine And.intro ?_ ?_)); all_goals (first | omega | assumption | ((repeat' (first | first | exact congrArg (D.recs 4) hst.symm | exact hsl.symm | exact rfl | exact trivial | (with_reducible assumption) | refine And.intro ?_ ?_ | omega | assumption)); done)); done)))
            | (have hp : ¬ 0 < ((ents n (b + c) d e f).getD i []).getD 3 0 := by assumption
               have hst := outs_no hi hp; have hsl := congrArg List.length hst; (refine ⟨i + 1, ⟨by omega, all_snoc (p := fun r : List Int => r.getD 3 0 ≤ 1000000000) [] hi h2 (by first | exact Int.not_lt.1 (by assumption) | omega)⟩, ?_, by omega⟩); (first | (refine ⟨rfl, [], ?_, ?_⟩; all_goals (repeat' (first | exact rfl | exact trivial | (with_reducible assumption) | refine And.intro ?_ ?_)); all_goals (first | omega | assumption | ((repeat' (first | first | exact congrArg (D.recs 4) hst.symm | exact hsl.symm | exact rfl | exact trivial | (with_reducible assumption) | refine And.intro ?_ ?_ | omega | assumption)); done)); done) | (refine ⟨rfl, [some 1], ?_, ?_⟩; all_goals (repeat' (first | exact rfl | exact trivial | (with_reducible assumption) | refine And.intro ?_ ?_)); all_goals (first | omega | assumption | ((repeat' (first | first | exact congrArg (D.recs 4) hst.symm | exact hsl.symm | exact rfl | exact trivial | (with_reducible assumption) | refine And.intro ?_ ?_ | omega | assumption)); done)); done) | (refine ⟨rfl, [some 2], ?_, ?_⟩; all_goals (repeat' (first | exact rfl | exact trivial | (with_reducible assumption) | refine And.intro ?_ ?_)); all_goals (first | omega | assumption | ((repeat' (first | first | exact congrArg (D.recs 4) hst.symm | exact hsl.symm | exact rfl | exact trivial | (with_reducible assumption) | refine And.intro ?_ ?_ | omega | assumption)); done)); done) | (refine ⟨rfl, [some 3], ?_, ?_⟩; all_goals (repeat' (first | exact rfl | exact trivial | (with_reducible assumption) | refine And.intro ?_ ?_)); all_goals (first | omega | assumption | ((repeat' (first | first | exact congrArg (D.recs 4) hst.symm | exact hsl.symm | exact rfl | exact trivial | (with_reducible assumption) | refine And.intro ?_ ?_ | omega | assumption)); done)); done) | (refine ⟨rfl, [some 0], ?_, ?_⟩; all_goals (repeat' (first | exact rfl | exact trivial | (with_reducible assumption) | refine And.intro ?_ ?_)); all_goals (first | omega | assumption | ((repeat' (first | first | exact congrArg (D.recs 4) hst.symm | exact hsl.symm | exact rfl | exact trivial | (with_reducible assumption) | refine And.intro ?_ ?_ | omega | assumption)); done)); done) | (refine ⟨rfl, [some 4], ?_, ?_⟩; all_goals (repeat' (first | exact rfl | exact trivial | (with_reducible assumption) | refine And.intro ?_ ?_)); all_goals (first | omega | assumption | ((repeat' (first | first | exact congrArg (D.recs 4) hst.symm | exact hsl.symm | exact rfl | exact trivial | (with_reducible assumption) | refine And.intro ?_ ?_ | omega | assumption)); done)); done) | (refine ⟨rfl, [some 5], ?_, ?_⟩; all_goals (repeat' (first | exact rfl | exact trivial | (with_reducible assumption) | refine And.intro ?_ ?_)); all_goals (first | omega | assumption | ((repeat' (first | first | exact congrArg (D.recs 4) hst.symm | exact hsl.symm | exact rfl | exact trivial | (with_reducible assumption) | refine And.intro ?_ ?_ | omega | assumption)); done)); done) | (refine ⟨rfl, [some 6], ?_, ?_⟩; all_goals (repeat' (first | exact rfl | exact trivial | (with_reducible assumption) | refine And.intro ?_ ?_)); all_goals (first | omega | assumption | ((repeat' (first | first | exact congrArg (D.recs 4) hst.symm | exact hsl.symm | exact rfl | exact trivial | (with_reducible assumption) | refine And.intro ?_ ?_ | omega | assumption)); done)); done)))
            | trace_state
        · obtain rfl : i = 4 := by omega
          obtain ⟨e1, e2⟩ := yr_yes (g := g) hy hm (all_end (by exact Nat.le_refl 4) h2)
          rw [yrT, e1, e2]
          repeat' (first | (intro h; first | contradiction | omega | (conv => whnf) | skip) | (refine And.intro ?_ ?_) | (refine arith_ok ⟨by omega, by omega⟩ ?_) | (first | (refine draw_quiet hT mixed (by decide +kernel) ?_) | (refine draw_hard hT mixed (by decide +kernel) ?_)) | fail)
          all_goals first | omega | skip
          (first | (refine ⟨[], .tup [.sl 0 4 (outs (ents n (b + c) d e f) 4).length, I 0], [DEntry (outs (ents n (b + c) d e f) 4)], ?_, ?_, ?_⟩; all_goals (repeat' (first | exact rfl | exact trivial | (with_reducible assumption) | refine And.intro ?_ ?_)); all_goals (first | omega | assumption); done) | (refine ⟨[some 1], .tup [.sl 0 4 (outs (ents n (b + c) d e f) 4).length, I 0], [DEntry (outs (ents n (b + c) d e f) 4)], ?_, ?_, ?_⟩; all_goals (repeat' (first | exact rfl | exact trivial | (with_reducible assumption) | refine And.intro ?_ ?_)); all_goals (first | omega | assumption); done) | (refine ⟨[some 0], .tup [.sl 0 4 (outs (ents n (b + c) d e f) 4).length, I 0], [DEntry (outs (ents n (b + c) d e f) 4)], ?_, ?_, ?_⟩; all_goals (repeat' (first | exact rfl | exact trivial | (with_reducible assumption) | refine And.intro ?_ ?_)); all_goals (first | omega | assumption); done) | (refine ⟨[some 2], .tup [.sl 0 4 (outs (ents n (b + c) d e f) 4).length, I 0], [DEntry (outs (ents n (b + c) d e f) 4)], ?_, ?_, ?_⟩; all_goals (repeat' (first | exact rfl | exact trivial | (with_reducible assumption) | refine And.intro ?_ ?_)); all_goals (first | omega | assumption); done) | (refine ⟨[some 3], .tup [.sl 0 4 (outs (ents n (b + c) d e f) 4).length, I 0], [DEntry (outs (ents n (b + c) d e f) 4)], ?_, ?_, ?_⟩; all_goals (repeat' (first | exact rfl | exact trivial | (with_reducible assumption) | refine And.intro ?_ ?_)); all_goals (first | omega | assumption); done) | (refine ⟨[some 4], .tup [.sl 0 4 (outs (ents n (b + c) d e f) 4).length, I 0], [DEntry (outs (ents n (b + c) d e f) 4)], ?_, ?_, ?_⟩; all_goals (repeat' (first | exact rfl | exact trivial | (with_reducible assumption) | refine And.intro ?_ ?_)); all_goals (first | omega | assumption); done) | (refine ⟨[some 5], .tup [.sl 0 4 (outs (ents n (b + c) d e f) 4).length, I 0], [DEntry (outs (ents n (b + c) d e f) 4)], ?_, ?_, ?_⟩; all_goals (repeat' (first | exact rfl | exact trivial | (with_reducible assumption) | refine And.intro ?_ ?_)); all_goals (first | omega | assumption); done))
    · obtain ⟨e1, e2⟩ := yr_no2 hy hm
      rw [yrT, e1, e2]
      repeat' (first | (intro h; first | contradiction | omega | (conv => whnf) | skip) | (refine And.intro ?_ ?_) | (refine arith_ok ⟨by omega, by omega⟩ ?_) | (first | (refine draw_quiet hT mixed (by decide +kernel) ?_) | (refine draw_hard hT mixed (by decide +kernel) ?_)) | (refine Ret.goP (implYear_ret _ _ _ _ _ _ _) rfl ?_) | (refine Ret.goQP (implYear_ret _ _ _ _ _ _ _) rfl ?_) | (refine Ret.goP (isMonth_ret _) rfl ?_) | (refine Ret.goQP (isMonth_ret _) rfl ?_))
      all_goals first | omega | (refine ⟨[none], .tup [.sl 0 4 0, I 2], [DEntry []], ?_, ?_, ?_⟩; all_goals (repeat' (first | exact rfl | exact trivial | (with_reducible assumption) | refine And.intro ?_ ?_ | omega)))
  · obtain ⟨e1, e2⟩ := yr_no1 (n := n) hy
    rw [yrT, e1, e2]
    repeat' (first | (intro h; first | contradiction | omega | (conv => whnf) | skip) | (refine And.intro ?_ ?_) | (refine arith_ok ⟨by omega, by omega⟩ ?_) | (first | (refine draw_quiet hT mixed (by decide +kernel) ?_) | (refine draw_hard hT mixed (by decide +kernel) ?_)) | (refine Ret.goP (implYear_ret _ _ _ _ _ _ _) rfl ?_) | (refine Ret.goQP (implYear_ret _ _ _ _ _ _ _) rfl ?_) | (refine Ret.goP (isMonth_ret _) rfl ?_) | (refine Ret.goQP (isMonth_ret _) rfl ?_))
    all_goals first | omega | (refine ⟨[none], .tup [.sl 0 4 0, I 1], [DEntry []], ?_, ?_, ?_⟩; all_goals (repeat' (first | exact rfl | exact trivial | (with_reducible assumption) | refine And.intro ?_ ?_ | omega)))
end Go.Proofs.Ytflgpapdbaapdaa
