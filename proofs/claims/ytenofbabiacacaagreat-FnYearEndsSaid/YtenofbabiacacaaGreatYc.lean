/-
  Months: what the functions return. No conditions but those in the statements. The entries of a year: what the functions return. No conditions but those in the statements. The balance of a year's entries: what the functions return. No conditions but those in the statements. Years, months, break-evens, claims drawn: what the functions return. No conditions but those in the statements. The law on year ends drawn from bytes. No conditions but those in the statements.
-/
import Derived.Test.YtenofbabiacacaaGreatBase
import Derived.Test.YtenofbabiacacaaGreatMn
import Derived.Test.YtenofbabiacacaaGreatNg
namespace Go.Proofs.YtenofbabiacacaaGreat
open Go.AE

attribute [local irreducible] CallA LoopA DrawA CallQ arithK quoK remK eqK
set_option maxRecDepth 100000 in
theorem l02Month_ret (n : Int) : Ret Tryz.prog G 101 [I n] (Bo (decide (0 ≤ n ∧ n ≤ 35999))) := by
  refine ret_of_body hT Tryz.func101 rfl ?_ rfl
  repeat' (first | (intro h; first | contradiction | omega | (conv => whnf) | skip) | (refine And.intro ?_ ?_) | (refine arith_ok ⟨by omega, by omega⟩ ?_) | (refine Ret.goP (l01In_ret _ _ _) rfl ?_))
  all_goals (first | exact bv_true (by omega) | exact bv_false (by omega))
set_option maxRecDepth 100000 in
theorem isMonth_ret (n : Int) : Ret Tryz.prog G 99 [I n] (Bo (decide (0 ≤ n ∧ n ≤ 35999))) := by
  refine ret_of_body hT Tryz.func99 rfl ?_ rfl
  repeat' (first | (intro h; first | contradiction | omega | (conv => whnf) | skip) | (refine And.intro ?_ ?_) | (refine arith_ok ⟨by omega, by omega⟩ ?_) | (refine Ret.goP (inRange_ret _ _ _) rfl ?_))
  all_goals (first | exact bv_true (by omega) | exact bv_false (by omega))
end Go.Proofs.YtenofbabiacacaaGreat
namespace Go.Proofs.YtenofbabiacacaaGreat
open Go.AE

attribute [local irreducible] CallA LoopA DrawA CallQ arithK quoK remK eqK
abbrev REntry (xss : List (List Int)) : AV := .ro (.recs 4 xss)
abbrev DEntry (xss : List (List Int)) : Blk := .data (.recs 4 xss)
/-- The entries of a year. -/
abbrev ents (n a b c d : Int) : List (List Int) := [[n, 0, 3, a], [n, 5, 0, b], [n, 0, 6, c], [n, 4, 0, d]]
def posQ (r : List Int) : Bool := decide (0 < r.getD 3 0)
def outs (xss : List (List Int)) (i : Nat) : List (List Int) := (xss.take i).filter posQ
theorem outs_len (xss : List (List Int)) (i : Nat) : (outs xss i).length ≤ i := Nat.le_trans (List.length_filter_le _ _) (List.length_take_le _ _)
theorem outs_yes {xss : List (List Int)} {i : Nat} (hi : i < xss.length) (h : 0 < (xss.getD i []).getD 3 0) : outs xss (i + 1) = outs xss i ++ [xss.getD i []] := by
  unfold outs
  rw [take_snoc [] hi, List.filter_append]
  have : posQ (xss.getD i []) = true := decide_eq_true h
  rw [List.filter_cons_of_pos this, List.filter_nil]
theorem outs_no {xss : List (List Int)} {i : Nat} (hi : i < xss.length) (h : ¬ 0 < (xss.getD i []).getD 3 0) : outs xss (i + 1) = outs xss i := by
  unfold outs
  rw [take_snoc [] hi, List.filter_append]
  have : ¬ posQ (xss.getD i []) = true := fun hh => h (of_decide_eq_true hh)
  rw [List.filter_cons_of_neg this, List.filter_nil, List.append_nil]
/-- None of them is too large. -/
def smallE (xss : List (List Int)) : Prop := ∀ r ∈ xss, r.getD 3 0 ≤ 1000000000
instance (xss : List (List Int)) : Decidable (smallE xss) := by unfold smallE; infer_instance
def yrOk (n a b c d e f g : Int) : Prop := isYr a b c d e f g ∧ (0 ≤ n ∧ n ≤ 35999) ∧ smallE (ents n (b + c) d e f)
instance (n a b c d e f g : Int) : Decidable (yrOk n a b c d e f g) := by unfold yrOk; infer_instance
def yrR (n a b c d e f g : Int) : List (List Int) := if yrOk n a b c d e f g then outs (ents n (b + c) d e f) 4 else []
def yrC (n a b c d e f g : Int) : Int := if isYr a b c d e f g then (if 0 ≤ n ∧ n ≤ 35999 then (if smallE (ents n (b + c) d e f) then 0 else 3) else 2) else 1
theorem yr_yes {n a b c d e f g : Int} (h1 : isYr a b c d e f g) (h2 : 0 ≤ n ∧ n ≤ 35999) (h3 : smallE (ents n (b + c) d e f)) : yrR n a b c d e f g = outs (ents n (b + c) d e f) 4 ∧ yrC n a b c d e f g = 0 := by
  unfold yrR yrC
  rw [if_pos ⟨h1, h2, h3⟩, if_pos h1, if_pos h2, if_pos h3]; exact ⟨rfl, rfl⟩
theorem yr_no3 {n a b c d e f g : Int} (h1 : isYr a b c d e f g) (h2 : 0 ≤ n ∧ n ≤ 35999) (h3 : ¬ smallE (ents n (b + c) d e f)) : yrR n a b c d e f g = [] ∧ yrC n a b c d e f g = 3 := by
  unfold yrR yrC
  rw [if_neg (fun hh => h3 hh.2.2), if_pos h1, if_pos h2, if_neg h3]; exact ⟨rfl, rfl⟩
theorem yr_no2 {n a b c d e f g : Int} (h1 : isYr a b c d e f g) (h2 : ¬ (0 ≤ n ∧ n ≤ 35999)) : yrR n a b c d e f g = [] ∧ yrC n a b c d e f g = 2 := by
  unfold yrR yrC
  rw [if_neg (fun hh => h2 hh.2.1), if_pos h1, if_neg h2]; exact ⟨rfl, rfl⟩
theorem yr_no1 {n a b c d e f g : Int} (h1 : ¬ isYr a b c d e f g) : yrR n a b c d e f g = [] ∧ yrC n a b c d e f g = 1 := by
  unfold yrR yrC
  rw [if_neg (fun hh => h1 hh.1), if_neg h1]; exact ⟨rfl, rfl⟩
theorem yrR_len (n a b c d e f g : Int) : (yrR n a b c d e f g).length ≤ 4 := by
  unfold yrR
  split
  · exact outs_len _ _
  · simp
theorem yrR_row (n a b c d e f g : Int) : ∀ r ∈ yrR n a b c d e f g, r.length = 4 := by
  unfold yrR
  split
  · intro r hr
    have hm : r ∈ ents n (b + c) d e f := List.mem_of_mem_take (List.mem_filter.1 hr).1
    simp only [ents, List.mem_cons, List.not_mem_nil, or_false] at hm
    rcases hm with rfl | rfl | rfl | rfl <;> rfl
  · intro r hr; cases hr
theorem isYr_in {a b c d e f g : Int} (h : isYr a b c d e f g) : (0 ≤ b ∧ b ≤ 1000000000000) ∧ (0 ≤ c ∧ c ≤ 1000000000000) := ⟨h b (by simp), h c (by simp)⟩
theorem ents_row {n a b c d : Int} {i : Nat} (h : i < 4) : [((ents n a b c d).getD i []).getD 0 0, ((ents n a b c d).getD i []).getD 1 0, ((ents n a b c d).getD i []).getD 2 0, ((ents n a b c d).getD i []).getD 3 0] = (ents n a b c d).getD i [] := by
  rcases (show i = 0 ∨ i = 1 ∨ i = 2 ∨ i = 3 by omega) with rfl | rfl | rfl | rfl <;> rfl
abbrev yrT (n a b c d e f g : Int) : AV := .tup [.sl 0 4 (yrR n a b c d e f g).length, I (yrC n a b c d e f g)]
theorem small_no {xss : List (List Int)} {i : Nat} (hi : i < xss.length) (h : 1000000000 < (xss.getD i []).getD 3 0) : ¬ smallE xss := fun hh => by
  have := hh _ (getD_mem (d := []) hi)
  omega
set_option maxRecDepth 100000 in
theorem implYE_call (n a b c d e f g : Int) : CallA Tryz.prog G 37 [V7 a b c d e f g, I n] [] (fun v J => v = yrT n a b c d e f g ∧ J = [DEntry (yrR n a b c d e f g)]) := by
  refine CallA.ends (callA_of_body hT Tryz.func37 rfl ?_)
  by_cases hy : isYr a b c d e f g
  · by_cases hm : 0 ≤ n ∧ n ≤ 35999
    · have hin := isYr_in hy
      repeat' (first | (intro h; first | contradiction | omega | (conv => whnf) | skip) | (refine And.intro ?_ ?_) | (refine arith_ok ⟨by omega, by omega⟩ ?_) | (first | (refine draw_quiet hT mixed (by decide +kernel) ?_) | (refine draw_hard hT mixed (by decide +kernel) ?_)) | (refine Ret.goP (implYear_ret _ _ _ _ _ _ _) rfl ?_) | (refine Ret.goQP (implYear_ret _ _ _ _ _ _ _) rfl ?_) | (refine Ret.goP (isMonth_ret _) rfl ?_) | (refine Ret.goQP (isMonth_ret _) rfl ?_))
      all_goals first | rfl | omega | skip
      refine loop_rule hT (fun i : Nat => i ≤ 4 ∧ ∀ r ∈ (ents n (b + c) d e f).take i, r.getD 3 0 ≤ 1000000000) 57 3 [7, 39, 40, 41] (fun i => [.sl 3 4 (outs (ents n (b + c) d e f) i).length, .sl 1 4 4, I 4, I i]) (fun i => [.dead, DEntry (ents n (b + c) d e f), .dead, DEntry (outs (ents n (b + c) d e f) i)]) (fun i => 4 - i) (0) (Nat.le_of_ble_eq_true rfl) ?_ ?_ ?_
      · exact ⟨Nat.zero_le _, by simp⟩
      · (first | (refine ⟨rfl, [], ?_, ?_⟩; all_goals (repeat' (first | exact rfl | exact trivial | (with_reducible assumption) | refine And.intro ?_ ?_)); all_goals (first | omega | assumption); done) | (refine ⟨rfl, [some 1], ?_, ?_⟩; all_goals (repeat' (first | exact rfl | exact trivial | (with_reducible assumption) | refine And.intro ?_ ?_)); all_goals (first | omega | assumption); done) | (refine ⟨rfl, [some 2], ?_, ?_⟩; all_goals (repeat' (first | exact rfl | exact trivial | (with_reducible assumption) | refine And.intro ?_ ?_)); all_goals (first | omega | assumption); done) | (refine ⟨rfl, [some 3], ?_, ?_⟩; all_goals (repeat' (first | exact rfl | exact trivial | (with_reducible assumption) | refine And.intro ?_ ?_)); all_goals (first | omega | assumption); done) | (refine ⟨rfl, [some 0], ?_, ?_⟩; all_goals (repeat' (first | exact rfl | exact trivial | (with_reducible assumption) | refine And.intro ?_ ?_)); all_goals (first | omega | assumption); done) | (refine ⟨rfl, [some 4], ?_, ?_⟩; all_goals (repeat' (first | exact rfl | exact trivial | (with_reducible assumption) | refine And.intro ?_ ?_)); all_goals (first | omega | assumption); done) | (refine ⟨rfl, [some 5], ?_, ?_⟩; all_goals (repeat' (first | exact rfl | exact trivial | (with_reducible assumption) | refine And.intro ?_ ?_)); all_goals (first | omega | assumption); done) | (refine ⟨rfl, [some 6], ?_, ?_⟩; all_goals (repeat' (first | exact rfl | exact trivial | (with_reducible assumption) | refine And.intro ?_ ?_)); all_goals (first | omega | assumption); done))
      · rintro i ⟨h1, h2⟩
        have hil := outs_len (ents n (b + c) d e f) i
        by_cases hi4 : i < 4
        · have hi : i < (ents n (b + c) d e f).length := hi4
          have hrow := ents_row (n := n) (a := b + c) (b := d) (c := e) (d := f) hi4
          repeat' (first | (intro h; first | contradiction | omega | (conv => whnf) | skip) | (refine And.intro ?_ ?_) | (refine arith_ok ⟨by omega, by omega⟩ ?_) | (first | (refine draw_quiet hT mixed (by decide +kernel) ?_) | (refine draw_hard hT mixed (by decide +kernel) ?_)) | fail)
          all_goals first | omega | (show 1 = 1; rfl) | (show (4 : Nat) = 4; rfl) | (show _ < (4 : Nat); omega) | (simp only [List.nil_append, List.length_cons, List.length_nil]; omega) | skip
          all_goals first
            | (have hbig : 1000000000 < ((ents n (b + c) d e f).getD i []).getD 3 0 := by assumption
               obtain ⟨e1, e2⟩ := yr_no3 (g := g) hy hm (small_no hi hbig); rw [yrT, e1, e2]; (try (conv => whnf)); (refine ⟨[none], .tup [.sl 0 4 0, I 3], [DEntry []], ?_, ?_, ?_⟩; all_goals (repeat' (first | exact rfl | exact trivial | (with_reducible assumption) | refine And.intro ?_ ?_ | omega))); done)
            | (have hp : 0 < ((ents n (b + c) d e f).getD i []).getD 3 0 := by assumption
               have hst := outs_yes hi hp; rw [← hrow] at hst; have hsl := congrArg List.length hst; (refine ⟨i + 1, ⟨by omega, all_snoc (p := fun r : List Int => r.getD 3 0 ≤ 1000000000) [] hi h2 (by first | exact Int.not_lt.1 (by assumption) | omega)⟩, ?_, by omega⟩); (first | (refine ⟨rfl, [], ?_, ?_⟩; all_goals (repeat' (first | exact rfl | exact trivial | (with_reducible assumption) | refine And.intro ?_ ?_)); all_goals (first | omega | assumption | ((repeat' (first | first | exact congrArg (D.recs 4) hst.symm | exact hsl.symm | exact rfl | exact trivial | (with_reducible assumption) | refine And.intro ?_ ?_ | omega | assumption)); done)); done) | (refine ⟨rfl, [some 1], ?_, ?_⟩; all_goals (repeat' (first | exact rfl | exact trivial | (with_reducible assumption) | refine And.intro ?_ ?_)); all_goals (first | omega | assumption | ((repeat' (first | first | exact congrArg (D.recs 4) hst.symm | exact hsl.symm | exact rfl | exact trivial | (with_reducible assumption) | refine And.intro ?_ ?_ | omega | assumption)); done)); done) | (refine ⟨rfl, [some 2], ?_, ?_⟩; all_goals (repeat' (first | exact rfl | exact trivial | (with_reducible assumption) | refine And.intro ?_ ?_)); all_goals (first | omega | assumption | ((repeat' (first | first | exact congrArg (D.recs 4) hst.symm | exact hsl.symm | exact rfl | exact trivial | (with_reducible assumption) | refine And.intro ?_ ?_ | omega | assumption)); done)); done) | (refine ⟨rfl, [some 3], ?_, ?_⟩; all_goals (repeat' (first | exact rfl | exact trivial | (with_reducible assumption) | refine And.intro ?_ ?_)); all_goals (first | omega | assumption | ((repeat' (first | first | exact congrArg (D.recs 4) hst.symm | exact hsl.symm | exact rfl | exact trivial | (with_reducible assumption) | refine And.intro ?_ ?_ | omega | assumption)); done)); done) | (refine ⟨rfl, [some 0], ?_, ?_⟩; all_goals (repeat' (first | exact rfl | exact trivial | (with_reducible assumption) | refine And.intro ?_ ?_)); all_goals (first | omega | assumption | ((repeat' (first | first | exact congrArg (D.recs 4) hst.symm | exact hsl.symm | exact rfl | exact trivial | (with_reducible assumption) | refine And.intro ?_ ?_ | omega | assumption)); done)); done) | (refine ⟨rfl, [some 4], ?_, ?_⟩; all_goals (repeat' (first | exact rfl | exact trivial | (with_reducible assumption) | refine And.intro ?_ ?_)); all_goals (first | omega | assumption | ((repeat' (first | first | exact congrArg (D.recs 4) hst.symm | exact hsl.symm | exact rfl | exact trivial | (with_reducible assumption) | refine And.intro ?_ ?_ | omega | assumption)); done)); done) | (refine ⟨rfl, [some 5], ?_, ?_⟩; all_goals (repeat' (first | exact rfl | exact trivial | (with_reducible assumption) | refine And.intro ?_ ?_)); all_goals (first | omega | assumption | ((repeat' (first | first | exact congrArg (D.recs 4) hst.symm | exact hsl.symm | exact rfl | exact trivial | (with_reducible assumption) | refine And.intro ?_ ?_ | omega | assumption)); done)); done) | (refine ⟨rfl, [some 6], ?_, ?_⟩; all_goals (repeat' (first | exact rfl | exact trivial | (with_reducible assumption) | refine And.intro ?_ ?_)); all_goals (first | omega | assumption | ((repeat' (first | first | exact congrArg (D.recs 4) hst.symm | exact hsl.symm | exact rfl | exact trivial | (with_reducible assumption) | refine And.intro ?_ ?_ | omega | assumption)); done)); done)))
            | (have hp : ¬ 0 < ((ents n (b + c) d e f).getD i []).getD 3 0 := by assumption
               have hst := outs_no hi hp; have hsl := congrArg List.length hst; (refine ⟨i + 1, ⟨by omega, all_snoc (p := fun r : List Int => r.getD 3 0 ≤ 1000000000) [] hi h2 (by first | exact Int.not_lt.1 (by assumption) | omega)⟩, ?_, by omega⟩); (first | (refine ⟨rfl, [], ?_, ?_⟩; all_goals (repeat' (first | exact rfl | exact trivial | (with_reducible assumption) | refine And.intro ?_ ?_)); all_goals (first | omega | assumption | ((repeat' (first | first | exact congrArg (D.recs 4) hst.symm | exact hsl.symm | exact rfl | exact trivial | (with_reducible assumption) | refine And.intro ?_ ?_ | omega | assumption)); done)); done) | (refine ⟨rfl, [some 1], ?_, ?_⟩; all_goals (repeat' (first | exact rfl | exact trivial | (with_reducible assumption) | refine And.intro ?_ ?_)); all_goals (first | omega | assumption | ((repeat' (first | first | exact congrArg (D.recs 4) hst.symm | exact hsl.symm | exact rfl | exact trivial | (with_reducible assumption) | refine And.intro ?_ ?_ | omega | assumption)); done)); done) | (refine ⟨rfl, [some 2], ?_, ?_⟩; all_goals (repeat' (first | exact rfl | exact trivial | (with_reducible assumption) | refine And.intro ?_ ?_)); all_goals (first | omega | assumption | ((repeat' (first | first | exact congrArg (D.recs 4) hst.symm | exact hsl.symm | exact rfl | exact trivial | (with_reducible assumption) | refine And.intro ?_ ?_ | omega | assumption)); done)); done) | (refine ⟨rfl, [some 3], ?_, ?_⟩; all_goals (repeat' (first | exact rfl | exact trivial | (with_reducible assumption) | refine And.intro ?_ ?_)); all_goals (first | omega | assumption | ((repeat' (first | first | exact congrArg (D.recs 4) hst.symm | exact hsl.symm | exact rfl | exact trivial | (with_reducible assumption) | refine And.intro ?_ ?_ | omega | assumption)); done)); done) | (refine ⟨rfl, [some 0], ?_, ?_⟩; all_goals (repeat' (first | exact rfl | exact trivial | (with_reducible assumption) | refine And.intro ?_ ?_)); all_goals (first | omega | assumption | ((repeat' (first | first | exact congrArg (D.recs 4) hst.symm | exact hsl.symm | exact rfl | exact trivial | (with_reducible assumption) | refine And.intro ?_ ?_ | omega | assumption)); done)); done) | (refine ⟨rfl, [some 4], ?_, ?_⟩; all_goals (repeat' (first | exact rfl | exact trivial | (with_reducible assumption) | refine And.intro ?_ ?_)); all_goals (first | omega | assumption | ((repeat' (first | first | exact congrArg (D.recs 4) hst.symm | exact hsl.symm | exact rfl | exact trivial | (with_reducible assumption) | refine And.intro ?_ ?_ | omega | assumption)); done)); done) | (refine ⟨rfl, [some 5], ?_, ?_⟩; all_goals (repeat' (first | exact rfl | exact trivial | (with_reducible assumption) | refine And.intro ?_ ?_)); all_goals (first | omega | assumption | ((repeat' (first | first | exact congrArg (D.recs 4) hst.symm | exact hsl.symm | exact rfl | exact trivial | (with_reducible assumption) | refine And.intro ?_ ?_ | omega | assumption)); done)); done) | (refine ⟨rfl, [some 6], ?_, ?_⟩; all_goals (repeat' (first | exact rfl | exact trivial | (with_reducible assumption) | refine And.intro ?_ ?_)); all_goals (first | omega | assumption | ((repeat' (first | first | exact congrArg (D.recs 4) hst.symm | exact hsl.symm | exact rfl | exact trivial | (with_reducible assumption) | refine And.intro ?_ ?_ | omega | assumption)); done)); done)))
            | trace_state
        · obtain rfl : i = 4 := by omega
          obtain ⟨e1, e2⟩ := yr_yes (g := g) hy hm (all_end (by exact Nat.le_refl 4) h2)
          rw [yrT, e1, e2]
          repeat' (first | (intro h; first | contradiction | omega | (conv => whnf) | skip) | (refine And.intro ?_ ?_) | (refine arith_ok ⟨by omega, by omega⟩ ?_) | (first | (refine draw_quiet hT mixed (by decide +kernel) ?_) | (refine draw_hard hT mixed (by decide +kernel) ?_)) | fail)
          all_goals first | omega | skip
          (first | (refine ⟨[], .tup [.sl 0 4 (outs (ents n (b + c) d e f) 4).length, I 0], [DEntry (outs (ents n (b + c) d e f) 4)], ?_, ?_, ?_⟩; all_goals (repeat' (first | exact rfl | exact trivial | (with_reducible assumption) | refine And.intro ?_ ?_)); all_goals (first | omega | assumption); done) | (refine ⟨[some 1], .tup [.sl 0 4 (outs (ents n (b + c) d e f) 4).length, I 0], [DEntry (outs (ents n (b + c) d e f) 4)], ?_, ?_, ?_⟩; all_goals (repeat' (first | exact rfl | exact trivial | (with_reducible assumption) | refine And.intro ?_ ?_)); all_goals (first | omega | assumption); done) | (refine ⟨[some 0], .tup [.sl 0 4 (outs (ents n (b + c) d e f) 4).length, I 0], [DEntry (outs (ents n (b + c) d e f) 4)], ?_, ?_, ?_⟩; all_goals (repeat' (first | exact rfl | exact trivial | (with_reducible assumption) | refine And.intro ?_ ?_)); all_goals (first | omega | assumption); done) | (refine ⟨[some 2], .tup [.sl 0 4 (outs (ents n (b + c) d e f) 4).length, I 0], [DEntry (outs (ents n (b + c) d e f) 4)], ?_, ?_, ?_⟩; all_goals (repeat' (first | exact rfl | exact trivial | (with_reducible assumption) | refine And.intro ?_ ?_)); all_goals (first | omega | assumption); done) | (refine ⟨[some 3], .tup [.sl 0 4 (outs (ents n (b + c) d e f) 4).length, I 0], [DEntry (outs (ents n (b + c) d e f) 4)], ?_, ?_, ?_⟩; all_goals (repeat' (first | exact rfl | exact trivial | (with_reducible assumption) | refine And.intro ?_ ?_)); all_goals (first | omega | assumption); done) | (refine ⟨[some 4], .tup [.sl 0 4 (outs (ents n (b + c) d e f) 4).length, I 0], [DEntry (outs (ents n (b + c) d e f) 4)], ?_, ?_, ?_⟩; all_goals (repeat' (first | exact rfl | exact trivial | (with_reducible assumption) | refine And.intro ?_ ?_)); all_goals (first | omega | assumption); done) | (refine ⟨[some 5], .tup [.sl 0 4 (outs (ents n (b + c) d e f) 4).length, I 0], [DEntry (outs (ents n (b + c) d e f) 4)], ?_, ?_, ?_⟩; all_goals (repeat' (first | exact rfl | exact trivial | (with_reducible assumption) | refine And.intro ?_ ?_)); all_goals (first | omega | assumption); done))
    · obtain ⟨e1, e2⟩ := yr_no2 hy hm
      rw [yrT, e1, e2]
      repeat' (first | (intro h; first | contradiction | omega | (conv => whnf) | skip) | (refine And.intro ?_ ?_) | (refine arith_ok ⟨by omega, by omega⟩ ?_) | (first | (refine draw_quiet hT mixed (by decide +kernel) ?_) | (refine draw_hard hT mixed (by decide +kernel) ?_)) | (refine Ret.goP (implYear_ret _ _ _ _ _ _ _) rfl ?_) | (refine Ret.goQP (implYear_ret _ _ _ _ _ _ _) rfl ?_) | (refine Ret.goP (isMonth_ret _) rfl ?_) | (refine Ret.goQP (isMonth_ret _) rfl ?_))
      all_goals first | omega | (refine ⟨[none], .tup [.sl 0 4 0, I 2], [DEntry []], ?_, ?_, ?_⟩; all_goals (repeat' (first | exact rfl | exact trivial | (with_reducible assumption) | refine And.intro ?_ ?_ | omega)))
  · obtain ⟨e1, e2⟩ := yr_no1 (n := n) hy
    rw [yrT, e1, e2]
    repeat' (first | (intro h; first | contradiction | omega | (conv => whnf) | skip) | (refine And.intro ?_ ?_) | (refine arith_ok ⟨by omega, by omega⟩ ?_) | (first | (refine draw_quiet hT mixed (by decide +kernel) ?_) | (refine draw_hard hT mixed (by decide +kernel) ?_)) | (refine Ret.goP (implYear_ret _ _ _ _ _ _ _) rfl ?_) | (refine Ret.goQP (implYear_ret _ _ _ _ _ _ _) rfl ?_) | (refine Ret.goP (isMonth_ret _) rfl ?_) | (refine Ret.goQP (isMonth_ret _) rfl ?_))
    all_goals first | omega | (refine ⟨[none], .tup [.sl 0 4 0, I 1], [DEntry []], ?_, ?_, ?_⟩; all_goals (repeat' (first | exact rfl | exact trivial | (with_reducible assumption) | refine And.intro ?_ ?_ | omega)))
/-- The reference's rows when i of them have their month. -/
def rowsE (n a b c d : Int) : Nat → List (List Int)
  | 0 => [[0, 0, 3, a], [0, 5, 0, b], [0, 0, 6, c], [0, 4, 0, d]]
  | 1 => [[n, 0, 3, a], [0, 5, 0, b], [0, 0, 6, c], [0, 4, 0, d]]
  | 2 => [[n, 0, 3, a], [n, 5, 0, b], [0, 0, 6, c], [0, 4, 0, d]]
  | 3 => [[n, 0, 3, a], [n, 5, 0, b], [n, 0, 6, c], [0, 4, 0, d]]
  | _ => [[n, 0, 3, a], [n, 5, 0, b], [n, 0, 6, c], [n, 4, 0, d]]
theorem rowsE_len (n a b c d : Int) (i : Nat) : (rowsE n a b c d i).length = 4 := by unfold rowsE; split <;> rfl
theorem rowsE_set (n a b c d : Int) {i : Nat} (h : i < 4) : (rowsE n a b c d i).set ((i : Int)).toNat (setInts ((rowsE n a b c d i).getD ((i : Int)).toNat []) 0 [n]) = rowsE n a b c d (i + 1) := by
  rcases (show i = 0 ∨ i = 1 ∨ i = 2 ∨ i = 3 by omega) with rfl | rfl | rfl | rfl <;> rfl
theorem rowsE_row (n a b c d : Int) {i : Nat} (h : i < 4) : ((rowsE n a b c d i).getD ((i : Int)).toNat []).length = 4 := by
  rcases (show i = 0 ∨ i = 1 ∨ i = 2 ∨ i = 3 by omega) with rfl | rfl | rfl | rfl <;> rfl
theorem rowsE_get (n a b c d : Int) {i : Nat} (h : i < 4) : (rowsE n a b c d (i + 1)).getD ((i : Int)).toNat [] = (ents n a b c d).getD i [] := by
  rcases (show i = 0 ∨ i = 1 ∨ i = 2 ∨ i = 3 by omega) with rfl | rfl | rfl | rfl <;> rfl
theorem rowsE_zero (n a b c d : Int) : rowsE n a b c d 0 = [[0, 0, 3, a], [0, 5, 0, b], [0, 0, 6, c], [0, 4, 0, d]] := rfl
attribute [local irreducible] rowsE
set_option maxRecDepth 100000 in
theorem specYE_call (n a b c d e f g : Int) : CallA Tryz.prog G 38 [V7 a b c d e f g, I n] [] (fun v J => v = yrT n a b c d e f g ∧ J = [DEntry (yrR n a b c d e f g)]) := by
  refine CallA.ends (callA_of_body hT Tryz.func38 rfl ?_)
  by_cases hy : isYr a b c d e f g
  · by_cases hm : 0 ≤ n ∧ n ≤ 35999
    · have hin := isYr_in hy
      repeat' (first | (intro h; first | contradiction | omega | (conv => whnf) | skip) | (refine And.intro ?_ ?_) | (refine arith_ok ⟨by omega, by omega⟩ ?_) | (first | (refine draw_quiet hT mixed (by decide +kernel) ?_) | (refine draw_hard hT mixed (by decide +kernel) ?_)) | (refine Ret.goP (specYear_ret _ _ _ _ _ _ _) rfl ?_) | (refine Ret.goQP (specYear_ret _ _ _ _ _ _ _) rfl ?_) | (refine Ret.goP (l02Month_ret _) rfl ?_) | (refine Ret.goQP (l02Month_ret _) rfl ?_))
      all_goals first | rfl | omega | skip
      refine loop_rule hT (fun i : Nat => i ≤ 4 ∧ ∀ r ∈ (ents n (b + c) d e f).take i, r.getD 3 0 ≤ 1000000000) 65 3 [1, 6, 7, 8] (fun i => [I n, .sl 1 4 4, .sl 3 4 (outs (ents n (b + c) d e f) i).length, I i]) (fun i => [.dead, DEntry (rowsE n (b + c) d e f i), .dead, DEntry (outs (ents n (b + c) d e f) i)]) (fun i => 4 - i) (0) (Nat.le_of_ble_eq_true rfl) ?_ ?_ ?_
      · exact ⟨Nat.zero_le _, by simp⟩
      · (first | (refine ⟨rfl, [], ?_, ?_⟩; all_goals (repeat' (first | exact rfl | exact trivial | (with_reducible assumption) | refine And.intro ?_ ?_)); all_goals (first | omega | assumption | ((repeat' (first | exact congrArg (D.recs 4) (rowsE_zero _ _ _ _ _).symm | exact rfl | exact trivial | (with_reducible assumption) | refine And.intro ?_ ?_ | omega | assumption)); done)); done) | (refine ⟨rfl, [some 1], ?_, ?_⟩; all_goals (repeat' (first | exact rfl | exact trivial | (with_reducible assumption) | refine And.intro ?_ ?_)); all_goals (first | omega | assumption | ((repeat' (first | exact congrArg (D.recs 4) (rowsE_zero _ _ _ _ _).symm | exact rfl | exact trivial | (with_reducible assumption) | refine And.intro ?_ ?_ | omega | assumption)); done)); done) | (refine ⟨rfl, [some 2], ?_, ?_⟩; all_goals (repeat' (first | exact rfl | exact trivial | (with_reducible assumption) | refine And.intro ?_ ?_)); all_goals (first | omega | assumption | ((repeat' (first | exact congrArg (D.recs 4) (rowsE_zero _ _ _ _ _).symm | exact rfl | exact trivial | (with_reducible assumption) | refine And.intro ?_ ?_ | omega | assumption)); done)); done) | (refine ⟨rfl, [some 3], ?_, ?_⟩; all_goals (repeat' (first | exact rfl | exact trivial | (with_reducible assumption) | refine And.intro ?_ ?_)); all_goals (first | omega | assumption | ((repeat' (first | exact congrArg (D.recs 4) (rowsE_zero _ _ _ _ _).symm | exact rfl | exact trivial | (with_reducible assumption) | refine And.intro ?_ ?_ | omega | assumption)); done)); done) | (refine ⟨rfl, [some 0], ?_, ?_⟩; all_goals (repeat' (first | exact rfl | exact trivial | (with_reducible assumption) | refine And.intro ?_ ?_)); all_goals (first | omega | assumption | ((repeat' (first | exact congrArg (D.recs 4) (rowsE_zero _ _ _ _ _).symm | exact rfl | exact trivial | (with_reducible assumption) | refine And.intro ?_ ?_ | omega | assumption)); done)); done) | (refine ⟨rfl, [some 4], ?_, ?_⟩; all_goals (repeat' (first | exact rfl | exact trivial | (with_reducible assumption) | refine And.intro ?_ ?_)); all_goals (first | omega | assumption | ((repeat' (first | exact congrArg (D.recs 4) (rowsE_zero _ _ _ _ _).symm | exact rfl | exact trivial | (with_reducible assumption) | refine And.intro ?_ ?_ | omega | assumption)); done)); done) | (refine ⟨rfl, [some 5], ?_, ?_⟩; all_goals (repeat' (first | exact rfl | exact trivial | (with_reducible assumption) | refine And.intro ?_ ?_)); all_goals (first | omega | assumption | ((repeat' (first | exact congrArg (D.recs 4) (rowsE_zero _ _ _ _ _).symm | exact rfl | exact trivial | (with_reducible assumption) | refine And.intro ?_ ?_ | omega | assumption)); done)); done) | (refine ⟨rfl, [some 6], ?_, ?_⟩; all_goals (repeat' (first | exact rfl | exact trivial | (with_reducible assumption) | refine And.intro ?_ ?_)); all_goals (first | omega | assumption | ((repeat' (first | exact congrArg (D.recs 4) (rowsE_zero _ _ _ _ _).symm | exact rfl | exact trivial | (with_reducible assumption) | refine And.intro ?_ ?_ | omega | assumption)); done)); done))
      · rintro i ⟨h1, h2⟩
        have hil := outs_len (ents n (b + c) d e f) i
        have hrl := rowsE_len n (b + c) d e f i
        have hrl2 := rowsE_len n (b + c) d e f (i + 1)
        by_cases hi4 : i < 4
        · have hi : i < (ents n (b + c) d e f).length := hi4
          have hrow := ents_row (n := n) (a := b + c) (b := d) (c := e) (d := f) hi4
          have hset := rowsE_set n (b + c) d e f hi4
          have hlen := rowsE_row n (b + c) d e f hi4
          have hget := rowsE_get n (b + c) d e f hi4
          have hv : (((rowsE n (b + c) d e f i).set ((i : Int)).toNat (setInts ((rowsE n (b + c) d e f i).getD ((i : Int)).toNat []) 0 [n])).getD ((i : Int)).toNat []).getD 3 0 = ((ents n (b + c) d e f).getD i []).getD 3 0 := by rw [hset, hget]
          have hrow2 : [(((rowsE n (b + c) d e f i).set ((i : Int)).toNat (setInts ((rowsE n (b + c) d e f i).getD ((i : Int)).toNat []) 0 [n])).getD ((i : Int)).toNat []).getD 0 0, (((rowsE n (b + c) d e f i).set ((i : Int)).toNat (setInts ((rowsE n (b + c) d e f i).getD ((i : Int)).toNat []) 0 [n])).getD ((i : Int)).toNat []).getD 1 0, (((rowsE n (b + c) d e f i).set ((i : Int)).toNat (setInts ((rowsE n (b + c) d e f i).getD ((i : Int)).toNat []) 0 [n])).getD ((i : Int)).toNat []).getD 2 0, (((rowsE n (b + c) d e f i).set ((i : Int)).toNat (setInts ((rowsE n (b + c) d e f i).getD ((i : Int)).toNat []) 0 [n])).getD ((i : Int)).toNat []).getD 3 0] = (ents n (b + c) d e f).getD i [] := by
            rw [hset, hget]; exact hrow
          repeat' (first | (intro h; first | contradiction | omega | (conv => whnf) | skip) | (refine And.intro ?_ ?_) | (refine arith_ok ⟨by omega, by omega⟩ ?_) | (first | (refine draw_quiet hT mixed (by decide +kernel) ?_) | (refine draw_hard hT mixed (by decide +kernel) ?_)) | fail)
          all_goals first | omega | assumption | (show 1 = 1; rfl) | (show (4 : Nat) = 4; rfl) | (show _ < (4 : Nat); omega) | (show _ < _; rw [List.length_set]; omega) | (simp only [List.nil_append, List.length_cons, List.length_nil]; omega) | skip
          all_goals (try (conv => whnf))
          all_goals first
            | (have hbig : 1000000000 < ((ents n (b + c) d e f).getD i []).getD 3 0 := Int.lt_of_lt_of_le h (Int.le_of_eq hv)
               obtain ⟨e1, e2⟩ := yr_no3 (g := g) hy hm (small_no hi hbig); rw [yrT, e1, e2]; (refine ⟨[none], .tup [.sl 0 4 0, I 3], [DEntry []], ?_, ?_, ?_⟩; all_goals (repeat' (first | exact rfl | exact trivial | (with_reducible assumption) | refine And.intro ?_ ?_ | omega))); done)
            | (have hs9 : ((ents n (b + c) d e f).getD i []).getD 3 0 ≤ 1000000000 := Int.not_lt.1 (fun hh => ‹¬ (1000000000 : Int) < _› (Int.lt_of_lt_of_le hh (Int.le_of_eq hv.symm)))
               have hp : 0 < ((ents n (b + c) d e f).getD i []).getD 3 0 := Int.lt_of_lt_of_le h (Int.le_of_eq hv)
               have hst := outs_yes hi hp; rw [← hrow2] at hst; have hsl := congrArg List.length hst; (refine ⟨i + 1, ⟨by omega, all_snoc (p := fun r : List Int => r.getD 3 0 ≤ 1000000000) [] hi h2 hs9⟩, ?_, by omega⟩); (first | (refine ⟨rfl, [], ?_, ?_⟩; all_goals (repeat' (first | exact rfl | exact trivial | (with_reducible assumption) | refine And.intro ?_ ?_)); all_goals (first | omega | assumption | ((repeat' (first | first | exact congrArg (D.recs 4) hset | exact congrArg (D.recs 4) hst.symm | exact hsl.symm | exact rfl | exact trivial | (with_reducible assumption) | refine And.intro ?_ ?_ | omega | assumption)); done)); done) | (refine ⟨rfl, [some 1], ?_, ?_⟩; all_goals (repeat' (first | exact rfl | exact trivial | (with_reducible assumption) | refine And.intro ?_ ?_)); all_goals (first | omega | assumption | ((repeat' (first | first | exact congrArg (D.recs 4) hset | exact congrArg (D.recs 4) hst.symm | exact hsl.symm | exact rfl | exact trivial | (with_reducible assumption) | refine And.intro ?_ ?_ | omega | assumption)); done)); done) | (refine ⟨rfl, [some 2], ?_, ?_⟩; all_goals (repeat' (first | exact rfl | exact trivial | (with_reducible assumption) | refine And.intro ?_ ?_)); all_goals (first | omega | assumption | ((repeat' (first | first | exact congrArg (D.recs 4) hset | exact congrArg (D.recs 4) hst.symm | exact hsl.symm | exact rfl | exact trivial | (with_reducible assumption) | refine And.intro ?_ ?_ | omega | assumption)); done)); done) | (refine ⟨rfl, [some 3], ?_, ?_⟩; all_goals (repeat' (first | exact rfl | exact trivial | (with_reducible assumption) | refine And.intro ?_ ?_)); all_goals (first | omega | assumption | ((repeat' (first | first | exact congrArg (D.recs 4) hset | exact congrArg (D.recs 4) hst.symm | exact hsl.symm | exact rfl | exact trivial | (with_reducible assumption) | refine And.intro ?_ ?_ | omega | assumption)); done)); done) | (refine ⟨rfl, [some 0], ?_, ?_⟩; all_goals (repeat' (first | exact rfl | exact trivial | (with_reducible assumption) | refine And.intro ?_ ?_)); all_goals (first | omega | assumption | ((repeat' (first | first | exact congrArg (D.recs 4) hset | exact congrArg (D.recs 4) hst.symm | exact hsl.symm | exact rfl | exact trivial | (with_reducible assumption) | refine And.intro ?_ ?_ | omega | assumption)); done)); done) | (refine ⟨rfl, [some 4], ?_, ?_⟩; all_goals (repeat' (first | exact rfl | exact trivial | (with_reducible assumption) | refine And.intro ?_ ?_)); all_goals (first | omega | assumption | ((repeat' (first | first | exact congrArg (D.recs 4) hset | exact congrArg (D.recs 4) hst.symm | exact hsl.symm | exact rfl | exact trivial | (with_reducible assumption) | refine And.intro ?_ ?_ | omega | assumption)); done)); done) | (refine ⟨rfl, [some 5], ?_, ?_⟩; all_goals (repeat' (first | exact rfl | exact trivial | (with_reducible assumption) | refine And.intro ?_ ?_)); all_goals (first | omega | assumption | ((repeat' (first | first | exact congrArg (D.recs 4) hset | exact congrArg (D.recs 4) hst.symm | exact hsl.symm | exact rfl | exact trivial | (with_reducible assumption) | refine And.intro ?_ ?_ | omega | assumption)); done)); done) | (refine ⟨rfl, [some 6], ?_, ?_⟩; all_goals (repeat' (first | exact rfl | exact trivial | (with_reducible assumption) | refine And.intro ?_ ?_)); all_goals (first | omega | assumption | ((repeat' (first | first | exact congrArg (D.recs 4) hset | exact congrArg (D.recs 4) hst.symm | exact hsl.symm | exact rfl | exact trivial | (with_reducible assumption) | refine And.intro ?_ ?_ | omega | assumption)); done)); done)))
            | (have hs9 : ((ents n (b + c) d e f).getD i []).getD 3 0 ≤ 1000000000 := Int.not_lt.1 (fun hh => ‹¬ (1000000000 : Int) < _› (Int.lt_of_lt_of_le hh (Int.le_of_eq hv.symm)))
               have hp : ¬ 0 < ((ents n (b + c) d e f).getD i []).getD 3 0 := fun hh => h (Int.lt_of_lt_of_le hh (Int.le_of_eq hv.symm))
               have hst := outs_no hi hp; have hsl := congrArg List.length hst; (refine ⟨i + 1, ⟨by omega, all_snoc (p := fun r : List Int => r.getD 3 0 ≤ 1000000000) [] hi h2 hs9⟩, ?_, by omega⟩); (first | (refine ⟨rfl, [], ?_, ?_⟩; all_goals (repeat' (first | exact rfl | exact trivial | (with_reducible assumption) | refine And.intro ?_ ?_)); all_goals (first | omega | assumption | ((repeat' (first | first | exact congrArg (D.recs 4) hset | exact congrArg (D.recs 4) hst.symm | exact hsl.symm | exact rfl | exact trivial | (with_reducible assumption) | refine And.intro ?_ ?_ | omega | assumption)); done)); done) | (refine ⟨rfl, [some 1], ?_, ?_⟩; all_goals (repeat' (first | exact rfl | exact trivial | (with_reducible assumption) | refine And.intro ?_ ?_)); all_goals (first | omega | assumption | ((repeat' (first | first | exact congrArg (D.recs 4) hset | exact congrArg (D.recs 4) hst.symm | exact hsl.symm | exact rfl | exact trivial | (with_reducible assumption) | refine And.intro ?_ ?_ | omega | assumption)); done)); done) | (refine ⟨rfl, [some 2], ?_, ?_⟩; all_goals (repeat' (first | exact rfl | exact trivial | (with_reducible assumption) | refine And.intro ?_ ?_)); all_goals (first | omega | assumption | ((repeat' (first | first | exact congrArg (D.recs 4) hset | exact congrArg (D.recs 4) hst.symm | exact hsl.symm | exact rfl | exact trivial | (with_reducible assumption) | refine And.intro ?_ ?_ | omega | assumption)); done)); done) | (refine ⟨rfl, [some 3], ?_, ?_⟩; all_goals (repeat' (first | exact rfl | exact trivial | (with_reducible assumption) | refine And.intro ?_ ?_)); all_goals (first | omega | assumption | ((repeat' (first | first | exact congrArg (D.recs 4) hset | exact congrArg (D.recs 4) hst.symm | exact hsl.symm | exact rfl | exact trivial | (with_reducible assumption) | refine And.intro ?_ ?_ | omega | assumption)); done)); done) | (refine ⟨rfl, [some 0], ?_, ?_⟩; all_goals (repeat' (first | exact rfl | exact trivial | (with_reducible assumption) | refine And.intro ?_ ?_)); all_goals (first | omega | assumption | ((repeat' (first | first | exact congrArg (D.recs 4) hset | exact congrArg (D.recs 4) hst.symm | exact hsl.symm | exact rfl | exact trivial | (with_reducible assumption) | refine And.intro ?_ ?_ | omega | assumption)); done)); done) | (refine ⟨rfl, [some 4], ?_, ?_⟩; all_goals (repeat' (first | exact rfl | exact trivial | (with_reducible assumption) | refine And.intro ?_ ?_)); all_goals (first | omega | assumption | ((repeat' (first | first | exact congrArg (D.recs 4) hset | exact congrArg (D.recs 4) hst.symm | exact hsl.symm | exact rfl | exact trivial | (with_reducible assumption) | refine And.intro ?_ ?_ | omega | assumption)); done)); done) | (refine ⟨rfl, [some 5], ?_, ?_⟩; all_goals (repeat' (first | exact rfl | exact trivial | (with_reducible assumption) | refine And.intro ?_ ?_)); all_goals (first | omega | assumption | ((repeat' (first | first | exact congrArg (D.recs 4) hset | exact congrArg (D.recs 4) hst.symm | exact hsl.symm | exact rfl | exact trivial | (with_reducible assumption) | refine And.intro ?_ ?_ | omega | assumption)); done)); done) | (refine ⟨rfl, [some 6], ?_, ?_⟩; all_goals (repeat' (first | exact rfl | exact trivial | (with_reducible assumption) | refine And.intro ?_ ?_)); all_goals (first | omega | assumption | ((repeat' (first | first | exact congrArg (D.recs 4) hset | exact congrArg (D.recs 4) hst.symm | exact hsl.symm | exact rfl | exact trivial | (with_reducible assumption) | refine And.intro ?_ ?_ | omega | assumption)); done)); done)))
            | trace_state
        · obtain rfl : i = 4 := by omega
          obtain ⟨e1, e2⟩ := yr_yes (g := g) hy hm (all_end (by exact Nat.le_refl 4) h2)
          rw [yrT, e1, e2]
          repeat' (first | (intro h; first | contradiction | omega | (conv => whnf) | skip) | (refine And.intro ?_ ?_) | (refine arith_ok ⟨by omega, by omega⟩ ?_) | (first | (refine draw_quiet hT mixed (by decide +kernel) ?_) | (refine draw_hard hT mixed (by decide +kernel) ?_)) | fail)
          all_goals first | omega | skip
          (first | (refine ⟨[], .tup [.sl 0 4 (outs (ents n (b + c) d e f) 4).length, I 0], [DEntry (outs (ents n (b + c) d e f) 4)], ?_, ?_, ?_⟩; all_goals (repeat' (first | exact rfl | exact trivial | (with_reducible assumption) | refine And.intro ?_ ?_)); all_goals (first | omega | assumption); done) | (refine ⟨[some 1], .tup [.sl 0 4 (outs (ents n (b + c) d e f) 4).length, I 0], [DEntry (outs (ents n (b + c) d e f) 4)], ?_, ?_, ?_⟩; all_goals (repeat' (first | exact rfl | exact trivial | (with_reducible assumption) | refine And.intro ?_ ?_)); all_goals (first | omega | assumption); done) | (refine ⟨[some 0], .tup [.sl 0 4 (outs (ents n (b + c) d e f) 4).length, I 0], [DEntry (outs (ents n (b + c) d e f) 4)], ?_, ?_, ?_⟩; all_goals (repeat' (first | exact rfl | exact trivial | (with_reducible assumption) | refine And.intro ?_ ?_)); all_goals (first | omega | assumption); done) | (refine ⟨[some 2], .tup [.sl 0 4 (outs (ents n (b + c) d e f) 4).length, I 0], [DEntry (outs (ents n (b + c) d e f) 4)], ?_, ?_, ?_⟩; all_goals (repeat' (first | exact rfl | exact trivial | (with_reducible assumption) | refine And.intro ?_ ?_)); all_goals (first | omega | assumption); done) | (refine ⟨[some 3], .tup [.sl 0 4 (outs (ents n (b + c) d e f) 4).length, I 0], [DEntry (outs (ents n (b + c) d e f) 4)], ?_, ?_, ?_⟩; all_goals (repeat' (first | exact rfl | exact trivial | (with_reducible assumption) | refine And.intro ?_ ?_)); all_goals (first | omega | assumption); done) | (refine ⟨[some 4], .tup [.sl 0 4 (outs (ents n (b + c) d e f) 4).length, I 0], [DEntry (outs (ents n (b + c) d e f) 4)], ?_, ?_, ?_⟩; all_goals (repeat' (first | exact rfl | exact trivial | (with_reducible assumption) | refine And.intro ?_ ?_)); all_goals (first | omega | assumption); done) | (refine ⟨[some 5], .tup [.sl 0 4 (outs (ents n (b + c) d e f) 4).length, I 0], [DEntry (outs (ents n (b + c) d e f) 4)], ?_, ?_, ?_⟩; all_goals (repeat' (first | exact rfl | exact trivial | (with_reducible assumption) | refine And.intro ?_ ?_)); all_goals (first | omega | assumption); done))
    · obtain ⟨e1, e2⟩ := yr_no2 hy hm
      rw [yrT, e1, e2]
      repeat' (first | (intro h; first | contradiction | omega | (conv => whnf) | skip) | (refine And.intro ?_ ?_) | (refine arith_ok ⟨by omega, by omega⟩ ?_) | (first | (refine draw_quiet hT mixed (by decide +kernel) ?_) | (refine draw_hard hT mixed (by decide +kernel) ?_)) | (refine Ret.goP (specYear_ret _ _ _ _ _ _ _) rfl ?_) | (refine Ret.goQP (specYear_ret _ _ _ _ _ _ _) rfl ?_) | (refine Ret.goP (l02Month_ret _) rfl ?_) | (refine Ret.goQP (l02Month_ret _) rfl ?_))
      all_goals first | omega | (refine ⟨[none], .tup [.sl 0 4 0, I 2], [DEntry []], ?_, ?_, ?_⟩; all_goals (repeat' (first | exact rfl | exact trivial | (with_reducible assumption) | refine And.intro ?_ ?_ | omega)))
  · obtain ⟨e1, e2⟩ := yr_no1 (n := n) hy
    rw [yrT, e1, e2]
    repeat' (first | (intro h; first | contradiction | omega | (conv => whnf) | skip) | (refine And.intro ?_ ?_) | (refine arith_ok ⟨by omega, by omega⟩ ?_) | (first | (refine draw_quiet hT mixed (by decide +kernel) ?_) | (refine draw_hard hT mixed (by decide +kernel) ?_)) | (refine Ret.goP (specYear_ret _ _ _ _ _ _ _) rfl ?_) | (refine Ret.goQP (specYear_ret _ _ _ _ _ _ _) rfl ?_) | (refine Ret.goP (l02Month_ret _) rfl ?_) | (refine Ret.goQP (l02Month_ret _) rfl ?_))
    all_goals first | omega | (refine ⟨[none], .tup [.sl 0 4 0, I 1], [DEntry []], ?_, ?_, ?_⟩; all_goals (repeat' (first | exact rfl | exact trivial | (with_reducible assumption) | refine And.intro ?_ ?_ | omega)))
end Go.Proofs.YtenofbabiacacaaGreat
namespace Go.Proofs.YtenofbabiacacaaGreat
open Go.AE

attribute [local irreducible] CallA LoopA DrawA CallQ arithK quoK remK eqK
abbrev WE4 (r : List Int) : AV := .agg [I (r.getD 0 0), I (r.getD 1 0), I (r.getD 2 0), I (r.getD 3 0)]
/-- An entry of a month. -/
def enOk (n : Int) (r : List Int) : Prop := r.getD 0 0 = n ∧ (0 ≤ r.getD 1 0 ∧ r.getD 1 0 ≤ 9) ∧ (0 ≤ r.getD 2 0 ∧ r.getD 2 0 ≤ 9) ∧ r.getD 1 0 ≠ r.getD 2 0 ∧ 1 ≤ r.getD 3 0 ∧ r.getD 3 0 ≤ 1000000000
def gD (r : List Int) : Int := if r.getD 1 0 = 0 then r.getD 3 0 else 0
def gC (r : List Int) : Int := if r.getD 1 0 = 0 then 0 else if r.getD 2 0 = 0 then r.getD 3 0 else 0
def sD (E : List (List Int)) (i : Nat) : Int := ((E.take i).map gD).sum
def sC (E : List (List Int)) (i : Nat) : Int := ((E.take i).map gC).sum
theorem sD_next {E : List (List Int)} {i : Nat} (h : i < E.length) : sD E (i + 1) = sD E i + gD (E.getD i []) := by unfold sD; rw [take_snoc [] h, List.map_append, List.sum_append]; simp
theorem sC_next {E : List (List Int)} {i : Nat} (h : i < E.length) : sC E (i + 1) = sC E i + gC (E.getD i []) := by unfold sC; rw [take_snoc [] h, List.map_append, List.sum_append]; simp
theorem g_bd {n : Int} {r : List Int} (h : enOk n r) : (0 ≤ gD r ∧ gD r ≤ 1000000000) ∧ 0 ≤ gC r ∧ gC r ≤ 1000000000 := by
  unfold enOk at h
  unfold gD gC
  refine ⟨?_, ?_⟩
  · split <;> omega
  · split
    · omega
    · split <;> omega
theorem s_bd {n : Int} {E : List (List Int)} (h : ∀ r ∈ E, enOk n r) : ∀ i, i ≤ E.length → (0 ≤ sD E i ∧ sD E i ≤ 1000000000 * i) ∧ 0 ≤ sC E i ∧ sC E i ≤ 1000000000 * i
  | 0, _ => by simp [sD, sC]
  | i + 1, hi => by
    have ih := s_bd h i (by omega)
    have hg := g_bd (h _ (getD_mem (d := []) (show i < E.length by omega)))
    rw [sD_next (by omega), sC_next (by omega)]
    omega
set_option maxRecDepth 100000 in
theorem isAccount_ret (n : Int) : Ret Tryz.prog G 105 [I n] (Bo (decide (0 ≤ n ∧ n ≤ 9))) := by
  refine ret_of_body hT Tryz.func105 rfl ?_ rfl
  repeat' ((first | (conv => whnf) | skip); (first | ((with_reducible intro h); first | contradiction | omega | (conv => whnf) | skip) | (with_reducible refine And.intro ?_ ?_) | ((with_reducible show arithK _ _ _); refine arith_ok ⟨by omega, by omega⟩ ?_) | ((with_reducible show quoK _ _ _ _); refine quo_ok ⟨by omega, by omega⟩ (by omega) (by omega) ?_) | ((with_reducible show remK _ _ _ _); refine rem_ok (by omega) (by omega) ?_) | ((first | (with_reducible show CallA _ _ _ _ _ _) | (with_reducible show CallQ _ _ _ _ _ _)); first | (refine Ret.goP (inRange_ret _ _ _) rfl ?_) | (refine Ret.goQP (inRange_ret _ _ _) rfl ?_)) | ((with_reducible show DrawA _ _ _ _ _ _); first | (first | (refine draw_quiet hT mixed (by decide +kernel) ?_) | (refine draw_hard hT mixed (by decide +kernel) ?_)))))
  all_goals (first | exact bv_true (by omega) | exact bv_false (by omega))
set_option maxRecDepth 100000 in
theorem isEntry_ret (n : Int) (r : List Int) (hn : 0 ≤ n ∧ n ≤ 35999) (h : enOk n r) : Ret Tryz.prog G 148 [WE4 r] (Bo true) := by
  refine ret_of_body hT Tryz.func148 rfl ?_ rfl
  obtain ⟨h1, h2, h3, h4, h5, h6⟩ := h
  repeat' ((first | (conv => whnf) | skip); (first | ((with_reducible intro h); first | contradiction | omega | (conv => whnf) | skip) | (with_reducible refine And.intro ?_ ?_) | ((with_reducible show arithK _ _ _); refine arith_ok ⟨by omega, by omega⟩ ?_) | ((with_reducible show quoK _ _ _ _); refine quo_ok ⟨by omega, by omega⟩ (by omega) (by omega) ?_) | ((with_reducible show remK _ _ _ _); refine rem_ok (by omega) (by omega) ?_) | ((first | (with_reducible show CallA _ _ _ _ _ _) | (with_reducible show CallQ _ _ _ _ _ _)); first | (refine Ret.goP (isMonth_ret _) rfl ?_) | (refine Ret.goQP (isMonth_ret _) rfl ?_) | (refine Ret.goP (isAccount_ret _) rfl ?_) | (refine Ret.goQP (isAccount_ret _) rfl ?_) | (refine Ret.goP (inRange_ret _ _ _) rfl ?_) | (refine Ret.goQP (inRange_ret _ _ _) rfl ?_)) | ((with_reducible show DrawA _ _ _ _ _ _); first | (first | (refine draw_quiet hT mixed (by decide +kernel) ?_) | (refine draw_hard hT mixed (by decide +kernel) ?_)))))
  all_goals first | rfl | omega | trace_state
set_option maxRecDepth 100000 in
theorem isLedger_ret (n : Int) (E : List (List Int)) (hn : 0 ≤ n ∧ n ≤ 35999) (hl : E.length ≤ 150) (hE : ∀ r ∈ E, enOk n r) : Ret Tryz.prog G 104 [REntry E] (Bo true) := by
  refine ret_of_body hT Tryz.func104 rfl ?_ rfl
  repeat' ((first | (conv => whnf) | skip); (first | ((with_reducible intro h); first | contradiction | omega | (conv => whnf) | skip) | (with_reducible refine And.intro ?_ ?_) | ((with_reducible show arithK _ _ _); refine arith_ok ⟨by omega, by omega⟩ ?_) | ((with_reducible show quoK _ _ _ _); refine quo_ok ⟨by omega, by omega⟩ (by omega) (by omega) ?_) | ((with_reducible show remK _ _ _ _); refine rem_ok (by omega) (by omega) ?_) | ((first | (with_reducible show CallA _ _ _ _ _ _) | (with_reducible show CallQ _ _ _ _ _ _)); first | fail) | ((with_reducible show DrawA _ _ _ _ _ _); first | (first | (refine draw_quiet hT mixed (by decide +kernel) ?_) | (refine draw_hard hT mixed (by decide +kernel) ?_)))))
  all_goals first | rfl | omega | skip
  refine loop_rule hT (fun i : Nat => i ≤ E.length) 34 0 [0, 8, 9, 10] (fun i => [REntry E, REntry E, I E.length, I i]) (fun _ => []) (fun i => E.length - i) (0) (Nat.le_of_ble_eq_true rfl) ?_ ?_ ?_
  · exact Nat.zero_le _
  · (refine ⟨rfl, [], ?_, ?_⟩; all_goals (repeat' (first | exact rfl | exact trivial | (with_reducible assumption) | refine And.intro ?_ ?_)); all_goals (first | omega | assumption); done)
  · intro i h1
    by_cases hi : i < E.length
    · have he := hE _ (getD_mem (d := []) hi)
      have hr := isEntry_ret n (E.getD ((i : Int)).toNat []) hn he
      have e0 : (E.getD ((i : Int)).toNat []).getD 0 0 = n := he.1
      have e1 : 0 < i → (E.getD ((i : Int) - 1).toNat []).getD 0 0 = n := fun hp => by
        rw [show ((i : Int) - 1).toNat = i - 1 by omega]
        exact (hE _ (getD_mem (d := []) (show i - 1 < E.length by omega))).1
      repeat' ((first | (conv => whnf) | skip); (first | ((with_reducible intro h); first | contradiction | omega | (conv => whnf) | skip) | (with_reducible refine And.intro ?_ ?_) | ((with_reducible show arithK _ _ _); refine arith_ok ⟨by omega, by omega⟩ ?_) | ((with_reducible show quoK _ _ _ _); refine quo_ok ⟨by omega, by omega⟩ (by omega) (by omega) ?_) | ((with_reducible show remK _ _ _ _); refine rem_ok (by omega) (by omega) ?_) | ((first | (with_reducible show CallA _ _ _ _ _ _) | (with_reducible show CallQ _ _ _ _ _ _)); first | (refine Ret.go (hr) rfl rfl ?_) | (refine Ret.goQ (hr) rfl rfl ?_)) | ((with_reducible show DrawA _ _ _ _ _ _); first | (refine draw_hard hT mixed (by decide +kernel) ?_))))
      all_goals first | rfl | omega | skip
      all_goals ((conv => whnf); refine ⟨i + 1, by omega, ?_, by omega⟩; first | (refine ⟨rfl, [], ?_, ?_⟩; all_goals (repeat' (first | exact rfl | exact trivial | (with_reducible assumption) | refine And.intro ?_ ?_)); all_goals (first | omega | assumption); done) | trace_state)
    · repeat' ((first | (conv => whnf) | skip); (first | ((with_reducible intro h); first | contradiction | omega | (conv => whnf) | skip) | (with_reducible refine And.intro ?_ ?_) | ((with_reducible show arithK _ _ _); refine arith_ok ⟨by omega, by omega⟩ ?_) | ((with_reducible show quoK _ _ _ _); refine quo_ok ⟨by omega, by omega⟩ (by omega) (by omega) ?_) | ((with_reducible show remK _ _ _ _); refine rem_ok (by omega) (by omega) ?_) | ((first | (with_reducible show CallA _ _ _ _ _ _) | (with_reducible show CallQ _ _ _ _ _ _)); first | fail) | ((with_reducible show DrawA _ _ _ _ _ _); first | (first | (refine draw_quiet hT mixed (by decide +kernel) ?_) | (refine draw_hard hT mixed (by decide +kernel) ?_)))))
      all_goals first | rfl | omega | trace_state
set_option maxRecDepth 100000 in
theorem turnover_ret (n : Int) (E : List (List Int)) (hn : 0 ≤ n ∧ n ≤ 35999) (hl : E.length ≤ 150) (hE : ∀ r ∈ E, enOk n r) : Ret Tryz.prog G 106 [REntry E, I 0, I 0, I n] (.tup [I (sD E E.length), I (sC E E.length)]) := by
  refine ret_of_body hT Tryz.func106 rfl ?_ rfl
  repeat' ((first | (conv => whnf) | skip); (first | ((with_reducible intro h); first | contradiction | omega | (conv => whnf) | skip) | (with_reducible refine And.intro ?_ ?_) | ((with_reducible show arithK _ _ _); refine arith_ok ⟨by omega, by omega⟩ ?_) | ((with_reducible show quoK _ _ _ _); refine quo_ok ⟨by omega, by omega⟩ (by omega) (by omega) ?_) | ((with_reducible show remK _ _ _ _); refine rem_ok (by omega) (by omega) ?_) | ((first | (with_reducible show CallA _ _ _ _ _ _) | (with_reducible show CallQ _ _ _ _ _ _)); first | fail) | ((with_reducible show DrawA _ _ _ _ _ _); first | (first | (refine draw_quiet hT mixed (by decide +kernel) ?_) | (refine draw_hard hT mixed (by decide +kernel) ?_)))))
  all_goals first | rfl | omega | skip
  refine loop_rule hT (fun i : Nat => i ≤ E.length) 46 0 [1, 2, 3, 10, 11, 14, 15, 16] (fun i => [I 0, I 0, I n, I (sD E i), I (sC E i), REntry E, I E.length, I i]) (fun _ => []) (fun i => E.length - i) (0) (Nat.le_of_ble_eq_true rfl) ?_ ?_ ?_
  · exact Nat.zero_le _
  · (refine ⟨rfl, [], ?_, ?_⟩; all_goals (repeat' (first | exact rfl | exact trivial | (with_reducible assumption) | refine And.intro ?_ ?_)); all_goals (first | omega | assumption); done)
  · intro i h1
    have hb := s_bd hE i h1
    by_cases hi : i < E.length
    · have he := hE _ (getD_mem (d := []) hi)
      have e0 : (E.getD ((i : Int)).toNat []).getD 0 0 = n := he.1
      have hgb := g_bd he
      have n1 := sD_next hi
      have n2 := sC_next hi
      have hb2 := s_bd hE (i + 1) hi
      have x1 : gD (E.getD i []) = if (E.getD ((i : Int)).toNat []).getD 1 0 = 0 then (E.getD ((i : Int)).toNat []).getD 3 0 else 0 := rfl
      have x2 : gC (E.getD i []) = if (E.getD ((i : Int)).toNat []).getD 1 0 = 0 then 0 else if (E.getD ((i : Int)).toNat []).getD 2 0 = 0 then (E.getD ((i : Int)).toNat []).getD 3 0 else 0 := rfl
      by_cases a1 : (E.getD ((i : Int)).toNat []).getD 1 0 = 0
      · rw [if_pos a1] at x1 x2
        repeat' ((first | (conv => whnf) | skip); (first | ((with_reducible intro h); first | contradiction | omega | (conv => whnf) | skip) | (with_reducible refine And.intro ?_ ?_) | ((with_reducible show arithK _ _ _); refine arith_ok ⟨by omega, by omega⟩ ?_) | ((with_reducible show quoK _ _ _ _); refine quo_ok ⟨by omega, by omega⟩ (by omega) (by omega) ?_) | ((with_reducible show remK _ _ _ _); refine rem_ok (by omega) (by omega) ?_) | ((first | (with_reducible show CallA _ _ _ _ _ _) | (with_reducible show CallQ _ _ _ _ _ _)); first | (refine Ret.goP (inRange_ret _ _ _) rfl ?_) | (refine Ret.goQP (inRange_ret _ _ _) rfl ?_)) | ((with_reducible show DrawA _ _ _ _ _ _); first | (first | (refine draw_quiet hT mixed (by decide +kernel) ?_) | (refine draw_hard hT mixed (by decide +kernel) ?_)))))
        all_goals first | rfl | omega | skip
        all_goals ((conv => whnf); refine ⟨i + 1, by omega, ?_, by omega⟩; rw [n1, n2, x1, x2]; first | (refine ⟨rfl, [], ?_, ?_⟩; all_goals (repeat' (first | exact rfl | exact trivial | (with_reducible assumption) | refine And.intro ?_ ?_)); all_goals (first | omega | assumption); done) | trace_state)
      · rw [if_neg a1] at x1 x2
        by_cases a2 : (E.getD ((i : Int)).toNat []).getD 2 0 = 0
        · rw [if_pos a2] at x2
          repeat' ((first | (conv => whnf) | skip); (first | ((with_reducible intro h); first | contradiction | omega | (conv => whnf) | skip) | (with_reducible refine And.intro ?_ ?_) | ((with_reducible show arithK _ _ _); refine arith_ok ⟨by omega, by omega⟩ ?_) | ((with_reducible show quoK _ _ _ _); refine quo_ok ⟨by omega, by omega⟩ (by omega) (by omega) ?_) | ((with_reducible show remK _ _ _ _); refine rem_ok (by omega) (by omega) ?_) | ((first | (with_reducible show CallA _ _ _ _ _ _) | (with_reducible show CallQ _ _ _ _ _ _)); first | (refine Ret.goP (inRange_ret _ _ _) rfl ?_) | (refine Ret.goQP (inRange_ret _ _ _) rfl ?_)) | ((with_reducible show DrawA _ _ _ _ _ _); first | (first | (refine draw_quiet hT mixed (by decide +kernel) ?_) | (refine draw_hard hT mixed (by decide +kernel) ?_)))))
          all_goals first | rfl | omega | skip
          all_goals ((conv => whnf); refine ⟨i + 1, by omega, ?_, by omega⟩; rw [n1, n2, x1, x2]; first | (refine ⟨rfl, [], ?_, ?_⟩; all_goals (repeat' (first | exact rfl | exact trivial | (with_reducible assumption) | refine And.intro ?_ ?_)); all_goals (first | omega | assumption); done) | trace_state)
        · rw [if_neg a2] at x2
          repeat' ((first | (conv => whnf) | skip); (first | ((with_reducible intro h); first | contradiction | omega | (conv => whnf) | skip) | (with_reducible refine And.intro ?_ ?_) | ((with_reducible show arithK _ _ _); refine arith_ok ⟨by omega, by omega⟩ ?_) | ((with_reducible show quoK _ _ _ _); refine quo_ok ⟨by omega, by omega⟩ (by omega) (by omega) ?_) | ((with_reducible show remK _ _ _ _); refine rem_ok (by omega) (by omega) ?_) | ((first | (with_reducible show CallA _ _ _ _ _ _) | (with_reducible show CallQ _ _ _ _ _ _)); first | (refine Ret.goP (inRange_ret _ _ _) rfl ?_) | (refine Ret.goQP (inRange_ret _ _ _) rfl ?_)) | ((with_reducible show DrawA _ _ _ _ _ _); first | (first | (refine draw_quiet hT mixed (by decide +kernel) ?_) | (refine draw_hard hT mixed (by decide +kernel) ?_)))))
          all_goals first | rfl | omega | skip
          all_goals ((conv => whnf); refine ⟨i + 1, by omega, ?_, by omega⟩; rw [n1, n2, x1, x2]; first | (refine ⟨rfl, [], ?_, ?_⟩; all_goals (repeat' (first | exact rfl | exact trivial | (with_reducible assumption) | refine And.intro ?_ ?_)); all_goals (first | omega | assumption); done) | trace_state)
    · obtain rfl : i = E.length := by omega
      repeat' ((first | (conv => whnf) | skip); (first | ((with_reducible intro h); first | contradiction | omega | (conv => whnf) | skip) | (with_reducible refine And.intro ?_ ?_) | ((with_reducible show arithK _ _ _); refine arith_ok ⟨by omega, by omega⟩ ?_) | ((with_reducible show quoK _ _ _ _); refine quo_ok ⟨by omega, by omega⟩ (by omega) (by omega) ?_) | ((with_reducible show remK _ _ _ _); refine rem_ok (by omega) (by omega) ?_) | ((first | (with_reducible show CallA _ _ _ _ _ _) | (with_reducible show CallQ _ _ _ _ _ _)); first | fail) | ((with_reducible show DrawA _ _ _ _ _ _); first | (first | (refine draw_quiet hT mixed (by decide +kernel) ?_) | (refine draw_hard hT mixed (by decide +kernel) ?_)))))
      all_goals first | rfl | omega | trace_state
set_option maxRecDepth 100000 in
theorem balance_ret (n : Int) (E : List (List Int)) (hn : 0 ≤ n ∧ n ≤ 35999) (hl : E.length ≤ 150) (hE : ∀ r ∈ E, enOk n r) : Ret Tryz.prog G 46 [REntry E, I 0, I n] (.tup [I (sD E E.length - sC E E.length), I 0]) := by
  refine ret_of_body hT Tryz.func46 rfl ?_ rfl
  have hb := s_bd hE E.length (Nat.le_refl _)
  repeat' ((first | (conv => whnf) | skip); (first | ((with_reducible intro h); first | contradiction | omega | (conv => whnf) | skip) | (with_reducible refine And.intro ?_ ?_) | ((with_reducible show arithK _ _ _); refine arith_ok ⟨by omega, by omega⟩ ?_) | ((with_reducible show quoK _ _ _ _); refine quo_ok ⟨by omega, by omega⟩ (by omega) (by omega) ?_) | ((with_reducible show remK _ _ _ _); refine rem_ok (by omega) (by omega) ?_) | ((first | (with_reducible show CallA _ _ _ _ _ _) | (with_reducible show CallQ _ _ _ _ _ _)); first | (refine Ret.go (isLedger_ret n E hn hl hE) rfl rfl ?_) | (refine Ret.goQ (isLedger_ret n E hn hl hE) rfl rfl ?_) | (refine Ret.goP (isAccount_ret _) rfl ?_) | (refine Ret.goQP (isAccount_ret _) rfl ?_) | (refine Ret.goP (isMonth_ret _) rfl ?_) | (refine Ret.goQP (isMonth_ret _) rfl ?_) | (refine Ret.go (turnover_ret n E hn hl hE) rfl rfl ?_) | (refine Ret.goQ (turnover_ret n E hn hl hE) rfl rfl ?_)) | ((with_reducible show DrawA _ _ _ _ _ _); first | (first | (refine draw_quiet hT mixed (by decide +kernel) ?_) | (refine draw_hard hT mixed (by decide +kernel) ?_)))))
  all_goals first | rfl | omega | trace_state
/-! A year's entries -/
theorem yr_en {n a b c d e f g : Int} (h : yrC n a b c d e f g = 0) : (isYr a b c d e f g ∧ 0 ≤ n ∧ n ≤ 35999) ∧ (∀ r ∈ yrR n a b c d e f g, enOk n r) ∧ sD (yrR n a b c d e f g) (yrR n a b c d e f g).length - sC (yrR n a b c d e f g) (yrR n a b c d e f g).length = b + c - d + e - f := by
  have hy : isYr a b c d e f g := by
    refine Classical.byContradiction fun hh => ?_
    rw [(yr_no1 (n := n) hh).2] at h; cases h
  have hm : 0 ≤ n ∧ n ≤ 35999 := by
    refine Classical.byContradiction fun hh => ?_
    rw [(yr_no2 hy hh).2] at h; cases h
  have hs : smallE (ents n (b + c) d e f) := by
    refine Classical.byContradiction fun hh => ?_
    rw [(yr_no3 hy hm hh).2] at h; cases h
  have hr := (yr_yes (g := g) hy hm hs).1
  have hb := yr_bd hy
  rw [hr]
  have hs1 := hs _ (show [n, 0, 3, b + c] ∈ ents n (b + c) d e f by simp)
  have hs2 := hs _ (show [n, 5, 0, d] ∈ ents n (b + c) d e f by simp)
  have hs3 := hs _ (show [n, 0, 6, e] ∈ ents n (b + c) d e f by simp)
  have hs4 := hs _ (show [n, 4, 0, f] ∈ ents n (b + c) d e f by simp)
  have g1 : ([n, 0, 3, b + c] : List Int).getD 3 0 = b + c := rfl
  have g2 : ([n, 5, 0, d] : List Int).getD 3 0 = d := rfl
  have g3 : ([n, 0, 6, e] : List Int).getD 3 0 = e := rfl
  have g4 : ([n, 4, 0, f] : List Int).getD 3 0 = f := rfl
  rw [g1] at hs1; rw [g2] at hs2; rw [g3] at hs3; rw [g4] at hs4
  refine ⟨⟨hy, hm⟩, fun r hr => ?_, ?_⟩
  · obtain ⟨h1, h2⟩ := List.mem_filter.1 hr
    have h1 : r ∈ ents n (b + c) d e f := List.mem_of_mem_take h1
    have h2 : 0 < r.getD 3 0 := of_decide_eq_true h2
    have h3 := hs r h1
    simp only [ents, List.mem_cons, List.not_mem_nil, or_false] at h1
    unfold enOk
    rcases h1 with rfl | rfl | rfl | rfl
    · (refine ⟨rfl, ?_, ?_, ?_, h2, h3⟩ <;> simp)
    · (refine ⟨rfl, ?_, ?_, ?_, h2, h3⟩ <;> simp)
    · (refine ⟨rfl, ?_, ?_, ?_, h2, h3⟩ <;> simp)
    · (refine ⟨rfl, ?_, ?_, ?_, h2, h3⟩ <;> simp)
  · unfold sD sC
    rw [List.take_length]
    have key : ∀ xss : List (List Int), (∀ r ∈ xss, 0 ≤ r.getD 3 0) → ((xss.filter posQ).map gD).sum = (xss.map gD).sum ∧ ((xss.filter posQ).map gC).sum = (xss.map gC).sum := by
      intro xss
      induction xss with
      | nil => intro _; exact ⟨rfl, rfl⟩
      | cons x r ih =>
        intro hx
        obtain ⟨i1, i2⟩ := ih fun y hy => hx y (List.mem_cons_of_mem _ hy)
        have h0 := hx x List.mem_cons_self
        by_cases hp : 0 < x.getD 3 0
        · have hq : posQ x = true := decide_eq_true hp
          rw [List.filter_cons_of_pos hq]
          simp only [List.map_cons, List.sum_cons, i1, i2]
          exact ⟨trivial, trivial⟩
        · have hq : ¬ posQ x = true := fun e => hp (of_decide_eq_true e)
          have hz : x.getD 3 0 = 0 := by omega
          have z1 : gD x = 0 := by unfold gD; rw [hz]; split <;> rfl
          have z2 : gC x = 0 := by
            unfold gC; rw [hz]
            split
            · rfl
            · split <;> rfl
          rw [List.filter_cons_of_neg hq]
          simp only [List.map_cons, List.sum_cons, i1, i2, z1, z2, Int.zero_add]
          exact ⟨trivial, trivial⟩
    have hk := key (ents n (b + c) d e f) (fun r hr => by
      simp only [ents, List.mem_cons, List.not_mem_nil, or_false] at hr
      rcases hr with rfl | rfl | rfl | rfl
      · rw [g1]; omega
      · rw [g2]; omega
      · rw [g3]; omega
      · rw [g4]; omega)
    have ht : outs (ents n (b + c) d e f) 4 = (ents n (b + c) d e f).filter posQ := by unfold outs; rw [List.take_of_length_le (Nat.le_refl 4)]
    rw [ht, hk.1, hk.2]
    have v1 : ((ents n (b + c) d e f).map gD).sum = b + c + (0 + (e + (0 + 0))) := rfl
    have v2 : ((ents n (b + c) d e f).map gC).sum = 0 + (d + (0 + (f + 0))) := rfl
    rw [v1, v2]
    omega
end Go.Proofs.YtenofbabiacacaaGreat
namespace Go.Proofs.YtenofbabiacacaaGreat
open Go.AE

attribute [local irreducible] CallA LoopA DrawA CallQ arithK quoK remK eqK
attribute [local irreducible] srcOk okP okT rowB
theorem ends_be {v : AV} {H : List Blk} (f : Int) (ls : List Int) (r : Int) (hp : List (List Int)) (ds : List Int) (fu ex : Int) (sel : List (Option Nat)) (h1 : vmV 0 sel v (.tup [.agg [I f, .sl 0 1 ls.length, I r], .sl 1 7 hp.length, .sl 2 1 ds.length, I fu, I ex])) (h2 : heapM 0 sel H [Di ls, Dh hp, Di ds]) (h3 : ls.length ≤ 27 ∧ hp.length ≤ 40 ∧ rowB hp ∧ ds.length ≤ 41) :
    ∃ sel v' J, vmV 0 sel v v' ∧ heapM 0 sel H J ∧ (∃ (x : ((Int × List Int × Int) × List (List Int) × List Int) × Int × Int) (a' s' : Int), v' = .tup [.agg [I x.1.1.1, .sl 0 1 x.1.1.2.1.length, I x.1.1.2.2], .sl 1 7 x.1.2.1.length, .sl 2 1 x.1.2.2.length, I x.2.1, I x.2.2] ∧ J = [Di x.1.1.2.1, Dh x.1.2.1, Di x.1.2.2] ∧ (x.1.1.2.1.length ≤ 27 ∧ x.1.2.1.length ≤ 40 ∧ rowB x.1.2.1 ∧ x.1.2.2.length ≤ 41) ∧ a' = 0 ∧ s' = 0) :=
  ⟨sel, _, _, h1, h2, (((f, ls, r), hp, ds), fu, ex), 0, 0, rfl, rfl, h3, rfl, rfl⟩
set_option maxRecDepth 100000 in
theorem drawBE_call (code : List Int) (hn : code.length ≤ 2305843009213693952) (hb : bytesOk code) : CallA Tryz.prog G 35 [Rb code] [] (fun v J => ∃ (x : ((Int × List Int × Int) × List (List Int) × List Int) × Int × Int) (a' s' : Int), v = .tup [.agg [I x.1.1.1, .sl 0 1 x.1.1.2.1.length, I x.1.1.2.2], .sl 1 7 x.1.2.1.length, .sl 2 1 x.1.2.2.length, I x.2.1, I x.2.2] ∧ J = [Di x.1.1.2.1, Dh x.1.2.1, Di x.1.2.2] ∧ (x.1.1.2.1.length ≤ 27 ∧ x.1.2.1.length ≤ 40 ∧ rowB x.1.2.1 ∧ x.1.2.2.length ≤ 41) ∧ a' = 0 ∧ s' = 0) := by
  refine CallA.ends (callA_of_body hT Tryz.func35 rfl ?_)
  repeat' ((first | (conv => whnf) | skip); (first | ((with_reducible intro h); first | contradiction | omega | (conv => whnf) | skip) | (with_reducible refine And.intro ?_ ?_) | ((with_reducible show arithK _ _ _); refine arith_ok ⟨by omega, by omega⟩ ?_) | ((with_reducible show quoK _ _ _ _); refine quo_ok ⟨by omega, by omega⟩ (by omega) (by omega) ?_) | ((with_reducible show remK _ _ _ _); refine rem_ok (by omega) (by omega) ?_) | ((first | (with_reducible show CallA _ _ _ _ _ _) | (with_reducible show CallQ _ _ _ _ _ _)); first | (refine CallA.goE3 false [] (drawCY_call code hn hb) rfl (by first | ((repeat' (first | exact rfl | exact trivial | (with_reducible assumption) | refine And.intro ?_ ?_ | omega | assumption)); done) | fail) (by first | ((repeat' (first | exact rfl | exact trivial | (with_reducible assumption) | refine And.intro ?_ ?_ | omega | assumption)); done) | fail) ?_; rintro ⟨⟨⟨f, ls, r⟩, hp, ds⟩, fu, ex, it⟩ _ _ ⟨⟨hl, hh, hw, hd⟩, _⟩; (first | (conv => whnf) | skip); dsimp only at hl hh hw hd)) | ((with_reducible show DrawA _ _ _ _ _ _); first | (refine draw_hard hT mixed (by decide +kernel) ?_))))
  all_goals first | rfl | omega | skip
  all_goals ((conv => whnf); apply ends_be f ls r hp ds _ _ [some 1, some 2, some 3])
  all_goals first | (exact ⟨hl, hh, hw, hd⟩) | (repeat' (first | exact rfl | exact trivial | refine And.intro ?_ ?_))
set_option maxRecDepth 100000 in
theorem drawYC_call (code : List Int) (hn : code.length ≤ 2305843009213693952) (hb : bytesOk code) : CallA Tryz.prog G 39 [Rb code] [] (fun v J => ∃ (x : (Int × List Int × Int) × List (List Int) × List Int) (a' s' : Int), v = .tup [.agg [I x.1.1, .sl 0 1 x.1.2.1.length, I x.1.2.2], .sl 1 7 x.2.1.length, .sl 2 1 x.2.2.length] ∧ J = [Di x.1.2.1, Dh x.2.1, Di x.2.2] ∧ (x.1.2.1.length ≤ 27 ∧ x.2.1.length ≤ 40 ∧ rowB x.2.1 ∧ x.2.2.length ≤ 41) ∧ a' = 0 ∧ s' = 0) := by
  refine CallA.ends (callA_of_body hT Tryz.func39 rfl ?_)
  repeat' ((first | (conv => whnf) | skip); (first | ((with_reducible intro h); first | contradiction | omega | (conv => whnf) | skip) | (with_reducible refine And.intro ?_ ?_) | ((with_reducible show arithK _ _ _); refine arith_ok ⟨by omega, by omega⟩ ?_) | ((with_reducible show quoK _ _ _ _); refine quo_ok ⟨by omega, by omega⟩ (by omega) (by omega) ?_) | ((with_reducible show remK _ _ _ _); refine rem_ok (by omega) (by omega) ?_) | ((first | (with_reducible show CallA _ _ _ _ _ _) | (with_reducible show CallQ _ _ _ _ _ _)); first | (refine CallA.goE3 false [] (drawAP_call code hn hb) rfl (by first | ((repeat' (first | exact rfl | exact trivial | (with_reducible assumption) | refine And.intro ?_ ?_ | omega | assumption)); done) | fail) (by first | ((repeat' (first | exact rfl | exact trivial | (with_reducible assumption) | refine And.intro ?_ ?_ | omega | assumption)); done) | fail) ?_; rintro ⟨⟨f, ls, r⟩, hp, ds⟩ _ _ ⟨⟨hl, hh, hw, hd⟩, _⟩; (first | (conv => whnf) | skip); dsimp only at hl hh hw hd)) | ((with_reducible show DrawA _ _ _ _ _ _); first | (refine draw_hard hT mixed (by decide +kernel) ?_))))
  all_goals first | rfl | omega | skip
  all_goals ((conv => whnf); apply ends_ap f ls r hp ds [some 1, some 2, some 3])
  all_goals first | (exact ⟨hl, hh, hw, hd⟩) | (repeat' (first | exact rfl | exact trivial | refine And.intro ?_ ?_))
set_option maxRecDepth 100000 in
theorem l02Draw_call (code : List Int) (hn : code.length ≤ 2305843009213693952) (hb : bytesOk code) (a s : Int) (h : srcOk code a s) : CallA Tryz.prog G 98 [.ptr 0 0] [Src code a s] (fun v J => ∃ x a' s' : Int, v = I x ∧ J = [Src code a' s'] ∧ True ∧ srcOk code a' s') := by
  refine CallA.ends (callA_of_body hT Tryz.func98 rfl ?_)
  repeat' ((first | (conv => whnf) | skip); (first | ((with_reducible intro h); first | contradiction | omega | (conv => whnf) | skip) | (with_reducible refine And.intro ?_ ?_) | ((with_reducible show arithK _ _ _); refine arith_ok ⟨by omega, by omega⟩ ?_) | ((with_reducible show quoK _ _ _ _); refine quo_ok ⟨by omega, by omega⟩ (by omega) (by omega) ?_) | ((with_reducible show remK _ _ _ _); refine rem_ok (by omega) (by omega) ?_) | ((first | (with_reducible show CallA _ _ _ _ _ _) | (with_reducible show CallQ _ _ _ _ _ _)); first | (refine CallA.goE3 false [0] (nextP_call code hn hb _ _ (30) (by first | decide | omega) ‹srcOk code _ _›) rfl (by first | ((repeat' (first | exact rfl | exact trivial | refine And.intro ?_ ?_)); done) | fail) (by first | ((repeat' (first | exact rfl | exact trivial | refine And.intro ?_ ?_)); done) | fail) ?_; rintro x a2 s2 ⟨hx, hs⟩; (first | (conv => whnf) | skip)) | (refine CallA.goE3 false [0] (nextP_call code hn hb _ _ (1500) (by first | decide | omega) ‹srcOk code _ _›) rfl (by first | ((repeat' (first | exact rfl | exact trivial | refine And.intro ?_ ?_)); done) | fail) (by first | ((repeat' (first | exact rfl | exact trivial | refine And.intro ?_ ?_)); done) | fail) ?_; rintro y a2 s2 ⟨hy, hs⟩; (first | (conv => whnf) | skip)) | (refine CallA.goE3 false [0, 1] (pickB_call code hn hb _ _ [-1, 0, 35999, 36000] (Nat.le_of_ble_eq_true rfl) (Nat.le_of_ble_eq_true rfl) ‹srcOk code _ _› (-1) 36000 (fun y hy => by simp only [List.mem_cons, List.not_mem_nil, or_false] at hy; omega)) rfl (by first | ((repeat' (first | exact rfl | exact trivial | refine And.intro ?_ ?_)); done) | fail) (by first | ((repeat' (first | exact rfl | exact trivial | refine And.intro ?_ ?_)); done) | fail) ?_; rintro z a2 s2 ⟨hz, hs⟩; (first | (conv => whnf) | skip))) | ((with_reducible show DrawA _ _ _ _ _ _); first | (refine draw_hard hT mixed (by decide +kernel) ?_))))
  all_goals first | rfl | omega | skip
  all_goals ((conv => whnf); first | (refine ends_src (ne := 1) [] z a2 s2 ?_ ?_ ?_; all_goals (repeat' (first | exact rfl | exact trivial | (with_reducible assumption) | refine And.intro ?_ ?_)); all_goals (first | omega | assumption | (simp; done) | (simp; omega)); done) | (refine ends_src (ne := 1) [] (22800 + y) a2 s2 ?_ ?_ ?_; all_goals (repeat' (first | exact rfl | exact trivial | (with_reducible assumption) | refine And.intro ?_ ?_)); all_goals (first | omega | assumption | (simp; done) | (simp; omega)); done) | trace_state)
set_option maxRecDepth 100000 in
theorem spec18E_ret (a b c d e f g : Int) (ha : 0 ≤ a ∧ a ≤ 1000000000000) (hb : 0 ≤ b ∧ b ≤ 1000000000000) (hc : 0 ≤ c ∧ c ≤ 1000000000000) (hd : 0 ≤ d ∧ d ≤ 1000000000000) (he : 0 ≤ e ∧ e ≤ 1000000000000) (hf : 0 ≤ f ∧ f ≤ 1000000000000) (hg : 0 ≤ g ∧ g ≤ 1000000000000) : Ret Tryz.prog G 64 [V7 a b c d e f g] (I (a + b + c - d + e - f)) :=
  specEnd2_ret a b c d e f g (fun y hy => by simp only [List.mem_cons, List.not_mem_nil, or_false] at hy; omega)
theorem ends_y7 {code : List Int} {v : AV} {H : List Blk} (a b c d e f g a2 s2 : Int) (sel : List (Option Nat)) (h1 : vmV 1 sel v (V7 a b c d e f g)) (h2 : heapM 1 sel H [Src code a2 s2]) (h3 : srcOk code a2 s2) :
    ∃ sel v' J, vmV 1 sel v v' ∧ heapM 1 sel H J ∧ (∃ (x : Int × Int × Int × Int × Int × Int × Int) (a' s' : Int), v' = V7 x.1 x.2.1 x.2.2.1 x.2.2.2.1 x.2.2.2.2.1 x.2.2.2.2.2.1 x.2.2.2.2.2.2 ∧ J = [Src code a' s'] ∧ True ∧ srcOk code a' s') :=
  ⟨sel, _, _, h1, h2, (a, b, c, d, e, f, g), a2, s2, rfl, rfl, trivial, h3⟩
set_option maxHeartbeats 8000000 in
set_option maxRecDepth 100000 in
theorem l18Draw_call (code : List Int) (hn : code.length ≤ 2305843009213693952) (hb : bytesOk code) (a s : Int) (h : srcOk code a s) : CallA Tryz.prog G 97 [.ptr 0 0] [Src code a s] (fun v J => ∃ (x : Int × Int × Int × Int × Int × Int × Int) (a' s' : Int), v = V7 x.1 x.2.1 x.2.2.1 x.2.2.2.1 x.2.2.2.2.1 x.2.2.2.2.2.1 x.2.2.2.2.2.2 ∧ J = [Src code a' s'] ∧ True ∧ srcOk code a' s') := by
  refine CallA.ends (callA_of_body hT Tryz.func97 rfl ?_)
  repeat' ((first | (conv => whnf) | skip); (first | ((with_reducible intro h); first | contradiction | omega | (conv => whnf) | skip) | (with_reducible refine And.intro ?_ ?_) | ((with_reducible show arithK _ _ _); refine arith_ok ⟨by omega, by omega⟩ ?_) | ((with_reducible show quoK _ _ _ _); refine quo_ok ⟨by omega, by omega⟩ (by omega) (by omega) ?_) | ((with_reducible show remK _ _ _ _); refine rem_ok (by omega) (by omega) ?_) | ((first | (with_reducible show CallA _ _ _ _ _ _) | (with_reducible show CallQ _ _ _ _ _ _)); first | (refine CallA.goE3 false [0] (nextP_call code hn hb _ _ (5000000) (by first | decide | omega) ‹srcOk code _ _›) rfl (by first | ((repeat' (first | exact rfl | exact trivial | refine And.intro ?_ ?_)); done) | fail) (by first | ((repeat' (first | exact rfl | exact trivial | refine And.intro ?_ ?_)); done) | fail) ?_; rintro x1 a2 s2 ⟨hx1, hs⟩; (first | (conv => whnf) | skip)) | (refine CallA.goE3 false [0] (nextP_call code hn hb _ _ (500000) (by first | decide | omega) ‹srcOk code _ _›) rfl (by first | ((repeat' (first | exact rfl | exact trivial | refine And.intro ?_ ?_)); done) | fail) (by first | ((repeat' (first | exact rfl | exact trivial | refine And.intro ?_ ?_)); done) | fail) ?_; rintro x2 a2 s2 ⟨hx2, hs⟩; (first | (conv => whnf) | skip)) | (refine CallA.goE3 false [0] (nextP_call code hn hb _ _ (50000) (by first | decide | omega) ‹srcOk code _ _›) rfl (by first | ((repeat' (first | exact rfl | exact trivial | refine And.intro ?_ ?_)); done) | fail) (by first | ((repeat' (first | exact rfl | exact trivial | refine And.intro ?_ ?_)); done) | fail) ?_; rintro x3 a2 s2 ⟨hx3, hs⟩; (first | (conv => whnf) | skip)) | (refine CallA.goE3 false [0] (nextP_call code hn hb _ _ (60000) (by first | decide | omega) ‹srcOk code _ _›) rfl (by first | ((repeat' (first | exact rfl | exact trivial | refine And.intro ?_ ?_)); done) | fail) (by first | ((repeat' (first | exact rfl | exact trivial | refine And.intro ?_ ?_)); done) | fail) ?_; rintro x4 a2 s2 ⟨hx4, hs⟩; (first | (conv => whnf) | skip)) | (refine CallA.goE3 false [0] (nextP_call code hn hb _ _ (200000) (by first | decide | omega) ‹srcOk code _ _›) rfl (by first | ((repeat' (first | exact rfl | exact trivial | refine And.intro ?_ ?_)); done) | fail) (by first | ((repeat' (first | exact rfl | exact trivial | refine And.intro ?_ ?_)); done) | fail) ?_; rintro x5 a2 s2 ⟨hx5, hs⟩; (first | (conv => whnf) | skip)) | (refine CallA.goE3 false [0] (nextP_call code hn hb _ _ (600000) (by first | decide | omega) ‹srcOk code _ _›) rfl (by first | ((repeat' (first | exact rfl | exact trivial | refine And.intro ?_ ?_)); done) | fail) (by first | ((repeat' (first | exact rfl | exact trivial | refine And.intro ?_ ?_)); done) | fail) ?_; rintro x6 a2 s2 ⟨hx6, hs⟩; (first | (conv => whnf) | skip)) | (refine CallA.goE3 false [0] (nextP_call code hn hb _ _ (40) (by first | decide | omega) ‹srcOk code _ _›) rfl (by first | ((repeat' (first | exact rfl | exact trivial | refine And.intro ?_ ?_)); done) | fail) (by first | ((repeat' (first | exact rfl | exact trivial | refine And.intro ?_ ?_)); done) | fail) ?_; rintro t a2 s2 ⟨ht, hs⟩; (first | (conv => whnf) | skip)) | (refine CallA.goE3 false [0, 3] (pickB_call code hn hb _ _ [-1, 1000000000000, 1000000000001] (Nat.le_of_ble_eq_true rfl) (Nat.le_of_ble_eq_true rfl) ‹srcOk code _ _› (-1) 1000000000001 (fun y hy => by simp only [List.mem_cons, List.not_mem_nil, or_false] at hy; omega)) rfl (by first | ((repeat' (first | exact rfl | exact trivial | refine And.intro ?_ ?_)); done) | fail) (by first | ((repeat' (first | exact rfl | exact trivial | refine And.intro ?_ ?_)); done) | fail) ?_; rintro z a2 s2 ⟨hz, hs⟩; (first | (conv => whnf) | skip)) | (refine Ret.go (spec18E_ret _ _ _ _ _ _ _ (by omega) (by omega) (by omega) (by omega) (by omega) (by omega) (by omega)) rfl rfl ?_) | (refine Ret.goQ (spec18E_ret _ _ _ _ _ _ _ (by omega) (by omega) (by omega) (by omega) (by omega) (by omega) (by omega)) rfl rfl ?_)) | ((with_reducible show DrawA _ _ _ _ _ _); first | (refine draw_hard hT mixed (by decide +kernel) ?_))))
  all_goals first | rfl | omega | skip
  all_goals ((conv => whnf); apply ends_y7 _ _ _ _ _ _ _ _ _ [])
  all_goals first | assumption | (repeat' (first | exact rfl | exact trivial | refine And.intro ?_ ?_))
theorem ends_ye {v : AV} {H : List Blk} (a b c d e f g m : Int) (h1 : vmV 0 [] v (.tup [V7 a b c d e f g, I m])) (h2 : heapM 0 [] H []) :
    ∃ sel v' J, vmV 0 sel v v' ∧ heapM 0 sel H J ∧ (∃ (x : (Int × Int × Int × Int × Int × Int × Int) × Int) (a' s' : Int), v' = .tup [V7 x.1.1 x.1.2.1 x.1.2.2.1 x.1.2.2.2.1 x.1.2.2.2.2.1 x.1.2.2.2.2.2.1 x.1.2.2.2.2.2.2, I x.2] ∧ J = [] ∧ a' = 0 ∧ s' = 0) :=
  ⟨[], _, _, h1, h2, ((a, b, c, d, e, f, g), m), 0, 0, rfl, rfl, rfl, rfl⟩
set_option maxRecDepth 100000 in
theorem drawYE_call (code : List Int) (hn : code.length ≤ 2305843009213693952) (hb : bytesOk code) : CallA Tryz.prog G 36 [Rb code] [] (fun v J => ∃ (x : (Int × Int × Int × Int × Int × Int × Int) × Int) (a' s' : Int), v = .tup [V7 x.1.1 x.1.2.1 x.1.2.2.1 x.1.2.2.2.1 x.1.2.2.2.2.1 x.1.2.2.2.2.2.1 x.1.2.2.2.2.2.2, I x.2] ∧ J = [] ∧ a' = 0 ∧ s' = 0) := by
  refine CallA.ends (callA_of_body hT Tryz.func36 rfl ?_)
  repeat' ((first | (conv => whnf) | skip); (first | ((with_reducible intro h); first | contradiction | omega | (conv => whnf) | skip) | (with_reducible refine And.intro ?_ ?_) | ((with_reducible show arithK _ _ _); refine arith_ok ⟨by omega, by omega⟩ ?_) | ((with_reducible show quoK _ _ _ _); refine quo_ok ⟨by omega, by omega⟩ (by omega) (by omega) ?_) | ((with_reducible show remK _ _ _ _); refine rem_ok (by omega) (by omega) ?_) | ((first | (with_reducible show CallA _ _ _ _ _ _) | (with_reducible show CallQ _ _ _ _ _ _)); first | (refine CallA.goE3 false [] (l01From_call code hn hb) rfl (by first | ((repeat' (first | exact rfl | exact trivial | (with_reducible assumption) | refine And.intro ?_ ?_ | omega | assumption)); done) | fail) (by first | ((repeat' (first | exact rfl | exact trivial | (with_reducible assumption) | refine And.intro ?_ ?_ | omega | assumption)); done) | fail) ?_; rintro x a2 s2 ⟨_, hs⟩; (first | (conv => whnf) | skip)) | (refine CallA.goE3 false [1] (l18Draw_call code hn hb _ _ ‹srcOk code _ _›) rfl (by first | ((repeat' (first | exact rfl | exact trivial | (with_reducible assumption) | refine And.intro ?_ ?_ | omega | assumption)); done) | fail) (by first | ((repeat' (first | exact rfl | exact trivial | (with_reducible assumption) | refine And.intro ?_ ?_ | omega | assumption)); done) | fail) ?_; rintro ⟨a, b, c, d, e, f, g⟩ a2 s2 ⟨_, hs⟩; (first | (conv => whnf) | skip)) | (refine CallA.goE3 false [1] (l02Draw_call code hn hb _ _ ‹srcOk code _ _›) rfl (by first | ((repeat' (first | exact rfl | exact trivial | (with_reducible assumption) | refine And.intro ?_ ?_ | omega | assumption)); done) | fail) (by first | ((repeat' (first | exact rfl | exact trivial | (with_reducible assumption) | refine And.intro ?_ ?_ | omega | assumption)); done) | fail) ?_; rintro m a2 s2 ⟨_, hs⟩; (first | (conv => whnf) | skip))) | ((with_reducible show DrawA _ _ _ _ _ _); first | (refine draw_hard hT mixed (by decide +kernel) ?_))))
  all_goals first | rfl | omega | skip
  all_goals ((conv => whnf); apply ends_ye a b c d e f g m)
  all_goals (repeat' (first | exact rfl | exact trivial | refine And.intro ?_ ?_))
end Go.Proofs.YtenofbabiacacaaGreat
namespace Go.Proofs.YtenofbabiacacaaGreat
open Go.AE

attribute [local irreducible] CallA LoopA DrawA CallQ arithK quoK remK eqK
attribute [local irreducible] rowB enOk
/-- With the interest that breaks even, the year closes, and what is left over is as it should be. -/
theorem be_close {f : Int} {ls : List Int} {r : Int} {hs : List (List Int)} {ds : List Int} {fu ex : Int} (h : beC f ls r hs ds fu ex = 0) :
    cyQ f ls r hs ds fu ex (beV f ls r hs ds fu ex) ∧ (0 ≤ yEnd f ls r hs ds fu ex (beV f ls r hs ds fu ex) - tot f ls r (later f ls hs ds)) ∧ (beV f ls r hs ds fu ex = 0 ∨ yEnd f ls r hs ds fu ex (beV f ls r hs ds fu ex) - tot f ls r (later f ls hs ds) = 0) := by
  have hq : cyQ f ls r hs ds fu ex 0 := by
    refine Classical.byContradiction fun hh => ?_
    have := cyC_ne hh
    unfold beC at h
    rw [if_pos (.inr (by omega))] at h
    omega
  have hm : beN f ls r hs ds fu ex ≤ 1000000000000 := by
    refine Classical.byContradiction fun hh => ?_
    unfold beC at h
    rw [if_neg (fun e => e.elim hh (fun e => e (cyC_zero hq)))] at h
    cases h
  have hv : beV f ls r hs ds fu ex = beN f ls r hs ds fu ex := wh_yes ⟨hq, hm⟩ _
  have hn : beN f ls r hs ds fu ex = max 0 (tot f ls r (later f ls hs ds) - yEnd f ls r hs ds fu ex 0) := rfl
  have he : yEnd f ls r hs ds fu ex (beN f ls r hs ds fu ex) = yEnd f ls r hs ds fu ex 0 + beN f ls r hs ds fu ex := by unfold yEnd; omega
  rw [hv]
  refine ⟨⟨⟨hq.1.1, hq.1.2.1, hq.1.2.2.1, by omega, by omega⟩, hq.2.1, ?_⟩, ?_, ?_⟩
  · have hy := yr_of hq
    unfold yrQ
    intro y hy2
    have hb := yr_bd hy
    simp only [List.mem_cons, List.not_mem_nil, or_false] at hy2
    omega
  · omega
  · omega
set_option maxRecDepth 100000 in
theorem implSurplus_ret (a b c d e f g : Int) (h : isYr a b c d e f g) : Ret Tryz.prog G 47 [V7 a b c d e f g] (.tup [I (a + b + c - d + e - f - g), I 0]) := by
  refine ret_of_body hT Tryz.func47 rfl ?_ rfl
  have hb := yr_bd h
  repeat' ((first | (conv => whnf) | skip); (first | ((with_reducible intro h); first | contradiction | omega | (conv => whnf) | skip) | (with_reducible refine And.intro ?_ ?_) | ((with_reducible show arithK _ _ _); refine arith_ok ⟨by omega, by omega⟩ ?_) | ((with_reducible show quoK _ _ _ _); refine quo_ok ⟨by omega, by omega⟩ (by omega) (by omega) ?_) | ((with_reducible show remK _ _ _ _); refine rem_ok (by omega) (by omega) ?_) | ((first | (with_reducible show CallA _ _ _ _ _ _) | (with_reducible show CallQ _ _ _ _ _ _)); first | (refine Ret.goP (implYear_ret _ _ _ _ _ _ _) rfl ?_) | (refine Ret.goQP (implYear_ret _ _ _ _ _ _ _) rfl ?_) | (refine Ret.go (implEndF_ret _ _ _ _ _ _ _ h) rfl rfl ?_) | (refine Ret.goQ (implEndF_ret _ _ _ _ _ _ _ h) rfl rfl ?_)) | ((with_reducible show DrawA _ _ _ _ _ _); first | (first | (refine draw_quiet hT mixed (by decide +kernel) ?_) | (refine draw_hard hT mixed (by decide +kernel) ?_)))))
  all_goals first | rfl | omega | contradiction | trace_state
set_option maxRecDepth 100000 in
theorem implEnd7_ret (a b c d e f g : Int) (h : isYr a b c d e f g) : Ret Tryz.prog G 34 [V7 a b c d e f g] (.tup [I (a + b + c - d + e - f), I 0]) := by
  refine ret_of_body hT Tryz.func34 rfl ?_ rfl
  have hb := yr_bd h
  repeat' ((first | (conv => whnf) | skip); (first | ((with_reducible intro h); first | contradiction | omega | (conv => whnf) | skip) | (with_reducible refine And.intro ?_ ?_) | ((with_reducible show arithK _ _ _); refine arith_ok ⟨by omega, by omega⟩ ?_) | ((with_reducible show quoK _ _ _ _); refine quo_ok ⟨by omega, by omega⟩ (by omega) (by omega) ?_) | ((with_reducible show remK _ _ _ _); refine rem_ok (by omega) (by omega) ?_) | ((first | (with_reducible show CallA _ _ _ _ _ _) | (with_reducible show CallQ _ _ _ _ _ _)); first | (refine Ret.goP (implYear_ret _ _ _ _ _ _ _) rfl ?_) | (refine Ret.goQP (implYear_ret _ _ _ _ _ _ _) rfl ?_) | (refine Ret.go (implEndF_ret _ _ _ _ _ _ _ h) rfl rfl ?_) | (refine Ret.goQ (implEndF_ret _ _ _ _ _ _ _ h) rfl rfl ?_)) | ((with_reducible show DrawA _ _ _ _ _ _); first | (first | (refine draw_quiet hT mixed (by decide +kernel) ?_) | (refine draw_hard hT mixed (by decide +kernel) ?_)))))
  all_goals first | rfl | omega | contradiction | trace_state
set_option maxRecDepth 100000 in
theorem likeEntries_ret (xss : List (List Int)) (hn : xss.length ≤ 1048576) : Ret Tryz.prog G 44 [REntry xss, REntry xss] (Bo true) := by
  refine ret_of_body hT Tryz.func44 rfl ?_ rfl
  repeat' ((first | (conv => whnf) | skip); (first | ((with_reducible intro h); first | contradiction | omega | (conv => whnf) | skip) | (with_reducible refine And.intro ?_ ?_) | ((with_reducible show arithK _ _ _); refine arith_ok ⟨by omega, by omega⟩ ?_) | ((with_reducible show quoK _ _ _ _); refine quo_ok ⟨by omega, by omega⟩ (by omega) (by omega) ?_) | ((with_reducible show remK _ _ _ _); refine rem_ok (by omega) (by omega) ?_) | ((first | (with_reducible show CallA _ _ _ _ _ _) | (with_reducible show CallQ _ _ _ _ _ _)); first | fail) | ((with_reducible show DrawA _ _ _ _ _ _); first | (first | (refine draw_quiet hT mixed (by decide +kernel) ?_) | (refine draw_hard hT mixed (by decide +kernel) ?_)))))
  all_goals first | omega | skip
  refine loop_rule hT (fun i : Nat => i ≤ xss.length) 26 0 [0, 1, 5] (fun i => [REntry xss, REntry xss, I i]) (fun _ => []) (fun i => xss.length - i) (0) (Nat.le_of_ble_eq_true rfl) ?_ ?_ ?_
  · exact Nat.zero_le _
  · (refine ⟨rfl, [], ?_, ?_⟩; all_goals (repeat' (first | exact rfl | exact trivial | (with_reducible assumption) | refine And.intro ?_ ?_ | omega)))
  · intro i h1
    repeat' ((first | (conv => whnf) | skip); (first | ((with_reducible intro h); first | contradiction | omega | (conv => whnf) | skip) | (with_reducible refine And.intro ?_ ?_) | ((with_reducible show arithK _ _ _); refine arith_ok ⟨by omega, by omega⟩ ?_) | ((with_reducible show quoK _ _ _ _); refine quo_ok ⟨by omega, by omega⟩ (by omega) (by omega) ?_) | ((with_reducible show remK _ _ _ _); refine rem_ok (by omega) (by omega) ?_) | ((first | (with_reducible show CallA _ _ _ _ _ _) | (with_reducible show CallQ _ _ _ _ _ _)); first | fail) | ((with_reducible show DrawA _ _ _ _ _ _); first | (first | (refine draw_quiet hT mixed (by decide +kernel) ?_) | (refine draw_hard hT mixed (by decide +kernel) ?_)))))
    all_goals first | rfl | omega | contradiction | skip
    all_goals ((conv => whnf); refine ⟨i + 1, by omega, ?_, by omega⟩; (refine ⟨rfl, [], ?_, ?_⟩; all_goals (repeat' (first | exact rfl | exact trivial | (with_reducible assumption) | refine And.intro ?_ ?_ | omega))))
attribute [local irreducible] beV beC okF nets loads tot clS agL yC cDt xR yrR yrC cyC wh whL
set_option maxHeartbeats 16000000 in
set_option maxRecDepth 100000 in
theorem lawYEnds_ret (code : List Int) (hn : code.length ≤ 9223372036854775807) (hb : bytesOk code) : Ret Tryz.prog G 7 [Rb code] (Bo true) := by
  refine ret_of_body hT Tryz.func7 rfl ?_ rfl
  by_cases hbig : (4096 : Int) < code.length
  · repeat' ((first | (conv => whnf) | skip); (first | ((with_reducible intro h); first | contradiction | omega | (conv => whnf) | skip) | (with_reducible refine And.intro ?_ ?_) | ((with_reducible show arithK _ _ _); refine arith_ok ⟨by omega, by omega⟩ ?_) | ((with_reducible show quoK _ _ _ _); refine quo_ok ⟨by omega, by omega⟩ (by omega) (by omega) ?_) | ((with_reducible show remK _ _ _ _); refine rem_ok (by omega) (by omega) ?_) | ((first | (with_reducible show CallA _ _ _ _ _ _) | (with_reducible show CallQ _ _ _ _ _ _)); first | (refine Ret.goP (big_ret code) rfl ?_) | (refine Ret.goQP (big_ret code) rfl ?_)) | ((with_reducible show DrawA _ _ _ _ _ _); first | (refine draw_hard hT mixed (by decide +kernel) ?_))))
    all_goals first | rfl | omega | trace_state
  · replace hn : code.length ≤ 2305843009213693952 := by omega
    repeat' ((first | (conv => whnf) | skip); (first | ((with_reducible intro h); first | contradiction | omega | (conv => whnf) | skip) | (with_reducible refine And.intro ?_ ?_) | ((with_reducible show arithK _ _ _); refine arith_ok ⟨by omega, by omega⟩ ?_) | ((with_reducible show quoK _ _ _ _); refine quo_ok ⟨by omega, by omega⟩ (by omega) (by omega) ?_) | ((with_reducible show remK _ _ _ _); refine rem_ok (by omega) (by omega) ?_) | ((first | (with_reducible show CallA _ _ _ _ _ _) | (with_reducible show CallQ _ _ _ _ _ _)); first | (refine Ret.goP (big_ret code) rfl ?_) | (refine Ret.goQP (big_ret code) rfl ?_) | (refine CallA.goE3 false [] (drawBE_call code hn hb) rfl (by first | ((repeat' (first | exact rfl | exact trivial | (with_reducible assumption) | refine And.intro ?_ ?_ | omega | assumption)); done) | fail) (by first | ((repeat' (first | exact rfl | exact trivial | (with_reducible assumption) | refine And.intro ?_ ?_ | omega | assumption)); done) | fail) ?_; rintro ⟨⟨⟨f, ls, r⟩, hs, ds⟩, fu, ex⟩ _ _ ⟨⟨hl, hh, hw, hd⟩, _⟩; (first | (conv => whnf) | skip); dsimp only at hl hh hw hd)) | ((with_reducible show DrawA _ _ _ _ _ _); first | (refine draw_hard hT mixed (by decide +kernel) ?_))))
    all_goals first | rfl | omega | skip
    have n1 : ls.length ≤ 1048576 := Nat.le_trans hl (by decide)
    have n2 : hs.length ≤ 1048576 := Nat.le_trans hh (by decide)
    have n3 : ds.length ≤ 1048576 := Nat.le_trans hd (by decide)
    have b1 := implBE_ret f ls r hs ds fu ex n1 n2 n3
    have b2 := specBE_ret f ls r hs ds fu ex n1 n2 n3
    repeat' ((first | (conv => whnf) | skip); (first | ((with_reducible intro h); first | contradiction | omega | (conv => whnf) | skip) | (with_reducible refine And.intro ?_ ?_) | ((with_reducible show arithK _ _ _); refine arith_ok ⟨by omega, by omega⟩ ?_) | ((with_reducible show quoK _ _ _ _); refine quo_ok ⟨by omega, by omega⟩ (by omega) (by omega) ?_) | ((with_reducible show remK _ _ _ _); refine rem_ok (by omega) (by omega) ?_) | ((first | (with_reducible show CallA _ _ _ _ _ _) | (with_reducible show CallQ _ _ _ _ _ _)); first | (refine Ret.use (b1) (by first | ((repeat' (first | exact rfl | exact trivial | (with_reducible assumption) | refine And.intro ?_ ?_ | omega | assumption)); done) | fail) ?_) | (refine Ret.useQ (b1) (by first | ((repeat' (first | exact rfl | exact trivial | (with_reducible assumption) | refine And.intro ?_ ?_ | omega | assumption)); done) | fail) rfl ?_) | (refine Ret.use (b2) (by first | ((repeat' (first | exact rfl | exact trivial | (with_reducible assumption) | refine And.intro ?_ ?_ | omega | assumption)); done) | fail) ?_) | (refine Ret.useQ (b2) (by first | ((repeat' (first | exact rfl | exact trivial | (with_reducible assumption) | refine And.intro ?_ ?_ | omega | assumption)); done) | fail) rfl ?_) | (refine CallA.goE3 false [] (drawYE_call code hn hb) rfl (by first | ((repeat' (first | exact rfl | exact trivial | (with_reducible assumption) | refine And.intro ?_ ?_ | omega | assumption)); done) | fail) (by first | ((repeat' (first | exact rfl | exact trivial | (with_reducible assumption) | refine And.intro ?_ ?_ | omega | assumption)); done) | fail) ?_; rintro ⟨⟨a, b, c, d, e, k, g⟩, m⟩ _ _ _; (first | (conv => whnf) | skip)) | (refine CallA.go [] (implYE_call m a b c d e k g) rfl (by first | ((repeat' (first | exact rfl | exact trivial | (with_reducible assumption) | refine And.intro ?_ ?_ | omega | assumption)); done) | fail) trivial ?_) | (refine CallA.go [] (specYE_call m a b c d e k g) rfl (by first | ((repeat' (first | exact rfl | exact trivial | (with_reducible assumption) | refine And.intro ?_ ?_ | omega | assumption)); done) | fail) trivial ?_) | (refine CallA.goE3 false [] (drawYC_call code hn hb) rfl (by first | ((repeat' (first | exact rfl | exact trivial | (with_reducible assumption) | refine And.intro ?_ ?_ | omega | assumption)); done) | fail) (by first | ((repeat' (first | exact rfl | exact trivial | (with_reducible assumption) | refine And.intro ?_ ?_ | omega | assumption)); done) | fail) ?_; rintro ⟨⟨f2, ls2, r2⟩, hs2, ds2⟩ _ _ ⟨⟨hl2, hh2, hw2, hd2⟩, _⟩; (first | (conv => whnf) | skip); dsimp only at hl2 hh2 hw2 hd2)) | ((with_reducible show DrawA _ _ _ _ _ _); first | (refine draw_hard hT mixed (by decide +kernel) ?_))))
    all_goals first | rfl | omega | skip
    have m1 : ls2.length ≤ 1048576 := Nat.le_trans hl2 (by decide)
    have m2 : hs2.length ≤ 1048576 := Nat.le_trans hh2 (by decide)
    have m3 : ds2.length ≤ 1048576 := Nat.le_trans hd2 (by decide)
    have hxl := x_len (f := f2) (ls := ls2) (r := r2) (hs := hs2)
    have hyl := yrR_len m a b c d e k g
    have c1 := implYC_ret f2 ls2 r2 hs2 ds2 m1 m2 m3
    have c2 := specYC_ret f2 ls2 r2 hs2 ds2 m1 m2 m3
    have c3 := implYC_ret f2 ls2 r2 hs2 (xR f2 ls2 r2 hs2) m1 m2 (by omega)
    have c4 : xC f2 ls2 r2 hs2 = 0 → cDt f2 ls2 r2 hs2 (xR f2 ls2 r2 hs2) true = 0 := fun h0 => by
      have ho : okF f2 ls2 r2 hs2 := by
        refine Classical.byContradiction fun hh => ?_
        rw [(x_no hh).2] at h0; cases h0
      rw [(x_yes ho).1]
      exact cDt_zero ⟨ho, eDs_ok ho⟩
    have e0 := fun h0 => yr_en (n := m) (a := a) (b := b) (c := c) (d := d) (e := e) (f := k) (g := g) h0
    have hba := fun h0 => balance_ret m (yrR m a b c d e k g) (e0 h0).1.2 (by omega) (e0 h0).2.1
    have hen := fun h0 => implEnd7_ret a b c d e k g (e0 h0).1.1
    have q1 : ((a, b, c, d, e, k, g), m).fst.fst = a := rfl
    by_cases hb0 : beC f ls r hs ds fu ex = 0
    · obtain ⟨hq, hs0, hs1⟩ := be_close hb0
      have hcy := implCY_call f ls r hs ds fu ex (beV f ls r hs ds fu ex) n1 n2 n3
      have hy := yr_of hq
      have hyb := yr_bd hy
      rw [cyT, yT_yes hq, cyC_zero hq] at hcy
      generalize cyL f ls r hs ds fu ex (beV f ls r hs ds fu ex) = L at hcy
      have hsp := implSurplus_ret _ _ _ _ _ _ _ hy
      unfold yEnd at hs0 hs1
      repeat' ((first | (conv => whnf) | skip); (first | ((with_reducible intro h); first | contradiction | omega | (conv => whnf) | skip) | (with_reducible refine And.intro ?_ ?_) | ((with_reducible show arithK _ _ _); refine arith_ok ⟨by omega, by omega⟩ ?_) | ((with_reducible show quoK _ _ _ _); refine quo_ok ⟨by omega, by omega⟩ (by omega) (by omega) ?_) | ((with_reducible show remK _ _ _ _); refine rem_ok (by omega) (by omega) ?_) | ((first | (with_reducible show CallA _ _ _ _ _ _) | (with_reducible show CallQ _ _ _ _ _ _)); first | (refine Ret.use (c1) (by first | ((repeat' (first | exact rfl | exact trivial | (with_reducible assumption) | refine And.intro ?_ ?_ | omega | assumption)); done) | fail) ?_) | (refine Ret.useQ (c1) (by first | ((repeat' (first | exact rfl | exact trivial | (with_reducible assumption) | refine And.intro ?_ ?_ | omega | assumption)); done) | fail) rfl ?_) | (refine Ret.use (c2) (by first | ((repeat' (first | exact rfl | exact trivial | (with_reducible assumption) | refine And.intro ?_ ?_ | omega | assumption)); done) | fail) ?_) | (refine Ret.useQ (c2) (by first | ((repeat' (first | exact rfl | exact trivial | (with_reducible assumption) | refine And.intro ?_ ?_ | omega | assumption)); done) | fail) rfl ?_) | (refine CallA.go [] (implX_call f2 ls2 r2 hs2 m1 m2) rfl (by first | ((repeat' (first | exact rfl | exact trivial | (with_reducible assumption) | refine And.intro ?_ ?_ | omega | assumption)); done) | fail) trivial ?_) | (refine CallA.go [] (specX_call f2 ls2 r2 hs2 m1 m2) rfl (by first | ((repeat' (first | exact rfl | exact trivial | (with_reducible assumption) | refine And.intro ?_ ?_ | omega | assumption)); done) | fail) trivial ?_) | (refine Ret.use (likeEntries_ret (yrR m a b c d e k g) (by omega)) (by first | ((repeat' (first | exact rfl | exact trivial | (with_reducible assumption) | refine And.intro ?_ ?_ | omega | assumption)); done) | fail) ?_) | (refine Ret.useQ (likeEntries_ret (yrR m a b c d e k g) (by omega)) (by first | ((repeat' (first | exact rfl | exact trivial | (with_reducible assumption) | refine And.intro ?_ ?_ | omega | assumption)); done) | fail) rfl ?_) | (refine Ret.useP (likeInts_ret (xR f2 ls2 r2 hs2) (xR f2 ls2 r2 hs2) (by omega)) (by first | ((repeat' (first | exact rfl | exact trivial | (with_reducible assumption) | refine And.intro ?_ ?_ | omega | assumption)); done) | fail) ?_) | (refine Ret.useQP (likeInts_ret (xR f2 ls2 r2 hs2) (xR f2 ls2 r2 hs2) (by omega)) (by first | ((repeat' (first | exact rfl | exact trivial | (with_reducible assumption) | refine And.intro ?_ ?_ | omega | assumption)); done) | fail) ?_) | (refine Ret.use (c3) (by first | ((repeat' (first | exact rfl | exact trivial | (with_reducible assumption) | refine And.intro ?_ ?_ | omega | assumption)); done) | fail) ?_) | (refine Ret.useQ (c3) (by first | ((repeat' (first | exact rfl | exact trivial | (with_reducible assumption) | refine And.intro ?_ ?_ | omega | assumption)); done) | fail) rfl ?_) | (refine Ret.use (hba ‹yrC m a b c d e k g = 0›) (by first | ((repeat' (first | exact rfl | exact trivial | (with_reducible assumption) | refine And.intro ?_ ?_ | omega | assumption)); done) | fail) ?_) | (refine Ret.go (hen ‹yrC m a b c d e k g = 0›) rfl rfl ?_; have y4 := (e0 ‹yrC m a b c d e k g = 0›).2.2; have yb := yr_bd (e0 ‹yrC m a b c d e k g = 0›).1.1) | (refine CallA.go [] (hcy) rfl (by first | ((repeat' (first | exact rfl | exact trivial | (with_reducible assumption) | refine And.intro ?_ ?_ | omega | assumption)); done) | fail) trivial ?_) | (refine Ret.go (hsp) rfl rfl ?_) | (refine Ret.goQ (hsp) rfl rfl ?_)) | ((with_reducible show DrawA _ _ _ _ _ _); first | (refine draw_hard hT mixed (by decide +kernel) ?_))))
      all_goals first | rfl | omega | contradiction | (exact absurd (c4 (by assumption)) (by assumption)) | trace_state
    · repeat' ((first | (conv => whnf) | skip); (first | ((with_reducible intro h); first | contradiction | omega | (conv => whnf) | skip) | (with_reducible refine And.intro ?_ ?_) | ((with_reducible show arithK _ _ _); refine arith_ok ⟨by omega, by omega⟩ ?_) | ((with_reducible show quoK _ _ _ _); refine quo_ok ⟨by omega, by omega⟩ (by omega) (by omega) ?_) | ((with_reducible show remK _ _ _ _); refine rem_ok (by omega) (by omega) ?_) | ((first | (with_reducible show CallA _ _ _ _ _ _) | (with_reducible show CallQ _ _ _ _ _ _)); first | (refine Ret.use (c1) (by first | ((repeat' (first | exact rfl | exact trivial | (with_reducible assumption) | refine And.intro ?_ ?_ | omega | assumption)); done) | fail) ?_) | (refine Ret.useQ (c1) (by first | ((repeat' (first | exact rfl | exact trivial | (with_reducible assumption) | refine And.intro ?_ ?_ | omega | assumption)); done) | fail) rfl ?_) | (refine Ret.use (c2) (by first | ((repeat' (first | exact rfl | exact trivial | (with_reducible assumption) | refine And.intro ?_ ?_ | omega | assumption)); done) | fail) ?_) | (refine Ret.useQ (c2) (by first | ((repeat' (first | exact rfl | exact trivial | (with_reducible assumption) | refine And.intro ?_ ?_ | omega | assumption)); done) | fail) rfl ?_) | (refine CallA.go [] (implX_call f2 ls2 r2 hs2 m1 m2) rfl (by first | ((repeat' (first | exact rfl | exact trivial | (with_reducible assumption) | refine And.intro ?_ ?_ | omega | assumption)); done) | fail) trivial ?_) | (refine CallA.go [] (specX_call f2 ls2 r2 hs2 m1 m2) rfl (by first | ((repeat' (first | exact rfl | exact trivial | (with_reducible assumption) | refine And.intro ?_ ?_ | omega | assumption)); done) | fail) trivial ?_) | (refine Ret.use (likeEntries_ret (yrR m a b c d e k g) (by omega)) (by first | ((repeat' (first | exact rfl | exact trivial | (with_reducible assumption) | refine And.intro ?_ ?_ | omega | assumption)); done) | fail) ?_) | (refine Ret.useQ (likeEntries_ret (yrR m a b c d e k g) (by omega)) (by first | ((repeat' (first | exact rfl | exact trivial | (with_reducible assumption) | refine And.intro ?_ ?_ | omega | assumption)); done) | fail) rfl ?_) | (refine Ret.useP (likeInts_ret (xR f2 ls2 r2 hs2) (xR f2 ls2 r2 hs2) (by omega)) (by first | ((repeat' (first | exact rfl | exact trivial | (with_reducible assumption) | refine And.intro ?_ ?_ | omega | assumption)); done) | fail) ?_) | (refine Ret.useQP (likeInts_ret (xR f2 ls2 r2 hs2) (xR f2 ls2 r2 hs2) (by omega)) (by first | ((repeat' (first | exact rfl | exact trivial | (with_reducible assumption) | refine And.intro ?_ ?_ | omega | assumption)); done) | fail) ?_) | (refine Ret.use (c3) (by first | ((repeat' (first | exact rfl | exact trivial | (with_reducible assumption) | refine And.intro ?_ ?_ | omega | assumption)); done) | fail) ?_) | (refine Ret.useQ (c3) (by first | ((repeat' (first | exact rfl | exact trivial | (with_reducible assumption) | refine And.intro ?_ ?_ | omega | assumption)); done) | fail) rfl ?_) | (refine Ret.use (hba ‹yrC m a b c d e k g = 0›) (by first | ((repeat' (first | exact rfl | exact trivial | (with_reducible assumption) | refine And.intro ?_ ?_ | omega | assumption)); done) | fail) ?_) | (refine Ret.go (hen ‹yrC m a b c d e k g = 0›) rfl rfl ?_; have y4 := (e0 ‹yrC m a b c d e k g = 0›).2.2; have yb := yr_bd (e0 ‹yrC m a b c d e k g = 0›).1.1) | fail) | ((with_reducible show DrawA _ _ _ _ _ _); first | (refine draw_hard hT mixed (by decide +kernel) ?_))))
      all_goals first | rfl | omega | contradiction | (exact absurd (c4 (by assumption)) (by assumption)) | trace_state
end Go.Proofs.YtenofbabiacacaaGreat
