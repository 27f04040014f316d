/-
  Suspect claims: what the functions return, and the law. No conditions but those in the statements.
-/
import Derived.Test.YtfecfonjfmieeaaDoorGb
namespace Go.Proofs.YtfecfonjfmieeaaDoor
open Go.AE

attribute [local irreducible] CallA LoopA DrawA CallQ arithK quoK remK eqK
/-! ### Suspect -/
def twin (c d : List Int) : Prop := d.getD 0 0 = c.getD 0 0 ∧ d.getD 1 0 = c.getD 1 0 ∧ d.getD 5 0 ≠ 2
instance (c d : List Int) : Decidable (twin c d) := by unfold twin; infer_instance
def suspQ (xss : List (List Int)) (j : Nat) : Bool := decide ((xss.getD j []).getD 1 0 ≤ 1 ∧ (xss.getD j []).getD 5 0 ≠ 2) && (xss.take j).any fun d => decide (twin (xss.getD j []) d)
def scR (xss : List (List Int)) : List Int := if areCl xss then idxs (suspQ xss) xss.length else []
def scC (xss : List (List Int)) : Int := if areCl xss then 0 else 1
abbrev scT (xss : List (List Int)) : AV := .tup [.sl 0 1 (scR xss).length, I (scC xss)]
theorem scR_len (xss : List (List Int)) : (scR xss).length ≤ 40 := by
  unfold scR
  split
  · rename_i h
    exact Nat.le_trans (idxs_len _ _) h.2
  · simp
theorem sc_yes {xss : List (List Int)} (h : areCl xss) : scR xss = idxs (suspQ xss) xss.length ∧ scC xss = 0 := by simp [scR, scC, h]
theorem sc_no {xss : List (List Int)} (h : ¬ areCl xss) : scR xss = [] ∧ scC xss = 1 := by simp [scR, scC, h]
theorem suspQ_no (xss : List (List Int)) (j : Nat) (h : ¬ (xss.getD j []).getD 1 0 ≤ 1 ∨ (xss.getD j []).getD 5 0 = 2 ∨ ((xss.take j).any fun d => decide (twin (xss.getD j []) d)) = false) : suspQ xss j = false := by
  unfold suspQ
  rcases h with h | h | h
  · rw [decide_eq_false (fun e => h e.1)]; rfl
  · rw [decide_eq_false (fun e => e.2 h)]; rfl
  · rw [h, Bool.and_false]
theorem suspQ_yes (xss : List (List Int)) (j : Nat) (h1 : (xss.getD j []).getD 1 0 ≤ 1) (h2 : (xss.getD j []).getD 5 0 ≠ 2) (h3 : ((xss.take j).any fun d => decide (twin (xss.getD j []) d)) = true) : suspQ xss j = true := by
  unfold suspQ
  rw [decide_eq_true ⟨h1, h2⟩, h3]; rfl
set_option maxRecDepth 100000 in
theorem suspect1_ret (c d : List Int) : Ret Tryd.prog G 63 [WClaim d, .rpc [I (c.getD 0 0), I (c.getD 1 0), I (c.getD 2 0), I (c.getD 3 0), I (c.getD 4 0), I (c.getD 5 0)] 0] (Bo (decide (twin c d))) := by
  refine ret_of_body hT Tryd.func63 rfl ?_ rfl
  repeat' (first | (intro h; first | contradiction | omega | skip) | (refine And.intro ?_ ?_) | (refine arith_ok ⟨by omega, by omega⟩ ?_) | (first | (refine draw_quiet hT mixed (by decide +kernel) ?_) | (refine draw_hard hT mixed (by decide +kernel) ?_)) | fail)
  all_goals first
    | (refine bv_true ?_; exact And.intro (by assumption) (And.intro (by assumption) (by assumption)))
    | (refine bv_false ?_; rintro ⟨h7, h8, h9⟩; contradiction)
set_option maxRecDepth 100000 in
theorem implSuspect_call (xss : List (List Int)) (hx : xss.length ≤ 1048576) : CallA Tryd.prog G 38 [RClaim xss] [] (fun v J => v = scT xss ∧ J = [Di (scR xss)]) := by
  refine CallA.ends (callA_of_body hT Tryd.func38 rfl ?_)
  by_cases ha : areCl xss
  · obtain ⟨h1, h2⟩ := sc_yes ha
    rw [scT, h1, h2]
    have hlen := ha.2
    repeat' (first | (intro h; first | contradiction | omega | skip) | (refine And.intro ?_ ?_) | (refine arith_ok ⟨by omega, by omega⟩ ?_) | (first | (refine draw_quiet hT mixed (by decide +kernel) ?_) | (refine draw_hard hT mixed (by decide +kernel) ?_)) | (refine Ret.goP (areClaims_ret xss (by omega)) rfl ?_) | (refine Ret.goQP (areClaims_ret xss (by omega)) rfl ?_))
    all_goals first | rfl | omega | skip
    refine loop_rule hT (fun i : Nat => i ≤ xss.length) 37 1 [0, 4, 11, 12, 13] (fun i => [RClaim xss, .sl 1 1 (idxs (suspQ xss) i).length, RClaim xss, I xss.length, I i]) (fun i => [.dead, Di (idxs (suspQ xss) i)]) (fun i => xss.length - i) (0) (Nat.le_of_ble_eq_true rfl) ?_ ?_ ?_
    · exact Nat.zero_le _
    · (first | (refine ⟨rfl, [], ?_, ?_⟩; all_goals (repeat' (first | exact rfl | exact trivial | omega | assumption | fail | refine And.intro ?_ ?_)); done) | (refine ⟨rfl, [some 1], ?_, ?_⟩; all_goals (repeat' (first | exact rfl | exact trivial | omega | assumption | fail | refine And.intro ?_ ?_)); done) | (refine ⟨rfl, [some 2], ?_, ?_⟩; all_goals (repeat' (first | exact rfl | exact trivial | omega | assumption | fail | refine And.intro ?_ ?_)); done) | (refine ⟨rfl, [some 3], ?_, ?_⟩; all_goals (repeat' (first | exact rfl | exact trivial | omega | assumption | fail | refine And.intro ?_ ?_)); done) | (refine ⟨rfl, [some 0], ?_, ?_⟩; all_goals (repeat' (first | exact rfl | exact trivial | omega | assumption | fail | refine And.intro ?_ ?_)); done) | (refine ⟨rfl, [some 4], ?_, ?_⟩; all_goals (repeat' (first | exact rfl | exact trivial | omega | assumption | fail | refine And.intro ?_ ?_)); done))
    · rintro i h1
      have hil := idxs_len (suspQ xss) i
      by_cases hi : i < xss.length
      · have hc := containsFuncClaim_ret 63 [.rpc [I ((xss.getD i []).getD 0 0), I ((xss.getD i []).getD 1 0), I ((xss.getD i []).getD 2 0), I ((xss.getD i []).getD 3 0), I ((xss.getD i []).getD 4 0), I ((xss.getD i []).getD 5 0)] 0]
          (fun d => decide (twin (xss.getD i []) d)) (xss.take i) (Nat.le_trans (List.length_take_le _ _) (by omega)) rfl fun j _ => suspect1_ret _ _
        repeat' (first | (intro h; first | contradiction | omega | skip) | (refine And.intro ?_ ?_) | (refine arith_ok ⟨by omega, by omega⟩ ?_) | (first | (refine draw_quiet hT mixed (by decide +kernel) ?_) | (refine draw_hard hT mixed (by decide +kernel) ?_)) | (refine Ret.useB (hc) (by first | ((repeat' (first | exact rfl | exact trivial | refine And.intro ?_ ?_ | omega | assumption)); done) | fail) ?_) | (refine Ret.useQB (hc) (by first | ((repeat' (first | exact rfl | exact trivial | refine And.intro ?_ ?_ | omega | assumption)); done) | fail) ?_))
        all_goals first | omega | (show 1 = 1; rfl) | (simp only [List.nil_append, List.length_cons, List.length_nil]; omega) | skip
        all_goals first
          | (have hq : suspQ xss i = true := suspQ_yes xss i (Int.not_lt.1 (by assumption)) (by assumption) (by assumption); refine ⟨i + 1, by omega, ?_, by omega⟩; have hst := idxs_yes hq; have hsl := congrArg List.length hst; (first | (refine ⟨rfl, [], ?_, ?_⟩; all_goals (repeat' (first | exact rfl | exact trivial | omega | assumption | first | exact congrArg (D.ints .i64) hst.symm | exact hsl.symm | refine And.intro ?_ ?_)); done) | (refine ⟨rfl, [some 1], ?_, ?_⟩; all_goals (repeat' (first | exact rfl | exact trivial | omega | assumption | first | exact congrArg (D.ints .i64) hst.symm | exact hsl.symm | refine And.intro ?_ ?_)); done) | (refine ⟨rfl, [some 2], ?_, ?_⟩; all_goals (repeat' (first | exact rfl | exact trivial | omega | assumption | first | exact congrArg (D.ints .i64) hst.symm | exact hsl.symm | refine And.intro ?_ ?_)); done) | (refine ⟨rfl, [some 3], ?_, ?_⟩; all_goals (repeat' (first | exact rfl | exact trivial | omega | assumption | first | exact congrArg (D.ints .i64) hst.symm | exact hsl.symm | refine And.intro ?_ ?_)); done) | (refine ⟨rfl, [some 0], ?_, ?_⟩; all_goals (repeat' (first | exact rfl | exact trivial | omega | assumption | first | exact congrArg (D.ints .i64) hst.symm | exact hsl.symm | refine And.intro ?_ ?_)); done) | (refine ⟨rfl, [some 4], ?_, ?_⟩; all_goals (repeat' (first | exact rfl | exact trivial | omega | assumption | first | exact congrArg (D.ints .i64) hst.symm | exact hsl.symm | refine And.intro ?_ ?_)); done)))
          | (have hq : suspQ xss i = false := suspQ_no xss i (by first | (left; exact Int.not_le.2 h) | (right; left; exact h) | (right; right; exact h)); refine ⟨i + 1, by omega, ?_, by omega⟩; have hst := idxs_no hq; (first | (refine ⟨rfl, [], ?_, ?_⟩; all_goals (repeat' (first | exact rfl | exact trivial | omega | assumption | first | exact congrArg (D.ints .i64) hst.symm | exact congrArg List.length hst.symm | refine And.intro ?_ ?_)); done) | (refine ⟨rfl, [some 1], ?_, ?_⟩; all_goals (repeat' (first | exact rfl | exact trivial | omega | assumption | first | exact congrArg (D.ints .i64) hst.symm | exact congrArg List.length hst.symm | refine And.intro ?_ ?_)); done) | (refine ⟨rfl, [some 2], ?_, ?_⟩; all_goals (repeat' (first | exact rfl | exact trivial | omega | assumption | first | exact congrArg (D.ints .i64) hst.symm | exact congrArg List.length hst.symm | refine And.intro ?_ ?_)); done) | (refine ⟨rfl, [some 3], ?_, ?_⟩; all_goals (repeat' (first | exact rfl | exact trivial | omega | assumption | first | exact congrArg (D.ints .i64) hst.symm | exact congrArg List.length hst.symm | refine And.intro ?_ ?_)); done) | (refine ⟨rfl, [some 0], ?_, ?_⟩; all_goals (repeat' (first | exact rfl | exact trivial | omega | assumption | first | exact congrArg (D.ints .i64) hst.symm | exact congrArg List.length hst.symm | refine And.intro ?_ ?_)); done) | (refine ⟨rfl, [some 4], ?_, ?_⟩; all_goals (repeat' (first | exact rfl | exact trivial | omega | assumption | first | exact congrArg (D.ints .i64) hst.symm | exact congrArg List.length hst.symm | refine And.intro ?_ ?_)); done)))
          | trace_state
      · obtain rfl : i = xss.length := by omega
        repeat' (first | (intro h; first | contradiction | omega | skip) | (refine And.intro ?_ ?_) | (refine arith_ok ⟨by omega, by omega⟩ ?_) | (first | (refine draw_quiet hT mixed (by decide +kernel) ?_) | (refine draw_hard hT mixed (by decide +kernel) ?_)) | fail)
        all_goals first | omega | skip
        (first | (refine ⟨[], .tup [.sl 0 1 (idxs (suspQ xss) xss.length).length, I 0], [Di (idxs (suspQ xss) xss.length)], ?_, ?_, ?_⟩; all_goals (repeat' (first | exact rfl | exact trivial | omega | assumption | fail | refine And.intro ?_ ?_)); done) | (refine ⟨[some 1], .tup [.sl 0 1 (idxs (suspQ xss) xss.length).length, I 0], [Di (idxs (suspQ xss) xss.length)], ?_, ?_, ?_⟩; all_goals (repeat' (first | exact rfl | exact trivial | omega | assumption | fail | refine And.intro ?_ ?_)); done) | (refine ⟨[some 0], .tup [.sl 0 1 (idxs (suspQ xss) xss.length).length, I 0], [Di (idxs (suspQ xss) xss.length)], ?_, ?_, ?_⟩; all_goals (repeat' (first | exact rfl | exact trivial | omega | assumption | fail | refine And.intro ?_ ?_)); done) | (refine ⟨[some 2], .tup [.sl 0 1 (idxs (suspQ xss) xss.length).length, I 0], [Di (idxs (suspQ xss) xss.length)], ?_, ?_, ?_⟩; all_goals (repeat' (first | exact rfl | exact trivial | omega | assumption | fail | refine And.intro ?_ ?_)); done) | (refine ⟨[some 3], .tup [.sl 0 1 (idxs (suspQ xss) xss.length).length, I 0], [Di (idxs (suspQ xss) xss.length)], ?_, ?_, ?_⟩; all_goals (repeat' (first | exact rfl | exact trivial | omega | assumption | fail | refine And.intro ?_ ?_)); done))
  · obtain ⟨h1, h2⟩ := sc_no ha
    rw [scT, h1, h2]
    repeat' (first | (intro h; first | contradiction | omega | skip) | (refine And.intro ?_ ?_) | (refine arith_ok ⟨by omega, by omega⟩ ?_) | (first | (refine draw_quiet hT mixed (by decide +kernel) ?_) | (refine draw_hard hT mixed (by decide +kernel) ?_)) | (refine Ret.goP (areClaims_ret xss (by omega)) rfl ?_) | (refine Ret.goQP (areClaims_ret xss (by omega)) rfl ?_))
    (refine ⟨[none], .tup [.sl 0 1 0, I 1], [Di []], ?_, ?_, ?_⟩; all_goals (repeat' (first | exact rfl | exact trivial | omega | refine And.intro ?_ ?_)))
def pairQ (c d : List Int) : Bool := decide (twin c d ∧ c.getD 1 0 ≤ 1 ∧ c.getD 5 0 ≠ 2)
def susTo (xss : List (List Int)) (j k : Nat) : Bool := (xss.take k).any (pairQ (xss.getD j []))
theorem susTo_all (xss : List (List Int)) (j : Nat) : susTo xss j j = suspQ xss j := by
  unfold susTo suspQ
  by_cases h : (xss.getD j []).getD 1 0 ≤ 1 ∧ (xss.getD j []).getD 5 0 ≠ 2
  · rw [decide_eq_true h, Bool.true_and]
    congr 1
    funext d
    exact decide_eq_decide.2 ⟨fun e => e.1, fun e => ⟨e, h⟩⟩
  · rw [decide_eq_false h, Bool.false_and]
    refine (List.any_eq_false).2 fun d _ => ?_
    unfold pairQ
    rw [decide_eq_false fun e => h e.2]
    exact Bool.false_ne_true
theorem susTo_next {xss : List (List Int)} {k : Nat} (j : Nat) (h : k < xss.length) : susTo xss j (k + 1) = (susTo xss j k || pairQ (xss.getD j []) (xss.getD k [])) := by
  unfold susTo
  rw [take_snoc [] h, List.any_append]
  simp
theorem susTo_t {xss : List (List Int)} {k : Nat} {j : Nat} (h : k < xss.length) (h1 : susTo xss j k = true) : susTo xss j (k + 1) = true := by rw [susTo_next j h, h1]; rfl
theorem susTo_y {xss : List (List Int)} {k : Nat} {j : Nat} (h : k < xss.length) (h1 : pairQ (xss.getD j []) (xss.getD k []) = true) : susTo xss j (k + 1) = true := by rw [susTo_next j h, h1, Bool.or_true]
theorem susTo_n {xss : List (List Int)} {k : Nat} {j : Nat} (h : k < xss.length) (h1 : susTo xss j k = false) (h2 : pairQ (xss.getD j []) (xss.getD k []) = false) : susTo xss j (k + 1) = false := by rw [susTo_next j h, h1, h2]; rfl
set_option maxRecDepth 100000 in
theorem specSuspect_call (xss : List (List Int)) (hx : xss.length ≤ 1048576) : CallA Tryd.prog G 37 [RClaim xss] [] (fun v J => v = scT xss ∧ J = [Di (scR xss)]) := by
  refine CallA.ends (callA_of_body hT Tryd.func37 rfl ?_)
  by_cases ha : areCl xss
  · obtain ⟨h1, h2⟩ := sc_yes ha
    rw [scT, h1, h2]
    have hlen := ha.2
    repeat' (first | (intro h; first | contradiction | omega | skip) | (refine And.intro ?_ ?_) | (refine arith_ok ⟨by omega, by omega⟩ ?_) | (first | (refine draw_quiet hT mixed (by decide +kernel) ?_) | (refine draw_hard hT mixed (by decide +kernel) ?_)) | (refine Ret.goP (l25Claims_ret xss (by omega)) rfl ?_) | (refine Ret.goQP (l25Claims_ret xss (by omega)) rfl ?_))
    all_goals first | rfl | omega | skip
    refine loop_rule hT (fun i : Nat => i ≤ xss.length) 82 1 [0, 4, 5] (fun i => [RClaim xss, .sl 1 1 (idxs (suspQ xss) i).length, I i]) (fun i => [.dead, Di (idxs (suspQ xss) i)]) (fun i => xss.length - i) (0) (Nat.le_of_ble_eq_true rfl) ?_ ?_ ?_
    · exact Nat.zero_le _
    · (first | (refine ⟨rfl, [], ?_, ?_⟩; all_goals (repeat' (first | exact rfl | exact trivial | omega | assumption | fail | refine And.intro ?_ ?_)); done) | (refine ⟨rfl, [some 1], ?_, ?_⟩; all_goals (repeat' (first | exact rfl | exact trivial | omega | assumption | fail | refine And.intro ?_ ?_)); done) | (refine ⟨rfl, [some 2], ?_, ?_⟩; all_goals (repeat' (first | exact rfl | exact trivial | omega | assumption | fail | refine And.intro ?_ ?_)); done) | (refine ⟨rfl, [some 3], ?_, ?_⟩; all_goals (repeat' (first | exact rfl | exact trivial | omega | assumption | fail | refine And.intro ?_ ?_)); done) | (refine ⟨rfl, [some 0], ?_, ?_⟩; all_goals (repeat' (first | exact rfl | exact trivial | omega | assumption | fail | refine And.intro ?_ ?_)); done) | (refine ⟨rfl, [some 4], ?_, ?_⟩; all_goals (repeat' (first | exact rfl | exact trivial | omega | assumption | fail | refine And.intro ?_ ?_)); done))
    · rintro i h1
      have hil := idxs_len (suspQ xss) i
      by_cases hi : i < xss.length
      · repeat' (first | (intro h; first | contradiction | omega | skip) | (refine And.intro ?_ ?_) | (refine arith_ok ⟨by omega, by omega⟩ ?_) | (first | (refine draw_quiet hT mixed (by decide +kernel) ?_) | (refine draw_hard hT mixed (by decide +kernel) ?_)) | fail)
        all_goals first | rfl | omega | skip
        refine loop_rule hT (fun p : Nat × Bool => p.1 ≤ i ∧ susTo xss i p.1 = p.2) 82 2 [0, 4, 5, 6, 7] (fun p => [RClaim xss, .sl 1 1 (idxs (suspQ xss) i).length, I i, Bo p.2, I p.1]) (fun p => [.dead, Di (idxs (suspQ xss) i)]) (fun p => i - p.1) ((0, false)) (Nat.le_of_ble_eq_true rfl) ?_ ?_ ?_
        · exact ⟨Nat.zero_le _, rfl⟩
        · (first | (refine ⟨rfl, [], ?_, ?_⟩; all_goals (repeat' (first | exact rfl | exact trivial | omega | assumption | fail | refine And.intro ?_ ?_)); done) | (refine ⟨rfl, [some 1], ?_, ?_⟩; all_goals (repeat' (first | exact rfl | exact trivial | omega | assumption | fail | refine And.intro ?_ ?_)); done) | (refine ⟨rfl, [some 2], ?_, ?_⟩; all_goals (repeat' (first | exact rfl | exact trivial | omega | assumption | fail | refine And.intro ?_ ?_)); done) | (refine ⟨rfl, [some 3], ?_, ?_⟩; all_goals (repeat' (first | exact rfl | exact trivial | omega | assumption | fail | refine And.intro ?_ ?_)); done) | (refine ⟨rfl, [some 0], ?_, ?_⟩; all_goals (repeat' (first | exact rfl | exact trivial | omega | assumption | fail | refine And.intro ?_ ?_)); done) | (refine ⟨rfl, [some 4], ?_, ?_⟩; all_goals (repeat' (first | exact rfl | exact trivial | omega | assumption | fail | refine And.intro ?_ ?_)); done))
        · rintro ⟨k, b⟩ ⟨h3, h4⟩
          dsimp only at h3 h4 ⊢
          by_cases hk : k < i
          · have hkx : k < xss.length := by omega
            cases b
            · repeat' (first | (intro h; first | contradiction | omega | skip) | (refine And.intro ?_ ?_) | (refine arith_ok ⟨by omega, by omega⟩ ?_) | (first | (refine draw_quiet hT mixed (by decide +kernel) ?_) | (refine draw_hard hT mixed (by decide +kernel) ?_)) | fail)
              all_goals first | omega | (show _ < xss.length; omega) | skip
              all_goals first
                | (refine ⟨(k + 1, true), ⟨by dsimp only; omega, susTo_y hkx (decide_eq_true (And.intro (And.intro (by assumption) (And.intro (by assumption) (by assumption))) (And.intro (by assumption) (by assumption))))⟩, ?_, by dsimp only; omega⟩; (first | (refine ⟨rfl, [], ?_, ?_⟩; all_goals (repeat' (first | exact rfl | exact trivial | omega | assumption | fail | refine And.intro ?_ ?_)); done) | (refine ⟨rfl, [some 1], ?_, ?_⟩; all_goals (repeat' (first | exact rfl | exact trivial | omega | assumption | fail | refine And.intro ?_ ?_)); done) | (refine ⟨rfl, [some 2], ?_, ?_⟩; all_goals (repeat' (first | exact rfl | exact trivial | omega | assumption | fail | refine And.intro ?_ ?_)); done) | (refine ⟨rfl, [some 3], ?_, ?_⟩; all_goals (repeat' (first | exact rfl | exact trivial | omega | assumption | fail | refine And.intro ?_ ?_)); done) | (refine ⟨rfl, [some 0], ?_, ?_⟩; all_goals (repeat' (first | exact rfl | exact trivial | omega | assumption | fail | refine And.intro ?_ ?_)); done) | (refine ⟨rfl, [some 4], ?_, ?_⟩; all_goals (repeat' (first | exact rfl | exact trivial | omega | assumption | fail | refine And.intro ?_ ?_)); done)))
                | (refine ⟨(k + 1, false), ⟨by dsimp only; omega, susTo_n hkx h4 (decide_eq_false (by rintro ⟨⟨h7, h8, h9⟩, h10, h11⟩; first | exact h h7 | exact h h8 | exact h h9 | exact h h10 | exact h h11 | exact h9 h | exact h11 h))⟩, ?_, by dsimp only; omega⟩; (first | (refine ⟨rfl, [], ?_, ?_⟩; all_goals (repeat' (first | exact rfl | exact trivial | omega | assumption | fail | refine And.intro ?_ ?_)); done) | (refine ⟨rfl, [some 1], ?_, ?_⟩; all_goals (repeat' (first | exact rfl | exact trivial | omega | assumption | fail | refine And.intro ?_ ?_)); done) | (refine ⟨rfl, [some 2], ?_, ?_⟩; all_goals (repeat' (first | exact rfl | exact trivial | omega | assumption | fail | refine And.intro ?_ ?_)); done) | (refine ⟨rfl, [some 3], ?_, ?_⟩; all_goals (repeat' (first | exact rfl | exact trivial | omega | assumption | fail | refine And.intro ?_ ?_)); done) | (refine ⟨rfl, [some 0], ?_, ?_⟩; all_goals (repeat' (first | exact rfl | exact trivial | omega | assumption | fail | refine And.intro ?_ ?_)); done) | (refine ⟨rfl, [some 4], ?_, ?_⟩; all_goals (repeat' (first | exact rfl | exact trivial | omega | assumption | fail | refine And.intro ?_ ?_)); done)))
                | (trace_state; sorry)
            · repeat' (first | (intro h; first | contradiction | omega | skip) | (refine And.intro ?_ ?_) | (refine arith_ok ⟨by omega, by omega⟩ ?_) | (first | (refine draw_quiet hT mixed (by decide +kernel) ?_) | (refine draw_hard hT mixed (by decide +kernel) ?_)) | fail)
              all_goals first | omega | (show _ < xss.length; omega) | skip
              all_goals first
                | (refine ⟨(k + 1, true), ⟨by dsimp only; omega, susTo_t hkx h4⟩, ?_, by dsimp only; omega⟩; (first | (refine ⟨rfl, [], ?_, ?_⟩; all_goals (repeat' (first | exact rfl | exact trivial | omega | assumption | fail | refine And.intro ?_ ?_)); done) | (refine ⟨rfl, [some 1], ?_, ?_⟩; all_goals (repeat' (first | exact rfl | exact trivial | omega | assumption | fail | refine And.intro ?_ ?_)); done) | (refine ⟨rfl, [some 2], ?_, ?_⟩; all_goals (repeat' (first | exact rfl | exact trivial | omega | assumption | fail | refine And.intro ?_ ?_)); done) | (refine ⟨rfl, [some 3], ?_, ?_⟩; all_goals (repeat' (first | exact rfl | exact trivial | omega | assumption | fail | refine And.intro ?_ ?_)); done) | (refine ⟨rfl, [some 0], ?_, ?_⟩; all_goals (repeat' (first | exact rfl | exact trivial | omega | assumption | fail | refine And.intro ?_ ?_)); done) | (refine ⟨rfl, [some 4], ?_, ?_⟩; all_goals (repeat' (first | exact rfl | exact trivial | omega | assumption | fail | refine And.intro ?_ ?_)); done)))
                | (trace_state; sorry)
          · obtain rfl : k = i := by omega
            rw [susTo_all] at h4
            cases b
            · repeat' (first | (intro h; first | contradiction | omega | skip) | (refine And.intro ?_ ?_) | (refine arith_ok ⟨by omega, by omega⟩ ?_) | (first | (refine draw_quiet hT mixed (by decide +kernel) ?_) | (refine draw_hard hT mixed (by decide +kernel) ?_)) | fail)
              all_goals first | omega | skip
              all_goals first
                | (refine ⟨k + 1, by omega, ?_, by omega⟩; have hst := idxs_no h4; (first | (refine ⟨rfl, [], ?_, ?_⟩; all_goals (repeat' (first | exact rfl | exact trivial | omega | assumption | first | exact congrArg (D.ints .i64) hst.symm | exact congrArg List.length hst.symm | refine And.intro ?_ ?_)); done) | (refine ⟨rfl, [some 1], ?_, ?_⟩; all_goals (repeat' (first | exact rfl | exact trivial | omega | assumption | first | exact congrArg (D.ints .i64) hst.symm | exact congrArg List.length hst.symm | refine And.intro ?_ ?_)); done) | (refine ⟨rfl, [some 2], ?_, ?_⟩; all_goals (repeat' (first | exact rfl | exact trivial | omega | assumption | first | exact congrArg (D.ints .i64) hst.symm | exact congrArg List.length hst.symm | refine And.intro ?_ ?_)); done) | (refine ⟨rfl, [some 3], ?_, ?_⟩; all_goals (repeat' (first | exact rfl | exact trivial | omega | assumption | first | exact congrArg (D.ints .i64) hst.symm | exact congrArg List.length hst.symm | refine And.intro ?_ ?_)); done) | (refine ⟨rfl, [some 0], ?_, ?_⟩; all_goals (repeat' (first | exact rfl | exact trivial | omega | assumption | first | exact congrArg (D.ints .i64) hst.symm | exact congrArg List.length hst.symm | refine And.intro ?_ ?_)); done) | (refine ⟨rfl, [some 4], ?_, ?_⟩; all_goals (repeat' (first | exact rfl | exact trivial | omega | assumption | first | exact congrArg (D.ints .i64) hst.symm | exact congrArg List.length hst.symm | refine And.intro ?_ ?_)); done)))
                | (trace_state; sorry)
            · repeat' (first | (intro h; first | contradiction | omega | skip) | (refine And.intro ?_ ?_) | (refine arith_ok ⟨by omega, by omega⟩ ?_) | (first | (refine draw_quiet hT mixed (by decide +kernel) ?_) | (refine draw_hard hT mixed (by decide +kernel) ?_)) | fail)
              all_goals first | omega | (show 1 = 1; rfl) | (simp only [List.nil_append, List.length_cons, List.length_nil]; omega) | skip
              all_goals first
                | (refine ⟨k + 1, by omega, ?_, by omega⟩; have hst := idxs_yes h4; have hsl := congrArg List.length hst; (first | (refine ⟨rfl, [], ?_, ?_⟩; all_goals (repeat' (first | exact rfl | exact trivial | omega | assumption | first | exact congrArg (D.ints .i64) hst.symm | exact hsl.symm | refine And.intro ?_ ?_)); done) | (refine ⟨rfl, [some 1], ?_, ?_⟩; all_goals (repeat' (first | exact rfl | exact trivial | omega | assumption | first | exact congrArg (D.ints .i64) hst.symm | exact hsl.symm | refine And.intro ?_ ?_)); done) | (refine ⟨rfl, [some 2], ?_, ?_⟩; all_goals (repeat' (first | exact rfl | exact trivial | omega | assumption | first | exact congrArg (D.ints .i64) hst.symm | exact hsl.symm | refine And.intro ?_ ?_)); done) | (refine ⟨rfl, [some 3], ?_, ?_⟩; all_goals (repeat' (first | exact rfl | exact trivial | omega | assumption | first | exact congrArg (D.ints .i64) hst.symm | exact hsl.symm | refine And.intro ?_ ?_)); done) | (refine ⟨rfl, [some 0], ?_, ?_⟩; all_goals (repeat' (first | exact rfl | exact trivial | omega | assumption | first | exact congrArg (D.ints .i64) hst.symm | exact hsl.symm | refine And.intro ?_ ?_)); done) | (refine ⟨rfl, [some 4], ?_, ?_⟩; all_goals (repeat' (first | exact rfl | exact trivial | omega | assumption | first | exact congrArg (D.ints .i64) hst.symm | exact hsl.symm | refine And.intro ?_ ?_)); done)))
                | (trace_state; sorry)
      · obtain rfl : i = xss.length := by omega
        repeat' (first | (intro h; first | contradiction | omega | skip) | (refine And.intro ?_ ?_) | (refine arith_ok ⟨by omega, by omega⟩ ?_) | (first | (refine draw_quiet hT mixed (by decide +kernel) ?_) | (refine draw_hard hT mixed (by decide +kernel) ?_)) | fail)
        all_goals first | omega | skip
        (first | (refine ⟨[], .tup [.sl 0 1 (idxs (suspQ xss) xss.length).length, I 0], [Di (idxs (suspQ xss) xss.length)], ?_, ?_, ?_⟩; all_goals (repeat' (first | exact rfl | exact trivial | omega | assumption | fail | refine And.intro ?_ ?_)); done) | (refine ⟨[some 1], .tup [.sl 0 1 (idxs (suspQ xss) xss.length).length, I 0], [Di (idxs (suspQ xss) xss.length)], ?_, ?_, ?_⟩; all_goals (repeat' (first | exact rfl | exact trivial | omega | assumption | fail | refine And.intro ?_ ?_)); done) | (refine ⟨[some 0], .tup [.sl 0 1 (idxs (suspQ xss) xss.length).length, I 0], [Di (idxs (suspQ xss) xss.length)], ?_, ?_, ?_⟩; all_goals (repeat' (first | exact rfl | exact trivial | omega | assumption | fail | refine And.intro ?_ ?_)); done) | (refine ⟨[some 2], .tup [.sl 0 1 (idxs (suspQ xss) xss.length).length, I 0], [Di (idxs (suspQ xss) xss.length)], ?_, ?_, ?_⟩; all_goals (repeat' (first | exact rfl | exact trivial | omega | assumption | fail | refine And.intro ?_ ?_)); done) | (refine ⟨[some 3], .tup [.sl 0 1 (idxs (suspQ xss) xss.length).length, I 0], [Di (idxs (suspQ xss) xss.length)], ?_, ?_, ?_⟩; all_goals (repeat' (first | exact rfl | exact trivial | omega | assumption | fail | refine And.intro ?_ ?_)); done))
  · obtain ⟨h1, h2⟩ := sc_no ha
    rw [scT, h1, h2]
    repeat' (first | (intro h; first | contradiction | omega | skip) | (refine And.intro ?_ ?_) | (refine arith_ok ⟨by omega, by omega⟩ ?_) | (first | (refine draw_quiet hT mixed (by decide +kernel) ?_) | (refine draw_hard hT mixed (by decide +kernel) ?_)) | (refine Ret.goP (l25Claims_ret xss (by omega)) rfl ?_) | (refine Ret.goQP (l25Claims_ret xss (by omega)) rfl ?_))
    (refine ⟨[none], .tup [.sl 0 1 0, I 1], [Di []], ?_, ?_, ?_⟩; all_goals (repeat' (first | exact rfl | exact trivial | omega | refine And.intro ?_ ?_)))
set_option maxRecDepth 100000 in
theorem lawSuspect_ret (xss : List (List Int)) (hn : xss.length ≤ 9223372036854775807) (hr : ∀ r ∈ xss, r.length = 6) : Ret Tryd.prog G 10 [RClaim xss] (Bo true) := by
  refine ret_of_body hT Tryd.func10 rfl ?_ rfl
  have hl := scR_len xss
  have hm : (scR xss).length = (D.ints .i64 (marks (scR xss).length 1)).len := (marks_len _ _).symm
  by_cases hbig : xss.length ≤ 1048576
  · have hsz := szClaimS_ret xss 1048576 (by omega) (by omega)
    rw [if_pos (by omega)] at hsz
    repeat' (first | (intro h; first | contradiction | omega | skip) | (refine And.intro ?_ ?_) | (refine arith_ok ⟨by omega, by omega⟩ ?_) | (first | (refine draw_quiet hT mixed (by decide +kernel) ?_) | (refine draw_hard hT mixed (by decide +kernel) ?_)) | (refine Ret.use (hsz) (by first | ((repeat' (first | exact rfl | exact trivial | refine And.intro ?_ ?_ | omega | assumption)); done) | fail) ?_) | (refine Ret.useQ (hsz) (by first | ((repeat' (first | exact rfl | exact trivial | refine And.intro ?_ ?_ | omega | assumption)); done) | fail) rfl ?_) | (refine CallA.go [] (toClaimS_call xss (by omega) hr) rfl (by first | ((repeat' (first | exact rfl | exact trivial | refine And.intro ?_ ?_ | omega | assumption)); done) | fail) trivial ?_) | (refine CallA.go [] (specSuspect_call xss (by omega)) rfl (by first | ((repeat' (first | exact rfl | exact trivial | refine And.intro ?_ ?_ | omega | assumption)); done) | fail) trivial ?_) | (refine CallA.go [] (implSuspect_call xss (by omega)) rfl (by first | ((repeat' (first | exact rfl | exact trivial | refine And.intro ?_ ?_ | omega | assumption)); done) | fail) trivial ?_) | (refine Ret.useP (eqInt64S_ret (scR xss) (scR xss) (by omega)) (by first | ((repeat' (first | exact rfl | exact trivial | refine And.intro ?_ ?_ | omega | assumption)); done) | fail) ?_) | (refine Ret.useQP (eqInt64S_ret (scR xss) (scR xss) (by omega)) (by first | ((repeat' (first | exact rfl | exact trivial | refine And.intro ?_ ?_ | omega | assumption)); done) | fail) ?_) | (refine Ret.useP (eqClaimS_ret xss xss (by omega) hr hr) (by first | ((repeat' (first | exact rfl | exact trivial | refine And.intro ?_ ?_ | omega | assumption)); done) | fail) ?_) | (refine Ret.useQP (eqClaimS_ret xss xss (by omega) hr hr) (by first | ((repeat' (first | exact rfl | exact trivial | refine And.intro ?_ ?_ | omega | assumption)); done) | fail) ?_) | (refine CallA.go [2] (markClaimS_call xss 1 (by omega) (by omega) hr) rfl (by first | ((repeat' (first | exact rfl | exact trivial | refine And.intro ?_ ?_ | omega | assumption)); done) | fail) (by first | ((repeat' (first | exact rfl | exact trivial | refine And.intro ?_ ?_ | omega | assumption)); done) | fail) ?_) | (refine CallA.go [3] (markInt64S_call (scR xss) 1 (by omega) (by omega)) rfl (by first | ((repeat' (first | exact rfl | exact trivial | refine And.intro ?_ ?_ | omega | assumption)); done) | fail) (by first | ((repeat' (first | exact rfl | exact trivial | refine And.intro ?_ ?_ | omega | assumption)); done) | fail) ?_) | (refine Ret.use (heldInt64S_ret (scR xss).length 1 (by omega) (by omega)) (by first | ((repeat' (first | exact rfl | exact trivial | refine And.intro ?_ ?_ | omega | assumption)); done) | fail) ?_) | (refine Ret.useQ (heldInt64S_ret (scR xss).length 1 (by omega) (by omega)) (by first | ((repeat' (first | exact rfl | exact trivial | refine And.intro ?_ ?_ | omega | assumption)); done) | fail) rfl ?_))
    all_goals first | rfl | omega
  · have hsz := szClaimS_ret xss 1048576 hn (by omega)
    rw [if_neg (by omega)] at hsz
    repeat' (first | (intro h; first | contradiction | omega | skip) | (refine And.intro ?_ ?_) | (refine arith_ok ⟨by omega, by omega⟩ ?_) | (first | (refine draw_quiet hT mixed (by decide +kernel) ?_) | (refine draw_hard hT mixed (by decide +kernel) ?_)) | (refine Ret.use (hsz) (by first | ((repeat' (first | exact rfl | exact trivial | refine And.intro ?_ ?_ | omega | assumption)); done) | fail) ?_) | (refine Ret.useQ (hsz) (by first | ((repeat' (first | exact rfl | exact trivial | refine And.intro ?_ ?_ | omega | assumption)); done) | fail) rfl ?_))
    all_goals first | rfl | omega
end Go.Proofs.YtfecfonjfmieeaaDoor
