/-
  Who beats all others: what the functions return, and the law. No conditions but those in the statements.
-/
import Derived.Test.YtlgmconfifmklaaEc
namespace Go.Proofs.Ytlgmconfifmklaa
open Go.AE

attribute [local irreducible] CallA LoopA DrawA CallQ arithK quoK remK eqK
/-- What a ballot says of two candidates. -/
def ldI (b : List Int) (c d : Int) : Int := cmpI (fo b d) (fo b c)
theorem ldI_lt {b : List Int} {c d : Int} (h : (fo b d : Int) < fo b c) : ldI b c d = -1 := if_pos h
theorem ldI_gt {b : List Int} {c d : Int} (h : (fo b c : Int) < fo b d) : ldI b c d = 1 := by
  unfold ldI cmpI
  rw [if_neg (by omega), if_pos h]
theorem ldI_eq {b : List Int} {c d : Int} (h1 : ¬ (fo b d : Int) < fo b c) (h2 : ¬ (fo b c : Int) < fo b d) : ldI b c d = 0 := by
  unfold ldI cmpI
  rw [if_neg h1, if_neg h2]
theorem ldI_bd (b : List Int) (c d : Int) : -1 ≤ ldI b c d ∧ ldI b c d ≤ 1 := by
  unfold ldI cmpI
  split
  · omega
  · split <;> omega
def plI (b : List Int) (c : Int) : Int := if fo b c < b.length then (fo b c : Int) else 12
theorem plI_cmp {b : List Int} (hl : b.length ≤ 12) (c d : Int) : cmpI (plI b d) (plI b c) = ldI b c d := by
  have h1 := fo_le b c
  have h2 := fo_le b d
  unfold ldI cmpI plI
  by_cases hc : fo b c < b.length
  · by_cases hd : fo b d < b.length
    · rw [if_pos hc, if_pos hd]
    · rw [if_pos hc, if_neg hd, if_neg (by omega), if_pos (by omega), if_neg (by omega), if_pos (by omega)]
  · by_cases hd : fo b d < b.length
    · rw [if_neg hc, if_pos hd, if_pos (by omega), if_pos (by omega)]
    · rw [if_neg hc, if_neg hd, if_neg (by omega), if_neg (by omega), if_neg (by omega), if_neg (by omega)]
/-- What the first ballots say of two candidates. -/
def lead (xss : List (List Int)) (c d : Int) (i : Nat) : Int := ((xss.take i).map fun b => ldI b c d).sum
theorem lead_zero (xss : List (List Int)) (c d : Int) : lead xss c d 0 = 0 := rfl
theorem lead_next {xss : List (List Int)} {i : Nat} (c d : Int) (h : i < xss.length) : lead xss c d (i + 1) = lead xss c d i + ldI (xss.getD i []) c d := by
  unfold lead
  rw [take_snoc [] h, List.map_append, List.sum_append]
  simp
theorem lead_bd (xss : List (List Int)) (c d : Int) : ∀ i, i ≤ xss.length → -(i : Int) ≤ lead xss c d i ∧ lead xss c d i ≤ i
  | 0, _ => by rw [lead_zero]; omega
  | i + 1, hi => by
    have ih := lead_bd xss c d i (by omega)
    have hb := ldI_bd (xss.getD i []) c d
    rw [lead_next c d (by omega)]
    omega
def bt (xss : List (List Int)) (c d : Nat) : Prop := c = d ∨ 0 < lead xss c d xss.length
instance (xss : List (List Int)) (c d : Nat) : Decidable (bt xss c d) := by unfold bt; infer_instance
def bAll (xss : List (List Int)) (n c : Nat) : Prop := ∀ d, d < n → bt xss c d
instance (xss : List (List Int)) (n c : Nat) : Decidable (bAll xss n c) := by unfold bAll; infer_instance
theorem bAll_next {xss : List (List Int)} {c d : Nat} (h : bAll xss d c) (hb : bt xss c d) : bAll xss (d + 1) c := fun e he => by
  by_cases hed : e = d
  · rw [hed]; exact hb
  · exact h e (by omega)
def baM (xss : List (List Int)) (n : Nat) : Nat := firstOf (fun c => decide (bAll xss n c)) (List.range n)
theorem baM_eq {xss : List (List Int)} {n c : Nat} (h1 : c ≤ n) (h2 : ∀ e, e < c → ¬ bAll xss n e) (h3 : c < n → bAll xss n c) : baM xss n = c := by
  have hr : ∀ j, j < n → (List.range n).getD j 0 = j := fun j hj => by
    rw [List.getD_eq_getElem?_getD, List.getElem?_range hj]; rfl
  exact firstOf_eq (p := fun c => decide (bAll xss n c)) 0 (l := List.range n) (i := c) (by rw [List.length_range]; exact h1)
    (fun j hj => by rw [hr j (by omega)]; exact decide_eq_false (h2 j hj))
    (fun hk => by rw [List.length_range] at hk; rw [hr c hk]; exact decide_eq_true (h3 hk))
attribute [local irreducible] lead ldI fo baM bAll
def baC (n : Int) (xss : List (List Int)) : Int := if okB n xss then (if baM xss n.toNat < n.toNat then 0 else 4) else 2
def baV (n : Int) (xss : List (List Int)) : Int := if okB n xss ∧ baM xss n.toNat < n.toNat then (baM xss n.toNat : Int) else 0
abbrev baT (n : Int) (xss : List (List Int)) : AV := .tup [I (baV n xss), I (baC n xss)]
theorem baT_no {n : Int} {xss : List (List Int)} (h : ¬ okB n xss) : baT n xss = .tup [I 0, I 2] := by
  unfold baT baV baC
  rw [if_neg (fun e => h e.1), if_neg h]
theorem baT_yes {n : Int} {xss : List (List Int)} (h : okB n xss) {c : Nat} (hc : c < n.toNat) (he : baM xss n.toNat = c) : baT n xss = .tup [I c, I 0] := by
  unfold baT baV baC
  rw [he, if_pos ⟨h, hc⟩, if_pos h, if_pos hc]
theorem baT_none {n : Int} {xss : List (List Int)} (h : okB n xss) (he : baM xss n.toNat = n.toNat) : baT n xss = .tup [I 0, I 4] := by
  unfold baT baV baC
  rw [he, if_neg (fun e => Nat.lt_irrefl _ e.2), if_pos h, if_neg (Nat.lt_irrefl _)]
theorem none_next {xss : List (List Int)} {n c : Nat} (h : ∀ e, e < c → ¬ bAll xss n e) (hc : ¬ bAll xss n c) : ∀ e, e < c + 1 → ¬ bAll xss n e := fun e he => by
  by_cases hec : e = c
  · rw [hec]; exact hc
  · exact h e (by omega)
theorem bAll_zero (xss : List (List Int)) (c : Nat) : bAll xss 0 c := by unfold bAll; exact fun d hd => absurd hd (Nat.not_lt_zero d)
theorem bAll_step {xss : List (List Int)} {c d : Nat} : bAll xss (d + 1) c → bAll xss d c ∧ bt xss c d := by
  unfold bAll
  exact fun h => ⟨fun e he => h e (by omega), h d (by omega)⟩
theorem iff_f1 {xss : List (List Int)} {c d : Nat} (h1 : ¬ (d : Int) = c) (h2 : ¬ 0 < lead xss c d xss.length) : (false = true) ↔ bAll xss (d + 1) c :=
  ⟨fun hx => (by cases hx), fun hx => by
    rcases (bAll_step hx).2 with h9 | h9
    · exact absurd (by rw [h9]) h1
    · exact absurd h9 h2⟩
theorem iff_f2 {xss : List (List Int)} {c d : Nat} (hb : (false = true) ↔ bAll xss d c) : (false = true) ↔ bAll xss (d + 1) c :=
  ⟨fun hx => (by cases hx), fun hx => hb.2 (bAll_step hx).1⟩
theorem iff_t {xss : List (List Int)} {c d : Nat} (hb : (true = true) ↔ bAll xss d c) (h : (d : Int) = c ∨ 0 < lead xss c d xss.length) : (true = true) ↔ bAll xss (d + 1) c :=
  ⟨fun _ => bAll_next (hb.1 rfl) (by rcases h with h | h; exact .inl (by omega); exact .inr h), fun _ => rfl⟩
set_option maxHeartbeats 4000000 in
set_option maxRecDepth 100000 in
theorem specBeats_ret (n : Int) (xss : List (List Int)) (hn : xss.length ≤ 1048576) (hr : ∀ r ∈ xss, r.length ≤ 1048576) : Ret Try.prog G 17 [I n, Rn xss] (baT n xss) := by
  refine ret_of_body hT Try.func17 rfl ?_ rfl
  by_cases ho : okB n xss
  · have hl := ho.2.1
    have hc := ho.1
    repeat' (first | (intro h; first | contradiction | omega | (conv => whnf) | skip) | (refine And.intro ?_ ?_) | (refine arith_ok ⟨by omega, by omega⟩ ?_) | (first | (refine draw_quiet hT mixed (by decide +kernel) ?_) | (refine draw_hard hT mixed (by decide +kernel) ?_)) | (refine Ret.goP (specBallots_ret n xss hn hr) rfl ?_) | (refine Ret.goQP (specBallots_ret n xss hn hr) rfl ?_))
    all_goals first | omega | rfl | exact absurd ho (by assumption) | skip
    refine loop_rule hT (fun c : Nat => (c : Int) ≤ n ∧ ∀ e, e < c → ¬ bAll xss n.toNat e) 67 0 [0, 1, 6] (fun c => [I n, Rn xss, I c]) (fun _ => []) (fun c => n.toNat - c) (0) (Nat.le_of_ble_eq_true rfl) ?_ ?_ ?_
    · exact ⟨by omega, fun e he => absurd he (Nat.not_lt_zero e)⟩
    · (first | (refine ⟨rfl, [], ?_, ?_⟩; all_goals (repeat' (first | exact rfl | exact trivial | omega | assumption | fail | refine And.intro ?_ ?_)); done) | (refine ⟨rfl, [some 1], ?_, ?_⟩; all_goals (repeat' (first | exact rfl | exact trivial | omega | assumption | fail | refine And.intro ?_ ?_)); done) | (refine ⟨rfl, [some 2], ?_, ?_⟩; all_goals (repeat' (first | exact rfl | exact trivial | omega | assumption | fail | refine And.intro ?_ ?_)); done) | (refine ⟨rfl, [some 3], ?_, ?_⟩; all_goals (repeat' (first | exact rfl | exact trivial | omega | assumption | fail | refine And.intro ?_ ?_)); done) | (refine ⟨rfl, [some 0], ?_, ?_⟩; all_goals (repeat' (first | exact rfl | exact trivial | omega | assumption | fail | refine And.intro ?_ ?_)); done) | (refine ⟨rfl, [some 4], ?_, ?_⟩; all_goals (repeat' (first | exact rfl | exact trivial | omega | assumption | fail | refine And.intro ?_ ?_)); done) | (refine ⟨rfl, [some 5], ?_, ?_⟩; all_goals (repeat' (first | exact rfl | exact trivial | omega | assumption | fail | refine And.intro ?_ ?_)); done) | (refine ⟨rfl, [some 6], ?_, ?_⟩; all_goals (repeat' (first | exact rfl | exact trivial | omega | assumption | fail | refine And.intro ?_ ?_)); done))
    · rintro c ⟨h1, h2⟩
      by_cases hcn : (c : Int) < n
      · repeat' (first | (intro h; first | contradiction | omega | (conv => whnf) | skip) | (refine And.intro ?_ ?_) | (refine arith_ok ⟨by omega, by omega⟩ ?_) | (first | (refine draw_quiet hT mixed (by decide +kernel) ?_) | (refine draw_hard hT mixed (by decide +kernel) ?_)) | fail)
        all_goals first | omega | skip
        refine loop_rule hT (fun p : Nat × Bool => (p.1 : Int) ≤ n ∧ (p.2 = true ↔ bAll xss p.1 c)) 67 0 [0, 1, 6, 7, 8] (fun p => [I n, Rn xss, I c, Bo p.2, I p.1]) (fun _ => []) (fun p => n.toNat - p.1) ((0, true)) (Nat.le_of_ble_eq_true rfl) ?_ ?_ ?_
        · exact ⟨by dsimp only; omega, fun _ => bAll_zero xss c, fun _ => rfl⟩
        · (first | (refine ⟨rfl, [], ?_, ?_⟩; all_goals (repeat' (first | exact rfl | exact trivial | omega | assumption | fail | refine And.intro ?_ ?_)); done) | (refine ⟨rfl, [some 1], ?_, ?_⟩; all_goals (repeat' (first | exact rfl | exact trivial | omega | assumption | fail | refine And.intro ?_ ?_)); done) | (refine ⟨rfl, [some 2], ?_, ?_⟩; all_goals (repeat' (first | exact rfl | exact trivial | omega | assumption | fail | refine And.intro ?_ ?_)); done) | (refine ⟨rfl, [some 3], ?_, ?_⟩; all_goals (repeat' (first | exact rfl | exact trivial | omega | assumption | fail | refine And.intro ?_ ?_)); done) | (refine ⟨rfl, [some 0], ?_, ?_⟩; all_goals (repeat' (first | exact rfl | exact trivial | omega | assumption | fail | refine And.intro ?_ ?_)); done) | (refine ⟨rfl, [some 4], ?_, ?_⟩; all_goals (repeat' (first | exact rfl | exact trivial | omega | assumption | fail | refine And.intro ?_ ?_)); done) | (refine ⟨rfl, [some 5], ?_, ?_⟩; all_goals (repeat' (first | exact rfl | exact trivial | omega | assumption | fail | refine And.intro ?_ ?_)); done) | (refine ⟨rfl, [some 6], ?_, ?_⟩; all_goals (repeat' (first | exact rfl | exact trivial | omega | assumption | fail | refine And.intro ?_ ?_)); done))
        · rintro ⟨d, b⟩ ⟨h3, hb⟩
          dsimp only at h3 hb ⊢
          by_cases hdn : (d : Int) < n
          · repeat' (first | (intro h; first | contradiction | omega | (conv => whnf) | skip) | (refine And.intro ?_ ?_) | (refine arith_ok ⟨by omega, by omega⟩ ?_) | (first | (refine draw_quiet hT mixed (by decide +kernel) ?_) | (refine draw_hard hT mixed (by decide +kernel) ?_)) | fail)
            all_goals first | omega | skip
            refine loop_rule hT (fun i : Nat => i ≤ xss.length) 67 0 [0, 1, 6, 7, 8, 9, 10] (fun i => [I n, Rn xss, I c, Bo b, I d, I (lead xss c d i), I i]) (fun _ => []) (fun i => xss.length - i) (0) (Nat.le_of_ble_eq_true rfl) ?_ ?_ ?_
            · exact Nat.zero_le _
            · (first | (refine ⟨rfl, [], ?_, ?_⟩; all_goals (repeat' (first | exact rfl | exact trivial | omega | assumption | exact (lead_zero _ _ _).symm | refine And.intro ?_ ?_)); done) | (refine ⟨rfl, [some 1], ?_, ?_⟩; all_goals (repeat' (first | exact rfl | exact trivial | omega | assumption | exact (lead_zero _ _ _).symm | refine And.intro ?_ ?_)); done) | (refine ⟨rfl, [some 2], ?_, ?_⟩; all_goals (repeat' (first | exact rfl | exact trivial | omega | assumption | exact (lead_zero _ _ _).symm | refine And.intro ?_ ?_)); done) | (refine ⟨rfl, [some 3], ?_, ?_⟩; all_goals (repeat' (first | exact rfl | exact trivial | omega | assumption | exact (lead_zero _ _ _).symm | refine And.intro ?_ ?_)); done) | (refine ⟨rfl, [some 0], ?_, ?_⟩; all_goals (repeat' (first | exact rfl | exact trivial | omega | assumption | exact (lead_zero _ _ _).symm | refine And.intro ?_ ?_)); done) | (refine ⟨rfl, [some 4], ?_, ?_⟩; all_goals (repeat' (first | exact rfl | exact trivial | omega | assumption | exact (lead_zero _ _ _).symm | refine And.intro ?_ ?_)); done) | (refine ⟨rfl, [some 5], ?_, ?_⟩; all_goals (repeat' (first | exact rfl | exact trivial | omega | assumption | exact (lead_zero _ _ _).symm | refine And.intro ?_ ?_)); done) | (refine ⟨rfl, [some 6], ?_, ?_⟩; all_goals (repeat' (first | exact rfl | exact trivial | omega | assumption | exact (lead_zero _ _ _).symm | refine And.intro ?_ ?_)); done))
            · rintro i hi1
              have hbd := lead_bd xss c d i hi1
              by_cases hi : i < xss.length
              · have hlb : (xss.getD ((i : Int)).toNat []).length ≤ 12 := ok1_len hc (ho.2.2 _ (getD_mem hi))
                have hnx : lead xss c d (i + 1) = lead xss c d i + ldI (xss.getD ((i : Int)).toNat []) c d := lead_next c d hi
                repeat' (first | (intro h; first | contradiction | omega | (conv => whnf) | skip) | (refine And.intro ?_ ?_) | (refine arith_ok ⟨by omega, by omega⟩ ?_) | (first | (refine draw_quiet hT mixed (by decide +kernel) ?_) | (refine draw_hard hT mixed (by decide +kernel) ?_)) | (refine Ret.go (l24Place_ret (xss.getD ((i : Int)).toNat []) _ hlb) rfl rfl ?_) | (refine Ret.goQ (l24Place_ret (xss.getD ((i : Int)).toNat []) _ hlb) rfl rfl ?_))
                all_goals first
                  | omega
                  | (refine ⟨i + 1, by omega, ?_, by omega⟩; have hld := ldI_gt (b := xss.getD ((i : Int)).toNat []) (c := c) (d := d) (by assumption); rw [hld] at hnx; (first | (refine ⟨rfl, [], ?_, ?_⟩; all_goals (repeat' (first | exact rfl | exact trivial | omega | assumption | exact hnx.symm | refine And.intro ?_ ?_)); done) | (refine ⟨rfl, [some 1], ?_, ?_⟩; all_goals (repeat' (first | exact rfl | exact trivial | omega | assumption | exact hnx.symm | refine And.intro ?_ ?_)); done) | (refine ⟨rfl, [some 2], ?_, ?_⟩; all_goals (repeat' (first | exact rfl | exact trivial | omega | assumption | exact hnx.symm | refine And.intro ?_ ?_)); done) | (refine ⟨rfl, [some 3], ?_, ?_⟩; all_goals (repeat' (first | exact rfl | exact trivial | omega | assumption | exact hnx.symm | refine And.intro ?_ ?_)); done) | (refine ⟨rfl, [some 0], ?_, ?_⟩; all_goals (repeat' (first | exact rfl | exact trivial | omega | assumption | exact hnx.symm | refine And.intro ?_ ?_)); done) | (refine ⟨rfl, [some 4], ?_, ?_⟩; all_goals (repeat' (first | exact rfl | exact trivial | omega | assumption | exact hnx.symm | refine And.intro ?_ ?_)); done) | (refine ⟨rfl, [some 5], ?_, ?_⟩; all_goals (repeat' (first | exact rfl | exact trivial | omega | assumption | exact hnx.symm | refine And.intro ?_ ?_)); done) | (refine ⟨rfl, [some 6], ?_, ?_⟩; all_goals (repeat' (first | exact rfl | exact trivial | omega | assumption | exact hnx.symm | refine And.intro ?_ ?_)); done)))
                  | (refine ⟨i + 1, by omega, ?_, by omega⟩; have hld := ldI_lt (b := xss.getD ((i : Int)).toNat []) (c := c) (d := d) (by assumption); rw [hld] at hnx; (first | (refine ⟨rfl, [], ?_, ?_⟩; all_goals (repeat' (first | exact rfl | exact trivial | omega | assumption | first | exact hnx.symm | omega | refine And.intro ?_ ?_)); done) | (refine ⟨rfl, [some 1], ?_, ?_⟩; all_goals (repeat' (first | exact rfl | exact trivial | omega | assumption | first | exact hnx.symm | omega | refine And.intro ?_ ?_)); done) | (refine ⟨rfl, [some 2], ?_, ?_⟩; all_goals (repeat' (first | exact rfl | exact trivial | omega | assumption | first | exact hnx.symm | omega | refine And.intro ?_ ?_)); done) | (refine ⟨rfl, [some 3], ?_, ?_⟩; all_goals (repeat' (first | exact rfl | exact trivial | omega | assumption | first | exact hnx.symm | omega | refine And.intro ?_ ?_)); done) | (refine ⟨rfl, [some 0], ?_, ?_⟩; all_goals (repeat' (first | exact rfl | exact trivial | omega | assumption | first | exact hnx.symm | omega | refine And.intro ?_ ?_)); done) | (refine ⟨rfl, [some 4], ?_, ?_⟩; all_goals (repeat' (first | exact rfl | exact trivial | omega | assumption | first | exact hnx.symm | omega | refine And.intro ?_ ?_)); done) | (refine ⟨rfl, [some 5], ?_, ?_⟩; all_goals (repeat' (first | exact rfl | exact trivial | omega | assumption | first | exact hnx.symm | omega | refine And.intro ?_ ?_)); done) | (refine ⟨rfl, [some 6], ?_, ?_⟩; all_goals (repeat' (first | exact rfl | exact trivial | omega | assumption | first | exact hnx.symm | omega | refine And.intro ?_ ?_)); done)))
                  | (refine ⟨i + 1, by omega, ?_, by omega⟩; have hld := ldI_eq (b := xss.getD ((i : Int)).toNat []) (c := c) (d := d) (by assumption) (by assumption); rw [hld] at hnx; (first | (refine ⟨rfl, [], ?_, ?_⟩; all_goals (repeat' (first | exact rfl | exact trivial | omega | assumption | omega | refine And.intro ?_ ?_)); done) | (refine ⟨rfl, [some 1], ?_, ?_⟩; all_goals (repeat' (first | exact rfl | exact trivial | omega | assumption | omega | refine And.intro ?_ ?_)); done) | (refine ⟨rfl, [some 2], ?_, ?_⟩; all_goals (repeat' (first | exact rfl | exact trivial | omega | assumption | omega | refine And.intro ?_ ?_)); done) | (refine ⟨rfl, [some 3], ?_, ?_⟩; all_goals (repeat' (first | exact rfl | exact trivial | omega | assumption | omega | refine And.intro ?_ ?_)); done) | (refine ⟨rfl, [some 0], ?_, ?_⟩; all_goals (repeat' (first | exact rfl | exact trivial | omega | assumption | omega | refine And.intro ?_ ?_)); done) | (refine ⟨rfl, [some 4], ?_, ?_⟩; all_goals (repeat' (first | exact rfl | exact trivial | omega | assumption | omega | refine And.intro ?_ ?_)); done) | (refine ⟨rfl, [some 5], ?_, ?_⟩; all_goals (repeat' (first | exact rfl | exact trivial | omega | assumption | omega | refine And.intro ?_ ?_)); done) | (refine ⟨rfl, [some 6], ?_, ?_⟩; all_goals (repeat' (first | exact rfl | exact trivial | omega | assumption | omega | refine And.intro ?_ ?_)); done)))
                  | trace_state
              · obtain rfl : i = xss.length := by omega
                cases b
                · repeat' (first | (intro h; first | contradiction | omega | (conv => whnf) | skip) | (refine And.intro ?_ ?_) | (refine arith_ok ⟨by omega, by omega⟩ ?_) | (first | (refine draw_quiet hT mixed (by decide +kernel) ?_) | (refine draw_hard hT mixed (by decide +kernel) ?_)) | fail)
                  all_goals first
                  | omega
                  | (refine ⟨(d + 1, true), ⟨by dsimp only; omega, iff_t hb (by first | exact .inl (by assumption) | exact .inr (by assumption))⟩, ?_, by dsimp only; omega⟩; (first | (refine ⟨rfl, [], ?_, ?_⟩; all_goals (repeat' (first | exact rfl | exact trivial | omega | assumption | fail | refine And.intro ?_ ?_)); done) | (refine ⟨rfl, [some 1], ?_, ?_⟩; all_goals (repeat' (first | exact rfl | exact trivial | omega | assumption | fail | refine And.intro ?_ ?_)); done) | (refine ⟨rfl, [some 2], ?_, ?_⟩; all_goals (repeat' (first | exact rfl | exact trivial | omega | assumption | fail | refine And.intro ?_ ?_)); done) | (refine ⟨rfl, [some 3], ?_, ?_⟩; all_goals (repeat' (first | exact rfl | exact trivial | omega | assumption | fail | refine And.intro ?_ ?_)); done) | (refine ⟨rfl, [some 0], ?_, ?_⟩; all_goals (repeat' (first | exact rfl | exact trivial | omega | assumption | fail | refine And.intro ?_ ?_)); done) | (refine ⟨rfl, [some 4], ?_, ?_⟩; all_goals (repeat' (first | exact rfl | exact trivial | omega | assumption | fail | refine And.intro ?_ ?_)); done) | (refine ⟨rfl, [some 5], ?_, ?_⟩; all_goals (repeat' (first | exact rfl | exact trivial | omega | assumption | fail | refine And.intro ?_ ?_)); done) | (refine ⟨rfl, [some 6], ?_, ?_⟩; all_goals (repeat' (first | exact rfl | exact trivial | omega | assumption | fail | refine And.intro ?_ ?_)); done)))
                  | (refine ⟨(d + 1, false), ⟨by dsimp only; omega, iff_f1 (by assumption) (by assumption)⟩, ?_, by dsimp only; omega⟩; (first | (refine ⟨rfl, [], ?_, ?_⟩; all_goals (repeat' (first | exact rfl | exact trivial | omega | assumption | fail | refine And.intro ?_ ?_)); done) | (refine ⟨rfl, [some 1], ?_, ?_⟩; all_goals (repeat' (first | exact rfl | exact trivial | omega | assumption | fail | refine And.intro ?_ ?_)); done) | (refine ⟨rfl, [some 2], ?_, ?_⟩; all_goals (repeat' (first | exact rfl | exact trivial | omega | assumption | fail | refine And.intro ?_ ?_)); done) | (refine ⟨rfl, [some 3], ?_, ?_⟩; all_goals (repeat' (first | exact rfl | exact trivial | omega | assumption | fail | refine And.intro ?_ ?_)); done) | (refine ⟨rfl, [some 0], ?_, ?_⟩; all_goals (repeat' (first | exact rfl | exact trivial | omega | assumption | fail | refine And.intro ?_ ?_)); done) | (refine ⟨rfl, [some 4], ?_, ?_⟩; all_goals (repeat' (first | exact rfl | exact trivial | omega | assumption | fail | refine And.intro ?_ ?_)); done) | (refine ⟨rfl, [some 5], ?_, ?_⟩; all_goals (repeat' (first | exact rfl | exact trivial | omega | assumption | fail | refine And.intro ?_ ?_)); done) | (refine ⟨rfl, [some 6], ?_, ?_⟩; all_goals (repeat' (first | exact rfl | exact trivial | omega | assumption | fail | refine And.intro ?_ ?_)); done)))
                  | (refine ⟨(d + 1, false), ⟨by dsimp only; omega, iff_f2 hb⟩, ?_, by dsimp only; omega⟩; (first | (refine ⟨rfl, [], ?_, ?_⟩; all_goals (repeat' (first | exact rfl | exact trivial | omega | assumption | fail | refine And.intro ?_ ?_)); done) | (refine ⟨rfl, [some 1], ?_, ?_⟩; all_goals (repeat' (first | exact rfl | exact trivial | omega | assumption | fail | refine And.intro ?_ ?_)); done) | (refine ⟨rfl, [some 2], ?_, ?_⟩; all_goals (repeat' (first | exact rfl | exact trivial | omega | assumption | fail | refine And.intro ?_ ?_)); done) | (refine ⟨rfl, [some 3], ?_, ?_⟩; all_goals (repeat' (first | exact rfl | exact trivial | omega | assumption | fail | refine And.intro ?_ ?_)); done) | (refine ⟨rfl, [some 0], ?_, ?_⟩; all_goals (repeat' (first | exact rfl | exact trivial | omega | assumption | fail | refine And.intro ?_ ?_)); done) | (refine ⟨rfl, [some 4], ?_, ?_⟩; all_goals (repeat' (first | exact rfl | exact trivial | omega | assumption | fail | refine And.intro ?_ ?_)); done) | (refine ⟨rfl, [some 5], ?_, ?_⟩; all_goals (repeat' (first | exact rfl | exact trivial | omega | assumption | fail | refine And.intro ?_ ?_)); done) | (refine ⟨rfl, [some 6], ?_, ?_⟩; all_goals (repeat' (first | exact rfl | exact trivial | omega | assumption | fail | refine And.intro ?_ ?_)); done)))
                  | trace_state
                · repeat' (first | (intro h; first | contradiction | omega | (conv => whnf) | skip) | (refine And.intro ?_ ?_) | (refine arith_ok ⟨by omega, by omega⟩ ?_) | (first | (refine draw_quiet hT mixed (by decide +kernel) ?_) | (refine draw_hard hT mixed (by decide +kernel) ?_)) | fail)
                  all_goals first
                  | omega
                  | (refine ⟨(d + 1, true), ⟨by dsimp only; omega, iff_t hb (by first | exact .inl (by assumption) | exact .inr (by assumption))⟩, ?_, by dsimp only; omega⟩; (first | (refine ⟨rfl, [], ?_, ?_⟩; all_goals (repeat' (first | exact rfl | exact trivial | omega | assumption | fail | refine And.intro ?_ ?_)); done) | (refine ⟨rfl, [some 1], ?_, ?_⟩; all_goals (repeat' (first | exact rfl | exact trivial | omega | assumption | fail | refine And.intro ?_ ?_)); done) | (refine ⟨rfl, [some 2], ?_, ?_⟩; all_goals (repeat' (first | exact rfl | exact trivial | omega | assumption | fail | refine And.intro ?_ ?_)); done) | (refine ⟨rfl, [some 3], ?_, ?_⟩; all_goals (repeat' (first | exact rfl | exact trivial | omega | assumption | fail | refine And.intro ?_ ?_)); done) | (refine ⟨rfl, [some 0], ?_, ?_⟩; all_goals (repeat' (first | exact rfl | exact trivial | omega | assumption | fail | refine And.intro ?_ ?_)); done) | (refine ⟨rfl, [some 4], ?_, ?_⟩; all_goals (repeat' (first | exact rfl | exact trivial | omega | assumption | fail | refine And.intro ?_ ?_)); done) | (refine ⟨rfl, [some 5], ?_, ?_⟩; all_goals (repeat' (first | exact rfl | exact trivial | omega | assumption | fail | refine And.intro ?_ ?_)); done) | (refine ⟨rfl, [some 6], ?_, ?_⟩; all_goals (repeat' (first | exact rfl | exact trivial | omega | assumption | fail | refine And.intro ?_ ?_)); done)))
                  | (refine ⟨(d + 1, false), ⟨by dsimp only; omega, iff_f1 (by assumption) (by assumption)⟩, ?_, by dsimp only; omega⟩; (first | (refine ⟨rfl, [], ?_, ?_⟩; all_goals (repeat' (first | exact rfl | exact trivial | omega | assumption | fail | refine And.intro ?_ ?_)); done) | (refine ⟨rfl, [some 1], ?_, ?_⟩; all_goals (repeat' (first | exact rfl | exact trivial | omega | assumption | fail | refine And.intro ?_ ?_)); done) | (refine ⟨rfl, [some 2], ?_, ?_⟩; all_goals (repeat' (first | exact rfl | exact trivial | omega | assumption | fail | refine And.intro ?_ ?_)); done) | (refine ⟨rfl, [some 3], ?_, ?_⟩; all_goals (repeat' (first | exact rfl | exact trivial | omega | assumption | fail | refine And.intro ?_ ?_)); done) | (refine ⟨rfl, [some 0], ?_, ?_⟩; all_goals (repeat' (first | exact rfl | exact trivial | omega | assumption | fail | refine And.intro ?_ ?_)); done) | (refine ⟨rfl, [some 4], ?_, ?_⟩; all_goals (repeat' (first | exact rfl | exact trivial | omega | assumption | fail | refine And.intro ?_ ?_)); done) | (refine ⟨rfl, [some 5], ?_, ?_⟩; all_goals (repeat' (first | exact rfl | exact trivial | omega | assumption | fail | refine And.intro ?_ ?_)); done) | (refine ⟨rfl, [some 6], ?_, ?_⟩; all_goals (repeat' (first | exact rfl | exact trivial | omega | assumption | fail | refine And.intro ?_ ?_)); done)))
                  | (refine ⟨(d + 1, false), ⟨by dsimp only; omega, iff_f2 hb⟩, ?_, by dsimp only; omega⟩; (first | (refine ⟨rfl, [], ?_, ?_⟩; all_goals (repeat' (first | exact rfl | exact trivial | omega | assumption | fail | refine And.intro ?_ ?_)); done) | (refine ⟨rfl, [some 1], ?_, ?_⟩; all_goals (repeat' (first | exact rfl | exact trivial | omega | assumption | fail | refine And.intro ?_ ?_)); done) | (refine ⟨rfl, [some 2], ?_, ?_⟩; all_goals (repeat' (first | exact rfl | exact trivial | omega | assumption | fail | refine And.intro ?_ ?_)); done) | (refine ⟨rfl, [some 3], ?_, ?_⟩; all_goals (repeat' (first | exact rfl | exact trivial | omega | assumption | fail | refine And.intro ?_ ?_)); done) | (refine ⟨rfl, [some 0], ?_, ?_⟩; all_goals (repeat' (first | exact rfl | exact trivial | omega | assumption | fail | refine And.intro ?_ ?_)); done) | (refine ⟨rfl, [some 4], ?_, ?_⟩; all_goals (repeat' (first | exact rfl | exact trivial | omega | assumption | fail | refine And.intro ?_ ?_)); done) | (refine ⟨rfl, [some 5], ?_, ?_⟩; all_goals (repeat' (first | exact rfl | exact trivial | omega | assumption | fail | refine And.intro ?_ ?_)); done) | (refine ⟨rfl, [some 6], ?_, ?_⟩; all_goals (repeat' (first | exact rfl | exact trivial | omega | assumption | fail | refine And.intro ?_ ?_)); done)))
                  | trace_state
          · have hde : d = n.toNat := by omega
            subst hde
            cases b
            · repeat' (first | (intro h; first | contradiction | omega | (conv => whnf) | skip) | (refine And.intro ?_ ?_) | (refine arith_ok ⟨by omega, by omega⟩ ?_) | (first | (refine draw_quiet hT mixed (by decide +kernel) ?_) | (refine draw_hard hT mixed (by decide +kernel) ?_)) | fail)
              all_goals first | omega | skip
              all_goals (refine ⟨c + 1, ⟨by omega, none_next h2 (fun hx => by have := hb.2 hx; cases this)⟩, ?_, by omega⟩; (first | (refine ⟨rfl, [], ?_, ?_⟩; all_goals (repeat' (first | exact rfl | exact trivial | omega | assumption | fail | refine And.intro ?_ ?_)); done) | (refine ⟨rfl, [some 1], ?_, ?_⟩; all_goals (repeat' (first | exact rfl | exact trivial | omega | assumption | fail | refine And.intro ?_ ?_)); done) | (refine ⟨rfl, [some 2], ?_, ?_⟩; all_goals (repeat' (first | exact rfl | exact trivial | omega | assumption | fail | refine And.intro ?_ ?_)); done) | (refine ⟨rfl, [some 3], ?_, ?_⟩; all_goals (repeat' (first | exact rfl | exact trivial | omega | assumption | fail | refine And.intro ?_ ?_)); done) | (refine ⟨rfl, [some 0], ?_, ?_⟩; all_goals (repeat' (first | exact rfl | exact trivial | omega | assumption | fail | refine And.intro ?_ ?_)); done) | (refine ⟨rfl, [some 4], ?_, ?_⟩; all_goals (repeat' (first | exact rfl | exact trivial | omega | assumption | fail | refine And.intro ?_ ?_)); done) | (refine ⟨rfl, [some 5], ?_, ?_⟩; all_goals (repeat' (first | exact rfl | exact trivial | omega | assumption | fail | refine And.intro ?_ ?_)); done) | (refine ⟨rfl, [some 6], ?_, ?_⟩; all_goals (repeat' (first | exact rfl | exact trivial | omega | assumption | fail | refine And.intro ?_ ?_)); done)))
            · rw [baT_yes ho (by omega) (baM_eq (by omega) h2 (fun _ => hb.1 rfl))]
              repeat' (first | (intro h; first | contradiction | omega | (conv => whnf) | skip) | (refine And.intro ?_ ?_) | (refine arith_ok ⟨by omega, by omega⟩ ?_) | (first | (refine draw_quiet hT mixed (by decide +kernel) ?_) | (refine draw_hard hT mixed (by decide +kernel) ?_)) | fail)
              all_goals first | omega | rfl | trace_state
      · rw [baT_none ho (baM_eq (Nat.le_refl _) (fun e he => h2 e (by omega)) (fun hx => absurd hx (Nat.lt_irrefl _)))]
        repeat' (first | (intro h; first | contradiction | omega | (conv => whnf) | skip) | (refine And.intro ?_ ?_) | (refine arith_ok ⟨by omega, by omega⟩ ?_) | (first | (refine draw_quiet hT mixed (by decide +kernel) ?_) | (refine draw_hard hT mixed (by decide +kernel) ?_)) | fail)
        all_goals first | omega | rfl | trace_state
  · rw [baT_no ho]
    repeat' (first | (intro h; first | contradiction | omega | (conv => whnf) | skip) | (refine And.intro ?_ ?_) | (refine arith_ok ⟨by omega, by omega⟩ ?_) | (first | (refine draw_quiet hT mixed (by decide +kernel) ?_) | (refine draw_hard hT mixed (by decide +kernel) ?_)) | (refine Ret.goP (specBallots_ret n xss hn hr) rfl ?_) | (refine Ret.goQP (specBallots_ret n xss hn hr) rfl ?_))
    all_goals first | omega | rfl | trace_state
end Go.Proofs.Ytlgmconfifmklaa
