/-
  The balance of a year's entries: what the functions return. No conditions but those in the statements.
-/
import Derived.Test.YtenofbabiacacaaGreatYa
set_option linter.unusedVariables false
set_option linter.unusedSimpArgs false
namespace Go.Proofs.YtenofbabiacacaaGreat
open Go.AE

attribute [local irreducible] CallA LoopA DrawA CallQ arithK quoK remK eqK
abbrev WE4 (r : List Int) : AV := .agg [I (r.getD 0 0), I (r.getD 1 0), I (r.getD 2 0), I (r.getD 3 0)]
/-- An entry of a month. -/
def enOk (n : Int) (r : List Int) : Prop := r.getD 0 0 = n ∧ (0 ≤ r.getD 1 0 ∧ r.getD 1 0 ≤ 9) ∧ (0 ≤ r.getD 2 0 ∧ r.getD 2 0 ≤ 9) ∧ r.getD 1 0 ≠ r.getD 2 0 ∧ 1 ≤ r.getD 3 0 ∧ r.getD 3 0 ≤ 1000000000
def gD (r : List Int) : Int := if r.getD 1 0 = 0 then r.getD 3 0 else 0
def gC (r : List Int) : Int := if r.getD 1 0 = 0 then 0 else if r.getD 2 0 = 0 then r.getD 3 0 else 0
def sD (E : List (List Int)) (i : Nat) : Int := ((E.take i).map gD).sum
def sC (E : List (List Int)) (i : Nat) : Int := ((E.take i).map gC).sum
theorem sD_next {E : List (List Int)} {i : Nat} (h : i < E.length) : sD E (i + 1) = sD E i + gD (E.getD i []) := by unfold sD; rw [take_snoc [] h, List.map_append, List.sum_append]; simp
theorem sC_next {E : List (List Int)} {i : Nat} (h : i < E.length) : sC E (i + 1) = sC E i + gC (E.getD i []) := by unfold sC; rw [take_snoc [] h, List.map_append, List.sum_append]; simp
theorem g_bd {n : Int} {r : List Int} (h : enOk n r) : (0 ≤ gD r ∧ gD r ≤ 1000000000) ∧ 0 ≤ gC r ∧ gC r ≤ 1000000000 := by
  unfold enOk at h
  unfold gD gC
  refine ⟨?_, ?_⟩
  · split <;> omega
  · split
    · omega
    · split <;> omega
theorem s_bd {n : Int} {E : List (List Int)} (h : ∀ r ∈ E, enOk n r) : ∀ i, i ≤ E.length → (0 ≤ sD E i ∧ sD E i ≤ 1000000000 * i) ∧ 0 ≤ sC E i ∧ sC E i ≤ 1000000000 * i
  | 0, _ => by simp [sD, sC]
  | i + 1, hi => by
    have ih := s_bd h i (by omega)
    have hg := g_bd (h _ (getD_mem (d := []) (show i < E.length by omega)))
    rw [sD_next (by omega), sC_next (by omega)]
    omega
set_option maxRecDepth 100000 in
theorem isAccount_ret (n : Int) : Ret Tryz.prog G 105 [I n] (Bo (decide (0 ≤ n ∧ n ≤ 9))) := by
  refine ret_of_body hT Tryz.func105 rfl ?_ rfl
  repeat' ((first | (conv => whnf) | skip); (first | ((with_reducible intro h); first | contradiction | omega | (conv => whnf) | skip) | (with_reducible refine And.intro ?_ ?_) | ((with_reducible show arithK _ _ _); refine arith_ok ⟨by omega, by omega⟩ ?_) | ((with_reducible show quoK _ _ _ _); refine quo_ok ⟨by omega, by omega⟩ (by omega) (by omega) ?_) | ((with_reducible show remK _ _ _ _); refine rem_ok (by omega) (by omega) ?_) | ((first | (with_reducible show CallA _ _ _ _ _ _) | (with_reducible show CallQ _ _ _ _ _ _)); first | (refine Ret.goP (inRange_ret _ _ _) rfl ?_) | (refine Ret.goQP (inRange_ret _ _ _) rfl ?_)) | ((with_reducible show DrawA _ _ _ _ _ _); first | (first | (refine draw_quiet hT mixed (by decide +kernel) ?_) | (refine draw_hard hT mixed (by decide +kernel) ?_)))))
  all_goals (first | exact bv_true (by omega) | exact bv_false (by omega))
set_option maxRecDepth 100000 in
theorem isEntry_ret (n : Int) (r : List Int) (hn : 0 ≤ n ∧ n ≤ 35999) (h : enOk n r) : Ret Tryz.prog G 148 [WE4 r] (Bo true) := by
  refine ret_of_body hT Tryz.func148 rfl ?_ rfl
  obtain ⟨h1, h2, h3, h4, h5, h6⟩ := h
  repeat' ((first | (conv => whnf) | skip); (first | ((with_reducible intro h); first | contradiction | omega | (conv => whnf) | skip) | (with_reducible refine And.intro ?_ ?_) | ((with_reducible show arithK _ _ _); refine arith_ok ⟨by omega, by omega⟩ ?_) | ((with_reducible show quoK _ _ _ _); refine quo_ok ⟨by omega, by omega⟩ (by omega) (by omega) ?_) | ((with_reducible show remK _ _ _ _); refine rem_ok (by omega) (by omega) ?_) | ((first | (with_reducible show CallA _ _ _ _ _ _) | (with_reducible show CallQ _ _ _ _ _ _)); first | (refine Ret.goP (isMonth_ret _) rfl ?_) | (refine Ret.goQP (isMonth_ret _) rfl ?_) | (refine Ret.goP (isAccount_ret _) rfl ?_) | (refine Ret.goQP (isAccount_ret _) rfl ?_) | (refine Ret.goP (inRange_ret _ _ _) rfl ?_) | (refine Ret.goQP (inRange_ret _ _ _) rfl ?_)) | ((with_reducible show DrawA _ _ _ _ _ _); first | (first | (refine draw_quiet hT mixed (by decide +kernel) ?_) | (refine draw_hard hT mixed (by decide +kernel) ?_)))))
  all_goals first | rfl | omega | trace_state
set_option maxRecDepth 100000 in
theorem isLedger_ret (n : Int) (E : List (List Int)) (hn : 0 ≤ n ∧ n ≤ 35999) (hl : E.length ≤ 150) (hE : ∀ r ∈ E, enOk n r) : Ret Tryz.prog G 104 [REntry E] (Bo true) := by
  refine ret_of_body hT Tryz.func104 rfl ?_ rfl
  repeat' ((first | (conv => whnf) | skip); (first | ((with_reducible intro h); first | contradiction | omega | (conv => whnf) | skip) | (with_reducible refine And.intro ?_ ?_) | ((with_reducible show arithK _ _ _); refine arith_ok ⟨by omega, by omega⟩ ?_) | ((with_reducible show quoK _ _ _ _); refine quo_ok ⟨by omega, by omega⟩ (by omega) (by omega) ?_) | ((with_reducible show remK _ _ _ _); refine rem_ok (by omega) (by omega) ?_) | ((first | (with_reducible show CallA _ _ _ _ _ _) | (with_reducible show CallQ _ _ _ _ _ _)); first | fail) | ((with_reducible show DrawA _ _ _ _ _ _); first | (first | (refine draw_quiet hT mixed (by decide +kernel) ?_) | (refine draw_hard hT mixed (by decide +kernel) ?_)))))
  all_goals first | rfl | omega | skip
  refine loop_rule hT (fun i : Nat => i ≤ E.length) 34 0 [0, 8, 9, 10] (fun i => [REntry E, REntry E, I E.length, I i]) (fun _ => []) (fun i => E.length - i) (0) (Nat.le_of_ble_eq_true rfl) ?_ ?_ ?_
  · exact Nat.zero_le _
  · (refine ⟨rfl, [], ?_, ?_⟩; all_goals (repeat' (first | exact rfl | exact trivial | (with_reducible assumption) | refine And.intro ?_ ?_)); all_goals (first | omega | assumption); done)
  · intro i h1
    by_cases hi : i < E.length
    · have he := hE _ (getD_mem (d := []) hi)
      have hr := isEntry_ret n (E.getD ((i : Int)).toNat []) hn he
      have e0 : (E.getD ((i : Int)).toNat []).getD 0 0 = n := he.1
      have e1 : 0 < i → (E.getD ((i : Int) - 1).toNat []).getD 0 0 = n := fun hp => by
        rw [show ((i : Int) - 1).toNat = i - 1 by omega]
        exact (hE _ (getD_mem (d := []) (show i - 1 < E.length by omega))).1
      repeat' ((first | (conv => whnf) | skip); (first | ((with_reducible intro h); first | contradiction | omega | (conv => whnf) | skip) | (with_reducible refine And.intro ?_ ?_) | ((with_reducible show arithK _ _ _); refine arith_ok ⟨by omega, by omega⟩ ?_) | ((with_reducible show quoK _ _ _ _); refine quo_ok ⟨by omega, by omega⟩ (by omega) (by omega) ?_) | ((with_reducible show remK _ _ _ _); refine rem_ok (by omega) (by omega) ?_) | ((first | (with_reducible show CallA _ _ _ _ _ _) | (with_reducible show CallQ _ _ _ _ _ _)); first | (refine Ret.go (hr) rfl rfl ?_) | (refine Ret.goQ (hr) rfl rfl ?_)) | ((with_reducible show DrawA _ _ _ _ _ _); first | (refine draw_hard hT mixed (by decide +kernel) ?_))))
      all_goals first | rfl | omega | skip
      all_goals ((conv => whnf); refine ⟨i + 1, by omega, ?_, by omega⟩; first | (refine ⟨rfl, [], ?_, ?_⟩; all_goals (repeat' (first | exact rfl | exact trivial | (with_reducible assumption) | refine And.intro ?_ ?_)); all_goals (first | omega | assumption); done) | trace_state)
    · repeat' ((first | (conv => whnf) | skip); (first | ((with_reducible intro h); first | contradiction | omega | (conv => whnf) | skip) | (with_reducible refine And.intro ?_ ?_) | ((with_reducible show arithK _ _ _); refine arith_ok ⟨by omega, by omega⟩ ?_) | ((with_reducible show quoK _ _ _ _); refine quo_ok ⟨by omega, by omega⟩ (by omega) (by omega) ?_) | ((with_reducible show remK _ _ _ _); refine rem_ok (by omega) (by omega) ?_) | ((first | (with_reducible show CallA _ _ _ _ _ _) | (with_reducible show CallQ _ _ _ _ _ _)); first | fail) | ((with_reducible show DrawA _ _ _ _ _ _); first | (first | (refine draw_quiet hT mixed (by decide +kernel) ?_) | (refine draw_hard hT mixed (by decide +kernel) ?_)))))
      all_goals first | rfl | omega | trace_state
set_option maxRecDepth 100000 in
theorem turnover_ret (n : Int) (E : List (List Int)) (hn : 0 ≤ n ∧ n ≤ 35999) (hl : E.length ≤ 150) (hE : ∀ r ∈ E, enOk n r) : Ret Tryz.prog G 106 [REntry E, I 0, I 0, I n] (.tup [I (sD E E.length), I (sC E E.length)]) := by
  refine ret_of_body hT Tryz.func106 rfl ?_ rfl
  repeat' ((first | (conv => whnf) | skip); (first | ((with_reducible intro h); first | contradiction | omega | (conv => whnf) | skip) | (with_reducible refine And.intro ?_ ?_) | ((with_reducible show arithK _ _ _); refine arith_ok ⟨by omega, by omega⟩ ?_) | ((with_reducible show quoK _ _ _ _); refine quo_ok ⟨by omega, by omega⟩ (by omega) (by omega) ?_) | ((with_reducible show remK _ _ _ _); refine rem_ok (by omega) (by omega) ?_) | ((first | (with_reducible show CallA _ _ _ _ _ _) | (with_reducible show CallQ _ _ _ _ _ _)); first | fail) | ((with_reducible show DrawA _ _ _ _ _ _); first | (first | (refine draw_quiet hT mixed (by decide +kernel) ?_) | (refine draw_hard hT mixed (by decide +kernel) ?_)))))
  all_goals first | rfl | omega | skip
  refine loop_rule hT (fun i : Nat => i ≤ E.length) 46 0 [1, 2, 3, 10, 11, 14, 15, 16] (fun i => [I 0, I 0, I n, I (sD E i), I (sC E i), REntry E, I E.length, I i]) (fun _ => []) (fun i => E.length - i) (0) (Nat.le_of_ble_eq_true rfl) ?_ ?_ ?_
  · exact Nat.zero_le _
  · (refine ⟨rfl, [], ?_, ?_⟩; all_goals (repeat' (first | exact rfl | exact trivial | (with_reducible assumption) | refine And.intro ?_ ?_)); all_goals (first | omega | assumption); done)
  · intro i h1
    have hb := s_bd hE i h1
    by_cases hi : i < E.length
    · have he := hE _ (getD_mem (d := []) hi)
      have e0 : (E.getD ((i : Int)).toNat []).getD 0 0 = n := he.1
      have hgb := g_bd he
      have n1 := sD_next hi
      have n2 := sC_next hi
      have hb2 := s_bd hE (i + 1) hi
      have x1 : gD (E.getD i []) = if (E.getD ((i : Int)).toNat []).getD 1 0 = 0 then (E.getD ((i : Int)).toNat []).getD 3 0 else 0 := rfl
      have x2 : gC (E.getD i []) = if (E.getD ((i : Int)).toNat []).getD 1 0 = 0 then 0 else if (E.getD ((i : Int)).toNat []).getD 2 0 = 0 then (E.getD ((i : Int)).toNat []).getD 3 0 else 0 := rfl
      by_cases a1 : (E.getD ((i : Int)).toNat []).getD 1 0 = 0
      · rw [if_pos a1] at x1 x2
        repeat' ((first | (conv => whnf) | skip); (first | ((with_reducible intro h); first | contradiction | omega | (conv => whnf) | skip) | (with_reducible refine And.intro ?_ ?_) | ((with_reducible show arithK _ _ _); refine arith_ok ⟨by omega, by omega⟩ ?_) | ((with_reducible show quoK _ _ _ _); refine quo_ok ⟨by omega, by omega⟩ (by omega) (by omega) ?_) | ((with_reducible show remK _ _ _ _); refine rem_ok (by omega) (by omega) ?_) | ((first | (with_reducible show CallA _ _ _ _ _ _) | (with_reducible show CallQ _ _ _ _ _ _)); first | (refine Ret.goP (inRange_ret _ _ _) rfl ?_) | (refine Ret.goQP (inRange_ret _ _ _) rfl ?_)) | ((with_reducible show DrawA _ _ _ _ _ _); first | (first | (refine draw_quiet hT mixed (by decide +kernel) ?_) | (refine draw_hard hT mixed (by decide +kernel) ?_)))))
        all_goals first | rfl | omega | skip
        all_goals ((conv => whnf); refine ⟨i + 1, by omega, ?_, by omega⟩; rw [n1, n2, x1, x2]; first | (refine ⟨rfl, [], ?_, ?_⟩; all_goals (repeat' (first | exact rfl | exact trivial | (with_reducible assumption) | refine And.intro ?_ ?_)); all_goals (first | omega | assumption); done) | trace_state)
      · rw [if_neg a1] at x1 x2
        by_cases a2 : (E.getD ((i : Int)).toNat []).getD 2 0 = 0
        · rw [if_pos a2] at x2
          repeat' ((first | (conv => whnf) | skip); (first | ((with_reducible intro h); first | contradiction | omega | (conv => whnf) | skip) | (with_reducible refine And.intro ?_ ?_) | ((with_reducible show arithK _ _ _); refine arith_ok ⟨by omega, by omega⟩ ?_) | ((with_reducible show quoK _ _ _ _); refine quo_ok ⟨by omega, by omega⟩ (by omega) (by omega) ?_) | ((with_reducible show remK _ _ _ _); refine rem_ok (by omega) (by omega) ?_) | ((first | (with_reducible show CallA _ _ _ _ _ _) | (with_reducible show CallQ _ _ _ _ _ _)); first | (refine Ret.goP (inRange_ret _ _ _) rfl ?_) | (refine Ret.goQP (inRange_ret _ _ _) rfl ?_)) | ((with_reducible show DrawA _ _ _ _ _ _); first | (first | (refine draw_quiet hT mixed (by decide +kernel) ?_) | (refine draw_hard hT mixed (by decide +kernel) ?_)))))
          all_goals first | rfl | omega | skip
          all_goals ((conv => whnf); refine ⟨i + 1, by omega, ?_, by omega⟩; rw [n1, n2, x1, x2]; first | (refine ⟨rfl, [], ?_, ?_⟩; all_goals (repeat' (first | exact rfl | exact trivial | (with_reducible assumption) | refine And.intro ?_ ?_)); all_goals (first | omega | assumption); done) | trace_state)
        · rw [if_neg a2] at x2
          repeat' ((first | (conv => whnf) | skip); (first | ((with_reducible intro h); first | contradiction | omega | (conv => whnf) | skip) | (with_reducible refine And.intro ?_ ?_) | ((with_reducible show arithK _ _ _); refine arith_ok ⟨by omega, by omega⟩ ?_) | ((with_reducible show quoK _ _ _ _); refine quo_ok ⟨by omega, by omega⟩ (by omega) (by omega) ?_) | ((with_reducible show remK _ _ _ _); refine rem_ok (by omega) (by omega) ?_) | ((first | (with_reducible show CallA _ _ _ _ _ _) | (with_reducible show CallQ _ _ _ _ _ _)); first | (refine Ret.goP (inRange_ret _ _ _) rfl ?_) | (refine Ret.goQP (inRange_ret _ _ _) rfl ?_)) | ((with_reducible show DrawA _ _ _ _ _ _); first | (first | (refine draw_quiet hT mixed (by decide +kernel) ?_) | (refine draw_hard hT mixed (by decide +kernel) ?_)))))
          all_goals first | rfl | omega | skip
          all_goals ((conv => whnf); refine ⟨i + 1, by omega, ?_, by omega⟩; rw [n1, n2, x1, x2]; first | (refine ⟨rfl, [], ?_, ?_⟩; all_goals (repeat' (first | exact rfl | exact trivial | (with_reducible assumption) | refine And.intro ?_ ?_)); all_goals (first | omega | assumption); done) | trace_state)
    · obtain rfl : i = E.length := by omega
      repeat' ((first | (conv => whnf) | skip); (first | ((with_reducible intro h); first | contradiction | omega | (conv => whnf) | skip) | (with_reducible refine And.intro ?_ ?_) | ((with_reducible show arithK _ _ _); refine arith_ok ⟨by omega, by omega⟩ ?_) | ((with_reducible show quoK _ _ _ _); refine quo_ok ⟨by omega, by omega⟩ (by omega) (by omega) ?_) | ((with_reducible show remK _ _ _ _); refine rem_ok (by omega) (by omega) ?_) | ((first | (with_reducible show CallA _ _ _ _ _ _) | (with_reducible show CallQ _ _ _ _ _ _)); first | fail) | ((with_reducible show DrawA _ _ _ _ _ _); first | (first | (refine draw_quiet hT mixed (by decide +kernel) ?_) | (refine draw_hard hT mixed (by decide +kernel) ?_)))))
      all_goals first | rfl | omega | trace_state
set_option maxRecDepth 100000 in
theorem balance_ret (n : Int) (E : List (List Int)) (hn : 0 ≤ n ∧ n ≤ 35999) (hl : E.length ≤ 150) (hE : ∀ r ∈ E, enOk n r) : Ret Tryz.prog G 46 [REntry E, I 0, I n] (.tup [I (sD E E.length - sC E E.length), I 0]) := by
  refine ret_of_body hT Tryz.func46 rfl ?_ rfl
  have hb := s_bd hE E.length (Nat.le_refl _)
  repeat' ((first | (conv => whnf) | skip); (first | ((with_reducible intro h); first | contradiction | omega | (conv => whnf) | skip) | (with_reducible refine And.intro ?_ ?_) | ((with_reducible show arithK _ _ _); refine arith_ok ⟨by omega, by omega⟩ ?_) | ((with_reducible show quoK _ _ _ _); refine quo_ok ⟨by omega, by omega⟩ (by omega) (by omega) ?_) | ((with_reducible show remK _ _ _ _); refine rem_ok (by omega) (by omega) ?_) | ((first | (with_reducible show CallA _ _ _ _ _ _) | (with_reducible show CallQ _ _ _ _ _ _)); first | (refine Ret.go (isLedger_ret n E hn hl hE) rfl rfl ?_) | (refine Ret.goQ (isLedger_ret n E hn hl hE) rfl rfl ?_) | (refine Ret.goP (isAccount_ret _) rfl ?_) | (refine Ret.goQP (isAccount_ret _) rfl ?_) | (refine Ret.goP (isMonth_ret _) rfl ?_) | (refine Ret.goQP (isMonth_ret _) rfl ?_) | (refine Ret.go (turnover_ret n E hn hl hE) rfl rfl ?_) | (refine Ret.goQ (turnover_ret n E hn hl hE) rfl rfl ?_)) | ((with_reducible show DrawA _ _ _ _ _ _); first | (first | (refine draw_quiet hT mixed (by decide +kernel) ?_) | (refine draw_hard hT mixed (by decide +kernel) ?_)))))
  all_goals first | rfl | omega | trace_state
/-! A year's entries -/
theorem yr_en {n a b c d e f g : Int} (h : yrC n a b c d e f g = 0) : (isYr a b c d e f g ∧ 0 ≤ n ∧ n ≤ 35999) ∧ (∀ r ∈ yrR n a b c d e f g, enOk n r) ∧ sD (yrR n a b c d e f g) (yrR n a b c d e f g).length - sC (yrR n a b c d e f g) (yrR n a b c d e f g).length = b + c - d + e - f := by
  have hy : isYr a b c d e f g := by
    refine Classical.byContradiction fun hh => ?_
    rw [(yr_no1 (n := n) hh).2] at h; cases h
  have hm : 0 ≤ n ∧ n ≤ 35999 := by
    refine Classical.byContradiction fun hh => ?_
    rw [(yr_no2 hy hh).2] at h; cases h
  have hs : smallE (ents n (b + c) d e f) := by
    refine Classical.byContradiction fun hh => ?_
    rw [(yr_no3 hy hm hh).2] at h; cases h
  have hr := (yr_yes (g := g) hy hm hs).1
  have hb := yr_bd hy
  rw [hr]
  have hs1 := hs _ (show [n, 0, 3, b + c] ∈ ents n (b + c) d e f by simp)
  have hs2 := hs _ (show [n, 5, 0, d] ∈ ents n (b + c) d e f by simp)
  have hs3 := hs _ (show [n, 0, 6, e] ∈ ents n (b + c) d e f by simp)
  have hs4 := hs _ (show [n, 4, 0, f] ∈ ents n (b + c) d e f by simp)
  have g1 : ([n, 0, 3, b + c] : List Int).getD 3 0 = b + c := rfl
  have g2 : ([n, 5, 0, d] : List Int).getD 3 0 = d := rfl
  have g3 : ([n, 0, 6, e] : List Int).getD 3 0 = e := rfl
  have g4 : ([n, 4, 0, f] : List Int).getD 3 0 = f := rfl
  rw [g1] at hs1; rw [g2] at hs2; rw [g3] at hs3; rw [g4] at hs4
  refine ⟨⟨hy, hm⟩, fun r hr => ?_, ?_⟩
  · obtain ⟨h1, h2⟩ := List.mem_filter.1 hr
    have h1 : r ∈ ents n (b + c) d e f := List.mem_of_mem_take h1
    have h2 : 0 < r.getD 3 0 := of_decide_eq_true h2
    have h3 := hs r h1
    simp only [ents, List.mem_cons, List.not_mem_nil, or_false] at h1
    unfold enOk
    rcases h1 with rfl | rfl | rfl | rfl
    · (refine ⟨rfl, ?_, ?_, ?_, h2, h3⟩ <;> simp)
    · (refine ⟨rfl, ?_, ?_, ?_, h2, h3⟩ <;> simp)
    · (refine ⟨rfl, ?_, ?_, ?_, h2, h3⟩ <;> simp)
    · (refine ⟨rfl, ?_, ?_, ?_, h2, h3⟩ <;> simp)
  · unfold sD sC
    rw [List.take_length]
    have key : ∀ xss : List (List Int), (∀ r ∈ xss, 0 ≤ r.getD 3 0) → ((xss.filter posQ).map gD).sum = (xss.map gD).sum ∧ ((xss.filter posQ).map gC).sum = (xss.map gC).sum := by
      intro xss
      induction xss with
      | nil => intro _; exact ⟨rfl, rfl⟩
      | cons x r ih =>
        intro hx
        obtain ⟨i1, i2⟩ := ih fun y hy => hx y (List.mem_cons_of_mem _ hy)
        have h0 := hx x List.mem_cons_self
        by_cases hp : 0 < x.getD 3 0
        · have hq : posQ x = true := decide_eq_true hp
          rw [List.filter_cons_of_pos hq]
          simp only [List.map_cons, List.sum_cons, i1, i2]
          exact ⟨trivial, trivial⟩
        · have hq : ¬ posQ x = true := fun e => hp (of_decide_eq_true e)
          have hz : x.getD 3 0 = 0 := by omega
          have z1 : gD x = 0 := by unfold gD; rw [hz]; split <;> rfl
          have z2 : gC x = 0 := by
            unfold gC; rw [hz]
            split
            · rfl
            · split <;> rfl
          rw [List.filter_cons_of_neg hq]
          simp only [List.map_cons, List.sum_cons, i1, i2, z1, z2, Int.zero_add]
          exact ⟨trivial, trivial⟩
    have hk := key (ents n (b + c) d e f) (fun r hr => by
      simp only [ents, List.mem_cons, List.not_mem_nil, or_false] at hr
      rcases hr with rfl | rfl | rfl | rfl
      · rw [g1]; omega
      · rw [g2]; omega
      · rw [g3]; omega
      · rw [g4]; omega)
    have ht : outs (ents n (b + c) d e f) 4 = (ents n (b + c) d e f).filter posQ := by unfold outs; rw [List.take_of_length_le (Nat.le_refl 4)]
    rw [ht, hk.1, hk.2]
    have v1 : ((ents n (b + c) d e f).map gD).sum = b + c + (0 + (e + (0 + 0))) := rfl
    have v2 : ((ents n (b + c) d e f).map gC).sum = 0 + (d + (0 + (f + 0))) := rfl
    rw [v1, v2]
    omega
end Go.Proofs.YtenofbabiacacaaGreat
