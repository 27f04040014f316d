/-
  Candidates elected by points, in the reference; the law. No conditions but those in the statements.
-/
import Derived.Test.YtcdfdigehaipmaaEr
import Derived.Test.YtcdfdigehaipmaaEp
set_option linter.unusedVariables false
set_option linter.unusedSimpArgs false
namespace Go.Proofs.Ytcdfdigehaipmaa
open Go.AE

attribute [local irreducible] CallA LoopA DrawA CallQ arithK quoK remK eqK
/-- The points when the first k have been taken. -/
def mkA (ps : List Int) (n k : Nat) : List Int := (List.range n).map fun c : Nat => if (c : Int) ∈ (isrt ps n).take k then -1 else ps.getD c 0
theorem mkA_len (ps : List Int) (n k : Nat) : (mkA ps n k).length = n := by simp [mkA]
theorem mkA_get {ps : List Int} {n k c : Nat} (h : c < n) : (mkA ps n k).getD c 0 = if (c : Int) ∈ (isrt ps n).take k then -1 else ps.getD c 0 := by
  rw [mkA, List.getD_eq_getElem?_getD, List.getElem?_map, List.getElem?_range h]; rfl
theorem mkA_zero {ps : List Int} {n : Nat} (h : ps.length = n) : ps = mkA ps n 0 := by
  refine ext_getD 0 (by rw [mkA_len, h]) fun i hi => ?_
  rw [mkA_get (by omega)]
  simp
theorem sel_eq {ps : List Int} {n k b : Nat} (h0 : ∀ c, c < n → 0 ≤ ps.getD c 0) (hk : k < n) (hb : b < n) (hm : ∀ d, d < n → (mkA ps n k).getD d 0 < (mkA ps n k).getD b 0 ∨ ((mkA ps n k).getD d 0 = (mkA ps n k).getD b 0 ∧ b ≤ d)) : (b : Int) = (isrt ps n).getD k 0 := by
  have hS := isrt_So ps n
  have hl := hS.len
  have hx := hS.rg _ (getD_mem (d := (0 : Int)) (show k < (isrt ps n).length by omega))
  obtain ⟨x, hxe⟩ : ∃ x : Nat, (x : Int) = (isrt ps n).getD k 0 := ⟨((isrt ps n).getD k 0).toNat, by omega⟩
  rw [← hxe] at hx ⊢
  have hsp : isrt ps n = (isrt ps n).take k ++ (isrt ps n).getD k 0 :: (isrt ps n).drop (k + 1) := by
    conv => lhs; rw [← List.take_append_drop k (isrt ps n), List.drop_eq_getElem_cons (by omega), ← getD_lt (d := (0 : Int)) (by omega)]
  have hord := hS.ord
  rw [hsp, ← hxe] at hord
  obtain ⟨q1, q2, q3⟩ := List.pairwise_append.1 hord
  obtain ⟨q4, q5⟩ := List.pairwise_cons.1 q2
  have hxn : (x : Int) ∉ (isrt ps n).take k := fun hm => by
    have := q3 _ hm (x : Int) (by simp)
    exact this.asym this
  have hax := mkA_get (ps := ps) (n := n) (k := k) (c := x) (by omega)
  rw [if_neg hxn] at hax
  have hab := mkA_get (ps := ps) (n := n) (k := k) (c := b) hb
  have hmx := hm x (by omega)
  have hx0 := h0 x (by omega)
  by_cases hbt : (b : Int) ∈ (isrt ps n).take k
  · rw [if_pos hbt] at hab
    omega
  · rw [if_neg hbt] at hab
    refine Classical.byContradiction fun hne => ?_
    have hbm : (b : Int) ∈ isrt ps n := hS.all ⟨by omega, by omega⟩
    rw [hsp] at hbm
    rcases List.mem_append.1 hbm with h1 | h1
    · exact hbt h1
    · rcases List.mem_cons.1 h1 with h1 | h1
      · rw [← hxe] at h1; exact hne h1
      · have h2 : Ah ps x b := q4 _ h1
        unfold Ah at h2
        have e1 : pv ps (x : Int) = ps.getD x 0 := rfl
        have e2 : pv ps (b : Int) = ps.getD b 0 := rfl
        omega
theorem mkA_next {ps : List Int} {n k b : Nat} (hk : k < n) (hb : (b : Int) = (isrt ps n).getD k 0) : (mkA ps n k).set b (-1) = mkA ps n (k + 1) := by
  have hl := (isrt_So ps n).len
  refine ext_getD 0 (by simp [mkA]) fun i hi => ?_
  rw [List.length_set, mkA_len] at hi
  rw [getD_set, mkA_len, mkA_get hi, mkA_get hi, take_snoc 0 (by omega), ← hb]
  by_cases hib : b = i
  · subst hib
    rw [if_pos ⟨rfl, hi⟩, if_pos (by simp)]
  · rw [if_neg (fun e => hib e.1)]
    have : ((i : Int) ∈ (isrt ps n).take k ++ [(b : Int)]) ↔ (i : Int) ∈ (isrt ps n).take k := by
      rw [List.mem_append, List.mem_singleton]
      exact ⟨fun h => h.elim id fun h => by omega, .inl⟩
    by_cases hm : (i : Int) ∈ (isrt ps n).take k
    · rw [if_pos hm, if_pos (this.2 hm)]
    · rw [if_neg hm, if_neg (fun h => hm (this.1 h))]
theorem best_yes {f : Nat → Int} {c b : Nat} (h : ∀ d, d < c → f d < f b ∨ (f d = f b ∧ b ≤ d)) (h2 : f b < f c) : ∀ d, d < c + 1 → f d < f c ∨ (f d = f c ∧ c ≤ d) := fun d hd => by
  by_cases he : d = c
  · subst he; exact .inr ⟨rfl, Nat.le_refl _⟩
  · have := h d (by omega); omega
theorem best_no {f : Nat → Int} {c b : Nat} (hb : b ≤ c) (h : ∀ d, d < c → f d < f b ∨ (f d = f b ∧ b ≤ d)) (h2 : ¬ f b < f c) : ∀ d, d < c + 1 → f d < f b ∨ (f d = f b ∧ b ≤ d) := fun d hd => by
  by_cases he : d = c
  · subst he; omega
  · exact h d (by omega)
attribute [local irreducible] mkA isrt ptN
set_option maxHeartbeats 4000000 in
set_option maxRecDepth 100000 in
theorem specElected_call (n : Int) (xss : List (List Int)) (s : Int) (hn : xss.length ≤ 1048576) (hr : ∀ r ∈ xss, r.length ≤ 1048576) : CallA Try.prog G 42 [I n, Rn xss, I s] [] (fun v J => v = elT n xss s ∧ J = [Di (elR n xss s)]) := by
  refine CallA.ends (callA_of_body hT Try.func42 rfl ?_)
  have hba := specBallots_ret n xss hn hr
  by_cases ho : okB n xss
  · rw [decide_eq_true ho] at hba
    obtain ⟨m, rfl⟩ : ∃ m : Nat, n = (m : Int) := ⟨n.toNat, by have := ho.1; omega⟩
    by_cases hs : 1 ≤ s ∧ s ≤ 12
    · by_cases hsn : s ≤ (m : Int)
      · obtain ⟨h1, h2⟩ := el_yes ho hs hsn
        have hc := ho.1
        obtain ⟨z, rfl⟩ : ∃ z : Nat, s = (z : Int) := ⟨s.toNat, by omega⟩
        have hpl : (ptN m xss xss.length).length = m := ptN_len m xss xss.length
        have hil : (isrt (ptN m xss xss.length) m).length = m := (isrt_So (ptN m xss xss.length) m).len
        have h1' : elR m xss z = (isrt (ptN m xss xss.length) m).take z := h1
        have hel : (elR m xss z).length = z := by rw [h1', List.length_take]; omega
        have hlb : ∀ b ∈ xss, (b.length : Int) ≤ m := fun b hb => ok1_lenN hc (ho.2.2 b hb)
        have hp0 : ∀ c, c < m → 0 ≤ (ptN m xss xss.length).getD c 0 := fun c _ => (ptN_bd hc hlb xss.length (Nat.le_refl _) c).1
        have hml := mkA_len (ptN m xss xss.length) m
        rw [elT, hel, h1', h2]
        repeat' ((first | (conv => whnf) | skip); (first | ((with_reducible intro h); first | contradiction | omega | (conv => whnf) | skip) | (with_reducible refine And.intro ?_ ?_) | ((with_reducible show arithK _ _ _); refine arith_ok ⟨by omega, by omega⟩ ?_) | ((with_reducible show quoK _ _ _ _); refine quo_ok ⟨by omega, by omega⟩ (by omega) (by omega) ?_) | ((with_reducible show remK _ _ _ _); refine rem_ok (by omega) (by omega) ?_) | ((first | (with_reducible show CallA _ _ _ _ _ _) | (with_reducible show CallQ _ _ _ _ _ _)); first | (refine Ret.go (hba) rfl rfl ?_) | (refine Ret.goQ (hba) rfl rfl ?_) | (refine Ret.goP (l01In_ret _ _ _) rfl ?_) | (refine Ret.goQP (l01In_ret _ _ _) rfl ?_) | (refine CallA.go [] (specPts_call m xss ho) rfl (by first | ((repeat' (first | exact rfl | exact trivial | (with_reducible assumption) | refine And.intro ?_ ?_ | omega | assumption)); done) | fail) trivial ?_)) | ((with_reducible show DrawA _ _ _ _ _ _); first | (refine draw_hard hT mixed (by decide +kernel) ?_))))
        all_goals first | rfl | omega | skip
        (conv => whnf)
        refine loop_rule hT (fun k : Nat => k ≤ z) 60 2 [0, 1, 2, 8, 9, 10] (fun k => [I m, Rn xss, I z, .sl 0 1 m, .sl 2 1 k, I k]) (fun k => [Di (mkA (ptN m xss xss.length) m k), .dead, Di ((isrt (ptN m xss xss.length) m).take k)]) (fun k => z - k) (0) (Nat.le_of_ble_eq_true rfl) ?_ ?_ ?_
        · exact Nat.zero_le _
        · first | (refine ⟨rfl, [some 1], ?_, ?_⟩; all_goals (repeat' (first | exact rfl | exact trivial | (with_reducible assumption) | refine And.intro ?_ ?_)); all_goals (first | omega | assumption | ((repeat' (first | exact congrArg (D.ints .i64) (mkA_zero hpl) | exact rfl | exact trivial | (with_reducible assumption) | refine And.intro ?_ ?_ | omega | assumption)); done)); done) | trace_state
        · intro k h3
          have hmk := hml k
          by_cases hkz : k < z
          · have htl : ((isrt (ptN m xss xss.length) m).take k).length = k := by rw [List.length_take]; omega
            repeat' ((first | (conv => whnf) | skip); (first | ((with_reducible intro h); first | contradiction | omega | (conv => whnf) | skip) | (with_reducible refine And.intro ?_ ?_) | ((with_reducible show arithK _ _ _); refine arith_ok ⟨by omega, by omega⟩ ?_) | ((with_reducible show quoK _ _ _ _); refine quo_ok ⟨by omega, by omega⟩ (by omega) (by omega) ?_) | ((with_reducible show remK _ _ _ _); refine rem_ok (by omega) (by omega) ?_) | ((first | (with_reducible show CallA _ _ _ _ _ _) | (with_reducible show CallQ _ _ _ _ _ _)); first | fail) | ((with_reducible show DrawA _ _ _ _ _ _); first | (refine draw_hard hT mixed (by decide +kernel) ?_))))
            all_goals first | rfl | omega | skip
            (conv => whnf)
            refine loop_rule hT (fun q : Nat × Nat => (q.1 ≤ m ∧ q.2 ≤ q.1 ∧ q.2 < m) ∧ ∀ d, d < q.1 → (mkA (ptN m xss xss.length) m k).getD d 0 < (mkA (ptN m xss xss.length) m k).getD q.2 0 ∨ ((mkA (ptN m xss xss.length) m k).getD d 0 = (mkA (ptN m xss xss.length) m k).getD q.2 0 ∧ q.2 ≤ d)) 60 3 [0, 1, 2, 8, 9, 10, 11, 12] (fun q => [I m, Rn xss, I z, .sl 0 1 m, .sl 2 1 k, I k, I q.2, I q.1]) (fun q => [Di (mkA (ptN m xss xss.length) m k), .dead, Di ((isrt (ptN m xss xss.length) m).take k)]) (fun q => m - q.1) ((0, 0)) (Nat.le_of_ble_eq_true rfl) ?_ ?_ ?_
            · exact ⟨⟨Nat.zero_le _, Nat.le_refl _, by dsimp only; omega⟩, fun d hd => absurd hd (Nat.not_lt_zero d)⟩
            · first | (refine ⟨rfl, [], ?_, ?_⟩; all_goals (repeat' (first | exact rfl | exact trivial | (with_reducible assumption) | refine And.intro ?_ ?_)); all_goals (first | omega | assumption); done) | trace_state
            · rintro ⟨c, b⟩ ⟨⟨h4, h5, h6⟩, h7⟩
              dsimp only at h4 h5 h6 h7 ⊢
              by_cases hcm : c < m
              · repeat' ((first | (conv => whnf) | skip); (first | ((with_reducible intro h); first | contradiction | omega | (conv => whnf) | skip) | (with_reducible refine And.intro ?_ ?_) | ((with_reducible show arithK _ _ _); refine arith_ok ⟨by omega, by omega⟩ ?_) | ((with_reducible show quoK _ _ _ _); refine quo_ok ⟨by omega, by omega⟩ (by omega) (by omega) ?_) | ((with_reducible show remK _ _ _ _); refine rem_ok (by omega) (by omega) ?_) | ((first | (with_reducible show CallA _ _ _ _ _ _) | (with_reducible show CallQ _ _ _ _ _ _)); first | fail) | ((with_reducible show DrawA _ _ _ _ _ _); first | (refine draw_hard hT mixed (by decide +kernel) ?_))))
                all_goals first | rfl | omega | skip
                all_goals ((conv => whnf); first
                  | (refine ⟨(c + 1, c), ⟨⟨by dsimp only; omega, by dsimp only; omega, by dsimp only; omega⟩, best_yes h7 (by assumption)⟩, ?_, by dsimp only; omega⟩; (refine ⟨rfl, [], ?_, ?_⟩; all_goals (repeat' (first | exact rfl | exact trivial | (with_reducible assumption) | refine And.intro ?_ ?_)); all_goals (first | omega | assumption); done))
                  | (refine ⟨(c + 1, b), ⟨⟨by dsimp only; omega, by dsimp only; omega, by dsimp only; omega⟩, best_no h5 h7 (by assumption)⟩, ?_, by dsimp only; omega⟩; (refine ⟨rfl, [], ?_, ?_⟩; all_goals (repeat' (first | exact rfl | exact trivial | (with_reducible assumption) | refine And.intro ?_ ?_)); all_goals (first | omega | assumption); done))
                  | trace_state)
              · obtain rfl : c = m := by omega
                have hsel := sel_eq hp0 (by omega) h6 h7
                have hnx := mkA_next (ps := ptN c xss xss.length) (n := c) (k := k) (b := b) (by omega) hsel
                have hout : (isrt (ptN c xss xss.length) c).take k ++ ([] ++ [(b : Int)]) = (isrt (ptN c xss xss.length) c).take (k + 1) := by rw [take_snoc 0 (by omega), hsel]; rfl
                repeat' ((first | (conv => whnf) | skip); (first | ((with_reducible intro h); first | contradiction | omega | (conv => whnf) | skip) | (with_reducible refine And.intro ?_ ?_) | ((with_reducible show arithK _ _ _); refine arith_ok ⟨by omega, by omega⟩ ?_) | ((with_reducible show quoK _ _ _ _); refine quo_ok ⟨by omega, by omega⟩ (by omega) (by omega) ?_) | ((with_reducible show remK _ _ _ _); refine rem_ok (by omega) (by omega) ?_) | ((first | (with_reducible show CallA _ _ _ _ _ _) | (with_reducible show CallQ _ _ _ _ _ _)); first | fail) | ((with_reducible show DrawA _ _ _ _ _ _); first | (refine draw_hard hT mixed (by decide +kernel) ?_))))
                all_goals first | rfl | omega | (show (_ : Nat) ≤ _; simp [htl]; omega) | skip
                all_goals ((conv => whnf); first
                  | (refine ⟨k + 1, by omega, ?_, by omega⟩; (refine ⟨rfl, [some 4], ?_, ?_⟩; all_goals (repeat' (first | exact rfl | exact trivial | (with_reducible assumption) | refine And.intro ?_ ?_)); all_goals (first | omega | assumption | ((repeat' (first | (exact congrArg (D.ints .i64) hnx) | (exact congrArg (D.ints .i64) hout) | (simp [htl]; done) | exact rfl | exact trivial | (with_reducible assumption) | refine And.intro ?_ ?_ | omega | assumption)); done)); done))
                  | trace_state)
          · obtain rfl : k = z := by omega
            repeat' ((first | (conv => whnf) | skip); (first | ((with_reducible intro h); first | contradiction | omega | (conv => whnf) | skip) | (with_reducible refine And.intro ?_ ?_) | ((with_reducible show arithK _ _ _); refine arith_ok ⟨by omega, by omega⟩ ?_) | ((with_reducible show quoK _ _ _ _); refine quo_ok ⟨by omega, by omega⟩ (by omega) (by omega) ?_) | ((with_reducible show remK _ _ _ _); refine rem_ok (by omega) (by omega) ?_) | ((first | (with_reducible show CallA _ _ _ _ _ _) | (with_reducible show CallQ _ _ _ _ _ _)); first | fail) | ((with_reducible show DrawA _ _ _ _ _ _); first | (refine draw_hard hT mixed (by decide +kernel) ?_))))
            all_goals first | rfl | omega | skip
            all_goals ((conv => whnf); first | (refine ⟨[some 2], .tup [.sl 0 1 k, I 0], [Di ((isrt (ptN m xss xss.length) m).take k)], ?_, ?_, ?_⟩; all_goals (repeat' (first | exact rfl | exact trivial | (with_reducible assumption) | refine And.intro ?_ ?_)); all_goals (first | omega | assumption); done) | trace_state)
      · obtain ⟨h1, h2⟩ := el_state ho hs hsn
        rw [elT, h1, h2]
        repeat' ((first | (conv => whnf) | skip); (first | ((with_reducible intro h); first | contradiction | omega | (conv => whnf) | skip) | (with_reducible refine And.intro ?_ ?_) | ((with_reducible show arithK _ _ _); refine arith_ok ⟨by omega, by omega⟩ ?_) | ((with_reducible show quoK _ _ _ _); refine quo_ok ⟨by omega, by omega⟩ (by omega) (by omega) ?_) | ((with_reducible show remK _ _ _ _); refine rem_ok (by omega) (by omega) ?_) | ((first | (with_reducible show CallA _ _ _ _ _ _) | (with_reducible show CallQ _ _ _ _ _ _)); first | (refine Ret.go (hba) rfl rfl ?_) | (refine Ret.goQ (hba) rfl rfl ?_) | (refine Ret.goP (l01In_ret _ _ _) rfl ?_) | (refine Ret.goQP (l01In_ret _ _ _) rfl ?_)) | ((with_reducible show DrawA _ _ _ _ _ _); first | (refine draw_hard hT mixed (by decide +kernel) ?_))))
        all_goals first | rfl | omega | skip
        all_goals ((conv => whnf); (first | (refine ⟨[none], .tup [.sl 0 1 0, I 5], [Di []], ?_, ?_, ?_⟩; all_goals (repeat' (first | exact rfl | exact trivial | (with_reducible assumption) | refine And.intro ?_ ?_ | omega))) | trace_state))
    · obtain ⟨h1, h2⟩ := el_no (n := m) (xss := xss) (s := s) (fun e => hs e.2)
      rw [elT, h1, h2]
      repeat' ((first | (conv => whnf) | skip); (first | ((with_reducible intro h); first | contradiction | omega | (conv => whnf) | skip) | (with_reducible refine And.intro ?_ ?_) | ((with_reducible show arithK _ _ _); refine arith_ok ⟨by omega, by omega⟩ ?_) | ((with_reducible show quoK _ _ _ _); refine quo_ok ⟨by omega, by omega⟩ (by omega) (by omega) ?_) | ((with_reducible show remK _ _ _ _); refine rem_ok (by omega) (by omega) ?_) | ((first | (with_reducible show CallA _ _ _ _ _ _) | (with_reducible show CallQ _ _ _ _ _ _)); first | (refine Ret.go (hba) rfl rfl ?_) | (refine Ret.goQ (hba) rfl rfl ?_) | (refine Ret.goP (l01In_ret _ _ _) rfl ?_) | (refine Ret.goQP (l01In_ret _ _ _) rfl ?_)) | ((with_reducible show DrawA _ _ _ _ _ _); first | (refine draw_hard hT mixed (by decide +kernel) ?_))))
      all_goals first | rfl | omega | skip
      all_goals ((conv => whnf); (first | (refine ⟨[none], .tup [.sl 0 1 0, I 2], [Di []], ?_, ?_, ?_⟩; all_goals (repeat' (first | exact rfl | exact trivial | (with_reducible assumption) | refine And.intro ?_ ?_ | omega))) | trace_state))
  · rw [decide_eq_false ho] at hba
    obtain ⟨h1, h2⟩ := el_no (n := n) (xss := xss) (s := s) (fun e => ho e.1)
    rw [elT, h1, h2]
    repeat' ((first | (conv => whnf) | skip); (first | ((with_reducible intro h); first | contradiction | omega | (conv => whnf) | skip) | (with_reducible refine And.intro ?_ ?_) | ((with_reducible show arithK _ _ _); refine arith_ok ⟨by omega, by omega⟩ ?_) | ((with_reducible show quoK _ _ _ _); refine quo_ok ⟨by omega, by omega⟩ (by omega) (by omega) ?_) | ((with_reducible show remK _ _ _ _); refine rem_ok (by omega) (by omega) ?_) | ((first | (with_reducible show CallA _ _ _ _ _ _) | (with_reducible show CallQ _ _ _ _ _ _)); first | (refine Ret.go (hba) rfl rfl ?_) | (refine Ret.goQ (hba) rfl rfl ?_) | (refine Ret.goP (l01In_ret _ _ _) rfl ?_) | (refine Ret.goQP (l01In_ret _ _ _) rfl ?_)) | ((with_reducible show DrawA _ _ _ _ _ _); first | (refine draw_hard hT mixed (by decide +kernel) ?_))))
    all_goals first | rfl | omega | skip
    all_goals ((conv => whnf); (first | (refine ⟨[none], .tup [.sl 0 1 0, I 2], [Di []], ?_, ?_, ?_⟩; all_goals (repeat' (first | exact rfl | exact trivial | (with_reducible assumption) | refine And.intro ?_ ?_ | omega))) | trace_state))
end Go.Proofs.Ytcdfdigehaipmaa
