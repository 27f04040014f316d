/-
  The law on commands: the two readers accept the same lines. No conditions but those in the statements.
-/
import Derived.Test.YtgpgnhadmckmhaaDoorCmb
import Derived.Test.YtgpgnhadmckmhaaDoorCmc
set_option linter.unusedVariables false
set_option linter.unusedSimpArgs false
namespace Go.Proofs.YtgpgnhadmckmhaaDoor
open Go.AE Go.Lib

attribute [local irreducible] CallA LoopA DrawA CallQ arithK quoK remK eqK
attribute [local irreducible] sgnN sgnB numX rnN allN
/-- What a first word is, for the reference and for the program. -/
theorem kd_shp (b : ByteArray) : (kd b = (0, 0, 0) ∧ shp b = (B [], false)) ∨ (kd b = (1, 0, 0) ∧ shp b = (B [], true)) ∨ (kd b = (1, 1, 1) ∧ shp b = (B [105], true)) ∨ (kd b = (1, 2, 2) ∧ shp b = (B [105, 105], true)) ∨ (kd b = (1, 4, 4) ∧ shp b = (B [105, 105, 105, 105], true)) ∨ (kd b = (1, 2, 1000) ∧ shp b = (B [105, 105, 46], true)) ∨ (kd b = (2, 0, 0) ∧ shp b = (B [119], true)) ∨ (kd b = (2, 1, 1) ∧ shp b = (B [119, 105], true)) := by
  by_cases h0 : b = ⟨#[108, 105, 115, 116]⟩
  · subst h0; decide
  by_cases h1 : b = ⟨#[114, 101, 115, 101, 114, 118, 101]⟩
  · subst h1; decide
  by_cases h2 : b = ⟨#[112, 114, 101, 109, 105, 117, 109, 115]⟩
  · subst h2; decide
  by_cases h3 : b = ⟨#[99, 108, 97, 105, 109, 115]⟩
  · subst h3; decide
  by_cases h4 : b = ⟨#[113, 117, 111, 116, 101]⟩
  · subst h4; decide
  by_cases h5 : b = ⟨#[104, 111, 108, 100]⟩
  · subst h5; decide
  by_cases h6 : b = ⟨#[114, 97, 116, 101]⟩
  · subst h6; decide
  by_cases h7 : b = ⟨#[102, 117, 110, 100]⟩
  · subst h7; decide
  by_cases h8 : b = ⟨#[100, 114, 111, 112]⟩
  · subst h8; decide
  by_cases h9 : b = ⟨#[108, 101, 97, 118, 101]⟩
  · subst h9; decide
  by_cases h10 : b = ⟨#[97, 110, 110, 117, 105, 116, 121]⟩
  · subst h10; decide
  by_cases h11 : b = ⟨#[115, 99, 101, 110, 97, 114, 105, 111]⟩
  · subst h11; decide
  by_cases h12 : b = ⟨#[98, 111, 110, 117, 115]⟩
  · subst h12; decide
  by_cases h13 : b = ⟨#[112, 114, 105, 99, 101]⟩
  · subst h13; decide
  by_cases h14 : b = ⟨#[116, 97, 98, 108, 101]⟩
  · subst h14; decide
  by_cases h15 : b = ⟨#[121, 101, 97, 114]⟩
  · subst h15; decide
  exact .inl ⟨by unfold kd; simp only [h0, h1, h2, h3, h4, h5, h6, h7, h8, h9, h10, h11, h12, h13, h14, h15, if_false], by unfold shp; simp only [h0, h1, h2, h3, h4, h5, h6, h7, h8, h9, h10, h11, h12, h13, h14, h15, if_false]⟩
theorem sp_cons (l : List UInt8) : ∃ w0 vs, sp 32 l = w0 :: vs := by
  cases h : sp 32 l with
  | nil => exact absurd h (sp_ne 32 l)
  | cons w0 vs => exact ⟨w0, vs, rfl⟩
theorem imp_plain {more : Bool} {m : Nat} {vs : List (List UInt8)} : impP true more false m vs ↔ (allN vs ∧ m ≤ vs.length ∧ (vs.length ≤ m ∨ more = true) ∧ vs.length ≤ 1000) := by
  unfold impP
  constructor
  · rintro ⟨⟨_, h1, h2⟩, _, h3, h4⟩
    exact ⟨h3, h1, h2, h4⟩
  · rintro ⟨h3, h1, h2, h4⟩
    exact ⟨⟨rfl, h1, h2⟩, fun h => (by cases h), h3, h4⟩
theorem imp_word {m : Nat} {vs : List (List UInt8)} (hm : 0 < m) (hm2 : m ≤ 2) : impP true false true m vs ↔ ((vs ≠ [] ∧ vs.getD 0 [] ≠ []) ∧ allN (vs.drop 1) ∧ vs.length = m) := by
  unfold impP
  constructor
  · rintro ⟨⟨_, h1, h2⟩, h3, h4, h5⟩
    have h6 : vs.length ≤ m := by
      rcases h2 with h | h
      · exact h
      · cases h
    exact ⟨⟨fun e => by rw [e] at h1; exact absurd h1 (by show ¬ m ≤ 0; omega), h3 rfl⟩, h4, by omega⟩
  · rintro ⟨⟨_, h3⟩, h4, h5⟩
    exact ⟨⟨rfl, by omega, .inl (by omega)⟩, fun _ => h3, h4, by show vs.length ≤ 1001; omega⟩
attribute [local irreducible] cmdP impP
set_option maxRecDepth 100000 in
theorem specCmd_ret (l : List UInt8) (hn : l.length ≤ 1048576) (w0 : List UInt8) (vs : List (List UInt8)) (hws : sp 32 l = w0 :: vs) : Ret Tryd.prog G 26 [Sv l] (Bo (decide (cmdP (B w0) vs))) := by
  refine ret_of_body hT Tryd.func26 rfl ?_ rfl
  have hp := parse_call l hn w0 vs hws
  repeat' ((first | (conv => whnf) | skip); (first | ((with_reducible intro h); first | contradiction | omega | (conv => whnf) | skip) | (with_reducible refine And.intro ?_ ?_) | ((with_reducible show arithK _ _ _); refine arith_ok ⟨by omega, by omega⟩ ?_) | ((with_reducible show quoK _ _ _ _); refine quo_ok ⟨by omega, by omega⟩ (by omega) (by omega) ?_) | ((with_reducible show remK _ _ _ _); refine rem_ok (by omega) (by omega) ?_) | ((first | (with_reducible show CallA _ _ _ _ _ _) | (with_reducible show CallQ _ _ _ _ _ _)); first | (refine CallA.goE3 false [] (hp) rfl (by first | ((repeat' (first | exact rfl | exact trivial | (with_reducible assumption) | refine And.intro ?_ ?_ | omega | assumption)); done) | fail) (by first | ((repeat' (first | exact rfl | exact trivial | (with_reducible assumption) | refine And.intro ?_ ?_ | omega | assumption)); done) | fail) ?_; rintro x a s ⟨h1, h2⟩; (first | (conv => whnf) | skip))) | ((with_reducible show DrawA _ _ _ _ _ _); first | (refine draw_hard hT mixed (by decide +kernel) ?_))))
  all_goals first | rfl | omega | trace_state
set_option maxRecDepth 100000 in
theorem implCmd_ret (l : List UInt8) (hn : l.length ≤ 1048576) (w0 : List UInt8) (vs : List (List UInt8)) (hws : sp 32 l = w0 :: vs) (s0 r : List UInt8) (there more w : Bool) (hs : shp (B w0) = (B s0, there)) (hs0 : s0.length ≤ 4) (hr : trimSuffix s0 [46] = r) (hm : hasSuffix s0 [46] = more)
    (hw : ∀ i, i < r.length → (r.getD i 0 = 119 ↔ (w = true ∧ i = 0))) (hw1 : w = true → 0 < r.length) : Ret Tryd.prog G2 27 [Sv l] (Bo (decide (impP there more w r.length vs))) := by
  refine ret_of_body hT Tryd.func27 rfl ?_ rfl
  have hp := command_call l hn w0 vs hws s0 r there more w hs hs0 hr hm hw hw1
  repeat' ((first | (conv => whnf) | skip); (first | ((with_reducible intro h); first | contradiction | omega | (conv => whnf) | skip) | (with_reducible refine And.intro ?_ ?_) | ((with_reducible show arithK _ _ _); refine arith_ok ⟨by omega, by omega⟩ ?_) | ((with_reducible show quoK _ _ _ _); refine quo_ok ⟨by omega, by omega⟩ (by omega) (by omega) ?_) | ((with_reducible show remK _ _ _ _); refine rem_ok (by omega) (by omega) ?_) | ((first | (with_reducible show CallA _ _ _ _ _ _) | (with_reducible show CallQ _ _ _ _ _ _)); first | (refine CallA.goE3 false [] (hp) rfl (by first | ((repeat' (first | exact rfl | exact trivial | (with_reducible assumption) | refine And.intro ?_ ?_ | omega | assumption)); done) | fail) (by first | ((repeat' (first | exact rfl | exact trivial | (with_reducible assumption) | refine And.intro ?_ ?_ | omega | assumption)); done) | fail) ?_; rintro x a s ⟨h1, h2⟩; (first | (conv => whnf) | skip))) | ((with_reducible show DrawA _ _ _ _ _ _); first | (refine draw_hard hT mixed (by decide +kernel) ?_))))
  all_goals first | rfl | omega | trace_state
set_option maxRecDepth 100000 in
theorem law_of (l : List UInt8) (hn : l.length ≤ 1048576) (c : Bool) (h1 : Ret Tryd.prog G2 26 [Sv l] (Bo c)) (h2 : Ret Tryd.prog G2 27 [Sv l] (Bo c)) : Ret Tryd.prog G2 7 [Sv l] (Bo true) := by
  refine ret_of_body hT Tryd.func7 rfl ?_ rfl
  have hsz := B_size l
  cases c with
  | false =>
    repeat' ((first | (conv => whnf) | skip); (first | ((with_reducible intro h); first | contradiction | omega | (conv => whnf) | skip) | (with_reducible refine And.intro ?_ ?_) | ((with_reducible show arithK _ _ _); refine arith_ok ⟨by omega, by omega⟩ ?_) | ((with_reducible show quoK _ _ _ _); refine quo_ok ⟨by omega, by omega⟩ (by omega) (by omega) ?_) | ((with_reducible show remK _ _ _ _); refine rem_ok (by omega) (by omega) ?_) | ((first | (with_reducible show CallA _ _ _ _ _ _) | (with_reducible show CallQ _ _ _ _ _ _)); first | (refine Ret.go (h1) rfl rfl ?_) | (refine Ret.goQ (h1) rfl rfl ?_) | (refine Ret.go (h2) rfl rfl ?_) | (refine Ret.goQ (h2) rfl rfl ?_)) | ((with_reducible show DrawA _ _ _ _ _ _); first | (refine draw_hard hT mixed (by decide +kernel) ?_))))
    all_goals first | rfl | omega | contradiction | trace_state
  | true =>
    repeat' ((first | (conv => whnf) | skip); (first | ((with_reducible intro h); first | contradiction | omega | (conv => whnf) | skip) | (with_reducible refine And.intro ?_ ?_) | ((with_reducible show arithK _ _ _); refine arith_ok ⟨by omega, by omega⟩ ?_) | ((with_reducible show quoK _ _ _ _); refine quo_ok ⟨by omega, by omega⟩ (by omega) (by omega) ?_) | ((with_reducible show remK _ _ _ _); refine rem_ok (by omega) (by omega) ?_) | ((first | (with_reducible show CallA _ _ _ _ _ _) | (with_reducible show CallQ _ _ _ _ _ _)); first | (refine Ret.go (h1) rfl rfl ?_) | (refine Ret.goQ (h1) rfl rfl ?_) | (refine Ret.go (h2) rfl rfl ?_) | (refine Ret.goQ (h2) rfl rfl ?_)) | ((with_reducible show DrawA _ _ _ _ _ _); first | (refine draw_hard hT mixed (by decide +kernel) ?_))))
    all_goals first | rfl | omega | contradiction | trace_state
set_option maxRecDepth 100000 in
theorem law_big (l : List UInt8) (hn : ¬ l.length ≤ 1048576) : Ret Tryd.prog G2 7 [Sv l] (Bo true) := by
  refine ret_of_body hT Tryd.func7 rfl ?_ rfl
  have hsz := B_size l
  repeat' ((first | (conv => whnf) | skip); (first | ((with_reducible intro h); first | contradiction | omega | (conv => whnf) | skip) | (with_reducible refine And.intro ?_ ?_) | ((with_reducible show arithK _ _ _); refine arith_ok ⟨by omega, by omega⟩ ?_) | ((with_reducible show quoK _ _ _ _); refine quo_ok ⟨by omega, by omega⟩ (by omega) (by omega) ?_) | ((with_reducible show remK _ _ _ _); refine rem_ok (by omega) (by omega) ?_) | ((first | (with_reducible show CallA _ _ _ _ _ _) | (with_reducible show CallQ _ _ _ _ _ _)); first | fail) | ((with_reducible show DrawA _ _ _ _ _ _); first | (refine draw_hard hT mixed (by decide +kernel) ?_))))
  all_goals first | rfl | omega | trace_state
theorem lawCmd_ret (l : List UInt8) : Ret Tryd.prog G2 7 [Sv l] (Bo true) := by
  by_cases hn : l.length ≤ 1048576
  · obtain ⟨w0, vs, hws⟩ := sp_cons l
    have h1 := (specCmd_ret l hn w0 vs hws).weak G_G2
    have hd1 : (vs.drop 1).length = vs.length - 1 := List.length_drop
    rcases kd_shp (B w0) with ⟨hk, hs⟩ | ⟨hk, hs⟩ | ⟨hk, hs⟩ | ⟨hk, hs⟩ | ⟨hk, hs⟩ | ⟨hk, hs⟩ | ⟨hk, hs⟩ | ⟨hk, hs⟩
    · have h2 := implCmd_ret l hn w0 vs hws [] [] false false false hs (by decide) (by decide) (by decide) (by decide) (by decide)
      have e : impP false false false ([] : List UInt8).length vs ↔ cmdP (B w0) vs := by
        rw [kd_cases hk]
        constructor
        · intro h
          unfold impP at h
          exact absurd h.1.1 (by decide)
        · rintro (⟨h, _⟩ | ⟨h, _⟩) <;> exact absurd h (by decide)
      rw [decide_eq_decide.2 e] at h2
      exact law_of l hn _ h1 h2
    · have h2 := implCmd_ret l hn w0 vs hws [] [] true false false hs (by decide) (by decide) (by decide) (by decide) (by decide)
      have e : impP true false false ([] : List UInt8).length vs ↔ cmdP (B w0) vs := by
        rw [kd_cases hk]
        rw [show ([] : List UInt8).length = 0 from rfl, imp_plain]
        constructor
        · rintro ⟨a1, a2, a3, a4⟩
          exact .inl ⟨rfl, a1, by omega, by rcases a3 with h | h; exact h; cases h⟩
        · rintro (⟨_, a1, a2, a3⟩ | ⟨h, _⟩)
          · exact ⟨a1, by omega, .inl a3, by omega⟩
          · exact absurd h (by decide)
      rw [decide_eq_decide.2 e] at h2
      exact law_of l hn _ h1 h2
    · have h2 := implCmd_ret l hn w0 vs hws [105] [105] true false false hs (by decide) (by decide) (by decide) (by decide) (by decide)
      have e : impP true false false ([105] : List UInt8).length vs ↔ cmdP (B w0) vs := by
        rw [kd_cases hk]
        rw [show ([105] : List UInt8).length = 1 from rfl, imp_plain]
        constructor
        · rintro ⟨a1, a2, a3, a4⟩
          exact .inl ⟨rfl, a1, by omega, by rcases a3 with h | h; exact h; cases h⟩
        · rintro (⟨_, a1, a2, a3⟩ | ⟨h, _⟩)
          · exact ⟨a1, by omega, .inl a3, by omega⟩
          · exact absurd h (by decide)
      rw [decide_eq_decide.2 e] at h2
      exact law_of l hn _ h1 h2
    · have h2 := implCmd_ret l hn w0 vs hws [105, 105] [105, 105] true false false hs (by decide) (by decide) (by decide) (by decide) (by decide)
      have e : impP true false false ([105, 105] : List UInt8).length vs ↔ cmdP (B w0) vs := by
        rw [kd_cases hk]
        rw [show ([105, 105] : List UInt8).length = 2 from rfl, imp_plain]
        constructor
        · rintro ⟨a1, a2, a3, a4⟩
          exact .inl ⟨rfl, a1, by omega, by rcases a3 with h | h; exact h; cases h⟩
        · rintro (⟨_, a1, a2, a3⟩ | ⟨h, _⟩)
          · exact ⟨a1, by omega, .inl a3, by omega⟩
          · exact absurd h (by decide)
      rw [decide_eq_decide.2 e] at h2
      exact law_of l hn _ h1 h2
    · have h2 := implCmd_ret l hn w0 vs hws [105, 105, 105, 105] [105, 105, 105, 105] true false false hs (by decide) (by decide) (by decide) (by decide) (by decide)
      have e : impP true false false ([105, 105, 105, 105] : List UInt8).length vs ↔ cmdP (B w0) vs := by
        rw [kd_cases hk]
        rw [show ([105, 105, 105, 105] : List UInt8).length = 4 from rfl, imp_plain]
        constructor
        · rintro ⟨a1, a2, a3, a4⟩
          exact .inl ⟨rfl, a1, by omega, by rcases a3 with h | h; exact h; cases h⟩
        · rintro (⟨_, a1, a2, a3⟩ | ⟨h, _⟩)
          · exact ⟨a1, by omega, .inl a3, by omega⟩
          · exact absurd h (by decide)
      rw [decide_eq_decide.2 e] at h2
      exact law_of l hn _ h1 h2
    · have h2 := implCmd_ret l hn w0 vs hws [105, 105, 46] [105, 105] true true false hs (by decide) (by decide) (by decide) (by decide) (by decide)
      have e : impP true true false ([105, 105] : List UInt8).length vs ↔ cmdP (B w0) vs := by
        rw [kd_cases hk]
        rw [show ([105, 105] : List UInt8).length = 2 from rfl, imp_plain]
        constructor
        · rintro ⟨a1, a2, a3, a4⟩
          exact .inl ⟨rfl, a1, by omega, by omega⟩
        · rintro (⟨_, a1, a2, a3⟩ | ⟨h, _⟩)
          · exact ⟨a1, by omega, .inr rfl, by omega⟩
          · exact absurd h (by decide)
      rw [decide_eq_decide.2 e] at h2
      exact law_of l hn _ h1 h2
    · have h2 := implCmd_ret l hn w0 vs hws [119] [119] true false true hs (by decide) (by decide) (by decide) (by decide) (by decide)
      have e : impP true false true ([119] : List UInt8).length vs ↔ cmdP (B w0) vs := by
        rw [kd_cases hk]
        rw [show ([119] : List UInt8).length = 1 from rfl, imp_word (by decide) (by decide)]
        constructor
        · rintro ⟨a1, a2, a3⟩
          exact .inr ⟨rfl, a1, a2, by omega, by omega⟩
        · rintro (⟨h, _⟩ | ⟨_, a1, a2, a3, a4⟩)
          · exact absurd h (by decide)
          · have := List.length_pos_iff.2 a1.1
            exact ⟨a1, a2, by omega⟩
      rw [decide_eq_decide.2 e] at h2
      exact law_of l hn _ h1 h2
    · have h2 := implCmd_ret l hn w0 vs hws [119, 105] [119, 105] true false true hs (by decide) (by decide) (by decide) (by decide) (by decide)
      have e : impP true false true ([119, 105] : List UInt8).length vs ↔ cmdP (B w0) vs := by
        rw [kd_cases hk]
        rw [show ([119, 105] : List UInt8).length = 2 from rfl, imp_word (by decide) (by decide)]
        constructor
        · rintro ⟨a1, a2, a3⟩
          exact .inr ⟨rfl, a1, a2, by omega, by omega⟩
        · rintro (⟨h, _⟩ | ⟨_, a1, a2, a3, a4⟩)
          · exact absurd h (by decide)
          · have := List.length_pos_iff.2 a1.1
            exact ⟨a1, a2, by omega⟩
      rw [decide_eq_decide.2 e] at h2
      exact law_of l hn _ h1 h2
  · exact law_big l hn
end Go.Proofs.YtgpgnhadmckmhaaDoor
