/-
  Commands of the console: the shapes and the numbers that the program reads. No conditions but those in the statements.
-/
import Derived.Test.YtgpgnhadmckmhaaDoorSto
import Derived.Test.YtgpgnhadmckmhaaDoorStq
set_option linter.unusedVariables false
set_option linter.unusedSimpArgs false
namespace Go.Proofs.YtgpgnhadmckmhaaDoor
open Go.AE Go.Lib

attribute [local irreducible] CallA LoopA DrawA CallQ arithK quoK remK eqK
theorem nDigits_ge : ∀ (k u : Nat), 10 ^ k ≤ u → k + 1 ≤ nDigits u
  | 0, u, _ => nDigits_pos u
  | k + 1, u, h => by
    have h10 : ¬ u < 10 := fun hu => by
      have : 10 ^ 1 ≤ 10 ^ (k + 1) := Nat.pow_le_pow_right (by decide) (by omega)
      omega
    rw [nDigits_big h10]
    have := nDigits_ge k (u / 10) (by
      rw [Nat.pow_succ] at h
      omega)
    omega
theorem small_of_digits {u : Nat} (h : (decDigits u).length ≤ 13) : u ≤ 9999999999999 := by
  rw [decDigits_length] at h
  rcases Nat.lt_or_ge 9999999999999 u with h1 | h1
  · have := nDigits_ge 13 u (by omega)
    omega
  · exact h1
theorem trim_minus (r : List UInt8) : trimPrefix (45 :: r) [45] = r := by
  unfold trimPrefix hasPrefix
  rw [if_pos (by simp [List.isPrefixOf])]
  rfl
theorem trim_dec (u : Nat) : trimPrefix (decDigits u) [45] = decDigits u := by
  unfold trimPrefix hasPrefix
  cases hd : decDigits u with
  | nil => rfl
  | cons b r =>
    have hb : b ≠ 45 := by
      rintro rfl
      have := dec_dgt u 45 (by rw [hd]; simp)
      exact absurd this.1 (by decide)
    rw [if_neg (by simp [List.isPrefixOf]; exact fun e => hb e.symm)]
theorem sm_trim (n : Int) : (trimPrefix (itoa n) [45]).length ≤ 13 ↔ sm n := by
  by_cases hn : n < 0
  · rw [itoa_minus hn, trim_minus]
    constructor
    · intro h
      have := small_of_digits h
      exact ⟨by omega, by omega⟩
    · intro h
      rw [decDigits_length]
      exact nDigits_le13 (by unfold sm at h; omega)
  · rw [itoa_nat (by omega), trim_dec]
    constructor
    · intro h
      have := small_of_digits h
      exact ⟨by omega, by omega⟩
    · intro h
      rw [decDigits_length]
      exact nDigits_le13 (by unfold sm at h; omega)
def rnN (l : List UInt8) : Int := if sgnB l then sgnN l else 0
attribute [local irreducible] sgnN sgnB
set_option maxRecDepth 100000 in
theorem readNumber_ret (l : List UInt8) (hl : l.length ≤ 1048576) : Ret Tryd.prog G2 76 [Sv l] (.tup [I (rnN l), Bo (decide (sgnB l))]) := by
  refine ret_of_body hT Tryd.func76 rfl ?_ rfl
  have ht := (trimPrefix_ret l [45]).weak G_G2
  have hts := B_size (trimPrefix l [45])
  by_cases hs : sgnB l
  · obtain ⟨n, hn, rfl⟩ := sgn_inv hs
    have hp := parse_ok (itoa n) (by omega) n (parse_itoa (by unfold sm at hn; omega) (by unfold sm at hn; omega))
    have hd := (decimal_ret n (by unfold sm at hn; omega)).weak G_G2
    have h13 := (sm_trim n).2 hn
    rw [decide_eq_true hs, show rnN (itoa n) = n from by unfold rnN; rw [if_pos hs]; exact (sgn_itoa hn).2]
    repeat' ((first | (conv => whnf) | skip); (first | ((with_reducible intro h); first | contradiction | omega | (conv => whnf) | skip) | (with_reducible refine And.intro ?_ ?_) | ((with_reducible show arithK _ _ _); refine arith_ok ⟨by omega, by omega⟩ ?_) | ((with_reducible show quoK _ _ _ _); refine quo_ok ⟨by omega, by omega⟩ (by omega) (by omega) ?_) | ((with_reducible show remK _ _ _ _); refine rem_ok (by omega) (by omega) ?_) | ((first | (with_reducible show CallA _ _ _ _ _ _) | (with_reducible show CallQ _ _ _ _ _ _)); first | (refine Ret.go (hp) rfl rfl ?_) | (refine Ret.goQ (hp) rfl rfl ?_) | (refine Ret.go (hd) rfl rfl ?_) | (refine Ret.goQ (hd) rfl rfl ?_) | (refine Ret.go (ht) rfl rfl ?_) | (refine Ret.goQ (ht) rfl rfl ?_)) | ((with_reducible show DrawA _ _ _ _ _ _); first | (refine draw_hard hT mixed (by decide +kernel) ?_))))
    all_goals first | rfl | omega | contradiction | trace_state
  · rw [decide_eq_false hs, show rnN l = 0 from if_neg hs]
    by_cases hv : ∃ v, parseIntB 64 l = .ok v
    · obtain ⟨v, hv⟩ := hv
      have hp := parse_ok l (by omega) v hv
      have hr := i64_of_parse hv
      have hd := (decimal_ret v hr).weak G_G2
      by_cases h13 : (trimPrefix l [45]).length ≤ 13
      · have hne : B (itoa v) ≠ B l := fun e => by
          obtain rfl := B_inj.1 e
          exact hs (sgn_itoa ((sm_trim v).1 h13)).1
        repeat' ((first | (conv => whnf) | skip); (first | ((with_reducible intro h); first | contradiction | omega | (conv => whnf) | skip) | (with_reducible refine And.intro ?_ ?_) | ((with_reducible show arithK _ _ _); refine arith_ok ⟨by omega, by omega⟩ ?_) | ((with_reducible show quoK _ _ _ _); refine quo_ok ⟨by omega, by omega⟩ (by omega) (by omega) ?_) | ((with_reducible show remK _ _ _ _); refine rem_ok (by omega) (by omega) ?_) | ((first | (with_reducible show CallA _ _ _ _ _ _) | (with_reducible show CallQ _ _ _ _ _ _)); first | (refine Ret.go (hp) rfl rfl ?_) | (refine Ret.goQ (hp) rfl rfl ?_) | (refine Ret.go (hd) rfl rfl ?_) | (refine Ret.goQ (hd) rfl rfl ?_) | (refine Ret.go (ht) rfl rfl ?_) | (refine Ret.goQ (ht) rfl rfl ?_)) | ((with_reducible show DrawA _ _ _ _ _ _); first | (refine draw_hard hT mixed (by decide +kernel) ?_))))
        all_goals first | rfl | omega | contradiction | trace_state
      · repeat' ((first | (conv => whnf) | skip); (first | ((with_reducible intro h); first | contradiction | omega | (conv => whnf) | skip) | (with_reducible refine And.intro ?_ ?_) | ((with_reducible show arithK _ _ _); refine arith_ok ⟨by omega, by omega⟩ ?_) | ((with_reducible show quoK _ _ _ _); refine quo_ok ⟨by omega, by omega⟩ (by omega) (by omega) ?_) | ((with_reducible show remK _ _ _ _); refine rem_ok (by omega) (by omega) ?_) | ((first | (with_reducible show CallA _ _ _ _ _ _) | (with_reducible show CallQ _ _ _ _ _ _)); first | (refine Ret.go (hp) rfl rfl ?_) | (refine Ret.goQ (hp) rfl rfl ?_) | (refine Ret.go (hd) rfl rfl ?_) | (refine Ret.goQ (hd) rfl rfl ?_) | (refine Ret.go (ht) rfl rfl ?_) | (refine Ret.goQ (ht) rfl rfl ?_)) | ((with_reducible show DrawA _ _ _ _ _ _); first | (refine draw_hard hT mixed (by decide +kernel) ?_))))
        all_goals first | rfl | omega | contradiction | trace_state
    · have hp := parse_bad l (by omega) fun v hh => hv ⟨v, hh⟩
      repeat' ((first | (conv => whnf) | skip); (first | ((with_reducible intro h); first | contradiction | omega | (conv => whnf) | skip) | (with_reducible refine And.intro ?_ ?_) | ((with_reducible show arithK _ _ _); refine arith_ok ⟨by omega, by omega⟩ ?_) | ((with_reducible show quoK _ _ _ _); refine quo_ok ⟨by omega, by omega⟩ (by omega) (by omega) ?_) | ((with_reducible show remK _ _ _ _); refine rem_ok (by omega) (by omega) ?_) | ((first | (with_reducible show CallA _ _ _ _ _ _) | (with_reducible show CallQ _ _ _ _ _ _)); first | (refine Ret.use (hp) (by first | ((repeat' (first | exact rfl | exact trivial | (with_reducible assumption) | refine And.intro ?_ ?_ | omega | assumption)); done) | fail) ?_) | (refine Ret.useQ (hp) (by first | ((repeat' (first | exact rfl | exact trivial | (with_reducible assumption) | refine And.intro ?_ ?_ | omega | assumption)); done) | fail) rfl ?_)) | ((with_reducible show DrawA _ _ _ _ _ _); first | (refine draw_hard hT mixed (by decide +kernel) ?_))))
      all_goals first | rfl | omega | contradiction | trace_state
/-- What follows a command's first word. -/
def shp (b : ByteArray) : ByteArray × Bool :=
  if b = ⟨#[108, 105, 115, 116]⟩ then (⟨#[]⟩, true) else if b = ⟨#[114, 101, 115, 101, 114, 118, 101]⟩ then (⟨#[]⟩, true) else if b = ⟨#[112, 114, 101, 109, 105, 117, 109, 115]⟩ then (⟨#[]⟩, true) else if b = ⟨#[99, 108, 97, 105, 109, 115]⟩ then (⟨#[]⟩, true)
  else if b = ⟨#[114, 97, 116, 101]⟩ then (⟨#[105]⟩, true) else if b = ⟨#[102, 117, 110, 100]⟩ then (⟨#[105]⟩, true) else if b = ⟨#[100, 114, 111, 112]⟩ then (⟨#[105]⟩, true) else if b = ⟨#[108, 101, 97, 118, 101]⟩ then (⟨#[105]⟩, true)
  else if b = ⟨#[97, 110, 110, 117, 105, 116, 121]⟩ then (⟨#[105, 105]⟩, true) else if b = ⟨#[115, 99, 101, 110, 97, 114, 105, 111]⟩ then (⟨#[105, 105]⟩, true) else if b = ⟨#[98, 111, 110, 117, 115]⟩ then (⟨#[105, 105]⟩, true)
  else if b = ⟨#[112, 114, 105, 99, 101]⟩ then (⟨#[105, 105, 105, 105]⟩, true)
  else if b = ⟨#[116, 97, 98, 108, 101]⟩ then (⟨#[105, 105, 46]⟩, true) else if b = ⟨#[121, 101, 97, 114]⟩ then (⟨#[105, 105, 46]⟩, true)
  else if b = ⟨#[113, 117, 111, 116, 101]⟩ then (⟨#[119]⟩, true) else if b = ⟨#[104, 111, 108, 100]⟩ then (⟨#[119, 105]⟩, true) else (⟨#[]⟩, false)
set_option maxRecDepth 100000 in
theorem shapeOf_ret (b : ByteArray) : Ret Tryd.prog G 74 [.v (.string b)] (.tup [.v (.string (shp b).1), Bo (shp b).2]) := by
  refine ret_of_body hT Tryd.func74 rfl ?_ rfl
  repeat' ((first | (conv => whnf) | skip); (first | ((with_reducible intro h); first | contradiction | omega | (conv => whnf) | skip) | (with_reducible refine And.intro ?_ ?_) | ((with_reducible show arithK _ _ _); refine arith_ok ⟨by omega, by omega⟩ ?_) | ((with_reducible show quoK _ _ _ _); refine quo_ok ⟨by omega, by omega⟩ (by omega) (by omega) ?_) | ((with_reducible show remK _ _ _ _); refine rem_ok (by omega) (by omega) ?_) | ((first | (with_reducible show CallA _ _ _ _ _ _) | (with_reducible show CallQ _ _ _ _ _ _)); first | fail) | ((with_reducible show DrawA _ _ _ _ _ _); first | (refine draw_hard hT mixed (by decide +kernel) ?_))))
  all_goals (try conv => whnf)
  all_goals first | rfl | omega | contradiction | (subst_vars; rfl) | (unfold shp; simp only [if_neg, *, not_false_eq_true]; done) | (unfold shp; simp [*]; done) | trace_state
end Go.Proofs.YtgpgnhadmckmhaaDoor
