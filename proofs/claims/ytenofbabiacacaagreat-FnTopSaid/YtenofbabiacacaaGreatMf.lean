/-
  Full-width quotients: the library's Div64. No conditions but those in the statements.
-/
import Derived.Test.YtenofbabiacacaaGreatMd
set_option linter.unusedVariables false
set_option linter.unusedSimpArgs false
namespace Go.Proofs.YtenofbabiacacaaGreat
open Go.AE

attribute [local irreducible] CallA LoopA DrawA CallQ arithK quoK remK eqK
theorem pow_facts {y : Int} (h0 : 1 ≤ y) (h1 : y < 18446744073709551616) : blen y.toNat ≤ 64 ∧ 1 ≤ (2 : Int) ^ (64 - blen y.toNat) ∧ (2 : Int) ^ (64 - blen y.toNat) * 2 ^ blen y.toNat = 18446744073709551616 ∧ y < 2 ^ blen y.toNat ∧ (2 : Int) ^ blen y.toNat ≤ 2 * y := by
  have hb := blen_le (n := y.toNat) (by omega)
  obtain ⟨c1, c2, c3⟩ := blen_bd (n := y.toNat) (by omega)
  refine ⟨hb, ?_, ?_, ?_, ?_⟩
  · have : 0 < (2 : Int) ^ (64 - blen y.toNat) := Int.pow_pos (by decide)
    omega
  · rw [← Int.pow_add, show 64 - blen y.toNat + blen y.toNat = 64 by omega]; rfl
  · have h : ((y.toNat : Nat) : Int) < ((2 ^ blen y.toNat : Nat) : Int) := Int.ofNat_lt.2 c3
    rw [Int.natCast_pow] at h
    have h' : ((y.toNat : Nat) : Int) < (2 : Int) ^ blen y.toNat := h
    omega
  · have h : ((2 ^ (blen y.toNat - 1) : Nat) : Int) ≤ ((y.toNat : Nat) : Int) := Int.ofNat_le.2 c2
    rw [Int.natCast_pow] at h
    have h' : (2 : Int) ^ (blen y.toNat - 1) ≤ ((y.toNat : Nat) : Int) := h
    have h2 : (2 : Int) ^ blen y.toNat = 2 ^ (blen y.toNat - 1) * 2 := by
      rw [← Int.pow_succ]
      exact congrArg (fun n => (2 : Int) ^ n) (by omega)
    omega
theorem or_add {a g : Int} {e : Nat} (ha : 0 ≤ a) (hg : 0 ≤ g ∧ g < 2 ^ e) (h : a * 2 ^ e + g < 18446744073709551616) : bitsI .or .u64 (a * 2 ^ e) g = a * 2 ^ e + g := by
  have hp : 0 < (2 : Int) ^ e := Int.pow_pos (by decide)
  have hm : 0 ≤ a * 2 ^ e := Int.mul_nonneg ha (by omega)
  show IntKind.u64.wrap ((BitVec.ofInt 64 (a * 2 ^ e) ||| BitVec.ofInt 64 g).toNat : Int) = _
  rw [BitVec.toNat_or, ofInt64 ⟨hm, by omega⟩, ofInt64 ⟨hg.1, by omega⟩]
  have e1 : (a * 2 ^ e).toNat = 2 ^ e * a.toNat := by
    have : a * 2 ^ e = ((2 ^ e * a.toNat : Nat) : Int) := by
      rw [Int.natCast_mul, Int.natCast_pow, Int.toNat_of_nonneg ha, Int.mul_comm]; rfl
    rw [this]; rfl
  have e2 : g.toNat < 2 ^ e := by
    have : ((g.toNat : Nat) : Int) < ((2 ^ e : Nat) : Int) := by rw [Int.toNat_of_nonneg hg.1, Int.natCast_pow]; exact hg.2
    exact Int.ofNat_lt.1 this
  rw [e1, ← Nat.two_pow_add_eq_or_of_lt e2, wrapU, ← e1]
  have : (((a * 2 ^ e).toNat + g.toNat : Nat) : Int) = a * 2 ^ e + g := by omega
  rw [this]
  omega
/-- A number shifted up, in two words. -/
theorem two_words {lo P W : Int} (hlo : inU lo) (hP : 1 ≤ P) (hPW : P * W = 18446744073709551616) (hW : 1 ≤ W) : lo * P = lo / W * 18446744073709551616 + lo * P % 18446744073709551616 ∧ 0 ≤ lo / W ∧ lo / W < P := by
  obtain ⟨a1, a2, a3⟩ := floor_spec (x := lo) (d := W) (by omega)
  have e1 : lo * P = lo / W * 18446744073709551616 + lo % W * P := by
    conv => lhs; rw [← a1]
    rw [Int.add_mul, Int.mul_assoc, Int.mul_comm W, hPW]
  have b1 : 0 ≤ lo % W * P := Int.mul_nonneg a2 (by omega)
  have b2 : lo % W * P < 18446744073709551616 := by
    have h : (lo % W + 1) * P ≤ W * P := Int.mul_le_mul_of_nonneg_right (by omega) (by omega)
    rw [Int.add_mul, Int.one_mul, Int.mul_comm W, hPW] at h
    omega
  refine ⟨by omega, Int.ediv_nonneg hlo.1 (by omega), Int.ediv_lt_of_lt_mul (by omega) ?_⟩
  rw [hPW]; exact hlo.2
/-- Both digits together. -/
theorem both_digits {hi lo y P H L Y Q1 R1 Q0 R0 : Int} (hP : 1 ≤ P) (hy : 1 ≤ y) (hY : Y = y * P) (hN : (hi * 18446744073709551616 + lo) * P = H * 18446744073709551616 + L)
    (h1 : Q1 * Y + R1 = H * 4294967296 + L / 4294967296) (h0 : Q0 * Y + R0 = R1 * 4294967296 + L % 4294967296) (hr : 0 ≤ R0 ∧ R0 < Y) :
    (hi * 18446744073709551616 + lo) / y = Q1 * 4294967296 + Q0 ∧ (hi * 18446744073709551616 + lo) % y = R0 / P := by
  have e : ((hi * 18446744073709551616 + lo) - (Q1 * 4294967296 + Q0) * y) * P = R0 := by
    rw [Int.sub_mul, hN, Int.mul_assoc, ← hY, Int.add_mul]
    have : Q1 * 4294967296 * Y = Q1 * Y * 4294967296 := Int.mul_right_comm _ _ _
    omega
  generalize hr' : (hi * 18446744073709551616 + lo) - (Q1 * 4294967296 + Q0) * y = r at e
  have hr0 : 0 ≤ r := by
    rcases Int.lt_or_le r 0 with h | h
    · have : r * P ≤ -1 * P := Int.mul_le_mul_of_nonneg_right (by omega) (by omega)
      omega
    · exact h
  have hr1 : r < y := by
    rcases Int.lt_or_le r y with h | h
    · exact h
    · have : y * P ≤ r * P := Int.mul_le_mul_of_nonneg_right h (by omega)
      omega
  have hq : R0 / P = r := by rw [← e, Int.mul_ediv_cancel _ (by omega)]
  rw [hq]
  exact floor_eq (by omega) (by omega) hr0 hr1
set_option maxHeartbeats 8000000 in
set_option maxRecDepth 100000 in
theorem div64_ret (hi lo y : Int) (h1 : 0 ≤ hi) (h2 : hi < y) (h3 : y < 18446744073709551616) (h4 : inU lo) : Ret Tryz.prog G 187 [U hi, U lo, U y] (.tup [U ((hi * 18446744073709551616 + lo) / y), U ((hi * 18446744073709551616 + lo) % y)]) := by
  refine ret_of_body hT Tryz.func187 rfl ?_ rfl
  have h41 := h4.1
  have h42 := h4.2
  by_cases hz : hi = 0
  · subst hz
    rw [show (0 : Int) * 18446744073709551616 + lo = lo by omega]
    repeat' (first | (intro h; first | contradiction | omega | (conv => whnf) | skip) | (refine And.intro ?_ ?_) | (refine arith_ok ⟨by omega, by omega⟩ ?_) | (first | (refine draw_quiet hT mixed (by decide +kernel) ?_) | (refine draw_hard hT mixed (by decide +kernel) ?_)) | (refine quo_ok ⟨by omega, by omega⟩ (by omega) (by omega) ?_) | (refine rem_ok (by omega) (by omega) ?_))
    all_goals first | omega | rfl | trace_state
  · obtain ⟨hb, hP, hPW, hyW, hWy⟩ := pow_facts (y := y) (by omega) h3
    have hlz := lz64_ret y ⟨by omega, h3⟩
    have hW1 : (1 : Int) ≤ 2 ^ blen y.toNat := by omega
    obtain ⟨hw1, hw2, hw3⟩ := two_words h4 hP hPW hW1
    have hyP : y * 2 ^ (64 - blen y.toNat) < 18446744073709551616 := by
      have : (y + 1) * 2 ^ (64 - blen y.toNat) ≤ 2 ^ blen y.toNat * 2 ^ (64 - blen y.toNat) := Int.mul_le_mul_of_nonneg_right (by omega) (by omega)
      rw [Int.mul_comm (2 ^ blen y.toNat), hPW, Int.add_mul] at this
      omega
    have hyP2 : 9223372036854775808 ≤ y * 2 ^ (64 - blen y.toNat) := by
      have : 2 ^ blen y.toNat * 2 ^ (64 - blen y.toNat) ≤ 2 * y * 2 ^ (64 - blen y.toNat) := Int.mul_le_mul_of_nonneg_right hWy (by omega)
      rw [Int.mul_comm (2 ^ blen y.toNat), hPW, Int.mul_assoc] at this
      omega
    have hhP : hi * 2 ^ (64 - blen y.toNat) ≤ y * 2 ^ (64 - blen y.toNat) - 2 ^ (64 - blen y.toNat) := by
      have : (hi + 1) * 2 ^ (64 - blen y.toNat) ≤ y * 2 ^ (64 - blen y.toNat) := Int.mul_le_mul_of_nonneg_right (by omega) (by omega)
      rw [Int.add_mul] at this
      omega
    have hhP0 : 0 ≤ hi * 2 ^ (64 - blen y.toNat) := Int.mul_nonneg h1 (by omega)
    have he : min (64 - (blen y.toNat : Int)).toNat IntKind.u64.bits = 64 - blen y.toNat := by rw [show IntKind.u64.bits = 64 from rfl]; omega
    have he2 : min (64 - (64 - (blen y.toNat : Int))).toNat IntKind.u64.bits = blen y.toNat := by rw [show IntKind.u64.bits = 64 from rfl]; omega
    have hor := or_add (a := hi) (g := lo / 2 ^ blen y.toNat) (e := 64 - blen y.toNat) h1 ⟨hw2, hw3⟩ (by omega)
    have hs1 : IntKind.u64.wrap (y * 2 ^ (min (64 - (blen y.toNat : Int)).toNat IntKind.u64.bits)) = y * 2 ^ (64 - blen y.toNat) := by rw [he, wrapU]; omega
    have hs2 : IntKind.u64.wrap (hi * 2 ^ (min (64 - (blen y.toNat : Int)).toNat IntKind.u64.bits)) = hi * 2 ^ (64 - blen y.toNat) := by rw [he, wrapU]; omega
    have hs3 : IntKind.u64.wrap (lo * 2 ^ (min (64 - (blen y.toNat : Int)).toNat IntKind.u64.bits)) = lo * 2 ^ (64 - blen y.toNat) % 18446744073709551616 := by rw [he, wrapU]
    have hs4 : lo.fdiv (2 ^ (min (64 - (64 - (blen y.toNat : Int))).toNat IntKind.u64.bits)) = lo / 2 ^ blen y.toNat := by rw [he2, Int.fdiv_eq_ediv_of_nonneg _ (by omega)]
    have hs5 : ∀ a : Int, a.fdiv (2 ^ (min (64 - (blen y.toNat : Int)).toNat IntKind.u64.bits)) = a / 2 ^ (64 - blen y.toNat) := fun a => by rw [he, Int.fdiv_eq_ediv_of_nonneg _ (by omega)]
    have hN : (hi * 18446744073709551616 + lo) * 2 ^ (64 - blen y.toNat) = (hi * 2 ^ (64 - blen y.toNat) + lo / 2 ^ blen y.toNat) * 18446744073709551616 + lo * 2 ^ (64 - blen y.toNat) % 18446744073709551616 := by
      rw [Int.add_mul, Int.add_mul]
      have : hi * 18446744073709551616 * 2 ^ (64 - blen y.toNat) = hi * 2 ^ (64 - blen y.toNat) * 18446744073709551616 := Int.mul_right_comm _ _ _
      omega
    have hYe : ∃ Y, Y = y * 2 ^ (64 - blen y.toNat) := ⟨_, rfl⟩
    obtain ⟨Y, hY⟩ := hYe
    have hHe : ∃ H, H = hi * 2 ^ (64 - blen y.toNat) + lo / 2 ^ blen y.toNat := ⟨_, rfl⟩
    obtain ⟨H, hH⟩ := hHe
    have hLe : ∃ L, L = lo * 2 ^ (64 - blen y.toNat) % 18446744073709551616 := ⟨_, rfl⟩
    obtain ⟨L, hL⟩ := hLe
    rw [← hY] at hs1
    rw [← hH] at hor hN
    rw [← hL] at hs3 hN
    have hYb : 9223372036854775808 ≤ Y ∧ Y < 18446744073709551616 := by omega
    have hHb : 0 ≤ H ∧ H < Y := by omega
    have hLb : 0 ≤ L ∧ L < 18446744073709551616 := by omega
    have D1 : Dg H Y (L / 4294967296) (Y / 4294967296) (Y % 4294967296) := ⟨by omega, by omega, by omega, hHb, by omega⟩
    have f1 := floor_spec (x := H * 4294967296 + L / 4294967296) (d := Y) (by omega)
    have q1b := D1.qlt
    have q1f := D1.first
    have hQe : ∃ Q1, Q1 = (H * 4294967296 + L / 4294967296) / Y := ⟨_, rfl⟩
    obtain ⟨Q1, hQ1⟩ := hQe
    have hRe : ∃ R1, R1 = (H * 4294967296 + L / 4294967296) % Y := ⟨_, rfl⟩
    obtain ⟨R1, hR1⟩ := hRe
    have D0 : Dg R1 Y (L % 4294967296) (Y / 4294967296) (Y % 4294967296) := ⟨by omega, by omega, by omega, by omega, by omega⟩
    have f0 := floor_spec (x := R1 * 4294967296 + L % 4294967296) (d := Y) (by omega)
    have q0b := D0.qlt
    have q0f := D0.first
    have hQe : ∃ Q0, Q0 = (R1 * 4294967296 + L % 4294967296) / Y := ⟨_, rfl⟩
    obtain ⟨Q0, hQ0⟩ := hQe
    have hRe : ∃ R0, R0 = (R1 * 4294967296 + L % 4294967296) % Y := ⟨_, rfl⟩
    obtain ⟨R0, hR0⟩ := hRe
    have l1 := fun q => D1.less (q := q)
    have l0 := fun q => D0.less (q := q)
    have s1 := fun q => D1.stop (q := q)
    have s0 := fun q => D0.stop (q := q)
    rw [← hQ1] at f1 q1b q1f
    rw [← hR1] at f1
    rw [← hQ0] at f0 q0b q0f
    rw [← hR0] at f0
    simp only [← hQ1] at l1 s1
    simp only [← hQ0] at l0 s0
    have hfin := both_digits hP (by omega) hY hN f1.1 f0.1 ⟨f0.2.1, f0.2.2⟩
    have g1 := floor_spec (x := H) (d := Y / 4294967296) (by omega)
    have g0 := floor_spec (x := R1) (d := Y / 4294967296) (by omega)
    have g1n : 0 ≤ H / (Y / 4294967296) * (Y / 4294967296) := Int.mul_nonneg (Int.ediv_nonneg (by omega) (by omega)) (by omega)
    have g0n : 0 ≤ R1 / (Y / 4294967296) * (Y / 4294967296) := Int.mul_nonneg (Int.ediv_nonneg (by omega) (by omega)) (by omega)
    clear hs4 hR0 hQ0 hR1 hQ1
    clear hw1 hw2 hw3
    have hs4 : lo.fdiv (2 ^ (min (64 - (64 - (blen y.toNat : Int))).toNat IntKind.u64.bits)) = lo / 2 ^ blen y.toNat := by rw [he2, Int.fdiv_eq_ediv_of_nonneg _ (by omega)]
    repeat' (first | (intro h; first | contradiction | omega | (conv => whnf) | skip) | (refine And.intro ?_ ?_) | (refine arith_ok ⟨by omega, by omega⟩ ?_) | (first | (refine draw_quiet hT mixed (by decide +kernel) ?_) | (refine draw_hard hT mixed (by decide +kernel) ?_)) | (refine arithw hs1 ?_) | (refine arithw hs2 ?_) | (refine arithw hs3 ?_) | (refine eqv hs4 ?_) | (refine eqv hor ?_) | (refine eqv (and32 ⟨by omega, by omega⟩) ?_) | (refine eqv shr32 ?_) | (refine quo_ok ⟨by omega, by omega⟩ (by omega) (by omega) ?_) | (refine rem_ok (by omega) (by omega) ?_) | (refine Ret.go (hlz) rfl rfl ?_) | (refine Ret.goQ (hlz) rfl rfl ?_))
    all_goals first | omega | skip
    refine loop_rule hT (fun q : Int => Q1 ≤ q ∧ q ≤ 4294967297 ∧ 0 ≤ H - q * (Y / 4294967296) ∧ H - q * (Y / 4294967296) < 4294967296) 135 0 [2, 8, 9, 10, 11, 13, 14, 15, 16] (fun q => [U Y, U (64 - (blen y.toNat : Int)), U (Y / 4294967296), U (Y % 4294967296), U H, U (L / 4294967296), U (L % 4294967296), U q, U (H - q * (Y / 4294967296))]) (fun _ => []) (fun q => q.toNat) (H / (Y / 4294967296)) (Nat.le_of_ble_eq_true rfl) ?_ ?_ ?_
    · exact ⟨q1f.1, q1f.2, by omega, by omega⟩
    · (first | (refine ⟨rfl, [], ?_, ?_⟩; all_goals (repeat' (first | exact rfl | exact trivial | (with_reducible assumption) | refine And.intro ?_ ?_)); all_goals (first | omega | assumption); done) | (refine ⟨rfl, [some 1], ?_, ?_⟩; all_goals (repeat' (first | exact rfl | exact trivial | (with_reducible assumption) | refine And.intro ?_ ?_)); all_goals (first | omega | assumption); done) | (refine ⟨rfl, [some 2], ?_, ?_⟩; all_goals (repeat' (first | exact rfl | exact trivial | (with_reducible assumption) | refine And.intro ?_ ?_)); all_goals (first | omega | assumption); done) | (refine ⟨rfl, [some 3], ?_, ?_⟩; all_goals (repeat' (first | exact rfl | exact trivial | (with_reducible assumption) | refine And.intro ?_ ?_)); all_goals (first | omega | assumption); done) | (refine ⟨rfl, [some 0], ?_, ?_⟩; all_goals (repeat' (first | exact rfl | exact trivial | (with_reducible assumption) | refine And.intro ?_ ?_)); all_goals (first | omega | assumption); done) | (refine ⟨rfl, [some 4], ?_, ?_⟩; all_goals (repeat' (first | exact rfl | exact trivial | (with_reducible assumption) | refine And.intro ?_ ?_)); all_goals (first | omega | assumption); done) | (refine ⟨rfl, [some 5], ?_, ?_⟩; all_goals (repeat' (first | exact rfl | exact trivial | (with_reducible assumption) | refine And.intro ?_ ?_)); all_goals (first | omega | assumption); done) | (refine ⟨rfl, [some 6], ?_, ?_⟩; all_goals (repeat' (first | exact rfl | exact trivial | (with_reducible assumption) | refine And.intro ?_ ?_)); all_goals (first | omega | assumption); done))
    · rintro q ⟨i1, i2, i3, i4⟩
      by_cases hc : 4294967296 ≤ q ∨ 4294967296 * (H - q * (Y / 4294967296)) + L / 4294967296 < q * (Y % 4294967296)
      · have hle := l1 q hc
        have hm : (q - 1) * (Y / 4294967296) = q * (Y / 4294967296) - Y / 4294967296 := by rw [Int.sub_mul]; omega
        have hp : q < 4294967296 → 0 ≤ q * (Y % 4294967296) ∧ q * (Y % 4294967296) ≤ 4294967295 * 4294967295 := fun hq => mul_in (by omega) (by omega) (by omega) (by omega)
        by_cases hbr : 4294967296 ≤ H - q * (Y / 4294967296) + Y / 4294967296
        · have hp2 := mul_in (a := q - 1) (A := 4294967296) (b := Y % 4294967296) (B := 4294967295) (by omega) (by omega) (by omega) (by omega)
          have hst := s1 (q - 1) hle (by rw [hm]; omega)
          have hqY : (q - 1) * Y = Q1 * Y := by rw [hst]
          by_cases hq32 : 4294967296 ≤ q
          · repeat' (first | (intro h; first | contradiction | omega | (conv => whnf) | skip) | (refine And.intro ?_ ?_) | (refine arith_ok ⟨by omega, by omega⟩ ?_) | (first | (refine draw_quiet hT mixed (by decide +kernel) ?_) | (refine draw_hard hT mixed (by decide +kernel) ?_)) | (refine arithw (show IntKind.u64.wrap _ = R1 from (wrapU _).trans (by omega)) ?_) | (refine arithw (wrapU _) ?_) | (refine eqv (and32 ⟨by omega, by omega⟩) ?_) | (refine eqv shr32 ?_) | (refine quo_ok ⟨by omega, by omega⟩ (by omega) (by omega) ?_) | (refine rem_ok (by omega) (by omega) ?_))
            all_goals first | omega | skip
            refine loop_rule hT (fun p : Int => Q0 ≤ p ∧ p ≤ 4294967297 ∧ 0 ≤ R1 - p * (Y / 4294967296) ∧ R1 - p * (Y / 4294967296) < 4294967296) 135 0 [2, 8, 9, 10, 14, 15, 16, 17, 18] (fun p => [U Y, U (64 - (blen y.toNat : Int)), U (Y / 4294967296), U (Y % 4294967296), U (L % 4294967296), U (q - 1), U (R1 - p * (Y / 4294967296)), U R1, U p]) (fun _ => []) (fun p => p.toNat) (R1 / (Y / 4294967296)) (Nat.le_of_ble_eq_true rfl) ?_ ?_ ?_
            · exact ⟨q0f.1, q0f.2, by omega, by omega⟩
            · (first | (refine ⟨rfl, [], ?_, ?_⟩; all_goals (repeat' (first | exact rfl | exact trivial | (with_reducible assumption) | refine And.intro ?_ ?_)); all_goals (first | omega | assumption); done) | (refine ⟨rfl, [some 1], ?_, ?_⟩; all_goals (repeat' (first | exact rfl | exact trivial | (with_reducible assumption) | refine And.intro ?_ ?_)); all_goals (first | omega | assumption); done) | (refine ⟨rfl, [some 2], ?_, ?_⟩; all_goals (repeat' (first | exact rfl | exact trivial | (with_reducible assumption) | refine And.intro ?_ ?_)); all_goals (first | omega | assumption); done) | (refine ⟨rfl, [some 3], ?_, ?_⟩; all_goals (repeat' (first | exact rfl | exact trivial | (with_reducible assumption) | refine And.intro ?_ ?_)); all_goals (first | omega | assumption); done) | (refine ⟨rfl, [some 0], ?_, ?_⟩; all_goals (repeat' (first | exact rfl | exact trivial | (with_reducible assumption) | refine And.intro ?_ ?_)); all_goals (first | omega | assumption); done) | (refine ⟨rfl, [some 4], ?_, ?_⟩; all_goals (repeat' (first | exact rfl | exact trivial | (with_reducible assumption) | refine And.intro ?_ ?_)); all_goals (first | omega | assumption); done) | (refine ⟨rfl, [some 5], ?_, ?_⟩; all_goals (repeat' (first | exact rfl | exact trivial | (with_reducible assumption) | refine And.intro ?_ ?_)); all_goals (first | omega | assumption); done) | (refine ⟨rfl, [some 6], ?_, ?_⟩; all_goals (repeat' (first | exact rfl | exact trivial | (with_reducible assumption) | refine And.intro ?_ ?_)); all_goals (first | omega | assumption); done))
            · rintro p ⟨j1, j2, j3, j4⟩
              by_cases hd : 4294967296 ≤ p ∨ 4294967296 * (R1 - p * (Y / 4294967296)) + L % 4294967296 < p * (Y % 4294967296)
              · have hle0 := l0 p hd
                have hm0 : (p - 1) * (Y / 4294967296) = p * (Y / 4294967296) - Y / 4294967296 := by rw [Int.sub_mul]; omega
                have hp0 : p < 4294967296 → 0 ≤ p * (Y % 4294967296) ∧ p * (Y % 4294967296) ≤ 4294967295 * 4294967295 := fun hq => mul_in (by omega) (by omega) (by omega) (by omega)
                by_cases hbr0 : 4294967296 ≤ R1 - p * (Y / 4294967296) + Y / 4294967296
                · have hp02 := mul_in (a := p - 1) (A := 4294967296) (b := Y % 4294967296) (B := 4294967295) (by omega) (by omega) (by omega) (by omega)
                  have hst0 := s0 (p - 1) hle0 (by rw [hm0]; omega)
                  have hqY0 : (p - 1) * Y = Q0 * Y := by rw [hst0]
                  repeat' (first | (intro h; first | contradiction | omega | (conv => whnf) | skip) | (refine And.intro ?_ ?_) | (refine arith_ok ⟨by omega, by omega⟩ ?_) | (first | (refine draw_quiet hT mixed (by decide +kernel) ?_) | (refine draw_hard hT mixed (by decide +kernel) ?_)) | (refine arithw (show IntKind.u64.wrap _ = R0 from (wrapU _).trans (by omega)) ?_) | (refine arithw (wrapU _) ?_) | (refine eqv (hs5 _) ?_))
                  all_goals first | omega | (refine congrArg AV.tup (congr (congrArg List.cons (iv ?_)) (congrArg (fun z => [z]) (iv ?_))); (first | (rw [hfin.1]; omega) | omega); (first | exact hfin.2.symm | omega)) | trace_state
                · repeat' (first | (intro h; first | contradiction | omega | (conv => whnf) | skip) | (refine And.intro ?_ ?_) | (refine arith_ok ⟨by omega, by omega⟩ ?_) | (first | (refine draw_quiet hT mixed (by decide +kernel) ?_) | (refine draw_hard hT mixed (by decide +kernel) ?_)) | fail)
                  all_goals first | omega | ((conv => whnf); refine ⟨p - 1, ⟨hle0, by omega, by rw [hm0]; omega, by rw [hm0]; omega⟩, ?_, by omega⟩; (first | (refine ⟨rfl, [], ?_, ?_⟩; all_goals (repeat' (first | exact rfl | exact trivial | (with_reducible assumption) | refine And.intro ?_ ?_)); all_goals (first | omega | assumption | ((repeat' (first | (rw [hm0]; omega) | exact rfl | exact trivial | (with_reducible assumption) | refine And.intro ?_ ?_ | omega | assumption)); done)); done) | (refine ⟨rfl, [some 1], ?_, ?_⟩; all_goals (repeat' (first | exact rfl | exact trivial | (with_reducible assumption) | refine And.intro ?_ ?_)); all_goals (first | omega | assumption | ((repeat' (first | (rw [hm0]; omega) | exact rfl | exact trivial | (with_reducible assumption) | refine And.intro ?_ ?_ | omega | assumption)); done)); done) | (refine ⟨rfl, [some 2], ?_, ?_⟩; all_goals (repeat' (first | exact rfl | exact trivial | (with_reducible assumption) | refine And.intro ?_ ?_)); all_goals (first | omega | assumption | ((repeat' (first | (rw [hm0]; omega) | exact rfl | exact trivial | (with_reducible assumption) | refine And.intro ?_ ?_ | omega | assumption)); done)); done) | (refine ⟨rfl, [some 3], ?_, ?_⟩; all_goals (repeat' (first | exact rfl | exact trivial | (with_reducible assumption) | refine And.intro ?_ ?_)); all_goals (first | omega | assumption | ((repeat' (first | (rw [hm0]; omega) | exact rfl | exact trivial | (with_reducible assumption) | refine And.intro ?_ ?_ | omega | assumption)); done)); done) | (refine ⟨rfl, [some 0], ?_, ?_⟩; all_goals (repeat' (first | exact rfl | exact trivial | (with_reducible assumption) | refine And.intro ?_ ?_)); all_goals (first | omega | assumption | ((repeat' (first | (rw [hm0]; omega) | exact rfl | exact trivial | (with_reducible assumption) | refine And.intro ?_ ?_ | omega | assumption)); done)); done) | (refine ⟨rfl, [some 4], ?_, ?_⟩; all_goals (repeat' (first | exact rfl | exact trivial | (with_reducible assumption) | refine And.intro ?_ ?_)); all_goals (first | omega | assumption | ((repeat' (first | (rw [hm0]; omega) | exact rfl | exact trivial | (with_reducible assumption) | refine And.intro ?_ ?_ | omega | assumption)); done)); done) | (refine ⟨rfl, [some 5], ?_, ?_⟩; all_goals (repeat' (first | exact rfl | exact trivial | (with_reducible assumption) | refine And.intro ?_ ?_)); all_goals (first | omega | assumption | ((repeat' (first | (rw [hm0]; omega) | exact rfl | exact trivial | (with_reducible assumption) | refine And.intro ?_ ?_ | omega | assumption)); done)); done) | (refine ⟨rfl, [some 6], ?_, ?_⟩; all_goals (repeat' (first | exact rfl | exact trivial | (with_reducible assumption) | refine And.intro ?_ ?_)); all_goals (first | omega | assumption | ((repeat' (first | (rw [hm0]; omega) | exact rfl | exact trivial | (with_reducible assumption) | refine And.intro ?_ ?_ | omega | assumption)); done)); done))) | trace_state
              · have hst0 := s0 p j1 (by omega)
                have hp0 := mul_in (a := p) (A := 4294967295) (b := Y % 4294967296) (B := 4294967295) (by omega) (by omega) (by omega) (by omega)
                have hqY0 : p * Y = Q0 * Y := by rw [hst0]
                repeat' (first | (intro h; first | contradiction | omega | (conv => whnf) | skip) | (refine And.intro ?_ ?_) | (refine arith_ok ⟨by omega, by omega⟩ ?_) | (first | (refine draw_quiet hT mixed (by decide +kernel) ?_) | (refine draw_hard hT mixed (by decide +kernel) ?_)) | (refine arithw (show IntKind.u64.wrap _ = R0 from (wrapU _).trans (by omega)) ?_) | (refine arithw (wrapU _) ?_) | (refine eqv (hs5 _) ?_))
                all_goals first | omega | (refine congrArg AV.tup (congr (congrArg List.cons (iv ?_)) (congrArg (fun z => [z]) (iv ?_))); (first | (rw [hfin.1]; omega) | omega); (first | exact hfin.2.symm | omega)) | trace_state
          · repeat' (first | (intro h; first | contradiction | omega | (conv => whnf) | skip) | (refine And.intro ?_ ?_) | (refine arith_ok ⟨by omega, by omega⟩ ?_) | (first | (refine draw_quiet hT mixed (by decide +kernel) ?_) | (refine draw_hard hT mixed (by decide +kernel) ?_)) | (refine arithw (show IntKind.u64.wrap _ = R1 from (wrapU _).trans (by omega)) ?_) | (refine arithw (wrapU _) ?_) | (refine eqv (and32 ⟨by omega, by omega⟩) ?_) | (refine eqv shr32 ?_) | (refine quo_ok ⟨by omega, by omega⟩ (by omega) (by omega) ?_) | (refine rem_ok (by omega) (by omega) ?_))
            all_goals first | omega | skip
            refine loop_rule hT (fun p : Int => Q0 ≤ p ∧ p ≤ 4294967297 ∧ 0 ≤ R1 - p * (Y / 4294967296) ∧ R1 - p * (Y / 4294967296) < 4294967296) 135 0 [2, 8, 9, 10, 14, 15, 16, 17, 18] (fun p => [U Y, U (64 - (blen y.toNat : Int)), U (Y / 4294967296), U (Y % 4294967296), U (L % 4294967296), U (q - 1), U (R1 - p * (Y / 4294967296)), U R1, U p]) (fun _ => []) (fun p => p.toNat) (R1 / (Y / 4294967296)) (Nat.le_of_ble_eq_true rfl) ?_ ?_ ?_
            · exact ⟨q0f.1, q0f.2, by omega, by omega⟩
            · (first | (refine ⟨rfl, [], ?_, ?_⟩; all_goals (repeat' (first | exact rfl | exact trivial | (with_reducible assumption) | refine And.intro ?_ ?_)); all_goals (first | omega | assumption); done) | (refine ⟨rfl, [some 1], ?_, ?_⟩; all_goals (repeat' (first | exact rfl | exact trivial | (with_reducible assumption) | refine And.intro ?_ ?_)); all_goals (first | omega | assumption); done) | (refine ⟨rfl, [some 2], ?_, ?_⟩; all_goals (repeat' (first | exact rfl | exact trivial | (with_reducible assumption) | refine And.intro ?_ ?_)); all_goals (first | omega | assumption); done) | (refine ⟨rfl, [some 3], ?_, ?_⟩; all_goals (repeat' (first | exact rfl | exact trivial | (with_reducible assumption) | refine And.intro ?_ ?_)); all_goals (first | omega | assumption); done) | (refine ⟨rfl, [some 0], ?_, ?_⟩; all_goals (repeat' (first | exact rfl | exact trivial | (with_reducible assumption) | refine And.intro ?_ ?_)); all_goals (first | omega | assumption); done) | (refine ⟨rfl, [some 4], ?_, ?_⟩; all_goals (repeat' (first | exact rfl | exact trivial | (with_reducible assumption) | refine And.intro ?_ ?_)); all_goals (first | omega | assumption); done) | (refine ⟨rfl, [some 5], ?_, ?_⟩; all_goals (repeat' (first | exact rfl | exact trivial | (with_reducible assumption) | refine And.intro ?_ ?_)); all_goals (first | omega | assumption); done) | (refine ⟨rfl, [some 6], ?_, ?_⟩; all_goals (repeat' (first | exact rfl | exact trivial | (with_reducible assumption) | refine And.intro ?_ ?_)); all_goals (first | omega | assumption); done))
            · rintro p ⟨j1, j2, j3, j4⟩
              by_cases hd : 4294967296 ≤ p ∨ 4294967296 * (R1 - p * (Y / 4294967296)) + L % 4294967296 < p * (Y % 4294967296)
              · have hle0 := l0 p hd
                have hm0 : (p - 1) * (Y / 4294967296) = p * (Y / 4294967296) - Y / 4294967296 := by rw [Int.sub_mul]; omega
                have hp0 : p < 4294967296 → 0 ≤ p * (Y % 4294967296) ∧ p * (Y % 4294967296) ≤ 4294967295 * 4294967295 := fun hq => mul_in (by omega) (by omega) (by omega) (by omega)
                by_cases hbr0 : 4294967296 ≤ R1 - p * (Y / 4294967296) + Y / 4294967296
                · have hp02 := mul_in (a := p - 1) (A := 4294967296) (b := Y % 4294967296) (B := 4294967295) (by omega) (by omega) (by omega) (by omega)
                  have hst0 := s0 (p - 1) hle0 (by rw [hm0]; omega)
                  have hqY0 : (p - 1) * Y = Q0 * Y := by rw [hst0]
                  repeat' (first | (intro h; first | contradiction | omega | (conv => whnf) | skip) | (refine And.intro ?_ ?_) | (refine arith_ok ⟨by omega, by omega⟩ ?_) | (first | (refine draw_quiet hT mixed (by decide +kernel) ?_) | (refine draw_hard hT mixed (by decide +kernel) ?_)) | (refine arithw (show IntKind.u64.wrap _ = R0 from (wrapU _).trans (by omega)) ?_) | (refine arithw (wrapU _) ?_) | (refine eqv (hs5 _) ?_))
                  all_goals first | omega | (refine congrArg AV.tup (congr (congrArg List.cons (iv ?_)) (congrArg (fun z => [z]) (iv ?_))); (first | (rw [hfin.1]; omega) | omega); (first | exact hfin.2.symm | omega)) | trace_state
                · repeat' (first | (intro h; first | contradiction | omega | (conv => whnf) | skip) | (refine And.intro ?_ ?_) | (refine arith_ok ⟨by omega, by omega⟩ ?_) | (first | (refine draw_quiet hT mixed (by decide +kernel) ?_) | (refine draw_hard hT mixed (by decide +kernel) ?_)) | fail)
                  all_goals first | omega | ((conv => whnf); refine ⟨p - 1, ⟨hle0, by omega, by rw [hm0]; omega, by rw [hm0]; omega⟩, ?_, by omega⟩; (first | (refine ⟨rfl, [], ?_, ?_⟩; all_goals (repeat' (first | exact rfl | exact trivial | (with_reducible assumption) | refine And.intro ?_ ?_)); all_goals (first | omega | assumption | ((repeat' (first | (rw [hm0]; omega) | exact rfl | exact trivial | (with_reducible assumption) | refine And.intro ?_ ?_ | omega | assumption)); done)); done) | (refine ⟨rfl, [some 1], ?_, ?_⟩; all_goals (repeat' (first | exact rfl | exact trivial | (with_reducible assumption) | refine And.intro ?_ ?_)); all_goals (first | omega | assumption | ((repeat' (first | (rw [hm0]; omega) | exact rfl | exact trivial | (with_reducible assumption) | refine And.intro ?_ ?_ | omega | assumption)); done)); done) | (refine ⟨rfl, [some 2], ?_, ?_⟩; all_goals (repeat' (first | exact rfl | exact trivial | (with_reducible assumption) | refine And.intro ?_ ?_)); all_goals (first | omega | assumption | ((repeat' (first | (rw [hm0]; omega) | exact rfl | exact trivial | (with_reducible assumption) | refine And.intro ?_ ?_ | omega | assumption)); done)); done) | (refine ⟨rfl, [some 3], ?_, ?_⟩; all_goals (repeat' (first | exact rfl | exact trivial | (with_reducible assumption) | refine And.intro ?_ ?_)); all_goals (first | omega | assumption | ((repeat' (first | (rw [hm0]; omega) | exact rfl | exact trivial | (with_reducible assumption) | refine And.intro ?_ ?_ | omega | assumption)); done)); done) | (refine ⟨rfl, [some 0], ?_, ?_⟩; all_goals (repeat' (first | exact rfl | exact trivial | (with_reducible assumption) | refine And.intro ?_ ?_)); all_goals (first | omega | assumption | ((repeat' (first | (rw [hm0]; omega) | exact rfl | exact trivial | (with_reducible assumption) | refine And.intro ?_ ?_ | omega | assumption)); done)); done) | (refine ⟨rfl, [some 4], ?_, ?_⟩; all_goals (repeat' (first | exact rfl | exact trivial | (with_reducible assumption) | refine And.intro ?_ ?_)); all_goals (first | omega | assumption | ((repeat' (first | (rw [hm0]; omega) | exact rfl | exact trivial | (with_reducible assumption) | refine And.intro ?_ ?_ | omega | assumption)); done)); done) | (refine ⟨rfl, [some 5], ?_, ?_⟩; all_goals (repeat' (first | exact rfl | exact trivial | (with_reducible assumption) | refine And.intro ?_ ?_)); all_goals (first | omega | assumption | ((repeat' (first | (rw [hm0]; omega) | exact rfl | exact trivial | (with_reducible assumption) | refine And.intro ?_ ?_ | omega | assumption)); done)); done) | (refine ⟨rfl, [some 6], ?_, ?_⟩; all_goals (repeat' (first | exact rfl | exact trivial | (with_reducible assumption) | refine And.intro ?_ ?_)); all_goals (first | omega | assumption | ((repeat' (first | (rw [hm0]; omega) | exact rfl | exact trivial | (with_reducible assumption) | refine And.intro ?_ ?_ | omega | assumption)); done)); done))) | trace_state
              · have hst0 := s0 p j1 (by omega)
                have hp0 := mul_in (a := p) (A := 4294967295) (b := Y % 4294967296) (B := 4294967295) (by omega) (by omega) (by omega) (by omega)
                have hqY0 : p * Y = Q0 * Y := by rw [hst0]
                repeat' (first | (intro h; first | contradiction | omega | (conv => whnf) | skip) | (refine And.intro ?_ ?_) | (refine arith_ok ⟨by omega, by omega⟩ ?_) | (first | (refine draw_quiet hT mixed (by decide +kernel) ?_) | (refine draw_hard hT mixed (by decide +kernel) ?_)) | (refine arithw (show IntKind.u64.wrap _ = R0 from (wrapU _).trans (by omega)) ?_) | (refine arithw (wrapU _) ?_) | (refine eqv (hs5 _) ?_))
                all_goals first | omega | (refine congrArg AV.tup (congr (congrArg List.cons (iv ?_)) (congrArg (fun z => [z]) (iv ?_))); (first | (rw [hfin.1]; omega) | omega); (first | exact hfin.2.symm | omega)) | trace_state
        · repeat' (first | (intro h; first | contradiction | omega | (conv => whnf) | skip) | (refine And.intro ?_ ?_) | (refine arith_ok ⟨by omega, by omega⟩ ?_) | (first | (refine draw_quiet hT mixed (by decide +kernel) ?_) | (refine draw_hard hT mixed (by decide +kernel) ?_)) | fail)
          all_goals first | omega | ((conv => whnf); refine ⟨q - 1, ⟨hle, by omega, by rw [hm]; omega, by rw [hm]; omega⟩, ?_, by omega⟩; (first | (refine ⟨rfl, [], ?_, ?_⟩; all_goals (repeat' (first | exact rfl | exact trivial | (with_reducible assumption) | refine And.intro ?_ ?_)); all_goals (first | omega | assumption | ((repeat' (first | (rw [hm]; omega) | exact rfl | exact trivial | (with_reducible assumption) | refine And.intro ?_ ?_ | omega | assumption)); done)); done) | (refine ⟨rfl, [some 1], ?_, ?_⟩; all_goals (repeat' (first | exact rfl | exact trivial | (with_reducible assumption) | refine And.intro ?_ ?_)); all_goals (first | omega | assumption | ((repeat' (first | (rw [hm]; omega) | exact rfl | exact trivial | (with_reducible assumption) | refine And.intro ?_ ?_ | omega | assumption)); done)); done) | (refine ⟨rfl, [some 2], ?_, ?_⟩; all_goals (repeat' (first | exact rfl | exact trivial | (with_reducible assumption) | refine And.intro ?_ ?_)); all_goals (first | omega | assumption | ((repeat' (first | (rw [hm]; omega) | exact rfl | exact trivial | (with_reducible assumption) | refine And.intro ?_ ?_ | omega | assumption)); done)); done) | (refine ⟨rfl, [some 3], ?_, ?_⟩; all_goals (repeat' (first | exact rfl | exact trivial | (with_reducible assumption) | refine And.intro ?_ ?_)); all_goals (first | omega | assumption | ((repeat' (first | (rw [hm]; omega) | exact rfl | exact trivial | (with_reducible assumption) | refine And.intro ?_ ?_ | omega | assumption)); done)); done) | (refine ⟨rfl, [some 0], ?_, ?_⟩; all_goals (repeat' (first | exact rfl | exact trivial | (with_reducible assumption) | refine And.intro ?_ ?_)); all_goals (first | omega | assumption | ((repeat' (first | (rw [hm]; omega) | exact rfl | exact trivial | (with_reducible assumption) | refine And.intro ?_ ?_ | omega | assumption)); done)); done) | (refine ⟨rfl, [some 4], ?_, ?_⟩; all_goals (repeat' (first | exact rfl | exact trivial | (with_reducible assumption) | refine And.intro ?_ ?_)); all_goals (first | omega | assumption | ((repeat' (first | (rw [hm]; omega) | exact rfl | exact trivial | (with_reducible assumption) | refine And.intro ?_ ?_ | omega | assumption)); done)); done) | (refine ⟨rfl, [some 5], ?_, ?_⟩; all_goals (repeat' (first | exact rfl | exact trivial | (with_reducible assumption) | refine And.intro ?_ ?_)); all_goals (first | omega | assumption | ((repeat' (first | (rw [hm]; omega) | exact rfl | exact trivial | (with_reducible assumption) | refine And.intro ?_ ?_ | omega | assumption)); done)); done) | (refine ⟨rfl, [some 6], ?_, ?_⟩; all_goals (repeat' (first | exact rfl | exact trivial | (with_reducible assumption) | refine And.intro ?_ ?_)); all_goals (first | omega | assumption | ((repeat' (first | (rw [hm]; omega) | exact rfl | exact trivial | (with_reducible assumption) | refine And.intro ?_ ?_ | omega | assumption)); done)); done))) | trace_state
      · have hst := s1 q i1 (by omega)
        have hp := mul_in (a := q) (A := 4294967295) (b := Y % 4294967296) (B := 4294967295) (by omega) (by omega) (by omega) (by omega)
        have hqY : q * Y = Q1 * Y := by rw [hst]
        repeat' (first | (intro h; first | contradiction | omega | (conv => whnf) | skip) | (refine And.intro ?_ ?_) | (refine arith_ok ⟨by omega, by omega⟩ ?_) | (first | (refine draw_quiet hT mixed (by decide +kernel) ?_) | (refine draw_hard hT mixed (by decide +kernel) ?_)) | (refine arithw (show IntKind.u64.wrap _ = R1 from (wrapU _).trans (by omega)) ?_) | (refine arithw (wrapU _) ?_) | (refine eqv (and32 ⟨by omega, by omega⟩) ?_) | (refine eqv shr32 ?_) | (refine quo_ok ⟨by omega, by omega⟩ (by omega) (by omega) ?_) | (refine rem_ok (by omega) (by omega) ?_))
        all_goals first | omega | skip
        refine loop_rule hT (fun p : Int => Q0 ≤ p ∧ p ≤ 4294967297 ∧ 0 ≤ R1 - p * (Y / 4294967296) ∧ R1 - p * (Y / 4294967296) < 4294967296) 135 0 [2, 8, 9, 10, 14, 15, 16, 17, 18] (fun p => [U Y, U (64 - (blen y.toNat : Int)), U (Y / 4294967296), U (Y % 4294967296), U (L % 4294967296), U q, U (R1 - p * (Y / 4294967296)), U R1, U p]) (fun _ => []) (fun p => p.toNat) (R1 / (Y / 4294967296)) (Nat.le_of_ble_eq_true rfl) ?_ ?_ ?_
        · exact ⟨q0f.1, q0f.2, by omega, by omega⟩
        · (first | (refine ⟨rfl, [], ?_, ?_⟩; all_goals (repeat' (first | exact rfl | exact trivial | (with_reducible assumption) | refine And.intro ?_ ?_)); all_goals (first | omega | assumption); done) | (refine ⟨rfl, [some 1], ?_, ?_⟩; all_goals (repeat' (first | exact rfl | exact trivial | (with_reducible assumption) | refine And.intro ?_ ?_)); all_goals (first | omega | assumption); done) | (refine ⟨rfl, [some 2], ?_, ?_⟩; all_goals (repeat' (first | exact rfl | exact trivial | (with_reducible assumption) | refine And.intro ?_ ?_)); all_goals (first | omega | assumption); done) | (refine ⟨rfl, [some 3], ?_, ?_⟩; all_goals (repeat' (first | exact rfl | exact trivial | (with_reducible assumption) | refine And.intro ?_ ?_)); all_goals (first | omega | assumption); done) | (refine ⟨rfl, [some 0], ?_, ?_⟩; all_goals (repeat' (first | exact rfl | exact trivial | (with_reducible assumption) | refine And.intro ?_ ?_)); all_goals (first | omega | assumption); done) | (refine ⟨rfl, [some 4], ?_, ?_⟩; all_goals (repeat' (first | exact rfl | exact trivial | (with_reducible assumption) | refine And.intro ?_ ?_)); all_goals (first | omega | assumption); done) | (refine ⟨rfl, [some 5], ?_, ?_⟩; all_goals (repeat' (first | exact rfl | exact trivial | (with_reducible assumption) | refine And.intro ?_ ?_)); all_goals (first | omega | assumption); done) | (refine ⟨rfl, [some 6], ?_, ?_⟩; all_goals (repeat' (first | exact rfl | exact trivial | (with_reducible assumption) | refine And.intro ?_ ?_)); all_goals (first | omega | assumption); done))
        · rintro p ⟨j1, j2, j3, j4⟩
          by_cases hd : 4294967296 ≤ p ∨ 4294967296 * (R1 - p * (Y / 4294967296)) + L % 4294967296 < p * (Y % 4294967296)
          · have hle0 := l0 p hd
            have hm0 : (p - 1) * (Y / 4294967296) = p * (Y / 4294967296) - Y / 4294967296 := by rw [Int.sub_mul]; omega
            have hp0 : p < 4294967296 → 0 ≤ p * (Y % 4294967296) ∧ p * (Y % 4294967296) ≤ 4294967295 * 4294967295 := fun hq => mul_in (by omega) (by omega) (by omega) (by omega)
            by_cases hbr0 : 4294967296 ≤ R1 - p * (Y / 4294967296) + Y / 4294967296
            · have hp02 := mul_in (a := p - 1) (A := 4294967296) (b := Y % 4294967296) (B := 4294967295) (by omega) (by omega) (by omega) (by omega)
              have hst0 := s0 (p - 1) hle0 (by rw [hm0]; omega)
              have hqY0 : (p - 1) * Y = Q0 * Y := by rw [hst0]
              repeat' (first | (intro h; first | contradiction | omega | (conv => whnf) | skip) | (refine And.intro ?_ ?_) | (refine arith_ok ⟨by omega, by omega⟩ ?_) | (first | (refine draw_quiet hT mixed (by decide +kernel) ?_) | (refine draw_hard hT mixed (by decide +kernel) ?_)) | (refine arithw (show IntKind.u64.wrap _ = R0 from (wrapU _).trans (by omega)) ?_) | (refine arithw (wrapU _) ?_) | (refine eqv (hs5 _) ?_))
              all_goals first | omega | (refine congrArg AV.tup (congr (congrArg List.cons (iv ?_)) (congrArg (fun z => [z]) (iv ?_))); (first | (rw [hfin.1]; omega) | omega); (first | exact hfin.2.symm | omega)) | trace_state
            · repeat' (first | (intro h; first | contradiction | omega | (conv => whnf) | skip) | (refine And.intro ?_ ?_) | (refine arith_ok ⟨by omega, by omega⟩ ?_) | (first | (refine draw_quiet hT mixed (by decide +kernel) ?_) | (refine draw_hard hT mixed (by decide +kernel) ?_)) | fail)
              all_goals first | omega | ((conv => whnf); refine ⟨p - 1, ⟨hle0, by omega, by rw [hm0]; omega, by rw [hm0]; omega⟩, ?_, by omega⟩; (first | (refine ⟨rfl, [], ?_, ?_⟩; all_goals (repeat' (first | exact rfl | exact trivial | (with_reducible assumption) | refine And.intro ?_ ?_)); all_goals (first | omega | assumption | ((repeat' (first | (rw [hm0]; omega) | exact rfl | exact trivial | (with_reducible assumption) | refine And.intro ?_ ?_ | omega | assumption)); done)); done) | (refine ⟨rfl, [some 1], ?_, ?_⟩; all_goals (repeat' (first | exact rfl | exact trivial | (with_reducible assumption) | refine And.intro ?_ ?_)); all_goals (first | omega | assumption | ((repeat' (first | (rw [hm0]; omega) | exact rfl | exact trivial | (with_reducible assumption) | refine And.intro ?_ ?_ | omega | assumption)); done)); done) | (refine ⟨rfl, [some 2], ?_, ?_⟩; all_goals (repeat' (first | exact rfl | exact trivial | (with_reducible assumption) | refine And.intro ?_ ?_)); all_goals (first | omega | assumption | ((repeat' (first | (rw [hm0]; omega) | exact rfl | exact trivial | (with_reducible assumption) | refine And.intro ?_ ?_ | omega | assumption)); done)); done) | (refine ⟨rfl, [some 3], ?_, ?_⟩; all_goals (repeat' (first | exact rfl | exact trivial | (with_reducible assumption) | refine And.intro ?_ ?_)); all_goals (first | omega | assumption | ((repeat' (first | (rw [hm0]; omega) | exact rfl | exact trivial | (with_reducible assumption) | refine And.intro ?_ ?_ | omega | assumption)); done)); done) | (refine ⟨rfl, [some 0], ?_, ?_⟩; all_goals (repeat' (first | exact rfl | exact trivial | (with_reducible assumption) | refine And.intro ?_ ?_)); all_goals (first | omega | assumption | ((repeat' (first | (rw [hm0]; omega) | exact rfl | exact trivial | (with_reducible assumption) | refine And.intro ?_ ?_ | omega | assumption)); done)); done) | (refine ⟨rfl, [some 4], ?_, ?_⟩; all_goals (repeat' (first | exact rfl | exact trivial | (with_reducible assumption) | refine And.intro ?_ ?_)); all_goals (first | omega | assumption | ((repeat' (first | (rw [hm0]; omega) | exact rfl | exact trivial | (with_reducible assumption) | refine And.intro ?_ ?_ | omega | assumption)); done)); done) | (refine ⟨rfl, [some 5], ?_, ?_⟩; all_goals (repeat' (first | exact rfl | exact trivial | (with_reducible assumption) | refine And.intro ?_ ?_)); all_goals (first | omega | assumption | ((repeat' (first | (rw [hm0]; omega) | exact rfl | exact trivial | (with_reducible assumption) | refine And.intro ?_ ?_ | omega | assumption)); done)); done) | (refine ⟨rfl, [some 6], ?_, ?_⟩; all_goals (repeat' (first | exact rfl | exact trivial | (with_reducible assumption) | refine And.intro ?_ ?_)); all_goals (first | omega | assumption | ((repeat' (first | (rw [hm0]; omega) | exact rfl | exact trivial | (with_reducible assumption) | refine And.intro ?_ ?_ | omega | assumption)); done)); done))) | trace_state
          · have hst0 := s0 p j1 (by omega)
            have hp0 := mul_in (a := p) (A := 4294967295) (b := Y % 4294967296) (B := 4294967295) (by omega) (by omega) (by omega) (by omega)
            have hqY0 : p * Y = Q0 * Y := by rw [hst0]
            repeat' (first | (intro h; first | contradiction | omega | (conv => whnf) | skip) | (refine And.intro ?_ ?_) | (refine arith_ok ⟨by omega, by omega⟩ ?_) | (first | (refine draw_quiet hT mixed (by decide +kernel) ?_) | (refine draw_hard hT mixed (by decide +kernel) ?_)) | (refine arithw (show IntKind.u64.wrap _ = R0 from (wrapU _).trans (by omega)) ?_) | (refine arithw (wrapU _) ?_) | (refine eqv (hs5 _) ?_))
            all_goals first | omega | (refine congrArg AV.tup (congr (congrArg List.cons (iv ?_)) (congrArg (fun z => [z]) (iv ?_))); (first | (rw [hfin.1]; omega) | omega); (first | exact hfin.2.symm | omega)) | trace_state
end Go.Proofs.YtenofbabiacacaaGreat
