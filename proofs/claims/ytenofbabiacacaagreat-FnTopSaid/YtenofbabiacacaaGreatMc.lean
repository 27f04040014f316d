/-
  Full-width quotients: what the library's functions return. No conditions but those in the statements.
-/
import Derived.Test.YtenofbabiacacaaGreatMb
set_option linter.unusedVariables false
set_option linter.unusedSimpArgs false
namespace Go.Proofs.YtenofbabiacacaaGreat
open Go.AE

attribute [local irreducible] CallA LoopA DrawA CallQ arithK quoK remK eqK
/-! How many bits a number takes -/
def blen (n : Nat) : Nat := if n = 0 then 0 else Nat.log2 n + 1
theorem log2_shift {n k : Nat} (h : 2 ^ k ≤ n) : Nat.log2 n = Nat.log2 (n / 2 ^ k) + k := by
  have hk : 0 < 2 ^ k := Nat.two_pow_pos k
  have h0 : n ≠ 0 := by omega
  have h1 : n / 2 ^ k ≠ 0 := by have := Nat.div_pos h hk; omega
  have a1 := Nat.log2_self_le h0
  have a2 := Nat.lt_log2_self (n := n)
  have b1 := Nat.log2_self_le h1
  have b2 := Nat.lt_log2_self (n := n / 2 ^ k)
  have c1 : 2 ^ (Nat.log2 (n / 2 ^ k) + k) ≤ n := by
    rw [Nat.pow_add]
    exact Nat.le_trans (Nat.mul_le_mul_right _ b1) (Nat.div_mul_le_self _ _)
  have c2 : n < 2 ^ (Nat.log2 (n / 2 ^ k) + k + 1) := by
    have := (Nat.div_lt_iff_lt_mul hk).1 b2
    rw [show Nat.log2 (n / 2 ^ k) + k + 1 = (Nat.log2 (n / 2 ^ k) + 1) + k by omega, Nat.pow_add]
    exact this
  have d1 : Nat.log2 (n / 2 ^ k) + k < Nat.log2 n + 1 := by
    rcases Nat.lt_or_ge (Nat.log2 (n / 2 ^ k) + k) (Nat.log2 n + 1) with h | h
    · exact h
    · have := Nat.pow_le_pow_right (n := 2) (by omega) h
      omega
  have d2 : Nat.log2 n < Nat.log2 (n / 2 ^ k) + k + 1 := by
    rcases Nat.lt_or_ge (Nat.log2 n) (Nat.log2 (n / 2 ^ k) + k + 1) with h | h
    · exact h
    · have := Nat.pow_le_pow_right (n := 2) (by omega) h
      omega
  omega
theorem blen_shift {n k : Nat} (h : 2 ^ k ≤ n) : blen n = blen (n / 2 ^ k) + k := by
  have hk : 0 < 2 ^ k := Nat.two_pow_pos k
  have h1 : n / 2 ^ k ≠ 0 := by have := Nat.div_pos h hk; omega
  unfold blen
  rw [if_neg (by omega), if_neg h1, log2_shift h]
  omega
theorem blen_bd {n : Nat} (h : 0 < n) : 1 ≤ blen n ∧ 2 ^ (blen n - 1) ≤ n ∧ n < 2 ^ blen n := by
  unfold blen
  rw [if_neg (by omega)]
  exact ⟨by omega, by rw [Nat.add_sub_cancel]; exact Nat.log2_self_le (by omega), Nat.lt_log2_self⟩
/-! One digit of a quotient -/
structure Dg (h y u y1 y0 : Int) : Prop where
  hy : y = y1 * 4294967296 + y0
  y0b : 0 ≤ y0 ∧ y0 < 4294967296
  y1b : 2147483648 ≤ y1 ∧ y1 < 4294967296
  hb : 0 ≤ h ∧ h < y
  ub : 0 ≤ u ∧ u < 4294967296
theorem Dg.m (_ _ _ : Int) : True := trivial
section
variable {h y u y1 y0 : Int}
theorem Dg.qlt (D : Dg h y u y1 y0) : 0 ≤ (h * 4294967296 + u) / y ∧ (h * 4294967296 + u) / y < 4294967296 := by
  obtain ⟨e, a, b, c, d⟩ := D
  refine ⟨Int.ediv_nonneg (by omega) (by omega), Int.ediv_lt_of_lt_mul (by omega) ?_⟩
  have : (h + 1) * 4294967296 ≤ y * 4294967296 := Int.mul_le_mul_of_nonneg_right (by omega) (by omega)
  have e2 := Int.mul_comm 4294967296 y
  omega
/-- The first guess. -/
theorem Dg.first (D : Dg h y u y1 y0) : (h * 4294967296 + u) / y ≤ h / y1 ∧ h / y1 ≤ 4294967297 := by
  have D0 := D
  obtain ⟨e, a, b, c, d⟩ := D
  obtain ⟨q0, q1⟩ := D0.qlt
  have hf := floor_spec (x := h * 4294967296 + u) (d := y) (by omega)
  refine ⟨?_, ?_⟩
  · refine Int.le_ediv_of_mul_le (by omega) ?_
    generalize (h * 4294967296 + u) / y = q at *
    rw [e, Int.mul_add, ← Int.mul_assoc] at hf
    have h2 : 0 ≤ q * y0 := Int.mul_nonneg q0 a.1
    omega
  · have : h / y1 < 4294967298 := by
      refine Int.ediv_lt_of_lt_mul (by omega) ?_
      omega
    omega
/-- A guess that is too great. -/
theorem Dg.less (D : Dg h y u y1 y0) {q : Int} (hq : 4294967296 ≤ q ∨ 4294967296 * (h - q * y1) + u < q * y0) : (h * 4294967296 + u) / y ≤ q - 1 := by
  have D0 := D
  obtain ⟨e, a, b, c, d⟩ := D
  obtain ⟨q0, q1⟩ := D0.qlt
  rcases hq with hq | hq
  · omega
  · have : (h * 4294967296 + u) / y < q := by
      refine Int.ediv_lt_of_lt_mul (by omega) ?_
      rw [e, Int.mul_add, ← Int.mul_assoc]
      omega
    omega
/-- A guess that is not too great. -/
theorem Dg.stop (D : Dg h y u y1 y0) {q : Int} (h1 : (h * 4294967296 + u) / y ≤ q) (h2 : q * y0 ≤ 4294967296 * (h - q * y1) + u) : (h * 4294967296 + u) / y = q := by
  have D0 := D
  obtain ⟨e, a, b, c, d⟩ := D
  have : q ≤ (h * 4294967296 + u) / y := by
    refine Int.le_ediv_of_mul_le (by omega) ?_
    rw [e, Int.mul_add, ← Int.mul_assoc]
    omega
  omega
end
end Go.Proofs.YtenofbabiacacaaGreat
