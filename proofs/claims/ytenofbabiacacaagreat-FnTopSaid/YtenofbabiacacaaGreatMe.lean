/-
  Quotients bit by bit: plain facts. No conditions but those in the statements.
-/
import Derived.Test.YtenofbabiacacaaGreatMc
set_option linter.unusedVariables false
set_option linter.unusedSimpArgs false
namespace Go.Proofs.YtenofbabiacacaaGreat
open Go.AE

/-- What is left of a number without its last bits. -/
def sh (a : Int) (i : Nat) : Int := a / 2 ^ i
theorem sh_zero (a : Int) : sh a 0 = a := by unfold sh; simp
theorem sh_step (a : Int) (i : Nat) : sh a i = 2 * sh a (i + 1) + sh a i % 2 := by
  have h : sh a (i + 1) = sh a i / 2 := by
    unfold sh
    rw [Int.pow_succ, Int.ediv_ediv_of_nonneg (Int.pow_nonneg (by omega))]
  omega
theorem sh_bd {a : Int} (h : 0 ≤ a) (i : Nat) : 0 ≤ sh a i ∧ sh a i ≤ a := by
  unfold sh
  exact ⟨Int.ediv_nonneg h (Int.pow_nonneg (by omega)), Int.ediv_le_self _ h⟩
theorem sh_top {a : Int} (h : 0 ≤ a) (h2 : a < 4398046511104) : sh a 42 = 0 := by
  unfold sh
  exact Int.ediv_eq_zero_of_lt h (by simpa using h2)
theorem sh_shr {a : Int} {j : Nat} (h1 : 1 ≤ j) (h2 : j ≤ 42) : a.fdiv (2 ^ (min ((j : Int) - 1).toNat IntKind.i64.bits)) = sh a (j - 1) := by
  rw [show ((j : Int) - 1).toNat = j - 1 by omega, show IntKind.i64.bits = 64 from rfl, Nat.min_eq_left (by omega), Int.fdiv_eq_ediv_of_nonneg _ (Int.pow_nonneg (by omega))]
  rfl
theorem dstep0 {A b c : Int} (hc : 0 < c) : (2 * A) * b / c = 2 * (A * b / c) + 2 * (A * b % c) / c ∧ (2 * A) * b % c = 2 * (A * b % c) % c := by
  obtain ⟨a1, a2, a3⟩ := floor_spec (x := A * b) hc
  obtain ⟨b1, b2, b3⟩ := floor_spec (x := 2 * (A * b % c)) hc
  refine floor_eq hc ?_ b2 b3
  rw [Int.add_mul, Int.mul_assoc, Int.mul_assoc 2 A b]
  omega
theorem dstep1 {A b c : Int} (hc : 0 < c) : (2 * A + 1) * b / c = 2 * (A * b / c) + b / c + (2 * (A * b % c) + b % c) / c ∧ (2 * A + 1) * b % c = (2 * (A * b % c) + b % c) % c := by
  obtain ⟨a1, a2, a3⟩ := floor_spec (x := A * b) hc
  obtain ⟨c1, c2, c3⟩ := floor_spec (x := b) hc
  obtain ⟨b1, b2, b3⟩ := floor_spec (x := 2 * (A * b % c) + b % c) hc
  refine floor_eq hc ?_ b2 b3
  rw [Int.add_mul, Int.add_mul, Int.mul_assoc, Int.add_mul, Int.mul_assoc 2 A b]
  omega
theorem div_bd {A b c : Int} (hc : 0 < c) (hA : 0 ≤ A ∧ A ≤ 4398046511104) (hb : 0 ≤ b ∧ b ≤ 200 * c) : 0 ≤ A * b / c ∧ A * b / c ≤ 879609302220800 := by
  have h1 := mul_in (a := A) (A := 4398046511104) (b := b) (B := 200 * c) hA.1 hA.2 hb.1 hb.2
  refine ⟨Int.ediv_nonneg h1.1 (by omega), Int.ediv_le_of_le_mul hc ?_⟩
  have : (4398046511104 : Int) * (200 * c) = 879609302220800 * c := by rw [← Int.mul_assoc]; rfl
  omega
/-- A quotient is not great where the number is not. -/
theorem quot_bd {q d r x K : Int} (hd : 1 ≤ d) (h : q * d + r = x) (hr : -d < r ∧ r < 3 * d) (hx : -(K * d) ≤ x ∧ x ≤ K * d) : -(K + 3) ≤ q ∧ q ≤ K + 1 := by
  constructor
  · by_cases hq : -(K + 3) ≤ q
    · exact hq
    · exfalso
      have h1 : q * d ≤ -(K + 4) * d := Int.mul_le_mul_of_nonneg_right (by omega) (by omega)
      have h2 : -(K + 4) * d = -(K * d) - 4 * d := by rw [Int.neg_mul, Int.add_mul]; omega
      omega
  · by_cases hq : q ≤ K + 1
    · exact hq
    · exfalso
      have h1 : (K + 2) * d ≤ q * d := Int.mul_le_mul_of_nonneg_right (by omega) (by omega)
      have h2 : (K + 2) * d = K * d + 2 * d := Int.add_mul _ _ _
      omega
theorem dif_bd {A b S c d : Int} (_ : 1 ≤ d) (hA : 0 ≤ A ∧ A ≤ 4398046511104) (hS : 0 ≤ S ∧ S ≤ 4398046511104) (hb : 0 ≤ b ∧ b ≤ 200 * d) (hc : 0 ≤ c ∧ c ≤ 200 * d) : -(879609302220800 * d) ≤ A * b - S * c ∧ A * b - S * c ≤ 879609302220800 * d := by
  have h1 := mul_in (a := A) (A := 4398046511104) (b := b) (B := 200 * d) hA.1 hA.2 hb.1 hb.2
  have h2 := mul_in (a := S) (A := 4398046511104) (b := c) (B := 200 * d) hS.1 hS.2 hc.1 hc.2
  have : (4398046511104 : Int) * (200 * d) = 879609302220800 * d := by rw [← Int.mul_assoc]; rfl
  omega
/-- One bit more on both sides. -/
theorem mstep {A S b c d e g : Int} (hd : 0 < d) (he : e = 0 ∨ e = 1) (hg : g = 0 ∨ g = 1) :
    (2 * ((A * b - S * c) / d) + e * (b / d) - g * (c / d)) * d + (2 * ((A * b - S * c) % d) + e * (b % d) - g * (c % d)) = (2 * A + e) * b - (2 * S + g) * c := by
  obtain ⟨a1, _, _⟩ := floor_spec (x := A * b - S * c) hd
  obtain ⟨b1, _, _⟩ := floor_spec (x := b) hd
  obtain ⟨c1, _, _⟩ := floor_spec (x := c) hd
  have k1 : (2 * A + e) * b = 2 * (A * b) + e * b := by rw [Int.add_mul, Int.mul_assoc]
  have k2 : (2 * S + g) * c = 2 * (S * c) + g * c := by rw [Int.add_mul, Int.mul_assoc]
  rw [k1, k2, Int.sub_mul, Int.add_mul, Int.mul_assoc]
  rcases he with rfl | rfl <;> rcases hg with rfl | rfl <;> simp only [Int.zero_mul, Int.one_mul, Int.sub_zero, Int.add_zero] <;> omega
end Go.Proofs.YtenofbabiacacaaGreat
