/-
  Plain facts on quotients. No conditions but those in the statements.
-/
import Derived.Test.YtenofbabiacacaaGreatIn
set_option linter.unusedVariables false
set_option linter.unusedSimpArgs false
namespace Go.Proofs.YtenofbabiacacaaGreat
open Go.AE

/-! Quotients -/
def cdiv (a b : Int) : Int := a / b + (if a % b = 0 then 0 else 1)
theorem cdiv_le {s t b : Int} (hs : 0 ≤ s) (ht : 0 ≤ t) (hb : t ≤ b) (h1 : 1 ≤ b) : 0 ≤ cdiv (s * t) b ∧ cdiv (s * t) b ≤ s := by
  have hn : 0 ≤ s * t := Int.mul_nonneg hs ht
  have hq : 0 ≤ s * t / b := Int.ediv_nonneg hn (by omega)
  have hle : s * t ≤ s * b := Int.mul_le_mul_of_nonneg_left hb hs
  unfold cdiv
  split
  · have := Int.ediv_le_of_le_mul (a := s * t) (b := s) (c := b) (by omega) hle
    omega
  · rename_i hz
    have hlt : s * t < s * b := by
      rcases Int.lt_or_eq_of_le hle with h | h
      · exact h
      · rw [h, Int.mul_emod_left] at hz
        exact absurd rfl hz
    have := Int.ediv_lt_of_lt_mul (a := s * t) (b := s) (c := b) (by omega) hlt
    omega
theorem floor_eq {q d r x : Int} (hd : 0 < d) (h : q * d + r = x) (h0 : 0 ≤ r) (h1 : r < d) : x / d = q ∧ x % d = r := by
  rw [Int.ediv_emod_unique hd]
  refine ⟨?_, h0, h1⟩
  rw [← h, Int.mul_comm d q]; omega
theorem floor_spec {x d : Int} (hd : 0 < d) : x / d * d + x % d = x ∧ 0 ≤ x % d ∧ x % d < d := by
  refine ⟨?_, Int.emod_nonneg _ (by omega), Int.emod_lt_of_pos _ hd⟩
  have := Int.mul_ediv_add_emod x d
  rw [Int.mul_comm d] at this
  omega
/-- The quotient and the rest of a difference. -/
theorem floor_sub {x y d : Int} (hd : 0 < d) : (x - y) / d = (if x % d < y % d then x / d - y / d - 1 else x / d - y / d) ∧ (x - y) % d = (if x % d < y % d then x % d - y % d + d else x % d - y % d) := by
  obtain ⟨a1, a2, a3⟩ := floor_spec (x := x) hd
  obtain ⟨b1, b2, b3⟩ := floor_spec (x := y) hd
  split
  · rename_i h
    refine floor_eq hd ?_ (by omega) (by omega)
    rw [Int.sub_mul, Int.sub_mul]; omega
  · rename_i h
    refine floor_eq hd ?_ (by omega) (by omega)
    rw [Int.sub_mul]; omega
theorem mul_bd {a b A B : Int} (ha : -A ≤ a ∧ a ≤ A) (hb : 0 ≤ b ∧ b ≤ B) (hA : 0 ≤ A) : -(A * B) ≤ a * b ∧ a * b ≤ A * B := by
  have h1 : a * b ≤ A * b := Int.mul_le_mul_of_nonneg_right ha.2 hb.1
  have h2 : A * b ≤ A * B := Int.mul_le_mul_of_nonneg_left hb.2 hA
  have h3 : -A * b ≤ a * b := Int.mul_le_mul_of_nonneg_right ha.1 hb.1
  have h4 : -A * b = -(A * b) := Int.neg_mul A b
  omega
end Go.Proofs.YtenofbabiacacaaGreat
