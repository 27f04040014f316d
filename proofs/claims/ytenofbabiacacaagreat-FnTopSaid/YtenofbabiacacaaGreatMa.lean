/-
  Plain facts on columns. No conditions but those in the statements.
-/
import Derived.Test.YtenofbabiacacaaGreatSe
import Derived.Test.YtenofbabiacacaaGreatMq
set_option linter.unusedVariables false
set_option linter.unusedSimpArgs false
namespace Go.Proofs.YtenofbabiacacaaGreat
open Go.AE

theorem disc_mono {r : Int} (hr : okR r) (k : Nat) : disc r (k + 1) ≤ disc r k := by
  have ih := disc_bd hr k
  rw [disc_next]
  refine Int.ediv_le_of_le_mul (by omega) ?_
  exact Int.mul_le_mul_of_nonneg_left (by omega) ih.1
theorem col_step {f : Int} {ls : List Int} {r x : Int} (ho : okT f ls) (hr : okR r) (hx : f ≤ x) : cC f ls r x + cD f ls r (x + 1) ≤ cD f ls r x := by
  have h1 := lv_bd ho x
  have h0 := cD_bd ho hr x
  unfold cC cD
  rw [show x + 1 - f = x - f + 1 by omega]
  by_cases h : x - f + 1 ≤ 120
  · rw [if_pos h, if_pos h, if_pos (by omega), show (x - f + 1).toNat = (x - f).toNat + 1 by omega]
    have hm := disc_mono hr (x - f).toNat
    rw [← Int.add_mul, show lv f ls x - lv f ls (x + 1) + lv f ls (x + 1) = lv f ls x by omega]
    exact Int.mul_le_mul_of_nonneg_left hm h1.1
  · rw [if_neg h, if_neg h]
    unfold cD at h0
    omega
theorem cD_mono {f : Int} {ls : List Int} {r x : Int} (ho : okT f ls) (hr : okR r) (hx : f ≤ x) : cD f ls r (x + 1) ≤ cD f ls r x := by
  have h1 := col_step ho hr hx
  have h2 := cC_bd ho hr hx
  omega
theorem cM_diff {f : Int} {ls : List Int} {r : Int} (ho : okT f ls) (hr : okR r) : ∀ (n : Nat) (x : Int), f ≤ x → x + n ≤ 151 → 0 ≤ cM f ls r x - cM f ls r (x + n) ∧ cM f ls r x - cM f ls r (x + n) + cD f ls r (x + n) ≤ cD f ls r x
  | 0, x, _, _ => by rw [show x + ((0 : Nat) : Int) = x by omega]; omega
  | n + 1, x, hx, hn => by
    have ih := cM_diff ho hr n (x + 1) (by omega) (by omega)
    rw [show x + 1 + (n : Int) = x + ((n + 1 : Nat) : Int) by omega] at ih
    have h1 := col_step ho hr hx
    have h2 := cC_bd ho hr hx
    have h3 := cM_step (f := f) (ls := ls) (r := r) (x := x) (by omega)
    omega
theorem cN_diff {f : Int} {ls : List Int} {r : Int} (ho : okT f ls) (hr : okR r) : ∀ (n : Nat) (x : Int), f ≤ x → x + n ≤ 151 → (0 ≤ cN f ls r x - cN f ls r (x + n) ∧ cN f ls r x - cN f ls r (x + n) ≤ n * cD f ls r x) ∧ (0 < n → cD f ls r x ≤ cN f ls r x - cN f ls r (x + n))
  | 0, x, _, _ => by rw [show x + ((0 : Nat) : Int) = x by omega]; simp
  | n + 1, x, hx, hn => by
    have ih := cN_diff ho hr n (x + 1) (by omega) (by omega)
    rw [show x + 1 + (n : Int) = x + ((n + 1 : Nat) : Int) by omega] at ih
    have h1 := cD_mono ho hr hx
    have h2 := cD_bd ho hr x
    have h3 := cN_step (f := f) (ls := ls) (r := r) (x := x) (by omega)
    have h4 : (n : Int) * cD f ls r (x + 1) ≤ n * cD f ls r x := Int.mul_le_mul_of_nonneg_left h1 (by omega)
    have h5 : ((n + 1 : Nat) : Int) * cD f ls r x = n * cD f ls r x + cD f ls r x := by rw [Int.natCast_add, Int.add_mul]; simp
    omega
/-- Where a policy ends, for the sums over columns. -/
def pEnd (k a y : Int) : Int := if k = 0 then 151 else a + y
theorem pt_bd {f : Int} {ls : List Int} {r k a y s l q : Int} (ho : okP f ls r k a y s l) (hq : 0 ≤ q ∧ q < dur f ls k a y) :
    (0 ≤ pTop f ls r k a y q ∧ pTop f ls r k a y q ≤ cD f ls r (a + q)) ∧ cD f ls r (a + q) ≤ pBase f ls r k a y q ∧ pBase f ls r k a y q ≤ 151 * cD f ls r (a + q) := by
  have h0 := ho.1.1.1
  have h1 := ho.2.1
  have hdb := dur_bd ho
  unfold hdT at h0
  unfold okA at h1
  have hd := cD_bd ho.1.1 ho.1.2 (a + q)
  by_cases hk : k = 0
  · have e1 : pTop f ls r k a y q = cM f ls r (a + q) := by unfold pTop top; rw [if_pos hk]
    have e2 : pBase f ls r k a y q = cN f ls r (a + q) := by unfold pBase base; rw [if_pos hk]
    have m := cM_diff ho.1.1 ho.1.2 (151 - (a + q)).toNat (a + q) (by omega) (by omega)
    have n := cN_diff ho.1.1 ho.1.2 (151 - (a + q)).toNat (a + q) (by omega) (by omega)
    rw [show a + q + ((151 - (a + q)).toNat : Int) = 151 by omega, cM_top] at m
    rw [show a + q + ((151 - (a + q)).toNat : Int) = 151 by omega, cN_top] at n
    have t := cD_bd ho.1.1 ho.1.2 151
    have hb : ((151 - (a + q)).toNat : Int) * cD f ls r (a + q) ≤ 151 * cD f ls r (a + q) := Int.mul_le_mul_of_nonneg_right (by omega) hd.1
    have hp := n.2 (by omega)
    rw [e1, e2]
    omega
  · have hq2 : q < y := by
      have := hq.2
      unfold dur at this
      rwa [if_neg hk] at this
    have m := cM_diff ho.1.1 ho.1.2 (y - q).toNat (a + q) (by omega) (by omega)
    have n := cN_diff ho.1.1 ho.1.2 (y - q).toNat (a + q) (by omega) (by omega)
    rw [show a + q + ((y - q).toNat : Int) = a + y by omega] at m n
    have t := cD_bd ho.1.1 ho.1.2 (a + y)
    have hb : ((y - q).toNat : Int) * cD f ls r (a + q) ≤ 151 * cD f ls r (a + q) := Int.mul_le_mul_of_nonneg_right (by omega) hd.1
    have hp := n.2 (by omega)
    have e2 : pBase f ls r k a y q = cN f ls r (a + q) - cN f ls r (a + y) := by unfold pBase base; rw [if_neg hk]
    rw [e2]
    refine ⟨?_, by omega, by omega⟩
    unfold pTop top
    rw [if_neg hk]
    split
    · omega
    · split <;> omega
end Go.Proofs.YtenofbabiacacaaGreat
