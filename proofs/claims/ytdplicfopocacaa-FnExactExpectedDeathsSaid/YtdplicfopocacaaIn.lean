/-
  Lists of integers in a range; the first place of which a function holds. No conditions but those in the statements.
-/
import Derived.Test.YtdplicfopocacaaInts
set_option linter.unusedVariables false
set_option linter.unusedSimpArgs false
namespace Go.Proofs.Ytdplicfopocacaa
open Go.AE

attribute [local irreducible] CallA LoopA DrawA CallQ arithK quoK remK eqK
/-- All of them lie in a range. -/
def allR (xs : List Int) (lo hi : Int) : Prop := ∀ x ∈ xs, lo ≤ x ∧ x ≤ hi
instance (xs : List Int) (lo hi : Int) : Decidable (allR xs lo hi) := by unfold allR; infer_instance
def idxOf (p : Int → Bool) (xs : List Int) : Int := if firstOf p xs < xs.length then (firstOf p xs : Int) else -1
theorem any_not (xs : List Int) (lo hi : Int) : (xs.any fun n => !decide (lo ≤ n ∧ n ≤ hi)) = !decide (allR xs lo hi) := by
  cases h : (xs.any fun n => !decide (lo ≤ n ∧ n ≤ hi)) with
  | true =>
    obtain ⟨x, h1, h2⟩ := List.any_eq_true.1 h
    have : ¬ allR xs lo hi := fun ha => by simp [ha x h1] at h2
    simp [this]
  | false =>
    have : allR xs lo hi := fun x hx => by simpa using List.any_eq_false.1 h x hx
    simp [this]
end Go.Proofs.Ytdplicfopocacaa
