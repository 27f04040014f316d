/-
  The holdings behind the close of a year: rows of seven, no more than thirty. No conditions but those in the statements.
-/
import Derived.Test.YtenofbabiacacaaGreatMm
set_option linter.unusedVariables false
set_option linter.unusedSimpArgs false
namespace Go.Proofs.YtenofbabiacacaaGreat
open Go.AE

theorem cyL_row {f : Int} {ls : List Int} {r : Int} {hs : List (List Int)} {ds : List Int} {fu ex it : Int} : (∀ h ∈ cyL f ls r hs ds fu ex it, h.length = 7) ∧ (cyL f ls r hs ds fu ex it).length ≤ 30 := by
  by_cases hq : cyQ f ls r hs ds fu ex it
  · rw [cyL, yL, whL_yes hq]
    have h1 := agL_len (f := f) (ls := ls) (hs := hs) (ds := ds) hs.length
    have h2 := hq.1.1.1.2.1
    exact ⟨fun h hh => (agL_all hq.1.1.1 hq.1.1.2 hq.2.1 hs.length (Nat.le_refl _) h hh).1, Nat.le_trans h1 h2⟩
  · rw [cyL, yL, whL_no hq]
    exact ⟨fun h hh => (by cases hh), Nat.zero_le _⟩
end Go.Proofs.YtenofbabiacacaaGreat
