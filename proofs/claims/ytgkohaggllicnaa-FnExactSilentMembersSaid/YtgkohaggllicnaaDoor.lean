/-
  Closed facts on this seat's program. No conditions but those in the statements.
-/
import Derived.Test.YtgkohaggllicnaaRows
import Derived.Test.YtgkohaggllicnaaTy
import Derived.Test.YtgkohaggllicnaaAeOpen
set_option linter.unusedVariables false
set_option linter.unusedSimpArgs false
namespace Go.Proofs.Ytgkohaggllicnaa
open Go.AE
theorem own : ownKnob Try.prog.godebug = none := by kernel_rfl
theorem laid : laidOutB Try.prog = true := by kernel_rfl
theorem vr4 {S : Nat → Prop} {W : World} {a b c d : AV} {x y z u : Value} (h1 : VR (fun _ => none) 0 S W a x) (h2 : VR (fun _ => none) 0 S W b y) (h3 : VR (fun _ => none) 0 S W c z) (h4 : VR (fun _ => none) 0 S W d u) :
    ∀ i v, [a, b, c, d][i]? = some v → VR (fun _ => none) 0 S W v (#[x, y, z, u].getD i undef) := by
  intro i v h
  match i, h with
  | 0, h => cases h; exact h1
  | 1, h => cases h; exact h2
  | 2, h => cases h; exact h3
  | 3, h => cases h; exact h4
  | n + 4, h => cases h
end Go.Proofs.Ytgkohaggllicnaa
