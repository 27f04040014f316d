/-
  Closed facts on this seat's program. No conditions.
-/
import Derived.Test.YthnbncooplkbmaaRows
import Derived.Test.YthnbncooplkbmaaTy
import Derived.Test.YthnbncooplkbmaaAeOpen
namespace Go.Proofs.Ythnbncooplkbmaa
theorem own : ownKnob Try.prog.godebug = none := by kernel_rfl
theorem laid : laidOutB Try.prog = true := by kernel_rfl
end Go.Proofs.Ythnbncooplkbmaa
