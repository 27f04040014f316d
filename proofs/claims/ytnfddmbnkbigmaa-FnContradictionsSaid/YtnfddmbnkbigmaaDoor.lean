/-
  Closed facts on this seat's program. No conditions.
-/
import Derived.Test.YtnfddmbnkbigmaaRows
import Derived.Test.YtnfddmbnkbigmaaTy
import Derived.Test.YtnfddmbnkbigmaaAeOpen
namespace Go.Proofs.Ytnfddmbnkbigmaa
theorem own : ownKnob Try.prog.godebug = none := by kernel_rfl
theorem laid : laidOutB Try.prog = true := by kernel_rfl
end Go.Proofs.Ytnfddmbnkbigmaa
