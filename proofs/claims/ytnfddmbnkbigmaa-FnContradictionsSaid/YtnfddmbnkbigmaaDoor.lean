/-
  Closed facts on this seat's program. No conditions but those in the statements.
-/
import Derived.Test.YtnfddmbnkbigmaaRows
import Derived.Test.YtnfddmbnkbigmaaTy
import Derived.Test.YtnfddmbnkbigmaaAeOpen
set_option linter.unusedVariables false
set_option linter.unusedSimpArgs false
namespace Go.Proofs.Ytnfddmbnkbigmaa
theorem own : ownKnob Try.prog.godebug = none := by kernel_rfl
theorem laid : laidOutB Try.prog = true := by kernel_rfl
end Go.Proofs.Ytnfddmbnkbigmaa
