/-
  Closed facts on this seat's program. No conditions.
-/
import Derived.Test.YtcdfdigehaipmaaRows
import Derived.Test.YtcdfdigehaipmaaTy
import Derived.Test.YtcdfdigehaipmaaAeOpen
namespace Go.Proofs.Ytcdfdigehaipmaa
theorem own : ownKnob Try.prog.godebug = none := by kernel_rfl
theorem laid : laidOutB Try.prog = true := by kernel_rfl
end Go.Proofs.Ytcdfdigehaipmaa
