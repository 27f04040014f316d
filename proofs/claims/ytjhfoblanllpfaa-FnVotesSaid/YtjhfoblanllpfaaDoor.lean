/-
  Closed facts on this seat's program. No conditions.
-/
import Derived.Test.YtjhfoblanllpfaaRows
import Derived.Test.YtjhfoblanllpfaaTy
import Derived.Test.YtjhfoblanllpfaaAeOpen
namespace Go.Proofs.Ytjhfoblanllpfaa
theorem own : ownKnob Try.prog.godebug = none := by kernel_rfl
theorem laid : laidOutB Try.prog = true := by kernel_rfl
end Go.Proofs.Ytjhfoblanllpfaa
