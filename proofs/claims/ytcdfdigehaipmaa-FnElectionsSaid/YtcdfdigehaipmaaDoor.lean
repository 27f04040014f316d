/-
  Closed facts on this seat's program. No conditions but those in the statements.
-/
import Derived.Test.YtcdfdigehaipmaaRows
import Derived.Test.YtcdfdigehaipmaaTy
import Derived.Test.YtcdfdigehaipmaaAeOpen
import Derived.Test.YtcdfdigehaipmaaAeList
set_option linter.unusedVariables false
set_option linter.unusedSimpArgs false
namespace Go.Proofs.Ytcdfdigehaipmaa
open Go.AE
theorem own : ownKnob Try.prog.godebug = none := by kernel_rfl
theorem laid : laidOutB Try.prog = true := by kernel_rfl
theorem nest_rows {S : Nat → Prop} {w : World} {xss : List (List Int)} {x : Value} (h : SlD S w (.nest xss) x) : ∀ r ∈ xss, r.length ≤ 9223372036854775807 := fun r hr => by
  obtain ⟨i, hi, he⟩ := mem_getD [] hr
  obtain ⟨a, cap, _, _, _, h4⟩ := h
  obtain ⟨b, off, _, _, hd⟩ := h4 (by show 0 < xss.length; omega)
  obtain ⟨u, _, hc⟩ := hd i hi 0 (Nat.zero_lt_one)
  have hl := slOf_len (show SlInts S w .i64 (xss.getD i []) u from hc)
  rw [he] at hl
  simpa [maxLen] using hl
end Go.Proofs.Ytcdfdigehaipmaa
