/-
  Closed facts on this seat's program. No conditions but those in the statements.
-/
import Derived.Test.YtflgpapdbaapdaaRows
import Derived.Test.YtflgpapdbaapdaaTy
import Derived.Test.YtflgpapdbaapdaaAeOpen
set_option linter.unusedVariables false
set_option linter.unusedSimpArgs false
namespace Go.Proofs.Ytflgpapdbaapdaa
open Go.AE Go.RowKit Go.WideShapes Go.ChangeShapes
theorem own : ownKnob Try.prog.godebug = none := by kernel_rfl
theorem laid : laidOutB Try.prog = true := by kernel_rfl
theorem open7 {W : World} {l : List Value} (h : All2 (CellOk W) [.int .i64, .int .i64, .int .i64, .int .i64, .int .i64, .int .i64, .int .i64] l) : ∃ a b c d e f g : Int, l = [.int .i64 a, .int .i64 b, .int .i64 c, .int .i64 d, .int .i64 e, .int .i64 f, .int .i64 g] := by
  obtain ⟨_, _, rfl, ⟨a, rfl, _⟩, q0⟩ := h.cons_inv
  obtain ⟨_, _, rfl, ⟨b, rfl, _⟩, q1⟩ := q0.cons_inv
  obtain ⟨_, _, rfl, ⟨c, rfl, _⟩, q2⟩ := q1.cons_inv
  obtain ⟨_, _, rfl, ⟨d, rfl, _⟩, q3⟩ := q2.cons_inv
  obtain ⟨_, _, rfl, ⟨e, rfl, _⟩, q4⟩ := q3.cons_inv
  obtain ⟨_, _, rfl, ⟨f, rfl, _⟩, q5⟩ := q4.cons_inv
  obtain ⟨_, _, rfl, ⟨g, rfl, _⟩, q6⟩ := q5.cons_inv
  obtain rfl := q6.nil_inv
  exact ⟨a, b, c, d, e, f, g, rfl⟩
theorem vr7 {β : Nat → Option Nat} {n : Nat} {S : Nat → Prop} {W : World} (a b c d e f g : Int) : VR β n S W (.agg [.v (.int .i64 a), .v (.int .i64 b), .v (.int .i64 c), .v (.int .i64 d), .v (.int .i64 e), .v (.int .i64 f), .v (.int .i64 g)]) (.agg #[.int .i64 a, .int .i64 b, .int .i64 c, .int .i64 d, .int .i64 e, .int .i64 f, .int .i64 g]) :=
  vr_agg (cs := [.int .i64 a, .int .i64 b, .int .i64 c, .int .i64 d, .int .i64 e, .int .i64 f, .int .i64 g]) (.cons (.v _ rfl) (.cons (.v _ rfl) (.cons (.v _ rfl) (.cons (.v _ rfl) (.cons (.v _ rfl) (.cons (.v _ rfl) (.cons (.v _ rfl) .nil)))))))
theorem vr0 {S : Nat → Prop} {W : World} : ∀ i v, ([] : List AV)[i]? = some v → VR (fun _ => none) 0 S W v ((#[] : Array Value).getD i undef) := fun i v h => by simp at h
end Go.Proofs.Ytflgpapdbaapdaa
