/-
  Closed facts on this seat's program. No conditions but those in the statements.
-/
import Derived.Test.YtdplicfopocacaaRows
import Derived.Test.YtdplicfopocacaaTy
import Derived.Test.YtdplicfopocacaaAeOpen
import Derived.Test.YtdplicfopocacaaAeList
set_option linter.unusedVariables false
set_option linter.unusedSimpArgs false
namespace Go.Proofs.Ytdplicfopocacaa
open Go.AE Go.RowKit Go.WideShapes Go.ChangeShapes
theorem own : ownKnob Try.prog.godebug = none := by kernel_rfl
theorem laid : laidOutB Try.prog = true := by kernel_rfl
theorem openB3 {W : World} {l : List Value} (h : All2 (CellOk W) [.int .i64, .ints .i64, .int .i64] l) : ∃ (f : Int) (ls : List Int) (c : Value) (r : Int), l = [.int .i64 f, c, .int .i64 r] ∧ SlD (allB W) W (.ints .i64 ls) c := by
  obtain ⟨_, _, rfl, ⟨a, rfl, _⟩, q0⟩ := h.cons_inv
  obtain ⟨c, _, rfl, ⟨ls, hc, _⟩, q1⟩ := q0.cons_inv
  obtain ⟨_, _, rfl, ⟨b, rfl, _⟩, q2⟩ := q1.cons_inv
  obtain rfl := q2.nil_inv
  exact ⟨a, ls, c, b, rfl, hc⟩
theorem vrB3 {β : Nat → Option Nat} {n : Nat} {S : Nat → Prop} {W : World} {ls : List Int} {c : Value} (f r : Int) (hc : SlD S W (.ints .i64 ls) c) : VR β n S W (.agg [.v (.int .i64 f), .ro (.ints .i64 ls), .v (.int .i64 r)]) (.agg #[.int .i64 f, c, .int .i64 r]) :=
  vr_agg (cs := [.int .i64 f, c, .int .i64 r]) (.cons (.v _ rfl) (.cons (.ro _ _ hc) (.cons (.v _ rfl) .nil)))
theorem openS5 {W : World} {l : List Value} (h : All2 (CellOk W) [.int .i64, .ints .i64, .int .i64, .recs 7, .int .i64] l) : ∃ (f : Int) (ls : List Int) (c : Value) (r : Int) (hs : List (List Int)) (e : Value) (d : Int), l = [.int .i64 f, c, .int .i64 r, e, .int .i64 d] ∧ SlD (allB W) W (.ints .i64 ls) c ∧ SlD (allB W) W (.recs 7 hs) e ∧ ∀ h ∈ hs, h.length = 7 := by
  obtain ⟨_, _, rfl, ⟨a, rfl, _⟩, q0⟩ := h.cons_inv
  obtain ⟨c, _, rfl, ⟨ls, hc, _⟩, q1⟩ := q0.cons_inv
  obtain ⟨_, _, rfl, ⟨b, rfl, _⟩, q2⟩ := q1.cons_inv
  obtain ⟨e, _, rfl, ⟨hs, he, hb⟩, q3⟩ := q2.cons_inv
  obtain ⟨_, _, rfl, ⟨d, rfl, _⟩, q4⟩ := q3.cons_inv
  obtain rfl := q4.nil_inv
  exact ⟨a, ls, c, b, hs, e, d, rfl, hc, he, fun h hm => (hb h hm).1⟩
theorem vrS5 {β : Nat → Option Nat} {n : Nat} {S : Nat → Prop} {W : World} {ls : List Int} {hs : List (List Int)} {c e : Value} (f r d : Int) (hc : SlD S W (.ints .i64 ls) c) (he : SlD S W (.recs 7 hs) e) : VR β n S W (.agg [.v (.int .i64 f), .ro (.ints .i64 ls), .v (.int .i64 r), .ro (.recs 7 hs), .v (.int .i64 d)]) (.agg #[.int .i64 f, c, .int .i64 r, e, .int .i64 d]) :=
  vr_agg (cs := [.int .i64 f, c, .int .i64 r, e, .int .i64 d]) (.cons (.v _ rfl) (.cons (.ro _ _ hc) (.cons (.v _ rfl) (.cons (.ro _ _ he) (.cons (.v _ rfl) .nil)))))
end Go.Proofs.Ytdplicfopocacaa
