/-
  The table of this seat: what the condition on it gives, and a world that meets it. No conditions but those in the statements.
-/
import Derived.Test.YtpgckkoogicplaaDoorRows
import Derived.Test.YtpgckkoogicplaaDoorTie
import Derived.Test.YtpgckkoogicplaaDoorCards
import Derived.Test.YtpgckkoogicplaaDoorTy
import Derived.Test.YtpgckkoogicplaaDoorAeOpen
set_option linter.unusedVariables false
set_option linter.unusedSimpArgs false
namespace Go.Proofs.YtpgckkoogicplaaDoor
open Go.AE Go.RowKit Go.WideShapes Go.ChangeShapes

theorem own : ownKnob Tryd.prog.godebug = none := by kernel_rfl
theorem laid : laidOutB Tryd.prog = true := by kernel_rfl
theorem gNeeds : Tryd.prog.globalNamed "loop.example/g01025/impl.neededFor" = some 0 := by kernel_rfl
theorem tNeeds : (Tryd.prog.globals[0]?).map (·.type) = some 63 := by kernel_rfl
abbrev laidL : List (String × DataW Unit) := [("loop.example/g01025/impl.neededFor", Rows.laid_loop_example_g01025_impl_neededFor)]
theorem door_met (os : Os) (args : Array Value) : laidMetH Tryd.prog laidL ((World.doorLaid Tryd.prog 14 os).forCall (fun _ _ => 0) ⟨#[], args, []⟩).memory :=
  laidMetH_of_parts3 (fuel := 8) (laidMet_of_run' 8 (by kernel_rfl) (by kernel_rfl)) (by kernel_rfl) (by kernel_rfl)
theorem row_of_var {W : World} {name : String} {g : Nat} {cs : Array Value} (hn : Tryd.prog.globalNamed name = some g) (h : W.var? Tryd.prog name = some cs) : ∃ e fz, W.heap[g]? = some (.cells cs e fz) := by
  unfold World.var? at h
  rw [hn] at h
  simp only [Option.bind_some] at h
  split at h
  · cases h; exact ⟨_, _, ‹_›⟩
  · cases h
theorem ints_at {W : World} {g : Nat} {k : IntKind} {zs : List Int} {e : TypeId} {fz : Nat × Nat} (hh : W.heap[g]? = some (.cells (zs.map fun z => Value.int k z).toArray e fz)) : allB W g ∧ GlobAt (allB W) W (.ints k zs) g := by
  refine ⟨(Array.getElem?_eq_some_iff.1 hh).1, fun i hi j hj => ?_, _, e, fz, hh, by simp [D.len, D.sz]⟩
  have hi : i < zs.length := hi
  have hj : j < 1 := hj
  obtain rfl : j = 0 := by omega
  refine ⟨.int k (zs.getD i 0), ?_, rfl⟩
  simp [World.cell?, hh, D.sz, hi]
theorem of_laid {W : World} (h : laidMetH Tryd.prog laidL W) : ∀ g d, G g = some d → allB W g ∧ GlobAt (allB W) W d g := by
  rw [MakeChecks.laidMetH_plain _ _ _ (by kernel_rfl)] at h
  have hT := Lib.tabIs_of_head (k := .i64) (zs := needs) (n := 4) gNeeds tNeeds (e := 2) (by kernel_rfl) Tryd.underlying2 (by kernel_rfl) (by kernel_rfl) (rest := []) h
  obtain ⟨e, fz, hh⟩ := row_of_var gNeeds hT
  intro g d hg
  unfold G at hg
  split at hg
  · cases hg; exact ints_at hh
  · cases hg
theorem varsOk : ∀ n ∈ ["loop.example/g01025/impl.neededFor"], ∃ g t, Tryd.prog.globalNamed n = some g ∧ (Tryd.prog.globals[g]?).map (·.type) = some t ∧ Tryd.prog.readableRec t = true ∧ t < Tryd.prog.types.size := fun n hn => by
  obtain rfl : n = "loop.example/g01025/impl.neededFor" := by simpa using hn
  exact ⟨_, _, gNeeds, tNeeds, by kernel_rfl, by decide +kernel⟩
theorem stand {P : Program} {fn : Func} (h : (fn.params.toList.all fun t => !P.wantsStandIn t) = true) : ∀ (j : Nat) t, fn.params[j]? = some t → P.wantsStandIn t = false := fun j t ht => by
  have := List.all_eq_true.1 h t (List.mem_of_getElem? (l := fn.params.toList) (i := j) (by simpa using ht))
  simpa using this
theorem open6 {W : World} {l : List Value} (h : All2 (CellOk W) [.int .i64, .int .i64, .int .i64, .int .i64, .int .i64, .int .i64] l) : ∃ a b c d e f : Int, l = [.int .i64 a, .int .i64 b, .int .i64 c, .int .i64 d, .int .i64 e, .int .i64 f] := by
  obtain ⟨_, _, rfl, ⟨a, rfl, _⟩, h1⟩ := h.cons_inv
  obtain ⟨_, _, rfl, ⟨b, rfl, _⟩, h2⟩ := h1.cons_inv
  obtain ⟨_, _, rfl, ⟨c, rfl, _⟩, h3⟩ := h2.cons_inv
  obtain ⟨_, _, rfl, ⟨d, rfl, _⟩, h4⟩ := h3.cons_inv
  obtain ⟨_, _, rfl, ⟨e, rfl, _⟩, h5⟩ := h4.cons_inv
  obtain ⟨_, _, rfl, ⟨f, rfl, _⟩, h6⟩ := h5.cons_inv
  obtain rfl := h6.nil_inv
  exact ⟨a, b, c, d, e, f, rfl⟩
theorem vr6 {β : Nat → Option Nat} {n : Nat} {S : Nat → Prop} {W : World} (a b c d e f : Int) : VR β n S W (.agg [.v (.int .i64 a), .v (.int .i64 b), .v (.int .i64 c), .v (.int .i64 d), .v (.int .i64 e), .v (.int .i64 f)]) (.agg #[.int .i64 a, .int .i64 b, .int .i64 c, .int .i64 d, .int .i64 e, .int .i64 f]) :=
  vr_agg (cs := [.int .i64 a, .int .i64 b, .int .i64 c, .int .i64 d, .int .i64 e, .int .i64 f]) (.cons (.v _ rfl) (.cons (.v _ rfl) (.cons (.v _ rfl) (.cons (.v _ rfl) (.cons (.v _ rfl) (.cons (.v _ rfl) .nil))))))
end Go.Proofs.YtpgckkoogicplaaDoor
