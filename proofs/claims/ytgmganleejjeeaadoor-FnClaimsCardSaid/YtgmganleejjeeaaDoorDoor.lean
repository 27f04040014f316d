/-
  The table of this seat: what the condition on it gives, and a world that meets it. No conditions.
-/
import Derived.Test.YtgmganleejjeeaaDoorRows
import Derived.Test.YtgmganleejjeeaaDoorTie
import Derived.Test.YtgmganleejjeeaaDoorCards
import Derived.Test.YtgmganleejjeeaaDoorTy
import Derived.Test.YtgmganleejjeeaaDoorAeOpen
namespace Go.Proofs.YtgmganleejjeeaaDoor
open Go.AE Go.RowKit Go.WideShapes Go.ChangeShapes

theorem own : ownKnob Tryd.prog.godebug = none := by kernel_rfl
theorem laid : laidOutB Tryd.prog = true := by kernel_rfl
theorem gNeeds : Tryd.prog.globalNamed "loop.example/g01025/impl.neededFor" = some 0 := by kernel_rfl
theorem tNeeds : (Tryd.prog.globals[0]?).map (·.type) = some 61 := by kernel_rfl
abbrev laidL : List (String × DataW Unit) := [("loop.example/g01025/impl.neededFor", Rows.laid_loop_example_g01025_impl_neededFor)]
theorem door_met (os : Os) (args : Array Value) : laidMetH Tryd.prog laidL ((World.doorLaid Tryd.prog 14 os).forCall (fun _ _ => 0) ⟨#[], args, []⟩).memory :=
  laidMetH_of_parts3 (fuel := 8) (laidMet_of_run' 8 (by kernel_rfl) (by kernel_rfl)) (by kernel_rfl) (by kernel_rfl)
theorem of_laid {W : World} (h : laidMetH Tryd.prog laidL W) : ∀ g d, G g = some d → allB W g ∧ DataAt (allB W) W d g 0 := by
  rw [MakeChecks.laidMetH_plain _ _ _ (by kernel_rfl)] at h
  have hT := Lib.tabIs_of_head (k := .i64) (zs := needs) (n := 4) gNeeds tNeeds (e := 2) (by kernel_rfl) Tryd.underlying2 (by kernel_rfl) (by kernel_rfl) (rest := []) h
  intro g d hg
  unfold G at hg
  split at hg
  · cases hg
    have hc : ∀ i, i < 4 → W.cell? ⟨0, i, none⟩ = some (.int .i64 (needs.getD i 0)) := fun i hi => hT.cell gNeeds i (by simpa [needs] using hi)
    refine ⟨World.block_lt_of_cell? W _ (hc 0 (by decide)), fun i hi j hj => ?_⟩
    simp only [D.sz] at hj
    have : j = 0 := by omega
    subst this
    exact ⟨_, by simpa [D.sz, D.cv] using hc i (by simpa [D.len, needs] using hi), rfl⟩
  · cases hg
theorem varsOk : ∀ n ∈ ["loop.example/g01025/impl.neededFor"], ∃ g t, Tryd.prog.globalNamed n = some g ∧ (Tryd.prog.globals[g]?).map (·.type) = some t ∧ Tryd.prog.readableRec t = true ∧ t < Tryd.prog.types.size := fun n hn => by
  obtain rfl : n = "loop.example/g01025/impl.neededFor" := by simpa using hn
  exact ⟨_, _, gNeeds, tNeeds, by kernel_rfl, by decide +kernel⟩
theorem stand {P : Program} {fn : Func} (h : (fn.params.toList.all fun t => !P.wantsStandIn t) = true) : ∀ (j : Nat) t, fn.params[j]? = some t → P.wantsStandIn t = false := fun j t ht => by
  have := List.all_eq_true.1 h t (List.mem_of_getElem? (l := fn.params.toList) (i := j) (by simpa using ht))
  simpa using this
theorem open6 {W : World} {l : List Value} (h : All2 (CellOk W) [.int .i64, .int .i64, .int .i64, .int .i64, .int .i64, .int .i64] l) : ∃ a b c d e f : Int, l = [.int .i64 a, .int .i64 b, .int .i64 c, .int .i64 d, .int .i64 e, .int .i64 f] := by
  obtain ⟨_, _, rfl, ⟨a, rfl, _⟩, h1⟩ := h.cons_inv
  obtain ⟨_, _, rfl, ⟨b, rfl, _⟩, h2⟩ := h1.cons_inv
  obtain ⟨_, _, rfl, ⟨c, rfl, _⟩, h3⟩ := h2.cons_inv
  obtain ⟨_, _, rfl, ⟨d, rfl, _⟩, h4⟩ := h3.cons_inv
  obtain ⟨_, _, rfl, ⟨e, rfl, _⟩, h5⟩ := h4.cons_inv
  obtain ⟨_, _, rfl, ⟨f, rfl, _⟩, h6⟩ := h5.cons_inv
  obtain rfl := h6.nil_inv
  exact ⟨a, b, c, d, e, f, rfl⟩
theorem vr6 {β : Nat → Option Nat} {n : Nat} {S : Nat → Prop} {W : World} (a b c d e f : Int) : VR β n S W (.agg [.v (.int .i64 a), .v (.int .i64 b), .v (.int .i64 c), .v (.int .i64 d), .v (.int .i64 e), .v (.int .i64 f)]) (.agg #[.int .i64 a, .int .i64 b, .int .i64 c, .int .i64 d, .int .i64 e, .int .i64 f]) :=
  vr_agg (cs := [.int .i64 a, .int .i64 b, .int .i64 c, .int .i64 d, .int .i64 e, .int .i64 f]) (.cons (.v _ rfl) (.cons (.v _ rfl) (.cons (.v _ rfl) (.cons (.v _ rfl) (.cons (.v _ rfl) (.cons (.v _ rfl) .nil))))))
end Go.Proofs.YtgmganleejjeeaaDoor
