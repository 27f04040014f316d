/-
  The law on the entries of a year, as given: for whatever result of a year and month the program's answer is the reference's. No conditions but those in the statements.
-/
import Derived.Test.YtflgpapdbaapdaaDoor
import Derived.Test.YtflgpapdbaapdaaYb
set_option linter.unusedVariables false
set_option linter.unusedSimpArgs false
namespace Go.Proofs.Ytflgpapdbaapdaa
open Go.AE Go.RowKit Go.WideShapes Go.ChangeShapes

set_option maxRecDepth 100000 in
theorem fnExactYearEntries_lifted (os : Os) (started : os.Started) (H : Type) (enc : TypeId × Value → H) :
    ReturnsInHanded {} Try.checked os 3 .any (Rows.fnExactYearEntriesSpec.pre6 enc Try.prog Try.f3 Rows.fnExactYearEntriesRow.domain false) (Rows.fnExactYearEntriesSpec.post enc Try.prog Try.f3 false true false false) := by
  refine returnsInHanded_of_change (C := Try.checked) own started (by kernel_rfl) Try.func3
    (ChangeSpec.witness6 (enc := enc) (C := Try.checked) false ⟨#[], #[.agg #[.int .i64 0, .int .i64 0, .int .i64 0, .int .i64 0, .int .i64 0, .int .i64 0, .int .i64 0], .int .i64 0], []⟩ 8 (by kernel_rfl) (by kernel_rfl) (by kernel_rfl) (by kernel_rfl)) ?_
  intro W base args ds gs before hval0 hW _ _
  have hval : ∀ (j : Nat) t v, Try.f3.params[j]? = some t → args[j]? = some v → Value.okWide Try.prog W .any base t v := hval0
  have hW' := hW
  obtain ⟨p, q, hA0, hV, hpq, hfz, hnd⟩ := hW
  have hA : DataW.TrodAll enc Try.prog W 0 (fun _ => true) true Try.f3.params.toList args.toList ds p := hA0
  obtain ⟨args⟩ := args
  rw [Try.params3] at hA hval
  simp only at hA
  obtain ⟨v0, args, d0, ds, p0, q0, rfl, rfl, e0, h0, hA⟩ := trodAll_cons hA
  obtain ⟨v1, args, d1, ds, p1, q1, rfl, rfl, e1, h1, hA⟩ := trodAll_cons hA
  obtain ⟨rfl, rfl, e⟩ := trodAll_nil hA
  obtain ⟨rfl, _⟩ := trodVars_none hV
  obtain ⟨⟨l0⟩, rfl, hl0⟩ := open_agg (l := [.int .i64, .int .i64, .int .i64, .int .i64, .int .i64, .int .i64, .int .i64]) (by kernel_rfl) Try.underlying23 (hval 0 23 v0 rfl rfl) h0
  obtain ⟨a0, a1, a2, a3, a4, a5, a6, rfl⟩ := open7 hl0
  obtain ⟨n, rfl, _⟩ := open_cell (s := .int .i64) (by kernel_rfl) (by kernel_rfl) (hval 1 2 v1 rfl rfl) h1
  refine (law_calls (lawYE_ret n _ _ _ _ _ _ _) (S := allB W) (W := W) (fun _ h => h) (fun g d h => by cases h) rfl (vr2 (vr7 _ _ _ _ _ _ _) (.v _ rfl))).mono fun e W1 ⟨he, hc⟩ => ?_
  exact ⟨_, he, law_postv (tb := 4) laid (by kernel_rfl) (by kernel_rfl) (by kernel_rfl) (fun _ h => by cases h) rfl hW' hc⟩
theorem fnExactYearEntries_holds : Rows.FnExactYearEntriesSaid :=
  OpenClaim.holds_of_wide 3 Try.f3 rfl rfl rfl rfl rfl rfl rfl ⟨rfl, rfl, rfl, rfl, rfl⟩ rfl rfl rfl rfl rfl (by kernel_rfl) Try.func3 (by kernel_rfl)
    (of_decide_eq_true (by kernel_rfl)) (by unfold Func.isWrapper; first | (rw [if_pos (by decide +kernel)]; kernel_rfl) | (rw [if_neg (by decide +kernel)]; exact ⟨rfl, rfl⟩))
    (fun os started H enc _ => fnExactYearEntries_lifted os started H enc)
end Go.Proofs.Ytflgpapdbaapdaa
