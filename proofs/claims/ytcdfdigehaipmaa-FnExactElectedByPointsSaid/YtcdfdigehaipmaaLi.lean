/-
  The law on who is elected by points, as given: for whatever number, ballots and seats the program's answer is the reference's. No conditions but those in the statements.
-/
import Derived.Test.YtcdfdigehaipmaaDoor
import Derived.Test.YtcdfdigehaipmaaEt
set_option linter.unusedVariables false
set_option linter.unusedSimpArgs false
namespace Go.Proofs.Ytcdfdigehaipmaa
open Go.AE Go.RowKit Go.WideShapes Go.ChangeShapes

set_option maxRecDepth 100000 in
theorem fnExactElectedByPoints_lifted (os : Os) (started : os.Started) (H : Type) (enc : TypeId × Value → H) :
    ReturnsInHanded {} Try.checked os 11 .any (Rows.fnExactElectedByPointsSpec.pre6 enc Try.prog Try.f11 Rows.fnExactElectedByPointsRow.domain false) (Rows.fnExactElectedByPointsSpec.post enc Try.prog Try.f11 false true false false) := by
  refine returnsInHanded_of_change (C := Try.checked) own started (by kernel_rfl) Try.func11
    (ChangeSpec.witness6 (enc := enc) (C := Try.checked) false ⟨#[], #[.int .i64 0, .slice none 0 0, .int .i64 0], []⟩ 8 (by kernel_rfl) (by kernel_rfl) (by kernel_rfl) (by kernel_rfl)) ?_
  intro W base args ds gs before hval0 hW _ _
  have hval : ∀ (j : Nat) t v, Try.f11.params[j]? = some t → args[j]? = some v → Value.okWide Try.prog W .any base t v := hval0
  have hW' := hW
  obtain ⟨p, q, hA0, hV, hpq, hfz, hnd⟩ := hW
  have hA : DataW.TrodAll enc Try.prog W 0 (fun _ => true) true Try.f11.params.toList args.toList ds p := hA0
  obtain ⟨args⟩ := args
  rw [Try.params11] at hA hval
  simp only at hA
  obtain ⟨v0, args, d0, ds, p0, q0, rfl, rfl, e0, h0, hA⟩ := trodAll_cons hA
  obtain ⟨v1, args, d1, ds, p1, q1, rfl, rfl, e1, h1, hA⟩ := trodAll_cons hA
  obtain ⟨v2, args, d2, ds, p2, q2, rfl, rfl, e2, h2, hA⟩ := trodAll_cons hA
  obtain ⟨rfl, rfl, e⟩ := trodAll_nil hA
  obtain ⟨rfl, _⟩ := trodVars_none hV
  obtain ⟨n, rfl, _⟩ := open_cell (s := .int .i64) (by kernel_rfl) (by kernel_rfl) (hval 0 2 v0 rfl rfl) h0
  obtain ⟨xs, hx1⟩ := open_cell (s := .nest) (by kernel_rfl) (by kernel_rfl) (hval 1 45 v1 rfl rfl) h1
  have hn1 : xs.length ≤ 9223372036854775807 := by have := slOf_len hx1; simpa [D.len, maxLen] using this
  obtain ⟨se, rfl, _⟩ := open_cell (s := .int .i64) (by kernel_rfl) (by kernel_rfl) (hval 2 2 v2 rfl rfl) h2
  refine (law_calls (lawElected_ret n xs se hn1 (nest_rows hx1)) (S := allB W) (W := W) (fun _ h => h) (fun g d h => by cases h) rfl (vr3 (.v _ rfl) (.ro _ _ hx1) (.v _ rfl))).mono fun e W1 ⟨he, hc⟩ => ?_
  exact ⟨_, he, law_postv (tb := 4) laid (by kernel_rfl) (by kernel_rfl) (by kernel_rfl) (fun _ h => by cases h) rfl hW' hc⟩
theorem fnExactElectedByPoints_holds : Rows.FnExactElectedByPointsSaid :=
  OpenClaim.holds_of_wide 11 Try.f11 rfl rfl rfl rfl rfl rfl rfl ⟨rfl, rfl, rfl, rfl, rfl⟩ rfl rfl rfl rfl rfl (by kernel_rfl) Try.func11 (by kernel_rfl)
    (of_decide_eq_true (by kernel_rfl)) (by unfold Func.isWrapper; first | (rw [if_pos (by decide +kernel)]; kernel_rfl) | (rw [if_neg (by decide +kernel)]; exact ⟨rfl, rfl⟩))
    (fun os started H enc _ => fnExactElectedByPoints_lifted os started H enc)
end Go.Proofs.Ytcdfdigehaipmaa
