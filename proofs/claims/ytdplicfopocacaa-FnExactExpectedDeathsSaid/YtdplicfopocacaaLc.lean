/-
  The law on expected deaths, as given: for whatever basis and holdings the program's answer is the reference's. No conditions but those in the statements.
-/
import Derived.Test.YtdplicfopocacaaDoor
import Derived.Test.YtdplicfopocacaaSg
set_option linter.unusedVariables false
set_option linter.unusedSimpArgs false
namespace Go.Proofs.Ytdplicfopocacaa
open Go.AE Go.RowKit Go.WideShapes Go.ChangeShapes

set_option maxRecDepth 100000 in
theorem fnExactExpectedDeaths_lifted (os : Os) (started : os.Started) (H : Type) (enc : TypeId × Value → H) :
    ReturnsInHanded {} Try.checked os 5 .any (Rows.fnExactExpectedDeathsSpec.pre6 enc Try.prog Try.f5 Rows.fnExactExpectedDeathsRow.domain false) (Rows.fnExactExpectedDeathsSpec.post enc Try.prog Try.f5 false true false false) := by
  refine returnsInHanded_of_change (C := Try.checked) own started (by kernel_rfl) Try.func5
    (ChangeSpec.witness6 (enc := enc) (C := Try.checked) false ⟨#[], #[.agg #[.int .i64 0, .slice none 0 0, .int .i64 0], .slice none 0 0], []⟩ 8 (by kernel_rfl) (by kernel_rfl) (by kernel_rfl) (by kernel_rfl)) ?_
  intro W base args ds gs before hval0 hW _ _
  have hval : ∀ (j : Nat) t v, Try.f5.params[j]? = some t → args[j]? = some v → Value.okWide Try.prog W .any base t v := hval0
  have hW' := hW
  obtain ⟨p, q, hA0, hV, hpq, hfz, hnd⟩ := hW
  have hA : DataW.TrodAll enc Try.prog W 0 (fun _ => true) true Try.f5.params.toList args.toList ds p := hA0
  obtain ⟨args⟩ := args
  rw [Try.params5] at hA hval
  simp only at hA
  obtain ⟨v0, args, d0, ds, p0, q0, rfl, rfl, e0, h0, hA⟩ := trodAll_cons hA
  obtain ⟨v1, args, d1, ds, p1, q1, rfl, rfl, e1, h1, hA⟩ := trodAll_cons hA
  obtain ⟨rfl, rfl, e⟩ := trodAll_nil hA
  obtain ⟨rfl, _⟩ := trodVars_none hV
  obtain ⟨⟨l0⟩, rfl, hl0⟩ := open_agg (l := [.int .i64, .ints .i64, .int .i64]) (by kernel_rfl) Try.underlying26 (hval 0 26 v0 rfl rfl) h0
  obtain ⟨bf, bl, c0, br, rfl, hc0⟩ := openB3 hl0
  have hn0 : bl.length ≤ 9223372036854775807 := by have := slOf_len hc0; simpa [D.len, maxLen] using this
  obtain ⟨hs, hx1, hb1⟩ := open_cell (s := .recs 7) (by kernel_rfl) (by kernel_rfl) (hval 1 27 v1 rfl rfl) h1
  have hn1 : hs.length ≤ 9223372036854775807 := by have := slOf_len hx1; simpa [D.len, maxLen] using this
  refine (law_calls (lawX_ret bf bl br hs hn0 hn1 (fun r h => (hb1 r h).1)) (S := allB W) (W := W) (fun _ h => h) (fun g d h => by cases h) rfl (vr2 (vrB3 _ _ hc0) (.ro _ _ hx1))).mono fun e W1 ⟨he, hc⟩ => ?_
  exact ⟨_, he, law_postv (tb := 4) laid (by kernel_rfl) (by kernel_rfl) (by kernel_rfl) (fun _ h => by cases h) rfl hW' hc⟩
theorem fnExactExpectedDeaths_holds : Rows.FnExactExpectedDeathsSaid :=
  OpenClaim.holds_of_wide 5 Try.f5 rfl rfl rfl rfl rfl rfl rfl ⟨rfl, rfl, rfl, rfl, rfl⟩ rfl rfl rfl rfl rfl (by kernel_rfl) Try.func5 (by kernel_rfl)
    (of_decide_eq_true (by kernel_rfl)) (by unfold Func.isWrapper; first | (rw [if_pos (by decide +kernel)]; kernel_rfl) | (rw [if_neg (by decide +kernel)]; exact ⟨rfl, rfl⟩))
    (fun os started H enc _ => fnExactExpectedDeaths_lifted os started H enc)
end Go.Proofs.Ytdplicfopocacaa
