/-
  The law on what a society is, as given: for whatever society the program's answer is the reference's. No conditions but those in the statements.
-/
import Derived.Test.YtdplicfopocacaaDoor
import Derived.Test.YtdplicfopocacaaSg
set_option linter.unusedVariables false
set_option linter.unusedSimpArgs false
namespace Go.Proofs.Ytdplicfopocacaa
open Go.AE Go.RowKit Go.WideShapes Go.ChangeShapes

set_option maxRecDepth 100000 in
theorem fnExactIsSociety_lifted (os : Os) (started : os.Started) (H : Type) (enc : TypeId × Value → H) :
    ReturnsInHanded {} Try.checked os 3 .any (Rows.fnExactIsSocietySpec.pre6 enc Try.prog Try.f3 Rows.fnExactIsSocietyRow.domain false) (Rows.fnExactIsSocietySpec.post enc Try.prog Try.f3 false true false false) := by
  refine returnsInHanded_of_change (C := Try.checked) own started (by kernel_rfl) Try.func3
    (ChangeSpec.witness6 (enc := enc) (C := Try.checked) false ⟨#[], #[.agg #[.int .i64 0, .slice none 0 0, .int .i64 0, .slice none 0 0, .int .i64 0]], []⟩ 8 (by kernel_rfl) (by kernel_rfl) (by kernel_rfl) (by kernel_rfl)) ?_
  intro W base args ds gs before hval0 hW _ _
  have hval : ∀ (j : Nat) t v, Try.f3.params[j]? = some t → args[j]? = some v → Value.okWide Try.prog W .any base t v := hval0
  have hW' := hW
  obtain ⟨p, q, hA0, hV, hpq, hfz, hnd⟩ := hW
  have hA : DataW.TrodAll enc Try.prog W 0 (fun _ => true) true Try.f3.params.toList args.toList ds p := hA0
  obtain ⟨args⟩ := args
  rw [Try.params3] at hA hval
  simp only at hA
  obtain ⟨v0, args, d0, ds, p0, q0, rfl, rfl, e0, h0, hA⟩ := trodAll_cons hA
  obtain ⟨rfl, rfl, e⟩ := trodAll_nil hA
  obtain ⟨rfl, _⟩ := trodVars_none hV
  obtain ⟨⟨l0⟩, rfl, hl0⟩ := open_agg (l := [.int .i64, .ints .i64, .int .i64, .recs 7, .int .i64]) (by kernel_rfl) Try.underlying29 (hval 0 29 v0 rfl rfl) h0
  obtain ⟨sf, sl, c0, sr, sh, e0', sd, rfl, hc0, he0, hb0⟩ := openS5 hl0
  have hn0a : sl.length ≤ 9223372036854775807 := by have := slOf_len hc0; simpa [D.len, maxLen] using this
  have hn0b : sh.length ≤ 9223372036854775807 := by have := slOf_len he0; simpa [D.len, maxLen] using this
  refine (law_calls (lawSoc_ret sf sl sr sh sd hn0a hn0b hb0) (S := allB W) (W := W) (fun _ h => h) (fun g d h => by cases h) rfl (vr1 (vrS5 _ _ _ hc0 he0))).mono fun e W1 ⟨he, hc⟩ => ?_
  exact ⟨_, he, law_postv (tb := 4) laid (by kernel_rfl) (by kernel_rfl) (by kernel_rfl) (fun _ h => by cases h) rfl hW' hc⟩
theorem fnExactIsSociety_holds : Rows.FnExactIsSocietySaid :=
  OpenClaim.holds_of_wide 3 Try.f3 rfl rfl rfl rfl rfl rfl rfl ⟨rfl, rfl, rfl, rfl, rfl⟩ rfl rfl rfl rfl rfl (by kernel_rfl) Try.func3 (by kernel_rfl)
    (of_decide_eq_true (by kernel_rfl)) (by unfold Func.isWrapper; first | (rw [if_pos (by decide +kernel)]; kernel_rfl) | (rw [if_neg (by decide +kernel)]; exact ⟨rfl, rfl⟩))
    (fun os started H enc _ => fnExactIsSociety_lifted os started H enc)
end Go.Proofs.Ytdplicfopocacaa
