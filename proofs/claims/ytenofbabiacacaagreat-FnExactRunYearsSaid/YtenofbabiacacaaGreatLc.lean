/-
  The law on runs of years, as given. No conditions but those in the statements.
-/
import Derived.Test.YtenofbabiacacaaGreatDoor
import Derived.Test.YtenofbabiacacaaGreatMp
set_option linter.unusedVariables false
set_option linter.unusedSimpArgs false
namespace Go.Proofs.YtenofbabiacacaaGreat
open Go.AE Go.RowKit Go.WideShapes Go.ChangeShapes

set_option maxRecDepth 100000 in
theorem fnExactRunYears_lifted (os : Os) (started : os.Started) (H : Type) (enc : TypeId × Value → H) :
    ReturnsInHanded {} Tryz.checked os 5 .any (Rows.fnExactRunYearsSpec.pre6 enc Tryz.prog Tryz.f5 Rows.fnExactRunYearsRow.domain false) (Rows.fnExactRunYearsSpec.post enc Tryz.prog Tryz.f5 false true false false) := by
  refine returnsInHanded_of_change (C := Tryz.checked) own started (by kernel_rfl) Tryz.func5
    (ChangeSpec.witness6 (enc := enc) (C := Tryz.checked) false ⟨#[], #[.agg #[.int .i64 0, .slice none 0 0, .int .i64 0], .slice none 0 0, .int .i64 0, .int .i64 0, .int .i64 0, .int .i64 0], []⟩ 8 (by kernel_rfl) (by kernel_rfl) (by kernel_rfl) (by kernel_rfl)) ?_
  intro W base args ds gs before hval0 hW _ _
  have hval : ∀ (j : Nat) t v, Tryz.f5.params[j]? = some t → args[j]? = some v → Value.okWide Tryz.prog W .any base t v := hval0
  have hW' := hW
  obtain ⟨p, q, hA0, hV, hpq, hfz, hnd⟩ := hW
  have hA : DataW.TrodAll enc Tryz.prog W 0 (fun _ => true) true Tryz.f5.params.toList args.toList ds p := hA0
  obtain ⟨args⟩ := args
  rw [Tryz.params5] at hA hval
  simp only at hA
  obtain ⟨v0, args, d0, ds, p0, q0, rfl, rfl, e0, h0, hA⟩ := trodAll_cons hA
  obtain ⟨v1, args, d1, ds, p1, q1, rfl, rfl, e1, h1, hA⟩ := trodAll_cons hA
  obtain ⟨v2, args, d2, ds, p2, q2, rfl, rfl, e2, h2, hA⟩ := trodAll_cons hA
  obtain ⟨v3, args, d3, ds, p3, q3, rfl, rfl, e3, h3, hA⟩ := trodAll_cons hA
  obtain ⟨v4, args, d4, ds, p4, q4, rfl, rfl, e4, h4, hA⟩ := trodAll_cons hA
  obtain ⟨v5, args, d5, ds, p5, q5, rfl, rfl, e5, h5, hA⟩ := trodAll_cons hA
  obtain ⟨rfl, rfl, e⟩ := trodAll_nil hA
  obtain ⟨rfl, _⟩ := trodVars_none hV
  obtain ⟨⟨l0⟩, rfl, hl0⟩ := open_agg (l := [.int .i64, .ints .i64, .int .i64]) (by kernel_rfl) Tryz.underlying26 (hval 0 26 v0 rfl rfl) h0
  obtain ⟨bf, bl, c0, br, rfl, hc0⟩ := openB3 hl0
  have hn0 : bl.length ≤ 9223372036854775807 := by have := slOf_len hc0; simpa [D.len, maxLen] using this
  obtain ⟨hs, hx1, hb1⟩ := open_cell (s := .recs 7) (by kernel_rfl) (by kernel_rfl) (hval 1 27 v1 rfl rfl) h1
  have hn1 : hs.length ≤ 9223372036854775807 := by have := slOf_len hx1; simpa [D.len, maxLen] using this
  obtain ⟨fu, rfl, _⟩ := open_cell (s := .int .i64) (by kernel_rfl) (by kernel_rfl) (hval 2 2 v2 rfl rfl) h2
  obtain ⟨co, rfl, _⟩ := open_cell (s := .int .i64) (by kernel_rfl) (by kernel_rfl) (hval 3 2 v3 rfl rfl) h3
  obtain ⟨rt, rfl, _⟩ := open_cell (s := .int .i64) (by kernel_rfl) (by kernel_rfl) (hval 4 2 v4 rfl rfl) h4
  obtain ⟨ys, rfl, _⟩ := open_cell (s := .int .i64) (by kernel_rfl) (by kernel_rfl) (hval 5 2 v5 rfl rfl) h5
  refine (law_calls (lawRY_ret bf bl br hs fu co rt ys hn0 hn1 (fun r h => (hb1 r h).1)) (S := allB W) (W := W) (fun _ h => h) (fun g d h => by cases h) rfl (vr6 (vrB3 _ _ hc0) (.ro _ _ hx1) (.v _ rfl) (.v _ rfl) (.v _ rfl) (.v _ rfl))).mono fun e W1 ⟨he, hc⟩ => ?_
  exact ⟨_, he, law_postv (tb := 4) laid (by kernel_rfl) (by kernel_rfl) (by kernel_rfl) (fun _ h => by cases h) rfl hW' hc⟩
theorem fnExactRunYears_holds : Rows.FnExactRunYearsSaid :=
  OpenClaim.holds_of_wide 5 Tryz.f5 rfl rfl rfl rfl rfl rfl rfl ⟨rfl, rfl, rfl, rfl, rfl⟩ rfl rfl rfl rfl rfl (by kernel_rfl) Tryz.func5 (by kernel_rfl)
    (of_decide_eq_true (by kernel_rfl)) (by unfold Func.isWrapper; first | (rw [if_pos (by decide +kernel)]; kernel_rfl) | (rw [if_neg (by decide +kernel)]; exact ⟨rfl, rfl⟩))
    (fun os started H enc _ => fnExactRunYears_lifted os started H enc)
end Go.Proofs.YtenofbabiacacaaGreat
