/-
  The law on the texts of registers, as given: for whatever text the program's answer is yes. No conditions but those in the statements.
-/
import Derived.Test.YtgpgnhadmckmhaaGreatDoorDoor
import Derived.Test.YtgpgnhadmckmhaaGreatDoorFrt
set_option linter.unusedVariables false
set_option linter.unusedSimpArgs false
namespace Go.Proofs.YtgpgnhadmckmhaaGreatDoor
open Go.AE Go.RowKit Go.WideShapes Go.ChangeShapes

set_option maxRecDepth 100000 in
theorem fnRegisterTexts_lifted (os : Os) (started : os.Started) (H : Type) (enc : TypeId × Value → H) :
    ReturnsInHanded {} Tryz.checked os 4 .any (fun w args => (Rows.fnRegisterTextsSpec.pre enc Tryz.prog Tryz.f4 [] false w args ∧ laidMetH Tryz.prog laid7 w) ∧ sizedMet enc Tryz.prog Tryz.f4 (OpenSpec.ofChange Rows.fnRegisterTextsSpec) false w args)
      (Rows.fnRegisterTextsSpec.post enc Tryz.prog Tryz.f4 false true false false) := by
  refine wrap (C := Tryz.checked) (X := fun w _ => laidMetH Tryz.prog laid7 w) (fun _ _ _ hh h => h.of_heap hh) own started (by kernel_rfl) Tryz.func4
    (ChangeSpec.witness_shaped (enc := enc) (C := Tryz.checked) (os := os) (X := fun w _ => laidMetH Tryz.prog laid7 w) false (startW os) #[.slice none 0 0] 8 rfl (World.shaped_of_RefB (by kernel_rfl) (by kernel_rfl)) (by kernel_rfl) (by kernel_rfl) (by kernel_rfl) (door7 os _)) ?_
  intro W base args ds gs before hval0 hW hL hsh
  have hval : ∀ (j : Nat) t v, Tryz.f4.params[j]? = some t → args[j]? = some v → Value.okWide Tryz.prog W .any base t v := hval0
  have hW' := hW
  obtain ⟨p, q, hA0, hV, hpq, hfz, hnd⟩ := hW
  have hA : DataW.TrodAll enc Tryz.prog W 0 (fun _ => true) true Tryz.f4.params.toList args.toList ds p := hA0
  obtain ⟨args⟩ := args
  rw [Tryz.params4] at hA hval
  simp only at hA
  obtain ⟨v0, args, d0, ds, p0, q0, rfl, rfl, e0, h0, hA⟩ := trodAll_cons hA
  obtain ⟨rfl, rfl, e⟩ := trodAll_nil hA
  obtain ⟨rfl, _⟩ := trodVars_none hV
  obtain ⟨code, hx0, hb0⟩ := open_cell (s := .ints .u8) (by kernel_rfl) (by kernel_rfl) (hval 0 22 v0 rfl rfl) h0
  have hn0 : code.length ≤ 9223372036854775807 := by have := slOf_len hx0; simpa [D.len, maxLen] using this
  refine (law_calls (lawRTs_ret code hn0 hb0) (S := allB W) (W := W) (fun _ h => h) (of7 hL hsh) rfl (vr1 (.ro _ _ hx0))).mono fun e W1 ⟨he, hc⟩ => ?_
  exact ⟨_, he, law_postv (tb := 4) laid (by kernel_rfl) (by kernel_rfl) (by kernel_rfl) (fun _ h => by cases h) rfl hW' hc⟩
theorem fnRegisterTexts_said : Rows.FnRegisterTextsSaid :=
  OpenClaim.holds_of_wide 4 Tryz.f4 rfl rfl rfl rfl rfl rfl rfl ⟨rfl, rfl, rfl, rfl, rfl⟩ rfl rfl rfl rfl rfl (by kernel_rfl) Tryz.func4 (by kernel_rfl)
    (of_decide_eq_true (by kernel_rfl)) (by unfold Func.isWrapper; first | (rw [if_pos (by decide +kernel)]; kernel_rfl) | (rw [if_neg (by decide +kernel)]; exact ⟨rfl, rfl⟩))
    (fun os started H enc _ => fnRegisterTexts_lifted os started H enc)
theorem fnRegisterTexts_holds : Rows.FnRegisterTextsCardSaid :=
  Claim7.holds_tied_plain_at .later [] [.data, .data, .data, .data, .sentinel, .sentinel, .pinned] true (true, "a057462ea5b03feb88e82747e3ac39d7e1a28873dcd9847d8dda045cdb45ca23") true
    fnRegisterTexts_said (fun _ h => by cases h) (by kernel_rfl) (fun _ h => by cases h) fnRegisterTexts_row_tie rfl ⟨rfl, rfl⟩ (by kernel_rfl) rfl
    (fun f fn hf hfn => by
      obtain rfl : f = 4 := Option.some.inj ((show Tryz.prog.funcNamed "loop.example/g01025/laws.FnRegisterTexts" = some 4 by kernel_rfl).symm.trans hf) |>.symm
      obtain rfl : fn = Tryz.f4 := (Option.some.inj (Tryz.func4.symm.trans hfn)).symm
      exact ⟨by kernel_rfl, stand (by kernel_rfl)⟩)
    (by kernel_rfl)
end Go.Proofs.YtgpgnhadmckmhaaGreatDoor
