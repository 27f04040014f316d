/-
  The law on the text of a register, as given: for whatever list of members the program's answer is the reference's. No conditions but those in the statements.
-/
import Derived.Test.YtgpgnhadmckmhaaDoorDoor
import Derived.Test.YtgpgnhadmckmhaaDoorMtg
set_option linter.unusedVariables false
set_option linter.unusedSimpArgs false
namespace Go.Proofs.YtgpgnhadmckmhaaDoor
open Go.AE Go.RowKit Go.WideShapes Go.ChangeShapes

set_option maxRecDepth 100000 in
theorem fnExactRegisterText_lifted (os : Os) (started : os.Started) (H : Type) (enc : TypeId × Value → H) :
    ReturnsInHanded {} Tryd.checked os 3 .any (fun w args => (Rows.fnExactRegisterTextSpec.pre enc Tryd.prog Tryd.f3 [] false w args ∧ laidMetH Tryd.prog laid3 w) ∧ sizedMet enc Tryd.prog Tryd.f3 (OpenSpec.ofChange Rows.fnExactRegisterTextSpec) false w args)
      (Rows.fnExactRegisterTextSpec.post enc Tryd.prog Tryd.f3 false true false false) := by
  refine wrap (C := Tryd.checked) (X := fun w _ => laidMetH Tryd.prog laid3 w) (fun _ _ _ hh h => h.of_heap hh) own started (by kernel_rfl) Tryd.func3
    (ChangeSpec.witness_shaped (enc := enc) (C := Tryd.checked) (os := os) (X := fun w _ => laidMetH Tryd.prog laid3 w) false (startW os) #[.slice none 0 0] 8 rfl (World.shaped_of_RefB (by kernel_rfl) (by kernel_rfl)) (by kernel_rfl) (by kernel_rfl) (by kernel_rfl) (door3 os _)) ?_
  intro W base args ds gs before hval0 hW hL hsh
  have hval : ∀ (j : Nat) t v, Tryd.f3.params[j]? = some t → args[j]? = some v → Value.okWide Tryd.prog W .any base t v := hval0
  have hW' := hW
  obtain ⟨p, q, hA0, hV, hpq, hfz, hnd⟩ := hW
  have hA : DataW.TrodAll enc Tryd.prog W 0 (fun _ => true) true Tryd.f3.params.toList args.toList ds p := hA0
  obtain ⟨args⟩ := args
  rw [Tryd.params3] at hA hval
  simp only at hA
  obtain ⟨v0, args, d0, ds, p0, q0, rfl, rfl, e0, h0, hA⟩ := trodAll_cons hA
  obtain ⟨rfl, rfl, e⟩ := trodAll_nil hA
  obtain ⟨rfl, _⟩ := trodVars_none hV
  obtain ⟨xs, hx0, hb0⟩ := open_cell (s := .recs 5) (by kernel_rfl) (by kernel_rfl) (hval 0 22 v0 rfl rfl) h0
  have hn0 : xs.length ≤ 9223372036854775807 := by have := slOf_len hx0; simpa [D.len, maxLen] using this
  refine (law_calls (lawRT_ret xs hn0 (fun r h => (hb0 r h).1)) (S := allB W) (W := W) (fun _ h => h) (of3 hL hsh) rfl (vr1 (.ro _ _ hx0))).mono fun e W1 ⟨he, hc⟩ => ?_
  exact ⟨_, he, law_postv (tb := 4) laid (by kernel_rfl) (by kernel_rfl) (by kernel_rfl) (fun _ h => by cases h) rfl hW' hc⟩
theorem fnExactRegisterText_said : Rows.FnExactRegisterTextSaid :=
  OpenClaim.holds_of_wide 3 Tryd.f3 rfl rfl rfl rfl rfl rfl rfl ⟨rfl, rfl, rfl, rfl, rfl⟩ rfl rfl rfl rfl rfl (by kernel_rfl) Tryd.func3 (by kernel_rfl)
    (of_decide_eq_true (by kernel_rfl)) (by unfold Func.isWrapper; first | (rw [if_pos (by decide +kernel)]; kernel_rfl) | (rw [if_neg (by decide +kernel)]; exact ⟨rfl, rfl⟩))
    (fun os started H enc _ => fnExactRegisterText_lifted os started H enc)
theorem fnExactRegisterText_holds : Rows.FnExactRegisterTextCardSaid :=
  Claim7.holds_tied_plain_at .later [] [.data, .data, .data] true (true, "d941f04a4c373d4f75c4a8e0987f7532c9b09f25fe9ffb4791e0c3002d9ae9ce") true
    fnExactRegisterText_said (fun _ h => by cases h) (by kernel_rfl) (fun _ h => by cases h) fnExactRegisterText_row_tie rfl ⟨rfl, rfl⟩ (by kernel_rfl) rfl
    (fun f fn hf hfn => by
      obtain rfl : f = 3 := Option.some.inj ((show Tryd.prog.funcNamed "loop.example/g01025/laws.FnExactRegisterText" = some 3 by kernel_rfl).symm.trans hf) |>.symm
      obtain rfl : fn = Tryd.f3 := (Option.some.inj (Tryd.func3.symm.trans hfn)).symm
      exact ⟨by kernel_rfl, stand (by kernel_rfl)⟩)
    (by kernel_rfl)
end Go.Proofs.YtgpgnhadmckmhaaDoor
