/-
  The law on the society behind a text, as given: for whatever text the program's answer is yes. No conditions but those in the statements.
-/
import Derived.Test.YtglbamncajileaaGreatDoorXs
import Derived.Test.YtglbamncajileaaGreatDoorDoor
import Derived.Test.YtglbamncajileaaGreatDoorUsz
set_option linter.unusedVariables false
set_option linter.unusedSimpArgs false
set_option maxRecDepth 100000
set_option maxHeartbeats 40000000
namespace Go.Proofs.YtglbamncajileaaGreatDoor
open Go.AE Go.RowKit Go.WideShapes Go.ChangeShapes
theorem fnExactSocietyAfter_lifted (os : Os) (started : os.Started) (H : Type) (enc : TypeId × Value → H) :
   ReturnsInHanded {} Tryz.checked os 5 .any (fun w args => (Rows.fnExactSocietyAfterSpec.pre enc Tryz.prog Tryz.f5 [] false w args ∧ laidMetH Tryz.prog laid7 w) ∧ sizedMet enc Tryz.prog Tryz.f5 (OpenSpec.ofChange Rows.fnExactSocietyAfterSpec) false w args)
     (Rows.fnExactSocietyAfterSpec.post enc Tryz.prog Tryz.f5 false true false false) := by
 refine wrap (C := Tryz.checked) (X := fun w _ => laidMetH Tryz.prog laid7 w) (fun _ _ _ hh h => h.of_heap hh) own started (by kernel_rfl) Tryz.func5
   (ChangeSpec.witness_shaped (enc := enc) (C := Tryz.checked) (os := os) (X := fun w _ => laidMetH Tryz.prog laid7 w) false (startW os) #[.string ByteArray.empty] 8 rfl (World.shaped_of_RefB (by kernel_rfl) (by kernel_rfl)) (by kernel_rfl) (by kernel_rfl) (by kernel_rfl) (door7 os _)) ?_
 intro W base args ds gs before hval0 hW hL hsh
 have hval : ∀ (j : Nat) t v, Tryz.f5.params[j]? = some t → args[j]? = some v → Value.okWide Tryz.prog W .any base t v := hval0
 have hW' := hW
 obtain ⟨p, q, hA0, hV, hpq, hfz, hnd⟩ := hW
 have hA : DataW.TrodAll enc Tryz.prog W 0 (fun _ => true) true Tryz.f5.params.toList args.toList ds p := hA0
 obtain ⟨args⟩ := args
 rw [Tryz.params5] at hA hval
 simp only at hA
 obtain ⟨v0, args, d0, ds, p0, q0, rfl, rfl, e0, h0, hA⟩ := trodAll_cons hA
 obtain ⟨rfl, rfl, e⟩ := trodAll_nil hA
 obtain ⟨rfl, _⟩ := trodVars_none hV
 obtain ⟨text', rfl, hs0⟩ := open_cell (s := .str) (by kernel_rfl) (by kernel_rfl) (hval 0 9 v0 rfl rfl) h0
 obtain ⟨text, rfl⟩ := B_ex text'
 refine (law_calls (lawSA_ret text) (S := allB W) (W := W) (fun _ h => h) (of7 hL hsh) rfl (vr1 (.v _ rfl))).mono fun e W1 ⟨he, hc⟩ => ?_
 exact ⟨_, he, law_postv (tb := 4) laid (by kernel_rfl) (by kernel_rfl) (by kernel_rfl) (fun _ h => by cases h) rfl hW' hc⟩
theorem fnExactSocietyAfter_said : Rows.FnExactSocietyAfterSaid :=
 OpenClaim.holds_of_wide 5 Tryz.f5 rfl rfl rfl rfl rfl rfl rfl ⟨rfl, rfl, rfl, rfl, rfl⟩ rfl rfl rfl rfl rfl (by as_aux_lemma => kernel_rfl) Tryz.func5 (by as_aux_lemma => kernel_rfl)
   (of_decide_eq_true (by as_aux_lemma => kernel_rfl)) (by as_aux_lemma => unfold Func.isWrapper; first | (rw [if_pos (by decide +kernel)]; kernel_rfl) | (rw [if_neg (by decide +kernel)]; exact ⟨rfl, rfl⟩))
   (fun os started H enc _ => fnExactSocietyAfter_lifted os started H enc)
theorem fnExactSocietyAfter_holds : Rows.FnExactSocietyAfterCardSaid :=
 Claim7.holds_tied_plain_at .later [] [.data, .data, .data, .data, .sentinel, .sentinel, .pinned] true (true, "37b62732406d5ed1c0c7f8d2387b0d48d9a249126b89a07c447fba584d4ab19d") true
   fnExactSocietyAfter_said (fun _ h => by cases h) (by as_aux_lemma => kernel_rfl) (fun _ h => by cases h) fnExactSocietyAfter_row_tie rfl ⟨rfl, rfl⟩ (by as_aux_lemma => kernel_rfl) rfl
   (fun f fn hf hfn => by
     obtain rfl : f = 5 := Option.some.inj ((show Tryz.prog.funcNamed "loop.example/g01025/laws.FnExactSocietyAfter" = some 5 by as_aux_lemma => kernel_rfl).symm.trans hf) |>.symm
     obtain rfl : fn = Tryz.f5 := (Option.some.inj (Tryz.func5.symm.trans hfn)).symm
     exact ⟨by as_aux_lemma => kernel_rfl, stand (by as_aux_lemma => kernel_rfl)⟩)
   (by as_aux_lemma => kernel_rfl)
end Go.Proofs.YtglbamncajileaaGreatDoor
