/-
  The law on societies, as given: for whatever bytes the program's answer is yes. No conditions but those in the statements.
-/
import Derived.Test.YtglbamncajileaaGreatDoorDoor
import Derived.Test.YtglbamncajileaaGreatDoorUfx
set_option linter.unusedVariables false
set_option linter.unusedSimpArgs false
set_option maxRecDepth 100000
set_option maxHeartbeats 40000000
namespace Go.Proofs.YtglbamncajileaaGreatDoor
open Go.AE Go.RowKit Go.WideShapes Go.ChangeShapes
theorem fnSocieties_lifted (os : Os) (started : os.Started) (H : Type) (enc : TypeId × Value → H) :
   ReturnsInHanded {} Tryz.checked os 6 .any (fun w args => (Rows.fnSocietiesSpec.pre enc Tryz.prog Tryz.f6 [] false w args ∧ laidMetH Tryz.prog laid7 w) ∧ sizedMet enc Tryz.prog Tryz.f6 (OpenSpec.ofChange Rows.fnSocietiesSpec) false w args)
     (Rows.fnSocietiesSpec.post enc Tryz.prog Tryz.f6 false true false false) := by
 refine wrap (C := Tryz.checked) (X := fun w _ => laidMetH Tryz.prog laid7 w) (fun _ _ _ hh h => h.of_heap hh) own started (by kernel_rfl) Tryz.func6
   (ChangeSpec.witness_shaped (enc := enc) (C := Tryz.checked) (os := os) (X := fun w _ => laidMetH Tryz.prog laid7 w) false (startW os) #[.slice none 0 0] 8 rfl (World.shaped_of_RefB (by kernel_rfl) (by kernel_rfl)) (by kernel_rfl) (by kernel_rfl) (by kernel_rfl) (door7 os _)) ?_
 intro W base args ds gs before hval0 hW hL hsh
 have hval : ∀ (j : Nat) t v, Tryz.f6.params[j]? = some t → args[j]? = some v → Value.okWide Tryz.prog W .any base t v := hval0
 have hW' := hW
 obtain ⟨p, q, hA0, hV, hpq, hfz, hnd⟩ := hW
 have hA : DataW.TrodAll enc Tryz.prog W 0 (fun _ => true) true Tryz.f6.params.toList args.toList ds p := hA0
 obtain ⟨args⟩ := args
 rw [Tryz.params6] at hA hval
 simp only at hA
 obtain ⟨v0, args, d0, ds, p0, q0, rfl, rfl, e0, h0, hA⟩ := trodAll_cons hA
 obtain ⟨rfl, rfl, e⟩ := trodAll_nil hA
 obtain ⟨rfl, _⟩ := trodVars_none hV
 obtain ⟨code, hx0, hb0⟩ := open_cell (s := .ints .u8) (by kernel_rfl) (by kernel_rfl) (hval 0 28 v0 rfl rfl) h0
 have hn0 : code.length ≤ 9223372036854775807 := by have := slOf_len hx0; simpa [D.len, maxLen] using this
 refine (law_calls (lawSS_ret code hn0 hb0) (S := allB W) (W := W) (fun _ h => h) (of7 hL hsh) rfl (vr1 (.ro _ _ hx0))).mono fun e W1 ⟨he, hc⟩ => ?_
 exact ⟨_, he, law_postv (tb := 4) laid (by kernel_rfl) (by kernel_rfl) (by kernel_rfl) (fun _ h => by cases h) rfl hW' hc⟩
theorem fnSocieties_said : Rows.FnSocietiesSaid :=
 OpenClaim.holds_of_wide 6 Tryz.f6 rfl rfl rfl rfl rfl rfl rfl ⟨rfl, rfl, rfl, rfl, rfl⟩ rfl rfl rfl rfl rfl (by as_aux_lemma => kernel_rfl) Tryz.func6 (by as_aux_lemma => kernel_rfl)
   (of_decide_eq_true (by as_aux_lemma => kernel_rfl)) (by as_aux_lemma => unfold Func.isWrapper; first | (rw [if_pos (by decide +kernel)]; kernel_rfl) | (rw [if_neg (by decide +kernel)]; exact ⟨rfl, rfl⟩))
   (fun os started H enc _ => fnSocieties_lifted os started H enc)
theorem fnSocieties_holds : Rows.FnSocietiesCardSaid :=
 Claim7.holds_tied_plain_at .later [] [.data, .data, .data, .data, .sentinel, .sentinel, .pinned] true (true, "37b62732406d5ed1c0c7f8d2387b0d48d9a249126b89a07c447fba584d4ab19d") true
   fnSocieties_said (fun _ h => by cases h) (by as_aux_lemma => kernel_rfl) (fun _ h => by cases h) fnSocieties_row_tie rfl ⟨rfl, rfl⟩ (by as_aux_lemma => kernel_rfl) rfl
   (fun f fn hf hfn => by
     obtain rfl : f = 6 := Option.some.inj ((show Tryz.prog.funcNamed "loop.example/g01025/laws.FnSocieties" = some 6 by as_aux_lemma => kernel_rfl).symm.trans hf) |>.symm
     obtain rfl : fn = Tryz.f6 := (Option.some.inj (Tryz.func6.symm.trans hfn)).symm
     exact ⟨by as_aux_lemma => kernel_rfl, stand (by as_aux_lemma => kernel_rfl)⟩)
   (by as_aux_lemma => kernel_rfl)
end Go.Proofs.YtglbamncajileaaGreatDoor
