/-
  The law on waiting claims, as given: for whatever claims and month the program's answer is the reference's. No conditions but those in the statements.
-/
import Derived.Test.YtpgckkoogicplaaDoorDoor
import Derived.Test.YtpgckkoogicplaaDoorGc
set_option linter.unusedVariables false
set_option linter.unusedSimpArgs false
namespace Go.Proofs.YtpgckkoogicplaaDoor
open Go.AE Go.RowKit Go.WideShapes Go.ChangeShapes

set_option maxRecDepth 100000 in
theorem fnExactWaitingClaims_lifted (os : Os) (started : os.Started) (H : Type) (enc : TypeId × Value → H) :
    ReturnsInHanded {} Tryd.checked os 10 .any (fun w args => (Rows.fnExactWaitingClaimsSpec.pre enc Tryd.prog Tryd.f10 [] false w args ∧ laidMetH Tryd.prog laidL w) ∧ sizedMet enc Tryd.prog Tryd.f10 (OpenSpec.ofChange Rows.fnExactWaitingClaimsSpec) false w args)
      (Rows.fnExactWaitingClaimsSpec.post enc Tryd.prog Tryd.f10 false true false false) := by
  refine returnsInHanded_of_change_and (C := Tryd.checked) (X := fun w _ => laidMetH Tryd.prog laidL w) (fun _ _ _ hh h => h.of_heap hh) own started (by kernel_rfl) Tryd.func10
    (ChangeSpec.witness_shaped (enc := enc) (C := Tryd.checked) (os := os) (X := fun w _ => laidMetH Tryd.prog laidL w) false (World.doorLaid Tryd.prog 14 os) #[.slice none 0 0, .int .i64 0] 8 rfl (World.shaped_of_RefB (by kernel_rfl) (by kernel_rfl)) (by kernel_rfl) (by kernel_rfl) (by kernel_rfl) (door_met os _)) ?_
  intro W base args ds gs before hval0 hW _ _ hL _
  have hval : ∀ (j : Nat) t v, Tryd.f10.params[j]? = some t → args[j]? = some v → Value.okWide Tryd.prog W .any base t v := hval0
  have hW' := hW
  obtain ⟨p, q, hA0, hV, hpq, hfz, hnd⟩ := hW
  have hA : DataW.TrodAll enc Tryd.prog W 0 (fun _ => true) true Tryd.f10.params.toList args.toList ds p := hA0
  obtain ⟨args⟩ := args
  rw [Tryd.params10] at hA hval
  simp only at hA
  obtain ⟨v0, args, d0, ds, p0, q0, rfl, rfl, e0, h0, hA⟩ := trodAll_cons hA
  obtain ⟨v1, args, d1, ds, p1, q1, rfl, rfl, e1, h1, hA⟩ := trodAll_cons hA
  obtain ⟨rfl, rfl, e⟩ := trodAll_nil hA
  obtain ⟨g', t', cs', fuel', dg, pg, rfl, _, _, _, _, _⟩ := trodVars_one hV
  obtain ⟨xs, hx0, hb0⟩ := open_cell (s := .recs 6) (by kernel_rfl) (by kernel_rfl) (hval 0 40 v0 rfl rfl) h0
  have hn0 : xs.length ≤ 9223372036854775807 := by have := slOf_len hx0; simpa [D.len, maxLen] using this
  obtain ⟨n, rfl, _⟩ := open_cell (s := .int .i64) (by kernel_rfl) (by kernel_rfl) (hval 1 2 v1 rfl rfl) h1
  refine (law_calls (lawWaiting_ret xs n hn0 (fun r h => (hb0 r h).1)) (S := allB W) (W := W) (fun _ h => h) (of_laid hL) rfl (vr2 (.ro _ _ hx0) (.v _ rfl))).mono fun e W1 ⟨he, hc⟩ => ?_
  exact ⟨_, he, law_postv (tb := 4) laid (by kernel_rfl) (by kernel_rfl) (by kernel_rfl) varsOk rfl hW' hc⟩
theorem fnExactWaitingClaims_said : Rows.FnExactWaitingClaimsSaid :=
  OpenClaim.holds_of_wide 10 Tryd.f10 rfl rfl rfl rfl rfl rfl rfl ⟨rfl, rfl, rfl, rfl, rfl⟩ rfl rfl rfl rfl rfl (by kernel_rfl) Tryd.func10 (by kernel_rfl)
    (of_decide_eq_true (by kernel_rfl)) (by unfold Func.isWrapper; first | (rw [if_pos (by decide +kernel)]; kernel_rfl) | (rw [if_neg (by decide +kernel)]; exact ⟨rfl, rfl⟩))
    (fun os started H enc _ => fnExactWaitingClaims_lifted os started H enc)
theorem fnExactWaitingClaims_holds : Rows.FnExactWaitingClaimsCardSaid :=
  Claim7.holds_tied_plain_at .later [] [.data] true (true, "5513c330b5fe1a39b9aff168464ee00e2a2e6ff1bc177ce52d910e420b086143") false
    fnExactWaitingClaims_said (fun _ h => by cases h) (by kernel_rfl) (fun _ h => by cases h) fnExactWaitingClaims_row_tie rfl ⟨rfl, rfl⟩ (by kernel_rfl) rfl
    (fun f fn hf hfn => by
      obtain rfl : f = 10 := Option.some.inj ((show Tryd.prog.funcNamed "loop.example/g01025/laws.FnExactWaitingClaims" = some 10 by kernel_rfl).symm.trans hf) |>.symm
      obtain rfl : fn = Tryd.f10 := (Option.some.inj (Tryd.func10.symm.trans hfn)).symm
      exact ⟨by kernel_rfl, stand (by kernel_rfl)⟩)
    (by kernel_rfl)
end Go.Proofs.YtpgckkoogicplaaDoor
