/-
  The law on decisions, as given: for whatever arguments the program's answer is the reference's. No conditions but those in the statements.
-/
import Derived.Test.YtpgckkoogicplaaDoorDoor
import Derived.Test.YtpgckkoogicplaaDoorFb
set_option linter.unusedVariables false
set_option linter.unusedSimpArgs false
namespace Go.Proofs.YtpgckkoogicplaaDoor
open Go.AE Go.RowKit Go.WideShapes Go.ChangeShapes

set_option maxRecDepth 100000 in
theorem fnExactDecideClaim_lifted (os : Os) (started : os.Started) (H : Type) (enc : TypeId × Value → H) :
    ReturnsInHanded {} Tryd.checked os 8 .any (fun w args => (Rows.fnExactDecideClaimSpec.pre enc Tryd.prog Tryd.f8 [] false w args ∧ laidMetH Tryd.prog laidL w) ∧ sizedMet enc Tryd.prog Tryd.f8 (OpenSpec.ofChange Rows.fnExactDecideClaimSpec) false w args)
      (Rows.fnExactDecideClaimSpec.post enc Tryd.prog Tryd.f8 false true false false) := by
  refine returnsInHanded_of_change_and (C := Tryd.checked) (X := fun w _ => laidMetH Tryd.prog laidL w) (fun _ _ _ hh h => h.of_heap hh) own started (by kernel_rfl) Tryd.func8
    (ChangeSpec.witness_shaped (enc := enc) (C := Tryd.checked) (os := os) (X := fun w _ => laidMetH Tryd.prog laidL w) false (World.doorLaid Tryd.prog 14 os) #[.agg #[.int .i64 0, .int .i64 0, .int .i64 0, .int .i64 0, .int .i64 0, .int .i64 0], .bool false, .int .i64 0] 8 rfl (World.shaped_of_RefB (by kernel_rfl) (by kernel_rfl)) (by kernel_rfl) (by kernel_rfl) (by kernel_rfl) (door_met os _)) ?_
  intro W base args ds gs before hval0 hW _ _ hL _
  have hval : ∀ (j : Nat) t v, Tryd.f8.params[j]? = some t → args[j]? = some v → Value.okWide Tryd.prog W .any base t v := hval0
  have hW' := hW
  obtain ⟨p, q, hA0, hV, hpq, hfz, hnd⟩ := hW
  have hA : DataW.TrodAll enc Tryd.prog W 0 (fun _ => true) true Tryd.f8.params.toList args.toList ds p := hA0
  obtain ⟨args⟩ := args
  rw [Tryd.params8] at hA hval
  simp only at hA
  obtain ⟨v0, args, d0, ds, p0, q0, rfl, rfl, e0, h0, hA⟩ := trodAll_cons hA
  obtain ⟨v1, args, d1, ds, p1, q1, rfl, rfl, e1, h1, hA⟩ := trodAll_cons hA
  obtain ⟨v2, args, d2, ds, p2, q2, rfl, rfl, e2, h2, hA⟩ := trodAll_cons hA
  obtain ⟨rfl, rfl, e⟩ := trodAll_nil hA
  obtain ⟨g', t', cs', fuel', dg, pg, rfl, _, _, _, _, _⟩ := trodVars_one hV
  obtain ⟨⟨l0⟩, rfl, hl0⟩ := open_agg (l := [.int .i64, .int .i64, .int .i64, .int .i64, .int .i64, .int .i64]) (by kernel_rfl) Tryd.underlying26 (hval 0 26 v0 rfl rfl) h0
  obtain ⟨c0, c1, c2, c3, c4, c5, rfl⟩ := open6 hl0
  obtain ⟨b, rfl⟩ := open_cell (s := .bool) (by kernel_rfl) (by kernel_rfl) (hval 1 4 v1 rfl rfl) h1
  obtain ⟨n, rfl, _⟩ := open_cell (s := .int .i64) (by kernel_rfl) (by kernel_rfl) (hval 2 2 v2 rfl rfl) h2
  refine (law_calls (lawDecide_ret c0 c1 c2 c3 c4 c5 n b) (S := allB W) (W := W) (fun _ h => h) (of_laid hL) rfl (vr3 (vr6 _ _ _ _ _ _) (.v _ rfl) (.v _ rfl))).mono fun e W1 ⟨he, hc⟩ => ?_
  exact ⟨_, he, law_postv (tb := 4) laid (by kernel_rfl) (by kernel_rfl) (by kernel_rfl) varsOk rfl hW' hc⟩
theorem fnExactDecideClaim_said : Rows.FnExactDecideClaimSaid :=
  OpenClaim.holds_of_wide 8 Tryd.f8 rfl rfl rfl rfl rfl rfl rfl ⟨rfl, rfl, rfl, rfl, rfl⟩ rfl rfl rfl rfl rfl (by kernel_rfl) Tryd.func8 (by kernel_rfl)
    (of_decide_eq_true (by kernel_rfl)) (by unfold Func.isWrapper; first | (rw [if_pos (by decide +kernel)]; kernel_rfl) | (rw [if_neg (by decide +kernel)]; exact ⟨rfl, rfl⟩))
    (fun os started H enc _ => fnExactDecideClaim_lifted os started H enc)
theorem fnExactDecideClaim_holds : Rows.FnExactDecideClaimCardSaid :=
  Claim7.holds_tied_plain_at .later [] [.data] true (true, "5513c330b5fe1a39b9aff168464ee00e2a2e6ff1bc177ce52d910e420b086143") false
    fnExactDecideClaim_said (fun _ h => by cases h) (by kernel_rfl) (fun _ h => by cases h) fnExactDecideClaim_row_tie rfl ⟨rfl, rfl⟩ (by kernel_rfl) rfl
    (fun f fn hf hfn => by
      obtain rfl : f = 8 := Option.some.inj ((show Tryd.prog.funcNamed "loop.example/g01025/laws.FnExactDecideClaim" = some 8 by kernel_rfl).symm.trans hf) |>.symm
      obtain rfl : fn = Tryd.f8 := (Option.some.inj (Tryd.func8.symm.trans hfn)).symm
      exact ⟨by kernel_rfl, stand (by kernel_rfl)⟩)
    (by kernel_rfl)
end Go.Proofs.YtpgckkoogicplaaDoor
