/-
  The law on the run of a text. What a line does, as a function; the law on the run of a text. No conditions but those in the statements.
-/
import Derived.Test.YtglbamncajileaaGreatDoorUro
import Derived.Test.YtglbamncajileaaGreatDoorUrw
import Derived.Test.YtglbamncajileaaGreatDoorUrb
set_option linter.unusedVariables false
set_option linter.unusedSimpArgs false
set_option maxRecDepth 100000
set_option maxHeartbeats 2000000
namespace Go.Proofs.YtglbamncajileaaGreatDoor
open Go.AE Go.Lib
section
attribute [local irreducible] CallA LoopA DrawA CallQ arithK quoK remK eqK
attribute [local irreducible] stN ouN lnS mkS
theorem lawRS_ok (N : Nx) (x : List UInt8) (hf : fitS x) : Rt 3 [Sv x] (Bo true) := by
 refine bZ Tryz.func3 ?_
 have hsz := B_size x
 have hx := hf.1
 have h50 := hf.2
 have hs := specRS_ok N x hf
 have hi := implRS_ok N x hf
 have hol := ouN_len N (lnS x) (lnS x).length
 obtain ⟨O, hO⟩ : ∃ O, O = ouN N (lnS x) (lnS x).length := ⟨_, rfl⟩
 rw [← hO] at hs hi hol
 rw [← hol] at hs hi h50
 have hml : O.length = (D.strs (O.map B)).len := (List.length_map _).symm
 have hmk : O.length = (D.strs ((mkS O.length 1).map B)).len := by show _ = ((mkS O.length 1).map B).length; rw [List.length_map, mkS_len]
 have he := eqStr_self O (by omega)
 have hm := markStr_call O 1 (by omega) (by omega) (by omega)
 have hh := heldStr_ret O.length 1 (by omega) (by omega) (by omega)
 repeat' (try conv => whnf); first | ((with_reducible intro h); try exact nZ) | apply And.intro | refine sZ ?_ | refine CallA.gM [] (hs) ?_ | refine CallA.gM [] (hi) ?_ | refine Ret.uA (he) ?_ | refine Ret.uQ (he) ?_ | refine CallA.gM [1] (hm) ?_ | refine Ret.uA (hh) ?_ | refine Ret.uQ (hh) ?_ | fail
 all_goals first | exact rZ
theorem markStr_nil : Rt 10 [Rstr [], I 1] (I 1) := by
 refine bZ Tryz.func10 ?_
 repeat' (try conv => whnf); first | ((with_reducible intro h); try exact nZ) | apply And.intro | refine sZ ?_ | fail
 all_goals try exact rZ
 (conv => whnf)
 refine loop_rule hT (fun i : Nat => i = 0) 20 0 [0, 1, 5] (fun _ => [Rstr [], I 1, I 0]) (fun _ => []) (fun i => i) (0) (Nat.le_of_ble_eq_true rfl) ?_ ?_ ?_
 · rfl
 · first | (exact endH1 [])
 · intro i h1
   repeat' (try conv => whnf); first | ((with_reducible intro h); try exact nZ) | apply And.intro | refine sZ ?_ | fail
   all_goals first | exact rZ | (exfalso; simp at *; done)
theorem lawRS_bad (x : List UInt8) (hx : x.length ≤ 1048576) (hf : ¬ fitS x) : Rt 3 [Sv x] (Bo true) := by
 refine bZ Tryz.func3 ?_
 have hsz := B_size x
 have hs := specRS_bad x hx hf
 have hi := implRS_bad x hx hf
 have he := eqStr_self [] (by decide)
 have hm := markStr_nil
 have hh := heldStr_ret 0 1 (by omega) (by omega) (by omega)
 rw [show mkS 0 1 = [] by unfold mkS; rfl] at hh
 repeat' (try conv => whnf); first | ((with_reducible intro h); try exact nZ) | apply And.intro | refine sZ ?_ | refine CallA.gM [] (hs) ?_ | refine CallA.gM [] (hi) ?_ | refine Ret.uA (he) ?_ | refine Ret.uQ (he) ?_ | refine Ret.uA (hm) ?_ | refine Ret.uQ (hm) ?_ | refine Ret.uA (hh) ?_ | refine Ret.uQ (hh) ?_ | fail
 all_goals first | exact rZ
theorem lawRS_big (x : List UInt8) (hx : ¬ x.length ≤ 1048576) : Rt 3 [Sv x] (Bo true) := by
 refine bZ Tryz.func3 ?_
 have hsz := B_size x
 repeat' (try conv => whnf); first | ((with_reducible intro h); try exact nZ) | apply And.intro | refine sZ ?_ | fail
 all_goals first | exact rZ
end
section
theorem run_ex (F : Fu) (l : List UInt8) (h : F.ok ∧ l.length ≤ 1048576) : ∃ p : Fu × List UInt8, p.1.ok ∧ p.2.length ≤ 100000 ∧ RunI F p.1 l p.2 ∧ RunS F p.1 l p.2 ∧ (¬ cmdS l → p = (F, errT 6)) := by
 obtain ⟨F', t, h'⟩ := run_both F h.1 l h.2
 exact ⟨(F', t), h'⟩
noncomputable def nxP (F : Fu) (l : List UInt8) : Fu × List UInt8 := @dite _ (F.ok ∧ l.length ≤ 1048576) (Classical.propDecidable _) (fun h => Classical.choose (run_ex F l h)) (fun _ => (F, []))
theorem nxP_spec (F : Fu) (l : List UInt8) (h1 : F.ok) (h2 : l.length ≤ 1048576) : (nxP F l).1.ok ∧ (nxP F l).2.length ≤ 100000 ∧ RunI F (nxP F l).1 l (nxP F l).2 ∧ RunS F (nxP F l).1 l (nxP F l).2 ∧ (¬ cmdS l → nxP F l = (F, errT 6)) := by
 have e : nxP F l = Classical.choose (run_ex F l ⟨h1, h2⟩) := dif_pos ⟨h1, h2⟩
 rw [e]
 exact Classical.choose_spec (run_ex F l ⟨h1, h2⟩)
noncomputable def nx : Nx := ⟨nxP, fun F l h1 h2 => have h := nxP_spec F l h1 h2; ⟨h.1, h.2.1, h.2.2.1, h.2.2.2.1⟩, fun F l h1 h2 => (nxP_spec F l h1 h2).2.2.2.2⟩
theorem lawRS_ret (x : List UInt8) : Rt 3 [Sv x] (Bo true) := by
 by_cases hx : x.length ≤ 1048576
 · by_cases hf : fitS x
   · exact lawRS_ok nx x hf
   · exact lawRS_bad x hx hf
 · exact lawRS_big x hx
end
end Go.Proofs.YtglbamncajileaaGreatDoor
