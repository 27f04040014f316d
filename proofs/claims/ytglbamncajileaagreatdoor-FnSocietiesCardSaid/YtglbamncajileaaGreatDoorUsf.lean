/-
  The console's command 'scenario': what the reference's functions return. The console's command 'scenario': its step. No conditions but those in the statements.
-/
import Derived.Test.YtglbamncajileaaGreatDoorUsc
import Derived.Test.YtglbamncajileaaGreatDoorUsd
set_option linter.unusedVariables false
set_option linter.unusedSimpArgs false
set_option maxRecDepth 100000
set_option maxHeartbeats 16000000
namespace Go.Proofs.YtglbamncajileaaGreatDoor
open Go.AE Go.Lib
section
attribute [local irreducible] CallA LoopA DrawA CallQ arithK quoK remK eqK
attribute [local irreducible] cN cM cD cC netP top base pTop pBase rndG clN lv cdiv chL okT okF sumH
theorem specRq_ok (f : Int) (ls : List Int) (r a d : Int) (M : Nat) (hs : List (List Int)) (hn : ls.length ≤ 1048576) (hF : okF f ls r hs) (hB : okB f ls r) (h30 : hs.length ≤ 30) (hs1 : scOk r a d) (hQ : ClQ f ls d M) (hC : okF f (chL f ls d M) (r + a) hs) :
   Rt 186 [Bs f ls r, Rh hs, Sn a d, Bo true] (.tup [I (sumH (gS f ls r (chL f ls d M) (r + a)) hs hs.length), I 0]) := by
 refine bZ Tryz.func186 ?_
 have hM := hQ.hM
 have hcl := chL_len f ls d M
 obtain ⟨-, hl1, hl2⟩ := cl_low hQ.ho
 have hp := specPortfolio_ret f ls r hs hn (by omega)
 rw [decide_eq_true hF] at hp
 have hp2 := specPortfolio_ret f (chL f ls d M) (r + a) hs (by omega) (by omega)
 rw [decide_eq_true hC] at hp2
 have hcb := specCB_ok f ls r a d M hB hs1 hQ
 have hog := okG_gS hF hC
 have hrr := hB.2
 have hsn := l21Scen_ret a d
 rw [decide_eq_true hs1.1] at hsn
 have hrt := specRate_ret (r + a)
 rw [decide_eq_true hs1.2] at hrt
 obtain ⟨⟨s1, s2⟩, -⟩ := hs1
 obtain ⟨L, hL⟩ : ∃ L, L = chL f ls d M := ⟨_, rfl⟩
 rw [← hL] at hp2 hcb hog hC hcl ⊢
 obtain ⟨r', hr'⟩ : ∃ r', r' = r + a := ⟨_, rfl⟩
 rw [← hr'] at hp2 hcb hog hC ⊢
 unfold okR at hrr
 repeat' (conv => whnf); first | (intro h; try exact nZ) | apply And.intro | refine sZ ?_ | refine Ret.uA (hp) ?_ | refine Ret.uA (hp2) ?_ | refine Ret.uA (hsn) ?_ | refine Ret.uA (hrt) ?_ | refine gZ [] (hcb) ?_ | fail
 all_goals try exact rZ
 (conv => whnf)
 clear hp hp2 hsn hrt hcb
 refine loop_rule hT (fun i : Nat => i ≤ hs.length) 97 3 [1, 4, 10, 11, 12] (fun i => [Rh hs, .ptr 0 0, .ptr 2 0, I (sumH (gS f ls r L r') hs i), I i]) (fun _ => [.cells [I f, Ri ls, I r], .cells [I a, I d], .cells [I f, Ri L, I r']]) (fun i => hs.length - i) (0) (Nat.le_of_ble_eq_true rfl) ?_ ?_ ?_
 · exact Nat.zero_le _
 · first | (refine ⟨rfl, [], ?_, ?_⟩; (repeat' first | apply And.intro | exact xZ | (unfold sumH; rfl) | fail); done)
 · intro i h1
   have hbd := sumH_bd hog i h1
   by_cases hi : i < hs.length
   · have hmem : hs.getD ((i : Int)).toNat [] ∈ hs := getD_mem (d := ([] : List Int)) hi
     have hoh : okH f ls r (hs.getD ((i : Int)).toNat []) := okF_at hF hmem
     have hoc : okH f L r' (hs.getD ((i : Int)).toNat []) := okF_at hC hmem
     have hrq := rq_of hoh hoc
     have hg : 0 ≤ ((hs.getD ((i : Int)).toNat []).getD 6 0 * rndG (hpT f L r' (hs.getD ((i : Int)).toNat []) ((hs.getD ((i : Int)).toNat []).getD 5 0)) (hpB f L r' (hs.getD ((i : Int)).toNat []) ((hs.getD ((i : Int)).toNat []).getD 5 0)) (cD f L r' ((hs.getD ((i : Int)).toNat []).getD 1 0 + (hs.getD ((i : Int)).toNat []).getD 5 0)) ((hs.getD ((i : Int)).toNat []).getD 3 0) (hNet f ls r (hs.getD ((i : Int)).toNat []))) ∧ ((hs.getD ((i : Int)).toNat []).getD 6 0 * rndG (hpT f L r' (hs.getD ((i : Int)).toNat []) ((hs.getD ((i : Int)).toNat []).getD 5 0)) (hpB f L r' (hs.getD ((i : Int)).toNat []) ((hs.getD ((i : Int)).toNat []).getD 5 0)) (cD f L r' ((hs.getD ((i : Int)).toNat []).getD 1 0 + (hs.getD ((i : Int)).toNat []).getD 5 0)) ((hs.getD ((i : Int)).toNat []).getD 3 0) (hNet f ls r (hs.getD ((i : Int)).toNat []))) ≤ 100000001000000 := gS_bd hoh hoc
     have hnx : sumH (gS f ls r L r') hs (i + 1) = sumH (gS f ls r L r') hs i + ((hs.getD ((i : Int)).toNat []).getD 6 0 * rndG (hpT f L r' (hs.getD ((i : Int)).toNat []) ((hs.getD ((i : Int)).toNat []).getD 5 0)) (hpB f L r' (hs.getD ((i : Int)).toNat []) ((hs.getD ((i : Int)).toNat []).getD 5 0)) (cD f L r' ((hs.getD ((i : Int)).toNat []).getD 1 0 + (hs.getD ((i : Int)).toNat []).getD 5 0)) ((hs.getD ((i : Int)).toNat []).getD 3 0) (hNet f ls r (hs.getD ((i : Int)).toNat []))) := sumH_next _ hs i
     have hpt := specParts_ret f L r' _ _ _ _ _ _ hoc.1
     have hnp := specNet_ret f ls r _ _ _ _ _ hoh.1.1
     have hmn := specMinus_ret _ _ _ _ _ hrq.mm
     have hrb := hrq.bd
     have hh6 := hoh.2
     have q1 := hrq.hq
     have q2 := hrq.hr
     have q3 := hrq.hd
     clear hoh hoc hrq
     have hrd : rndG (hpT f L r' (hs.getD ((i : Int)).toNat []) ((hs.getD ((i : Int)).toNat []).getD 5 0)) (hpB f L r' (hs.getD ((i : Int)).toNat []) ((hs.getD ((i : Int)).toNat []).getD 5 0)) (cD f L r' ((hs.getD ((i : Int)).toNat []).getD 1 0 + (hs.getD ((i : Int)).toNat []).getD 5 0)) ((hs.getD ((i : Int)).toNat []).getD 3 0) (hNet f ls r (hs.getD ((i : Int)).toNat [])) = max 0 (((hs.getD ((i : Int)).toNat []).getD 3 0 * hpT f L r' (hs.getD ((i : Int)).toNat []) ((hs.getD ((i : Int)).toNat []).getD 5 0) - hNet f ls r (hs.getD ((i : Int)).toNat []) * hpB f L r' (hs.getD ((i : Int)).toNat []) ((hs.getD ((i : Int)).toNat []).getD 5 0)) / cD f L r' ((hs.getD ((i : Int)).toNat []).getD 1 0 + (hs.getD ((i : Int)).toNat []).getD 5 0) + min 1 (((hs.getD ((i : Int)).toNat []).getD 3 0 * hpT f L r' (hs.getD ((i : Int)).toNat []) ((hs.getD ((i : Int)).toNat []).getD 5 0) - hNet f ls r (hs.getD ((i : Int)).toNat []) * hpB f L r' (hs.getD ((i : Int)).toNat []) ((hs.getD ((i : Int)).toNat []).getD 5 0)) % cD f L r' ((hs.getD ((i : Int)).toNat []).getD 1 0 + (hs.getD ((i : Int)).toNat []).getD 5 0))) := by
       unfold rndG
       split <;> (congr 2; omega)
     rw [hrd] at hg hnx hrb
     clear hrd
     repeat' (conv => whnf); first | (intro h; try exact nZ) | apply And.intro | refine sZ ?_ | refine Ret.uA (hpt) ?_ | refine Ret.uA (hnp) ?_ | refine Ret.uA (hmn) ?_ | fail
     all_goals try exact rZ
     all_goals ((conv => whnf); first | (refine ⟨i + 1, by omega, ?_, by omega⟩; (refine ⟨rfl, [], ?_, ?_⟩; (repeat' first | apply And.intro | exact xZ | (rw [hnx]; rfl) | fail); done)))
   · obtain rfl : i = hs.length := by omega
     repeat' (conv => whnf); first | (intro h; try exact nZ) | apply And.intro | refine sZ ?_ | fail
     all_goals first | exact rZ
end
section
attribute [local irreducible] CallA LoopA DrawA CallQ arithK quoK remK eqK
attribute [local irreducible] cN cM cD cC netP top base pTop pBase rndG clN lv cdiv chL okT okF sumH gS
theorem implRq_bad (f : Int) (ls : List Int) (r a d : Int) (hs : List (List Int)) (hn : ls.length ≤ 1048576) (hF : okF f ls r hs) (hB : okB f ls r) (h30 : hs.length ≤ 30) (hs1 : ¬ scOk r a d) :
   Rt 148 [Bs f ls r, Rh hs, Sn a d] (.tup [I 0, I 2]) := by
 refine bZ Tryz.func148 ?_
 have hp := implPortfolio_ret f ls r hs hn (by omega)
 rw [decide_eq_true hF] at hp
 have hcb := implCB_bad f ls r a d hn hB hs1
 repeat' (conv => whnf); first | (intro h; try exact nZ) | apply And.intro | refine sZ ?_ | refine Ret.uA (hp) ?_ | refine gZ [] (hcb) ?_ | fail
 all_goals first | exact rZ
theorem implRq_five (f : Int) (ls : List Int) (r a d : Int) (M : Nat) (hs : List (List Int)) (hn : ls.length ≤ 1048576) (hF : okF f ls r hs) (hB : okB f ls r) (h30 : hs.length ≤ 30) (hs1 : scOk r a d) (hQ : ClQ f ls d M) (hC : ¬ okF f (chL f ls d M) (r + a) hs) :
   Rt 148 [Bs f ls r, Rh hs, Sn a d] (.tup [I 0, I 5]) := by
 refine bZ Tryz.func148 ?_
 have hM := hQ.hM
 have hcl := chL_len f ls d M
 obtain ⟨-, hl1, hl2⟩ := cl_low hQ.ho
 have hp := implPortfolio_ret f ls r hs hn (by omega)
 rw [decide_eq_true hF] at hp
 have hp2 := implPortfolio_ret f (chL f ls d M) (r + a) hs (by omega) (by omega)
 rw [decide_eq_false hC] at hp2
 have hcb := implCB_ok f ls r a d M hn hB hs1 hQ
 repeat' (conv => whnf); first | (intro h; try exact nZ) | apply And.intro | refine sZ ?_ | refine Ret.uA (hp) ?_ | refine Ret.uA (hp2) ?_ | refine gZ [] (hcb) ?_ | fail
 all_goals first | exact rZ
theorem specRq_bad (f : Int) (ls : List Int) (r a d : Int) (hs : List (List Int)) (hn : ls.length ≤ 1048576) (hF : okF f ls r hs) (hB : okB f ls r) (h30 : hs.length ≤ 30) (hs1 : ¬ scOk r a d) :
   Rt 186 [Bs f ls r, Rh hs, Sn a d, Bo true] (.tup [I 0, I 2]) := by
 refine bZ Tryz.func186 ?_
 have hp := specPortfolio_ret f ls r hs hn (by omega)
 rw [decide_eq_true hF] at hp
 have hrr := hB.2
 have hsn := l21Scen_ret a d
 have hrt := specRate_ret (r + a)
 unfold okR at hrr
 unfold scOk at hs1
 repeat' (conv => whnf); first | (intro h; try exact nZ) | apply And.intro | refine sZ ?_ | refine Ret.uA (hp) ?_ | refine Ret.uP (hsn) ?_ | refine Ret.uP (hrt) ?_ | fail
 all_goals first | exact rZ | (exact absurd ⟨by assumption, by assumption⟩ hs1)
theorem specRq_five (f : Int) (ls : List Int) (r a d : Int) (M : Nat) (hs : List (List Int)) (hn : ls.length ≤ 1048576) (hF : okF f ls r hs) (hB : okB f ls r) (h30 : hs.length ≤ 30) (hs1 : scOk r a d) (hQ : ClQ f ls d M) (hC : ¬ okF f (chL f ls d M) (r + a) hs) :
   Rt 186 [Bs f ls r, Rh hs, Sn a d, Bo true] (.tup [I 0, I 5]) := by
 refine bZ Tryz.func186 ?_
 have hM := hQ.hM
 have hcl := chL_len f ls d M
 obtain ⟨-, hl1, hl2⟩ := cl_low hQ.ho
 have hp := specPortfolio_ret f ls r hs hn (by omega)
 rw [decide_eq_true hF] at hp
 have hp2 := specPortfolio_ret f (chL f ls d M) (r + a) hs (by omega) (by omega)
 rw [decide_eq_false hC] at hp2
 have hcb := specCB_ok f ls r a d M hB hs1 hQ
 have hrr := hB.2
 have hsn := l21Scen_ret a d
 rw [decide_eq_true hs1.1] at hsn
 have hrt := specRate_ret (r + a)
 rw [decide_eq_true hs1.2] at hrt
 obtain ⟨⟨s1, s2⟩, -⟩ := hs1
 unfold okR at hrr
 repeat' (conv => whnf); first | (intro h; try exact nZ) | apply And.intro | refine sZ ?_ | refine Ret.uA (hp) ?_ | refine Ret.uA (hp2) ?_ | refine Ret.uA (hsn) ?_ | refine Ret.uA (hrt) ?_ | refine gZ [] (hcb) ?_ | fail
 all_goals first | exact rZ
theorem specReq_ret (f : Int) (ls : List Int) (r a d : Int) (hs : List (List Int)) (v c : Int) (hQ : Rt 186 [Bs f ls r, Rh hs, Sn a d, Bo true] (.tup [I v, I c])) :
   Rt 127 [Bs f ls r, Rh hs, Sn a d] (.tup [I v, I c]) := by
 refine bZ Tryz.func127 ?_
 repeat' (conv => whnf); first | (intro h; try exact nZ) | apply And.intro | refine sZ ?_ | refine Ret.uA (hQ) ?_ | fail
 all_goals first | exact rZ
theorem required_both (F : Fu) (hF : F.ok) (a d : Int) : Both2 148 127 [Bs F.f F.ls F.r, Rh F.hs, Sn a d] 1000000000000000000 := by
 have h30 := hF.hb
 have hB := okF_B hF.pf
 by_cases hs1 : scOk F.r a d
 · obtain ⟨M, hQ⟩ := cl_ex (dt := d) hB.1 hs1.1.2
   by_cases hC : okF F.f (chL F.f F.ls d M) (F.r + a) F.hs
   · have hbd := sumH_bd (okG_gS hF.pf hC) F.hs.length (Nat.le_refl _)
     exact ⟨_, 0, implRq_ok F.f F.ls F.r a d M F.hs hF.nb hF.pf hB h30 hs1 hQ hC, specReq_ret _ _ _ _ _ _ _ _ (specRq_ok F.f F.ls F.r a d M F.hs hF.nb hF.pf hB h30 hs1 hQ hC), by omega, by omega, by omega⟩
   · exact ⟨0, 5, implRq_five F.f F.ls F.r a d M F.hs hF.nb hF.pf hB h30 hs1 hQ hC, specReq_ret _ _ _ _ _ _ _ _ (specRq_five F.f F.ls F.r a d M F.hs hF.nb hF.pf hB h30 hs1 hQ hC), by omega, by omega, by omega⟩
 · exact ⟨0, 2, implRq_bad F.f F.ls F.r a d F.hs hF.nb hF.pf hB h30 hs1, specReq_ret _ _ _ _ _ _ _ _ (specRq_bad F.f F.ls F.r a d F.hs hF.nb hF.pf hB h30 hs1), by omega, by omega, by omega⟩
theorem scenario_step (F : Fu) (hF : F.ok) (b w : ByteArray) (hb : b = w_scenario) (ns : List Int) (hl : ns.length = 2) : Step F b w ns := by
 obtain ⟨n1, n2, n3, n4, n5, n6, n7, n8, n9, n10, n11, n12, n13, n14, n15⟩ := only_scenario hb
 obtain ⟨v, c, hi, hs, hv, hc⟩ := required_both F hF (ns.getD (Int.toNat 0) 0) (ns.getD (Int.toNat 1) 0)
 have hok : okI v := by unfold okI; omega
 have hsg := single_ret v c hok
 have hnb := l01Number_ret v hok
 have hlen := itoa_len hok
 have hfit := hF.fit
 refine step_of (t := itoa v) (t' := itoa v) (c := c) (chg_none F hF b w ns ‹_› ‹_› ‹_› ‹_› ‹_›) ?_ ?_ (fun _ => ⟨rfl, by omega⟩) hc
 · refine cZ Tryz.func89 ?_
   repeat' (conv => whnf); first | (intro h; try exact nZ) | apply And.intro | refine sZ ?_ | refine Ret.uA (hi) ?_ | (refine Ret.go (hsg) rfl rfl ?_) | fail
   all_goals try exact rZ
   all_goals (conv => whnf); exact endE1 [] (.tup [Sv (itoa v), I c]) [.cells (F.cells 1 2), Di F.xs, Dh F.hs]
 · refine bZ Tryz.func85 ?_
   repeat' (conv => whnf); first | (intro h; try exact nZ) | apply And.intro | refine sZ ?_ | refine Ret.uA (hs) ?_ | (refine Ret.go (hnb) rfl rfl ?_) | fail
   all_goals first | exact rZ
end
end Go.Proofs.YtglbamncajileaaGreatDoor
