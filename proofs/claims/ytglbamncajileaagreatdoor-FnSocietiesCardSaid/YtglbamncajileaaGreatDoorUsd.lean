/-
  The console's command 'scenario': its step. No conditions but those in the statements.
-/
import Derived.Test.YtglbamncajileaaGreatDoorUsc
set_option linter.unusedVariables false
set_option linter.unusedSimpArgs false
set_option maxRecDepth 100000
set_option maxHeartbeats 8000000
namespace Go.Proofs.YtglbamncajileaaGreatDoor
open Go.AE Go.Lib
attribute [local irreducible] CallA LoopA DrawA CallQ arithK quoK remK eqK
attribute [local irreducible] cN cM cD cC netP top base pTop pBase rndG clN lv cdiv chL okT okF sumH
theorem implRq_ok (f : Int) (ls : List Int) (r a d : Int) (M : Nat) (hs : List (List Int)) (hn : ls.length ≤ 1048576) (hF : okF f ls r hs) (hB : okB f ls r) (h30 : hs.length ≤ 30) (hs1 : scOk r a d) (hQ : ClQ f ls d M) (hC : okF f (chL f ls d M) (r + a) hs) :
   Rt 148 [Bs f ls r, Rh hs, Sn a d] (.tup [I (sumH (gS f ls r (chL f ls d M) (r + a)) hs hs.length), I 0]) := by
 refine bZ Tryz.func148 ?_
 have hM := hQ.hM
 have hcl := chL_len f ls d M
 obtain ⟨-, hl1, hl2⟩ := cl_low hQ.ho
 have hp := implPortfolio_ret f ls r hs hn (by omega)
 rw [decide_eq_true hF] at hp
 have hp2 := implPortfolio_ret f (chL f ls d M) (r + a) hs (by omega) (by omega)
 rw [decide_eq_true hC] at hp2
 have hcb := implCB_ok f ls r a d M hn hB hs1 hQ
 have hog := okG_gS hF hC
 obtain ⟨L, hL⟩ : ∃ L, L = chL f ls d M := ⟨_, rfl⟩
 rw [← hL] at hp2 hcb hog hC hcl ⊢
 obtain ⟨r', hr'⟩ : ∃ r', r' = r + a := ⟨_, rfl⟩
 rw [← hr'] at hp2 hcb hog hC ⊢
 repeat' (conv => whnf); first | (intro h; try exact nZ) | apply And.intro | refine sZ ?_ | refine Ret.uA (hp) ?_ | refine Ret.uA (hp2) ?_ | refine gZ [] (hcb) ?_ | fail
 all_goals try exact rZ
 (conv => whnf)
 refine loop_rule hT (fun i : Nat => i ≤ hs.length) 54 3 [3, 8, 10, 30, 31, 32] (fun i => [.ptr 0 0, .ptr 2 0, I (sumH (gS f ls r L r') hs i), Rh hs, I hs.length, I i]) (fun _ => [.cells [I f, Ri ls, I r], .cells [I a, I d], .cells [I f, Ri L, I r']]) (fun i => hs.length - i) (0) (Nat.le_of_ble_eq_true rfl) ?_ ?_ ?_
 · exact Nat.zero_le _
 · first | (refine ⟨rfl, [], ?_, ?_⟩; (repeat' first | apply And.intro | exact xZ | (unfold sumH; rfl) | fail); done)
 · intro i h1
   have hbd := sumH_bd hog i h1
   by_cases hi : i < hs.length
   · have hmem : hs.getD ((i : Int)).toNat [] ∈ hs := getD_mem (d := ([] : List Int)) hi
     have hoh : okH f ls r (hs.getD ((i : Int)).toNat []) := okF_at hF hmem
     have hoc : okH f L r' (hs.getD ((i : Int)).toNat []) := okF_at hC hmem
     have hrq := rq_of hoh hoc
     have hg : 0 ≤ ((hs.getD ((i : Int)).toNat []).getD 6 0 * rndG (hpT f L r' (hs.getD ((i : Int)).toNat []) ((hs.getD ((i : Int)).toNat []).getD 5 0)) (hpB f L r' (hs.getD ((i : Int)).toNat []) ((hs.getD ((i : Int)).toNat []).getD 5 0)) (cD f L r' ((hs.getD ((i : Int)).toNat []).getD 1 0 + (hs.getD ((i : Int)).toNat []).getD 5 0)) ((hs.getD ((i : Int)).toNat []).getD 3 0) (hNet f ls r (hs.getD ((i : Int)).toNat []))) ∧ ((hs.getD ((i : Int)).toNat []).getD 6 0 * rndG (hpT f L r' (hs.getD ((i : Int)).toNat []) ((hs.getD ((i : Int)).toNat []).getD 5 0)) (hpB f L r' (hs.getD ((i : Int)).toNat []) ((hs.getD ((i : Int)).toNat []).getD 5 0)) (cD f L r' ((hs.getD ((i : Int)).toNat []).getD 1 0 + (hs.getD ((i : Int)).toNat []).getD 5 0)) ((hs.getD ((i : Int)).toNat []).getD 3 0) (hNet f ls r (hs.getD ((i : Int)).toNat []))) ≤ 100000001000000 := gS_bd hoh hoc
     have hnx : sumH (gS f ls r L r') hs (i + 1) = sumH (gS f ls r L r') hs i + ((hs.getD ((i : Int)).toNat []).getD 6 0 * rndG (hpT f L r' (hs.getD ((i : Int)).toNat []) ((hs.getD ((i : Int)).toNat []).getD 5 0)) (hpB f L r' (hs.getD ((i : Int)).toNat []) ((hs.getD ((i : Int)).toNat []).getD 5 0)) (cD f L r' ((hs.getD ((i : Int)).toNat []).getD 1 0 + (hs.getD ((i : Int)).toNat []).getD 5 0)) ((hs.getD ((i : Int)).toNat []).getD 3 0) (hNet f ls r (hs.getD ((i : Int)).toNat []))) := sumH_next _ hs i
     have hpt := parts_ret f L r' (hs.getD ((i : Int)).toNat []) hoc.1.1 (by have := hoc.1.2.1; omega)
     have hnp := net_ret f ls r ((hs.getD ((i : Int)).toNat []).getD 0 0) ((hs.getD ((i : Int)).toNat []).getD 1 0) ((hs.getD ((i : Int)).toNat []).getD 2 0) ((hs.getD ((i : Int)).toNat []).getD 3 0) ((hs.getD ((i : Int)).toNat []).getD 4 0) hoh.1.1
     have hrg := roundedG_ret _ _ _ _ _ hrq
     have hrb := hrq.bd
     have hh6 := hoh.2
     repeat' (conv => whnf); first | (intro h; try exact nZ) | apply And.intro | refine sZ ?_ | refine Ret.uA (hpt) ?_ | refine Ret.uA (hnp) ?_ | refine Ret.uA (hrg) ?_ | fail
     all_goals try exact rZ
     all_goals ((conv => whnf); first | (refine ⟨i + 1, by omega, ?_, by omega⟩; (refine ⟨rfl, [], ?_, ?_⟩; (repeat' first | apply And.intro | exact xZ | (rw [hnx]; rfl) | fail); done)))
   · obtain rfl : i = hs.length := by omega
     repeat' (conv => whnf); first | (intro h; try exact nZ) | apply And.intro | refine sZ ?_ | fail
     all_goals first | exact rZ
end Go.Proofs.YtglbamncajileaaGreatDoor
