/-
  Changed tables and bases, by the reference and by the program. The console's command 'scenario': what the functions return. No conditions but those in the statements.
-/
import Derived.Test.YtglbamncajileaaGreatDoorUsa
set_option linter.unusedVariables false
set_option linter.unusedSimpArgs false
set_option maxRecDepth 100000
set_option maxHeartbeats 8000000
namespace Go.Proofs.YtglbamncajileaaGreatDoor
open Go.AE Go.Lib
section
attribute [local irreducible] CallA LoopA DrawA CallQ arithK quoK remK eqK
attribute [local irreducible] clN lv cdiv chL okT okF
theorem specCT_call (f : Int) (ls : List Int) (dt : Int) (M : Nat) (hQ : ClQ f ls dt M) : Ca 298 [Tb f ls, I dt] [] (fun v J => v = .agg [I f, .sl 0 1 (M + 1)] ∧ J = [Di (chL f ls dt M)]) := by
 refine cZ Tryz.func298 ?_
 obtain ⟨hg0, hg1, hg2⟩ := cl_low hQ.ho
 have hg0' : ls.getD (Int.toNat 0) 0 = lv f ls f := hg0
 have hM := hQ.hM
 repeat' (conv => whnf); first | (intro h; try exact nZ) | apply And.intro | refine sZ ?_ | fail
 all_goals try exact rZ
 all_goals
   (conv => whnf)
   refine loop_rule hT (fun k : Nat => k ≤ M) 64 4 [1, 2, 4, 5, 6, 7] (fun k => [I dt, .ptr 0 0, .ptr 1 0, I (clN f ls dt k), .ptr 4 0, I k]) (fun k => [.cells [I f, Ri ls], .cells [I 0, .nilsl], .dead, .dead, .cells [I f, .sl 5 1 (k + 1)], Di (chL f ls dt k)]) (fun k => M - k) (0) (Nat.le_of_ble_eq_true rfl) ?_ ?_ ?_
   · exact Nat.zero_le _
   · have hz : ls.getD (Int.toNat 0) 0 = clN f ls dt 0 := by rw [hg0']; unfold clN; rfl
     have hz2 : [] ++ [ls.getD (Int.toNat 0) 0] = chL f ls dt 0 := by rw [chL_zero, hg0']; rfl
     first | (refine ⟨rfl, [some 3, some 2], ?_, ?_⟩; (repeat' first | apply And.intro | exact xZ | first | exact iv hz | exact congrArg (D.ints .i64) hz2 | fail); done) | (refine ⟨rfl, [some 2, some 3], ?_, ?_⟩; (repeat' first | apply And.intro | exact xZ | first | exact iv hz | exact congrArg (D.ints .i64) hz2 | fail); done)
   · intro k hk
     have hcl := chL_len f ls dt k
     by_cases hkM : k < M
     · obtain ⟨c1, c2, c3, c4, c5, c6, c7, c8, c9, c10, c11⟩ := cl_facts hQ hkM
       have hU := specUp5_ret (clN f ls dt k) ((lv f ls (f + k) - lv f ls (f + k + 1)) * (1000 + dt)) (1000 * lv f ls (f + k)) c10
       have hcu : 0 ≤ cdiv (clN f ls dt k * ((lv f ls (f + k) - lv f ls (f + k + 1)) * (1000 + dt))) (1000 * lv f ls (f + k)) := cdiv_nn (Int.mul_nonneg (by omega) c9.1) (by omega)
       have hnl : chL f ls dt k ++ [clN f ls dt (k + 1)] = chL f ls dt (k + 1) := chL_next f ls dt k
       have hll : (chL f ls dt (k + 1)).length = k + 1 + 1 := chL_len f ls dt (k + 1)
       by_cases hz0 : lv f ls (f + k + 1) = 0
       · have hnx : clN f ls dt (k + 1) = clN f ls dt k - clN f ls dt k := by rw [clN_next]; unfold dkL; rw [if_pos hz0]
         have hk2 := c11.1 hz0
         rw [hnx] at hnl
         have hla : (chL f ls dt k ++ [clN f ls dt k - clN f ls dt k]).length = k + 1 + 1 := by rw [hnl, hll]
         clear c11
         repeat' (conv => whnf); first | (intro h; try exact nZ) | apply And.intro | refine sZ ?_ | fail
         all_goals first | exact rZ | exact hcl.symm | (rw [hcl]; show (k + 1 + 1) * 8 ≤ _; omega) | skip
         all_goals ((conv => whnf); first | (refine ⟨k + 1, by omega, ?_, by omega⟩; first | (refine ⟨rfl, [some 4, some 7], ?_, ?_⟩; (repeat' first | apply And.intro | exact xZ | first | exact iv hnx.symm | exact hla | exact congrArg (D.ints .i64) hnl | fail); done) | (refine ⟨rfl, [some 4, some 6], ?_, ?_⟩; (repeat' first | apply And.intro | exact xZ | first | exact iv hnx.symm | exact hla | exact congrArg (D.ints .i64) hnl | fail); done)))
       · have hnx : clN f ls dt (k + 1) = clN f ls dt k - min (clN f ls dt k) (cdiv (clN f ls dt k * ((lv f ls (f + k) - lv f ls (f + k + 1)) * (1000 + dt))) (1000 * lv f ls (f + k))) := by rw [clN_next]; unfold dkL; rw [if_neg hz0]
         have hk2 : k + 2 < ls.length := Decidable.of_not_not fun e => hz0 (c11.2 e)
         rw [hnx] at hnl
         have hla : (chL f ls dt k ++ [clN f ls dt k - min (clN f ls dt k) (cdiv (clN f ls dt k * ((lv f ls (f + k) - lv f ls (f + k + 1)) * (1000 + dt))) (1000 * lv f ls (f + k)))]).length = k + 1 + 1 := by rw [hnl, hll]
         have ha : ls.getD ((k : Int)).toNat 0 = lv f ls (f + k) := lv_at (by omega)
         have hb : ls.getD ((k : Int) + 1).toNat 0 = lv f ls (f + k + 1) := by
           have := lv_at (f := f) (ls := ls) (k := k + 1) (by omega)
           rw [show f + ((k + 1 : Nat) : Int) = f + k + 1 by omega] at this
           rw [show ((k : Int) + 1).toNat = k + 1 by omega]
           exact this
         clear c7 c8 c10 c11
         rw [← ha, ← hb] at c5 c9 hU hcu hnx hnl hla
         rw [← ha] at c4
         repeat' (conv => whnf); first | (intro h; try exact nZ) | apply And.intro | refine sZ ?_ | refine Ret.uA (hU) ?_ | fail
         all_goals first | exact rZ | exact hcl.symm | (rw [hcl]; show (k + 1 + 1) * 8 ≤ _; omega) | skip
         all_goals ((conv => whnf); first | (refine ⟨k + 1, by omega, ?_, by omega⟩; first | (refine ⟨rfl, [some 4, some 7], ?_, ?_⟩; (repeat' first | apply And.intro | exact xZ | first | exact iv hnx.symm | exact hla | exact congrArg (D.ints .i64) hnl | fail); done) | (refine ⟨rfl, [some 4, some 6], ?_, ?_⟩; (repeat' first | apply And.intro | exact xZ | first | exact iv hnx.symm | exact hla | exact congrArg (D.ints .i64) hnl | fail); done)))
     · obtain rfl : k = M := by omega
       have h0 := hQ.h0
       repeat' (conv => whnf); first | (intro h; try exact nZ) | apply And.intro | refine sZ ?_ | fail
       all_goals try exact rZ
       all_goals (conv => whnf); exact endE1 [some 5] (.agg [I f, .sl 0 1 (k + 1)]) [Di (chL f ls dt k)]
end
section
attribute [local irreducible] CallA LoopA DrawA CallQ arithK quoK remK eqK
abbrev Sn (a d : Int) : AV := .agg [I a, I d]
def scOk (r a d : Int) : Prop := ((-200 ≤ a ∧ a ≤ 200) ∧ (-500 ≤ d ∧ d ≤ 500)) ∧ okR (r + a)
def rndG (T B d s p : Int) : Int := max 0 ((s * T - p * B) / d + if (s * T - p * B) % d = 0 then 0 else 1)
def gS (f : Int) (ls : List Int) (r : Int) (L : List Int) (r' : Int) (h : List Int) : Int := h.getD 6 0 * rndG (hpT f L r' h (h.getD 5 0)) (hpB f L r' h (h.getD 5 0)) (cD f L r' (h.getD 1 0 + h.getD 5 0)) (h.getD 3 0) (hNet f ls r h)
structure RQ (T B d s p : Int) : Prop where
 h1 : MD s T d
 h2 : MD p B d
 mm : MM s T p B d
 hq : -(879609302220803) ≤ (s * T - p * B) / d ∧ (s * T - p * B) / d ≤ 100000000
 hr : 0 ≤ (s * T - p * B) % d ∧ (s * T - p * B) % d < d
 hd : 1 ≤ d ∧ d ≤ 1000000000000000
theorem RQ.bd {T B d s p : Int} (h : RQ T B d s p) : 0 ≤ rndG T B d s p ∧ rndG T B d s p ≤ 100000001 := by
 have := h.hq
 unfold rndG
 split <;> omega
theorem rq_of {f : Int} {ls : List Int} {r : Int} {L : List Int} {r' : Int} {h : List Int} (ho : okH f ls r h) (hc : okH f L r' h) :
   RQ (hpT f L r' h (h.getD 5 0)) (hpB f L r' h (h.getD 5 0)) (cD f L r' (h.getD 1 0 + h.getD 5 0)) (h.getD 3 0) (hNet f ls r h) := by
 obtain ⟨m1, m2, -, -, -, -, x4, x5, -⟩ := fw_facts hc.1
 have hn := net_MD ho.1.1
 have hn2 : 0 ≤ hNet f ls r h ∧ hNet f ls r h ≤ h.getD 3 0 := hn.2.1
 have hdb := cD_bd hc.1.1.1.1 hc.1.1.1.2 (h.getD 1 0 + h.getD 5 0)
 have hq := hc.1.2.1
 have hb := pt_bd hc.1.1 (q := h.getD 5 0) ⟨hq.1, by omega⟩
 have a1 := m2.hb
 have a2 := m2.hb2
 have a3 := m2.hc
 have b1 := m1.hb
 have b2 := m1.hb2
 have b3 : 0 ≤ hpB f L r' h (h.getD 5 0) := a1.1
 have hm : MD (hNet f ls r h) (hpB f L r' h (h.getD 5 0)) (cD f L r' (h.getD 1 0 + h.getD 5 0)) := ⟨by omega, a1, a2, a3⟩
 have mm : MM (h.getD 3 0) (hpT f L r' h (h.getD 5 0)) (hNet f ls r h) (hpB f L r' h (h.getD 5 0)) (cD f L r' (h.getD 1 0 + h.getD 5 0)) := ⟨by omega, b1, by omega, a1, b2, a2, a3⟩
 have hx := dif_bd (A := h.getD 3 0) (b := hpT f L r' h (h.getD 5 0)) (S := hNet f ls r h) (c := hpB f L r' h (h.getD 5 0)) (d := cD f L r' (h.getD 1 0 + h.getD 5 0)) (by omega) (by omega) (by omega) (by omega) (by omega)
 have hf := floor_spec (x := h.getD 3 0 * hpT f L r' h (h.getD 5 0) - hNet f ls r h * hpB f L r' h (h.getD 5 0)) (d := cD f L r' (h.getD 1 0 + h.getD 5 0)) (by omega)
 have hqb := quot_bd (by omega) hf.1 ⟨by omega, by omega⟩ hx
 refine ⟨m1, hm, mm, ⟨by omega, ?_⟩, ⟨hf.2.1, hf.2.2⟩, by omega, by omega⟩
 have hle : (h.getD 3 0 * hpT f L r' h (h.getD 5 0) - hNet f ls r h * hpB f L r' h (h.getD 5 0)) / cD f L r' (h.getD 1 0 + h.getD 5 0) ≤ h.getD 3 0 := by
   refine Int.ediv_le_of_le_mul (by omega) ?_
   have h1 : h.getD 3 0 * hpT f L r' h (h.getD 5 0) ≤ h.getD 3 0 * cD f L r' (h.getD 1 0 + h.getD 5 0) := Int.mul_le_mul_of_nonneg_left hb.1.2 (by omega)
   have h2 : 0 ≤ hNet f ls r h * hpB f L r' h (h.getD 5 0) := Int.mul_nonneg hn2.1 b3
   omega
 omega
theorem gS_bd {f : Int} {ls : List Int} {r : Int} {L : List Int} {r' : Int} {h : List Int} (ho : okH f ls r h) (hc : okH f L r' h) : 0 ≤ gS f ls r L r' h ∧ gS f ls r L r' h ≤ 100000001000000 := by
 have h1 := (rq_of ho hc).bd
 have := mul_in (a := h.getD 6 0) (A := 1000000) (b := rndG (hpT f L r' h (h.getD 5 0)) (hpB f L r' h (h.getD 5 0)) (cD f L r' (h.getD 1 0 + h.getD 5 0)) (h.getD 3 0) (hNet f ls r h)) (B := 100000001) ho.2.1 ho.2.2 h1.1 h1.2
 unfold gS
 omega
theorem okG_gS {f : Int} {ls : List Int} {r : Int} {L : List Int} {r' : Int} {hs : List (List Int)} (ho : okF f ls r hs) (hc : okF f L r' hs) : okG (gS f ls r L r') hs := ⟨ho.2.1, fun h hh => gS_bd (ho.2.2 h hh) (hc.2.2 h hh)⟩
attribute [local irreducible] cN cM cD cC netP top base pTop pBase rndG
theorem roundedG_ret (T B d s p : Int) (h : RQ T B d s p) : Rt 210 [.agg [I T, I B, I d], I s, I p] (I (rndG T B d s p)) := by
 refine bZ Tryz.func210 ?_
 have hf := forward_ret T B d s p h.h1 h.h2
 have x1 := h.hq
 have x2 := h.hr
 have x3 := h.hd
 unfold rndG
 by_cases hz : (s * T - p * B) % d = 0
 · rw [if_pos hz, Int.add_zero]
   repeat' (conv => whnf); first | (intro h; try exact nZ) | apply And.intro | refine sZ ?_ | refine Ret.uA (hf) ?_ | fail
   all_goals first | exact rZ
 · rw [if_neg hz]
   repeat' (conv => whnf); first | (intro h; try exact nZ) | apply And.intro | refine sZ ?_ | refine Ret.uA (hf) ?_ | fail
   all_goals first | exact rZ
attribute [local irreducible] clN lv cdiv chL okT okF sumH
theorem chT_tb (f : Int) (ls : List Int) (dt : Int) (M : Nat) (hQ : ClQ f ls dt M) : Ca 271 [Tb f ls, I dt] [] (fun v J => v = Tb f (chL f ls dt M) ∧ J = []) :=
 CallA.frozen ((implCT_call f ls dt M hQ).mono fun v J ⟨h1, h2⟩ => by
   subst h1 h2
   exact ⟨Tb f (chL f ls dt M), ⟨(by first | exact rfl | exact ⟨rfl, rfl⟩), ⟨rfl, rfl, rfl, (chL_len f ls dt M).symm, rfl⟩, trivial⟩, rfl, rfl⟩)
theorem spT_tb (f : Int) (ls : List Int) (dt : Int) (M : Nat) (hQ : ClQ f ls dt M) : Ca 298 [Tb f ls, I dt] [] (fun v J => v = Tb f (chL f ls dt M) ∧ J = []) :=
 CallA.frozen ((specCT_call f ls dt M hQ).mono fun v J ⟨h1, h2⟩ => by
   subst h1 h2
   exact ⟨Tb f (chL f ls dt M), ⟨(by first | exact rfl | exact ⟨rfl, rfl⟩), ⟨rfl, rfl, rfl, (chL_len f ls dt M).symm, rfl⟩, trivial⟩, rfl, rfl⟩)
theorem implCB_ok (f : Int) (ls : List Int) (r a d : Int) (M : Nat) (hn : ls.length ≤ 1048576) (hb : okB f ls r) (hs : scOk r a d) (hQ : ClQ f ls d M) : Ca 208 [Bs f ls r, Sn a d] [] (fun v J => v = .tup [Bs f (chL f ls d M) (r + a), I 0] ∧ J = []) := by
 refine cZ Tryz.func208 ?_
 obtain ⟨⟨s1, s2⟩, s3⟩ := hs
 have hrr := hb.2
 have hbb := implBasis_ret f ls r hn
 rw [decide_eq_true hb] at hbb
 have hct := chT_tb f ls d M hQ
 have hri := implRate_ret (r + a)
 rw [decide_eq_true s3] at hri
 unfold okR at hrr
 repeat' (conv => whnf); first | (intro h; try exact nZ) | apply And.intro | refine sZ ?_ | refine Ret.uA (hbb) ?_ | refine Ret.uP (inRange_ret _ _ _) ?_ | refine Ret.uA (hri) ?_ | refine gZ [] (hct) ?_ | fail
 all_goals try exact rZ
 all_goals (conv => whnf); exact endE1 [] (.tup [Bs f (chL f ls d M) (r + a), I 0]) []
theorem implCB_bad (f : Int) (ls : List Int) (r a d : Int) (hn : ls.length ≤ 1048576) (hb : okB f ls r) (hs : ¬ scOk r a d) : Ca 208 [Bs f ls r, Sn a d] [] (fun v J => v = .tup [.agg [I 0, .nilsl, I 0], I 2] ∧ J = []) := by
 refine cZ Tryz.func208 ?_
 have hrr := hb.2
 have hbb := implBasis_ret f ls r hn
 rw [decide_eq_true hb] at hbb
 have hri := implRate_ret (r + a)
 unfold okR at hrr
 unfold scOk at hs
 repeat' (conv => whnf); first | (intro h; try exact nZ) | apply And.intro | refine sZ ?_ | refine Ret.uA (hbb) ?_ | refine Ret.uP (inRange_ret _ _ _) ?_ | refine Ret.uP (hri) ?_ | fail
 all_goals first | exact rZ | (exact absurd ⟨⟨by assumption, by assumption⟩, by assumption⟩ hs) | skip
 all_goals (conv => whnf); exact endE1 [] (.tup [.agg [I 0, .nilsl, I 0], I 2]) []
theorem l21Scen_ret (a d : Int) : Rt 246 [Sn a d] (Bo (decide ((-200 ≤ a ∧ a ≤ 200) ∧ (-500 ≤ d ∧ d ≤ 500)))) := by
 refine bZ Tryz.func246 ?_
 repeat' (conv => whnf); first | (intro h; try exact nZ) | apply And.intro | refine sZ ?_ | refine Ret.uP (l01In_ret _ _ _) ?_ | fail
 all_goals first | exact bv (by simp; omega)
theorem specCB_ok (f : Int) (ls : List Int) (r a d : Int) (M : Nat) (hb : okB f ls r) (hs : scOk r a d) (hQ : ClQ f ls d M) : Ca 247 [Bs f ls r, Sn a d] [] (fun v J => v = Bs f (chL f ls d M) (r + a) ∧ J = []) := by
 refine cZ Tryz.func247 ?_
 obtain ⟨⟨s1, s2⟩, s3⟩ := hs
 have hrr := hb.2
 have hct := spT_tb f ls d M hQ
 unfold okR at hrr
 repeat' (conv => whnf); first | (intro h; try exact nZ) | apply And.intro | refine sZ ?_ | refine gZ [] (hct) ?_ | fail
 all_goals try exact rZ
 all_goals (conv => whnf); exact endE1 [] (Bs f (chL f ls d M) (r + a)) []
end
end Go.Proofs.YtglbamncajileaaGreatDoor
