/-
  The console's command 'year': what the reference does with it. No conditions but those in the statements.
-/
import Derived.Test.YtglbamncajileaaGreatDoorUyc
set_option linter.unusedVariables false
set_option linter.unusedSimpArgs false
set_option maxRecDepth 100000
set_option maxHeartbeats 16000000
namespace Go.Proofs.YtglbamncajileaaGreatDoor
open Go.AE Go.Lib
attribute [local irreducible] CallA LoopA DrawA CallQ arithK quoK remK eqK
attribute [local irreducible] okF okT agL nets loads clS tot cyC cyQ isYr
theorem year_si (F : Fu) (hF : F.ok) (b w : ByteArray) (hb : b = w_year) (ns : List Int) (h2 : 2 ≤ ns.length) (hm : ns.length ≤ 1000) (hq : cyQ F.f F.ls F.r F.hs (dsN ns) F.d (ns.getD (Int.toNat 0) 0) (ns.getD (Int.toNat 1) 0)) (hv : ¬ (okF (yrN F ns).f (yrN F ns).ls (yrN F ns).r (yrN F ns).hs ∧ okD (yrN F ns).d)) : SChg F b w ns SocZ (jb (tlY F ns)) 1 := by
 obtain ⟨n1, n2, n3, n4, n5, n6, n7, n8, n9, n10, n11, n12, n13, n14, n15⟩ := only_year hb
 have hfit := hF.fit
 have h30 := hF.hb
 have hdl : (dsN ns).length ≤ 1048576 := by unfold dsN; rw [List.length_take]; omega
 obtain ⟨hlt, hlen⟩ := tlY_ok F hF ns hq
 have hy := yr_of hq
 have hyb := yr_bd hy
 have hrr := (okF_B hF.pf).2
 have hcy := specCY_ro F.f F.ls F.r F.hs (dsN ns) F.d (ns.getD (Int.toNat 0) 0) (ns.getD (Int.toNat 1) 0) hF.nb (by omega) hdl hq
 have hen := specEnd2_ret _ _ _ _ _ _ _ hy
 have hsc := specSources_call _ _ _ _ _ _ _ F.r hy hrr
 have hj := l01Join_ret (tlY F ns) [32] (by unfold tlY; simp) hlt (by decide)
 have hrow := cyL_row (f := F.f) (ls := F.ls) (r := F.r) (hs := F.hs) (ds := dsN ns) (fu := F.d) (ex := ns.getD (Int.toNat 0) 0) (it := ns.getD (Int.toNat 1) 0)
 rw [cyL, yL, whL_yes hq] at hrow
 have hL : (yrN F ns).lax := ⟨hF.fit, hF.big, by have := hrow.2; show (later F.f F.ls F.hs (dsN ns)).length ≤ _; omega, hrow.1⟩
 have hva := valid_no (yrN F ns) hL hv
 clear hlt hrow hL hrr hlen
 refine cZ Tryz.func84 ?_
 repeat' (conv => whnf); first | (intro h; try exact nZ) | apply And.intro | (refine draw_qs [2, 13] hT mixed (by decide +kernel) ?_) | refine sZ ?_ | refine gZ [] (hcy) ?_ | refine Ret.uA (hen) ?_ | refine Ret.uQ (hen) ?_ | refine gZ [] (hva) ?_ | refine CallA.gM [] (hsc) ?_ | refine Ret.uA (hj) ?_ | refine Ret.uQ (hj) ?_ | fail
 all_goals first | exact rfl | exact Nat.le_of_ble_eq_true rfl | omega | contradiction | skip
 all_goals (conv => whnf); exact endE1 [] (.tup [SocZ, Sv (jb (tlY F ns)), I 1]) []
end Go.Proofs.YtglbamncajileaaGreatDoor
