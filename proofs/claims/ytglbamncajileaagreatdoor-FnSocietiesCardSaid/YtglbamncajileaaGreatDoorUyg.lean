/-
  The console's command 'year': what the program tells of it. The console's command 'year': its step. No conditions but those in the statements.
-/
import Derived.Test.YtglbamncajileaaGreatDoorUyc
import Derived.Test.YtglbamncajileaaGreatDoorUye
import Derived.Test.YtglbamncajileaaGreatDoorUyf
set_option linter.unusedVariables false
set_option linter.unusedSimpArgs false
set_option maxRecDepth 100000
set_option maxHeartbeats 16000000
namespace Go.Proofs.YtglbamncajileaaGreatDoor
open Go.AE Go.Lib
section
attribute [local irreducible] CallA LoopA DrawA CallQ arithK quoK remK eqK
attribute [local irreducible] okF okT agL nets loads clS tot cyC cyQ isYr
theorem year_ti (F : Fu) (hF : F.ok) (b w : ByteArray) (hb : b = w_year) (ns : List Int) (h2 : 2 ≤ ns.length) (hm : ns.length ≤ 1000) (hq : cyQ F.f F.ls F.r F.hs (dsN ns) F.d (ns.getD (Int.toNat 0) 0) (ns.getD (Int.toNat 1) 0)) (hv : ¬ (okF (yrN F ns).f (yrN F ns).ls (yrN F ns).r (yrN F ns).hs ∧ okD (yrN F ns).d)) : TelEr F 1 b w ns [] := by
 obtain ⟨n1, n2, n3, n4, n5, n6, n7, n8, n9, n10, n11, n12, n13, n14, n15⟩ := only_year hb
 have hfit := hF.fit
 have hcl := implClose_bad F hF ns h2 hm hq hv
 refine cZ Tryz.func89 ?_
 repeat' (conv => whnf); first | (intro h; try exact nZ) | apply And.intro | refine sZ ?_ | (refine CallA.gM [0, 1, 2] (hcl) ?_) | fail
 all_goals try exact rZ
 all_goals (conv => whnf); exact endE1 [] (.tup [Sv [], I 1]) [.dead, Di F.xs, Dh F.hs]
theorem year_to (F : Fu) (hF : F.ok) (b w : ByteArray) (hb : b = w_year) (ns : List Int) (h2 : 2 ≤ ns.length) (hm : ns.length ≤ 1000) (hq : cyQ F.f F.ls F.r F.hs (dsN ns) F.d (ns.getD (Int.toNat 0) 0) (ns.getD (Int.toNat 1) 0)) (hv : (okF (yrN F ns).f (yrN F ns).ls (yrN F ns).r (yrN F ns).hs ∧ okD (yrN F ns).d)) : TelOk F (yrN F ns) b w ns (jb (tlY F ns)) := by
 obtain ⟨n1, n2, n3, n4, n5, n6, n7, n8, n9, n10, n11, n12, n13, n14, n15⟩ := only_year hb
 have hfit := hF.fit
 have hlt := (tlY_ok F hF ns hq).1
 have hcl := implClose_yes F hF ns h2 hm hq hv hlt
 refine cZ Tryz.func89 ?_
 repeat' (conv => whnf); first | (intro h; try exact nZ) | apply And.intro | refine sZ ?_ | (refine CallA.gM [0, 1, 2] (hcl) ?_) | fail
 all_goals try exact rZ
 all_goals (conv => whnf); exact endE1 [some 5, some 6] (.tup [Sv (jb (tlY F ns)), I 0]) [.cells ((yrN F ns).cells 3 4), .dead, .dead, Di (yrN F ns).xs, Dh (yrN F ns).hs]
end
section
theorem year_step (F : Fu) (hF : F.ok) (b w : ByteArray) (hb : b = w_year) (ns : List Int) (h2 : 2 ≤ ns.length) (hm : ns.length ≤ 1000) : Step F b w ns := by
 obtain ⟨n1, n2, n3, n4, n5, n6, n7, n8, n9, n10, n11, n12, n13, n14, n15⟩ := only_year hb
 by_cases hq : cyQ F.f F.ls F.r F.hs (dsN ns) F.d (ns.getD (Int.toNat 0) 0) (ns.getD (Int.toNat 1) 0)
 · have hn := chg_none F hF b w ns ‹_› ‹_› ‹_› ‹_› ‹_›
   by_cases hv : okF (yrN F ns).f (yrN F ns).ls (yrN F ns).r (yrN F ns).hs ∧ okD (yrN F ns).d
   · have hlen := (tlY_ok F hF ns hq).2
     have hrow := cyL_row (f := F.f) (ls := F.ls) (r := F.r) (hs := F.hs) (ds := dsN ns) (fu := F.d) (ex := ns.getD (Int.toNat 0) 0) (it := ns.getD (Int.toNat 1) 0)
     rw [cyL, yL, whL_yes hq] at hrow
     exact .yr (yrN F ns) ⟨hF.fit, hF.big, hv.1, hv.2, hrow.1⟩ (jb (tlY F ns)) (by omega) hn (year_to F hF b w hb ns h2 hm hq hv) (year_so F hF b w hb ns h2 hm hq hv)
   · exact .yrE 1 (by show (1 : Int) ≤ 1 ∧ (1 : Int) ≤ 6; omega) [] (jb (tlY F ns)) SocZ hn (year_ti F hF b w hb ns h2 hm hq hv) (year_si F hF b w hb ns h2 hm hq hv)
 · exact year_no F hF b w hb ns h2 hm hq
end
end Go.Proofs.YtglbamncajileaaGreatDoor
