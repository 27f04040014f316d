/-
  The console's command 'year': sources, and the program's close. The console's command 'year': the program's close of a year that is valid or refused. The console's command 'year': its step. No conditions but those in the statements.
-/
import Derived.Test.YtglbamncajileaaGreatDoorMm
import Derived.Test.YtglbamncajileaaGreatDoorDel
import Derived.Test.YtglbamncajileaaGreatDoorUli
import Derived.Test.YtglbamncajileaaGreatDoorUtq
import Derived.Test.YtglbamncajileaaGreatDoorUch
set_option linter.unusedVariables false
set_option linter.unusedSimpArgs false
set_option maxRecDepth 100000
set_option maxHeartbeats 16000000
namespace Go.Proofs.YtglbamncajileaaGreatDoor
open Go.AE Go.Lib
section
attribute [local irreducible] CallA LoopA DrawA CallQ arithK quoK remK eqK
theorem expected_ret (a b c d e f g r : Int) (h : isYr a b c d e f g) (hr : okR r) : Rt 283 [V7 a b c d e f g, I r] (I ((a + b) * r / 1000)) := by
 refine bZ Tryz.func283 ?_
 have hb := yr_bd h
 have hm := mul_in (a := a + b) (A := 2000000000000) (b := r) (B := 200) (by omega) (by omega) hr.1 hr.2
 repeat' (conv => whnf); first | (intro h; try exact nZ) | apply And.intro | refine sZ ?_ | fail
 all_goals first | exact rZ
theorem specExp_ret (a b c d e f g r : Int) (h : isYr a b c d e f g) (hr : okR r) : Rt 170 [V7 a b c d e f g, I r] (I ((a + b) * r / 1000)) := by
 refine bZ Tryz.func170 ?_
 have hb := yr_bd h
 have hm := mul_in (a := a + b) (A := 2000000000000) (b := r) (B := 200) (by omega) (by omega) hr.1 hr.2
 repeat' (conv => whnf); first | (intro h; try exact nZ) | apply And.intro | refine sZ ?_ | fail
 all_goals first | exact rZ
abbrev srcL (a b c d e f g r : Int) : List Int := [e - (a + b) * r / 1000, c - d, a + b + (a + b) * r / 1000 - f - g]
theorem sources_call (a b c d e f g r : Int) (h : isYr a b c d e f g) (hr : okR r) : Ca 217 [V7 a b c d e f g, I r] [] (fun v J => v = .tup [.sl 0 1 3, I 0] ∧ J = [Di (srcL a b c d e f g r)]) := by
 refine cZ Tryz.func217 ?_
 have hb := yr_bd h
 have hm := mul_in (a := a + b) (A := 2000000000000) (b := r) (B := 200) (by omega) (by omega) hr.1 hr.2
 have hx := expected_ret a b c d e f g r h hr
 repeat' (conv => whnf); first | (intro h; try exact nZ) | apply And.intro | refine sZ ?_ | refine Ret.uP (implYear_ret _ _ _ _ _ _ _) ?_ | refine Ret.uP (implRate_ret _) ?_ | refine Ret.uA (hx) ?_ | fail
 all_goals try exact rZ
 all_goals (conv => whnf); exact endE1 [some 1] (.tup [.sl 0 1 3, I 0]) [Di (srcL a b c d e f g r)]
theorem specSources_call (a b c d e f g r : Int) (h : isYr a b c d e f g) (hr : okR r) : Ca 117 [V7 a b c d e f g, I r] [] (fun v J => v = .sl 0 1 3 ∧ J = [Di (srcL a b c d e f g r)]) := by
 refine cZ Tryz.func117 ?_
 have hb := yr_bd h
 have hm := mul_in (a := a + b) (A := 2000000000000) (b := r) (B := 200) (by omega) (by omega) hr.1 hr.2
 have hx := specExp_ret a b c d e f g r h hr
 repeat' (conv => whnf); first | (intro h; try exact nZ) | apply And.intro | refine sZ ?_ | refine Ret.uA (hx) ?_ | fail
 all_goals try exact rZ
 all_goals (conv => whnf); exact endE1 [some 1] (.sl 0 1 3) [Di (srcL a b c d e f g r)]
abbrev dsN (ns : List Int) : List Int := (ns.drop (Int.toNat 2)).take (ns.length - Int.toNat 2)
def yrN (F : Fu) (ns : List Int) : Fu := { F with hs := later F.f F.ls F.hs (dsN ns), d := yEnd F.f F.ls F.r F.hs (dsN ns) F.d (ns.getD 0 0) (ns.getD 1 0) }
attribute [local irreducible] okF okT agL nets loads clS tot cyC cyQ isYr
theorem implClose_no (F : Fu) (hF : F.ok) (ns : List Int) (h2 : 2 ≤ ns.length) (hm : ns.length ≤ 1000) (hq : ¬ cyQ F.f F.ls F.r F.hs (dsN ns) F.d (ns.getD (Int.toNat 0) 0) (ns.getD (Int.toNat 1) 0)) :
   Ca 151 [.ptr 0 0, Ri ns] [.cells (F.cells 1 2), Di F.xs, Dh F.hs] (fun v J => v = .tup [Sv [], I (cyC F.f F.ls F.r F.hs (dsN ns) F.d (ns.getD (Int.toNat 0) 0) (ns.getD (Int.toNat 1) 0))] ∧ J = [.dead, Di F.xs, Dh F.hs]) := by
 refine cZ Tryz.func151 ?_
 have hfit := hF.fit
 have h30 := hF.hb
 have hdl : (dsN ns).length ≤ 1048576 := by unfold dsN; rw [List.length_take]; omega
 have hcy := implCY_call F.f F.ls F.r F.hs (dsN ns) F.d (ns.getD (Int.toNat 0) 0) (ns.getD (Int.toNat 1) 0) hF.nb (by omega) hdl
 have hc := cyC_ne hq
 rw [cyT, cyL, yL, whL_no hq, yT_no hq] at hcy
 repeat' (conv => whnf); first | (intro h; try exact nZ) | apply And.intro | refine sZ ?_ | refine CallA.gM [] (hcy) ?_ | fail
 all_goals try exact rZ
 all_goals (conv => whnf); exact endE1 [] (.tup [Sv [], I (cyC F.f F.ls F.r F.hs (dsN ns) F.d (ns.getD (Int.toNat 0) 0) (ns.getD (Int.toNat 1) 0))]) [.dead, Di F.xs, Dh F.hs]
end
section
attribute [local irreducible] CallA LoopA DrawA CallQ arithK quoK remK eqK
attribute [local irreducible] okF okT agL nets loads clS tot cyC cyQ isYr
def tlY (F : Fu) (ns : List Int) : List Int :=
 [yEnd F.f F.ls F.r F.hs (dsN ns) F.d (ns.getD 0 0) (ns.getD 1 0) - tot F.f F.ls F.r (later F.f F.ls F.hs (dsN ns))] ++ srcL F.d (nets F.f F.ls F.r F.hs) (loads F.f F.ls F.r F.hs) (ns.getD 0 0) (ns.getD 1 0) (clm F.f F.ls F.hs (dsN ns)) (tot F.f F.ls F.r (later F.f F.ls F.hs (dsN ns))) F.r
theorem implClose_bad (F : Fu) (hF : F.ok) (ns : List Int) (h2 : 2 ≤ ns.length) (hm : ns.length ≤ 1000) (hq : cyQ F.f F.ls F.r F.hs (dsN ns) F.d (ns.getD (Int.toNat 0) 0) (ns.getD (Int.toNat 1) 0)) (hv : ¬ (okF (yrN F ns).f (yrN F ns).ls (yrN F ns).r (yrN F ns).hs ∧ okD (yrN F ns).d)) :
   Ca 151 [.ptr 0 0, Ri ns] [.cells (F.cells 1 2), Di F.xs, Dh F.hs] (fun v J => v = .tup [Sv [], I 1] ∧ J = [.dead, Di F.xs, Dh F.hs]) := by
 refine cZ Tryz.func151 ?_
 have hfit := hF.fit
 have h30 := hF.hb
 have hdl : (dsN ns).length ≤ 1048576 := by unfold dsN; rw [List.length_take]; omega
 have hc0 := cyC_zero hq
 have hy := yr_of hq
 have hyb := yr_bd hy
 have hrr := (okF_B hF.pf).2
 have hrow := cyL_row (f := F.f) (ls := F.ls) (r := F.r) (hs := F.hs) (ds := dsN ns) (fu := F.d) (ex := ns.getD (Int.toNat 0) 0) (it := ns.getD (Int.toNat 1) 0)
 rw [cyL, yL, whL_yes hq] at hrow
 obtain ⟨hrow1, hrow2⟩ := hrow
 have hcy := implCY_call F.f F.ls F.r F.hs (dsN ns) F.d (ns.getD (Int.toNat 0) 0) (ns.getD (Int.toNat 1) 0) hF.nb (by omega) hdl
 rw [cyT, cyL, yL, whL_yes hq, yT_yes hq, hc0] at hcy
 have hsc := sources_call _ _ _ _ _ _ _ F.r hy hrr
 have hen := implEndF_ret _ _ _ _ _ _ _ hy
 have hso := implSoc_ret F.f F.ls F.r (later F.f F.ls F.hs (dsN ns)) (F.d + nets F.f F.ls F.r F.hs + loads F.f F.ls F.r F.hs - ns.getD (Int.toNat 0) 0 + ns.getD (Int.toNat 1) 0 - clm F.f F.ls F.hs (dsN ns)) hF.nb (by omega)
 have hv2 : ¬ (okF F.f F.ls F.r (later F.f F.ls F.hs (dsN ns)) ∧ okD (F.d + nets F.f F.ls F.r F.hs + loads F.f F.ls F.r F.hs - ns.getD (Int.toNat 0) 0 + ns.getD (Int.toNat 1) 0 - clm F.f F.ls F.hs (dsN ns))) := hv
 rw [decide_eq_false hv2] at hso
 repeat' (conv => whnf); first | (intro h; try exact nZ) | apply And.intro | refine sZ ?_ | refine CallA.gM [] (hcy) ?_ | refine CallA.gM [] (hsc) ?_ | refine Ret.uA (hen) ?_ | refine Ret.uA (hso) ?_ | fail
 all_goals try exact rZ
 all_goals (conv => whnf); exact endE1 [] (.tup [Sv [], I 1]) [.dead, Di F.xs, Dh F.hs]
theorem implClose_yes (F : Fu) (hF : F.ok) (ns : List Int) (h2 : 2 ≤ ns.length) (hm : ns.length ≤ 1000) (hq : cyQ F.f F.ls F.r F.hs (dsN ns) F.d (ns.getD (Int.toNat 0) 0) (ns.getD (Int.toNat 1) 0)) (hv : okF (yrN F ns).f (yrN F ns).ls (yrN F ns).r (yrN F ns).hs ∧ okD (yrN F ns).d)
   (hlt : ∀ x ∈ tlY F ns, okI x) :
   Ca 151 [.ptr 0 0, Ri ns] [.cells (F.cells 1 2), Di F.xs, Dh F.hs] (fun v J => v = .tup [Sv (jb (tlY F ns)), I 0] ∧ J = [.cells ((yrN F ns).cells 3 4), .dead, .dead, Di F.xs, Dh (later F.f F.ls F.hs (dsN ns))]) := by
 refine cZ Tryz.func151 ?_
 have hfit := hF.fit
 have h30 := hF.hb
 have hdl : (dsN ns).length ≤ 1048576 := by unfold dsN; rw [List.length_take]; omega
 have hc0 := cyC_zero hq
 have hy := yr_of hq
 have hyb := yr_bd hy
 have hrr := (okF_B hF.pf).2
 have hrow := cyL_row (f := F.f) (ls := F.ls) (r := F.r) (hs := F.hs) (ds := dsN ns) (fu := F.d) (ex := ns.getD (Int.toNat 0) 0) (it := ns.getD (Int.toNat 1) 0)
 rw [cyL, yL, whL_yes hq] at hrow
 obtain ⟨hrow1, hrow2⟩ := hrow
 have hcy := implCY_call F.f F.ls F.r F.hs (dsN ns) F.d (ns.getD (Int.toNat 0) 0) (ns.getD (Int.toNat 1) 0) hF.nb (by omega) hdl
 rw [cyT, cyL, yL, whL_yes hq, yT_yes hq, hc0] at hcy
 have hsc := sources_call _ _ _ _ _ _ _ F.r hy hrr
 have hen := implEndF_ret _ _ _ _ _ _ _ hy
 have hso := implSoc_ret F.f F.ls F.r (later F.f F.ls F.hs (dsN ns)) (F.d + nets F.f F.ls F.r F.hs + loads F.f F.ls F.r F.hs - ns.getD (Int.toNat 0) 0 + ns.getD (Int.toNat 1) 0 - clm F.f F.ls F.hs (dsN ns)) hF.nb (by omega)
 have hv2 : okF F.f F.ls F.r (later F.f F.ls F.hs (dsN ns)) ∧ okD (F.d + nets F.f F.ls F.r F.hs + loads F.f F.ls F.r F.hs - ns.getD (Int.toNat 0) 0 + ns.getD (Int.toNat 1) 0 - clm F.f F.ls F.hs (dsN ns)) := hv
 rw [decide_eq_true hv2] at hso
 have hln := listed_ret (tlY F ns) (by unfold tlY; simp) (by unfold tlY; simp) hlt
 have hcc := concat_call [[yEnd F.f F.ls F.r F.hs (dsN ns) F.d (ns.getD 0 0) (ns.getD 1 0) - tot F.f F.ls F.r (later F.f F.ls F.hs (dsN ns))], srcL F.d (nets F.f F.ls F.r F.hs) (loads F.f F.ls F.r F.hs) (ns.getD 0 0) (ns.getD 1 0) (clm F.f F.ls F.hs (dsN ns)) (tot F.f F.ls F.r (later F.f F.ls F.hs (dsN ns))) F.r] (by simp) (by simp) (by simp)
 rw [show ([[yEnd F.f F.ls F.r F.hs (dsN ns) F.d (ns.getD 0 0) (ns.getD 1 0) - tot F.f F.ls F.r (later F.f F.ls F.hs (dsN ns))], srcL F.d (nets F.f F.ls F.r F.hs) (loads F.f F.ls F.r F.hs) (ns.getD 0 0) (ns.getD 1 0) (clm F.f F.ls F.hs (dsN ns)) (tot F.f F.ls F.r (later F.f F.ls F.hs (dsN ns))) F.r] : List (List Int)).flatten = tlY F ns from rfl] at hcc
 repeat' (conv => whnf); first | (intro h; try exact nZ) | apply And.intro | refine sZ ?_ | refine CallA.gM [] (hcy) ?_ | refine CallA.gM [] (hsc) ?_ | refine Ret.uA (hen) ?_ | refine Ret.uA (hso) ?_ | refine CallA.gM [] (hcc) ?_ | refine Ret.uA (hln) ?_ | fail
 all_goals try exact rZ
 all_goals ((conv => whnf); first | (exact endE1 [some 1, some 3] (.tup [Sv (jb (tlY F ns)), I 0]) [.cells ((yrN F ns).cells 3 4), .dead, .dead, Di F.xs, Dh (later F.f F.ls F.hs (dsN ns))]) | (exact endE1 [some 1, some 4] (.tup [Sv (jb (tlY F ns)), I 0]) [.cells ((yrN F ns).cells 3 4), .dead, .dead, Di F.xs, Dh (later F.f F.ls F.hs (dsN ns))]))
end
section
attribute [local irreducible] CallA LoopA DrawA CallQ arithK quoK remK eqK
theorem am_ro7 (xss : List (List Int)) : amE true [] [Dh xss] (.sl 0 7 xss.length) (Rh xss) := ⟨rfl, rfl, rfl, rfl, rfl⟩
theorem specCY_ro (f : Int) (ls : List Int) (r : Int) (hs : List (List Int)) (ds : List Int) (fu ex it : Int) (hn : ls.length ≤ 1048576) (hh : hs.length ≤ 1048576) (hd : ds.length ≤ 1048576) (hq : cyQ f ls r hs ds fu ex it) :
   Ca 114 [Bs f ls r, Rh hs, Ri ds, I fu, I ex, I it] [] (fun v J => v = .tup [V7 fu (nets f ls r hs) (loads f ls r hs) ex it (clm f ls hs ds) (tot f ls r (later f ls hs ds)), Rh (later f ls hs ds), I 0] ∧ J = []) := by
 have h := specCY_call f ls r hs ds fu ex it hn hh hd
 rw [cyT, cyL, yL, whL_yes hq, yT_yes hq, cyC_zero hq] at h
 exact CallA.frozen (h.mono fun v J ⟨h1, h2⟩ => by subst h1 h2; exact ⟨.tup [V7 fu (nets f ls r hs) (loads f ls r hs) ex it (clm f ls hs ds) (tot f ls r (later f ls hs ds)), Rh (later f ls hs ds), I 0], ⟨amE_self rfl, am_ro7 _, amE_self rfl, trivial⟩, rfl, rfl⟩)
theorem tlY_ok (F : Fu) (hF : F.ok) (ns : List Int) (hq : cyQ F.f F.ls F.r F.hs (dsN ns) F.d (ns.getD (Int.toNat 0) 0) (ns.getD (Int.toNat 1) 0)) : (∀ x ∈ tlY F ns, okI x) ∧ (jb (tlY F ns)).length ≤ 100 := by
 have hb := yr_bd (yr_of hq)
 have hr := (okF_B hF.pf).2
 have hm := mul_in (a := F.d + nets F.f F.ls F.r F.hs) (A := 2000000000000) (b := F.r) (B := 200) (by omega) (by omega) hr.1 hr.2
 have h1 : ∀ x ∈ tlY F ns, okI x := fun x hx => by
   have e0 : ns.getD (Int.toNat 0) 0 = ns.getD 0 0 := rfl
   have e1 : ns.getD (Int.toNat 1) 0 = ns.getD 1 0 := rfl
   rw [e0, e1] at hb
   unfold tlY yEnd srcL at hx
   simp only [List.cons_append, List.nil_append, List.mem_cons, List.not_mem_nil, or_false] at hx
   unfold okI
   omega
 refine ⟨h1, ?_⟩
 have := join_le (ws := (tlY F ns).map itoa) (s := [32]) (m := 21) (fun w hw => by
   obtain ⟨x, hx, rfl⟩ := List.mem_map.1 hw
   exact itoa_len (h1 x hx))
 have hl : ((tlY F ns).map itoa).length = 4 := by rw [List.length_map]; rfl
 rw [hl] at this
 show (join _ _).length ≤ 100
 have h2 : (21 + [(32 : UInt8)].length) * 4 = 88 := rfl
 omega
attribute [local irreducible] okF okT agL nets loads clS tot cyC cyQ isYr tlY
theorem year_no (F : Fu) (hF : F.ok) (b w : ByteArray) (hb : b = w_year) (ns : List Int) (h2 : 2 ≤ ns.length) (hm : ns.length ≤ 1000) (hq : ¬ cyQ F.f F.ls F.r F.hs (dsN ns) F.d (ns.getD (Int.toNat 0) 0) (ns.getD (Int.toNat 1) 0)) : Step F b w ns := by
 obtain ⟨n1, n2, n3, n4, n5, n6, n7, n8, n9, n10, n11, n12, n13, n14, n15⟩ := only_year hb
 have hfit := hF.fit
 have h30 := hF.hb
 have hc := cyC_ne hq
 have hcl := implClose_no F hF ns h2 hm hq
 have hdl : (dsN ns).length ≤ 1048576 := by unfold dsN; rw [List.length_take]; omega
 have hcy := specCY_call F.f F.ls F.r F.hs (dsN ns) F.d (ns.getD (Int.toNat 0) 0) (ns.getD (Int.toNat 1) 0) hF.nb (by omega) hdl
 rw [cyT, cyL, yL, whL_no hq, yT_no hq] at hcy
 obtain ⟨c, hce⟩ : ∃ c, c = cyC F.f F.ls F.r F.hs (dsN ns) F.d (ns.getD (Int.toNat 0) 0) (ns.getD (Int.toNat 1) 0) := ⟨_, rfl⟩
 rw [← hce] at hcl hcy hc
 refine .yrE c (by show 1 ≤ c ∧ c ≤ 6; omega) [] [] F.ro (chg_none F hF b w ns ‹_› ‹_› ‹_› ‹_› ‹_›) ?_ ?_
 · refine cZ Tryz.func89 ?_
   repeat' (conv => whnf); first | (intro h; try exact nZ) | apply And.intro | refine sZ ?_ | (refine CallA.gM [0, 1, 2] (hcl) ?_) | fail
   all_goals try exact rZ
   all_goals (conv => whnf); exact endE1 [] (.tup [Sv [], I c]) [.dead, Di F.xs, Dh F.hs]
 · refine cZ Tryz.func84 ?_
   repeat' (conv => whnf); first | (intro h; try exact nZ) | apply And.intro | refine sZ ?_ | refine CallA.gM [] (hcy) ?_ | fail
   all_goals try exact rZ
   all_goals (conv => whnf); exact endE1 [] (.tup [F.ro, Sv [], I c]) []
end
end Go.Proofs.YtglbamncajileaaGreatDoor
