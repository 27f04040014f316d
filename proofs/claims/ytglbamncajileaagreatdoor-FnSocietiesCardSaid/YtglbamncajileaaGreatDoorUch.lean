/-
  Commands that change the society, by the program and by the reference: the rate, the fund, the table. No conditions but those in the statements.
-/
import Derived.Test.YtglbamncajileaaGreatDoorUst
import Derived.Test.YtglbamncajileaaGreatDoorUtx
set_option linter.unusedVariables false
set_option linter.unusedSimpArgs false
set_option maxRecDepth 100000
set_option maxHeartbeats 2000000
namespace Go.Proofs.YtglbamncajileaaGreatDoor
open Go.AE Go.Lib
attribute [local irreducible] CallA LoopA DrawA CallQ arithK quoK remK eqK
attribute [local irreducible] okF okT
theorem valid_yes (F : Fu) (hF : F.lax) (h : okF F.f F.ls F.r F.hs ∧ okD F.d) : Ca 116 [F.ro] [] (fun v J => v = .tup [F.ro, I 0] ∧ J = []) := by
 refine cZ Tryz.func116 ?_
 have hs := specSoc_ret F.f F.ls F.r F.hs F.d hF.nb hF.hb
 rw [decide_eq_true h] at hs
 repeat' (conv => whnf); first | (intro h; try exact nZ) | apply And.intro | refine sZ ?_ | refine Ret.uB (hs) ?_ | fail
 all_goals try exact rZ
 all_goals (conv => whnf); exact endE1 [] (.tup [F.ro, I 0]) []
theorem valid_no (F : Fu) (hF : F.lax) (h : ¬ (okF F.f F.ls F.r F.hs ∧ okD F.d)) : Ca 116 [F.ro] [] (fun v J => v = .tup [SocZ, I 1] ∧ J = []) := by
 refine cZ Tryz.func116 ?_
 have hs := specSoc_ret F.f F.ls F.r F.hs F.d hF.nb hF.hb
 rw [decide_eq_false h] at hs
 repeat' (conv => whnf); first | (intro h; try exact nZ) | apply And.intro | refine sZ ?_ | refine Ret.uB (hs) ?_ | fail
 all_goals try exact rZ
 all_goals (conv => whnf); exact endE1 [] (.tup [SocZ, I 1]) []
theorem rate_step (F : Fu) (hF : F.ok) (b w : ByteArray) (hb : b = w_rate) (ns : List Int) (hl : ns.length = 1) : Step F b w ns := by
 obtain ⟨n1, n2, n3, n4, n5, n6, n7, n8, n9, n10, n11, n12, n13, n14, n15⟩ := only_rate hb
 have hfit := hF.fit
 obtain ⟨F', he⟩ : ∃ F' : Fu, F' = { F with r := ns.getD (Int.toNat 0) 0 } := ⟨_, rfl⟩
 have hL : F'.lax := by subst he; exact ⟨hF.fit, hF.big, by have := hF.hb; show F.hs.length ≤ _; omega, hF.row⟩
 by_cases hv : okF F'.f F'.ls F'.r F'.hs ∧ okD F'.d
 · have hs := implSoc_ret F'.f F'.ls F'.r F'.hs F'.d hL.nb hL.hb
   rw [decide_eq_true hv] at hs
   have hsv := valid_yes F' hL hv
   subst he
   refine .chg { F with r := ns.getD (Int.toNat 0) 0 } ⟨hF.fit, hF.big, hv.1, hv.2, hF.row⟩ ?_ ?_
   · refine cZ Tryz.func88 ?_
     repeat' (conv => whnf); first | (intro h; try exact nZ) | apply And.intro | refine sZ ?_ | refine Ret.uB (hs) ?_ | fail
     all_goals try exact rZ
     all_goals (conv => whnf); exact endE1 [some 1, some 2] (.tup [I 0, Bo true]) [.cells (Fu.cells { F with r := ns.getD (Int.toNat 0) 0 } 3 4), .dead, .dead, Di F.xs, Dh F.hs]
   · refine cZ Tryz.func84 ?_
     repeat' (conv => whnf); first | (intro h; try exact nZ) | apply And.intro | refine sZ ?_ | refine gZ [] (hsv) ?_ | fail
     all_goals try exact rZ
     all_goals (conv => whnf); exact endE1 [] (.tup [Fu.ro { F with r := ns.getD (Int.toNat 0) 0 }, Sv [111, 107], I 0]) []
 · have hs := implSoc_ret F'.f F'.ls F'.r F'.hs F'.d hL.nb hL.hb
   rw [decide_eq_false hv] at hs
   have hsv := valid_no F' hL hv
   subst he
   refine .chgE 1 ⟨by omega, by omega⟩ [111, 107] SocZ ?_ ?_
   · refine cZ Tryz.func88 ?_
     repeat' (conv => whnf); first | (intro h; try exact nZ) | apply And.intro | refine sZ ?_ | refine Ret.uB (hs) ?_ | fail
     all_goals try exact rZ
     all_goals (conv => whnf); exact endE1 [] (.tup [I 1, Bo true]) [.dead, Di F.xs, Dh F.hs]
   · refine cZ Tryz.func84 ?_
     repeat' (conv => whnf); first | (intro h; try exact nZ) | apply And.intro | refine sZ ?_ | refine gZ [] (hsv) ?_ | fail
     all_goals try exact rZ
     all_goals (conv => whnf); exact endE1 [] (.tup [SocZ, Sv [111, 107], I 1]) []
theorem fund_step (F : Fu) (hF : F.ok) (b w : ByteArray) (hb : b = w_fund) (ns : List Int) (hl : ns.length = 1) : Step F b w ns := by
 obtain ⟨n1, n2, n3, n4, n5, n6, n7, n8, n9, n10, n11, n12, n13, n14, n15⟩ := only_fund hb
 have hfit := hF.fit
 obtain ⟨F', he⟩ : ∃ F' : Fu, F' = { F with d := ns.getD (Int.toNat 0) 0 } := ⟨_, rfl⟩
 have hL : F'.lax := by subst he; exact ⟨hF.fit, hF.big, by have := hF.hb; show F.hs.length ≤ _; omega, hF.row⟩
 by_cases hv : okF F'.f F'.ls F'.r F'.hs ∧ okD F'.d
 · have hs := implSoc_ret F'.f F'.ls F'.r F'.hs F'.d hL.nb hL.hb
   rw [decide_eq_true hv] at hs
   have hsv := valid_yes F' hL hv
   subst he
   refine .chg { F with d := ns.getD (Int.toNat 0) 0 } ⟨hF.fit, hF.big, hv.1, hv.2, hF.row⟩ ?_ ?_
   · refine cZ Tryz.func88 ?_
     repeat' (conv => whnf); first | (intro h; try exact nZ) | apply And.intro | refine sZ ?_ | refine Ret.uB (hs) ?_ | fail
     all_goals try exact rZ
     all_goals (conv => whnf); exact endE1 [some 1, some 2] (.tup [I 0, Bo true]) [.cells (Fu.cells { F with d := ns.getD (Int.toNat 0) 0 } 3 4), .dead, .dead, Di F.xs, Dh F.hs]
   · refine cZ Tryz.func84 ?_
     repeat' (conv => whnf); first | (intro h; try exact nZ) | apply And.intro | refine sZ ?_ | refine gZ [] (hsv) ?_ | fail
     all_goals try exact rZ
     all_goals (conv => whnf); exact endE1 [] (.tup [Fu.ro { F with d := ns.getD (Int.toNat 0) 0 }, Sv [111, 107], I 0]) []
 · have hs := implSoc_ret F'.f F'.ls F'.r F'.hs F'.d hL.nb hL.hb
   rw [decide_eq_false hv] at hs
   have hsv := valid_no F' hL hv
   subst he
   refine .chgE 1 ⟨by omega, by omega⟩ [111, 107] SocZ ?_ ?_
   · refine cZ Tryz.func88 ?_
     repeat' (conv => whnf); first | (intro h; try exact nZ) | apply And.intro | refine sZ ?_ | refine Ret.uB (hs) ?_ | fail
     all_goals try exact rZ
     all_goals (conv => whnf); exact endE1 [] (.tup [I 1, Bo true]) [.dead, Di F.xs, Dh F.hs]
   · refine cZ Tryz.func84 ?_
     repeat' (conv => whnf); first | (intro h; try exact nZ) | apply And.intro | refine sZ ?_ | refine gZ [] (hsv) ?_ | fail
     all_goals try exact rZ
     all_goals (conv => whnf); exact endE1 [] (.tup [SocZ, Sv [111, 107], I 1]) []
theorem table_no (F : Fu) (hF : F.ok) (b w : ByteArray) (hb : b = w_table) (ns : List Int) (h2 : 2 ≤ ns.length) (hm : ns.length ≤ 1000) (hs : ∀ x ∈ ns, sm x) (ho : ¬ okT (ns.getD 0 0) (tlN ns)) : Step F b w ns := by
 obtain ⟨n1, n2, n3, n4, n5, n6, n7, n8, n9, n10, n11, n12, n13, n14, n15⟩ := only_table hb
 have hfit := hF.fit
 have hj := joined_ret ns (by omega) (fun x hx => by have := hs x hx; unfold sm at this; unfold okI; omega)
 have hk := l01Join_ret ns [32] (by omega) (fun x hx => by have := hs x hx; unfold sm at this; unfold okI; omega) (by decide)
 have hr := implRT_no ns h2 hm hs ho
 have hq := specRT_no ns h2 hm hs ho
 refine .chgE 6 ⟨by omega, by omega⟩ [] F.ro ?_ ?_
 · refine cZ Tryz.func88 ?_
   repeat' (conv => whnf); first | (intro h; try exact nZ) | apply And.intro | refine sZ ?_ | refine Ret.uA (hj) ?_ | refine CallA.gM [] (hr) ?_ | fail
   all_goals try exact rZ
   all_goals (conv => whnf); exact endE1 [] (.tup [I 6, Bo true]) [.dead, Di F.xs, Dh F.hs]
 · refine cZ Tryz.func84 ?_
   repeat' (conv => whnf); first | (intro h; try exact nZ) | apply And.intro | refine sZ ?_ | refine Ret.uA (hk) ?_ | refine CallA.gM [] (hq) ?_ | fail
   all_goals try exact rZ
   all_goals (conv => whnf); exact endE1 [] (.tup [F.ro, Sv [], I 6]) []
theorem table_yes (F : Fu) (hF : F.ok) (b w : ByteArray) (hb : b = w_table) (ns : List Int) (h2 : 2 ≤ ns.length) (hm : ns.length ≤ 1000) (hs : ∀ x ∈ ns, sm x) (ho : okT (ns.getD 0 0) (tlN ns)) : Step F b w ns := by
 obtain ⟨n1, n2, n3, n4, n5, n6, n7, n8, n9, n10, n11, n12, n13, n14, n15⟩ := only_table hb
 have hfit := hF.fit
 have hj := joined_ret ns (by omega) (fun x hx => by have := hs x hx; unfold sm at this; unfold okI; omega)
 have hk := l01Join_ret ns [32] (by omega) (fun x hx => by have := hs x hx; unfold sm at this; unfold okI; omega) (by decide)
 have hr := implRT_yes ns h2 hm hs ho
 have hq := specRT_yes ns h2 hm hs ho
 have hfit2 : 1 + (ns.length - 1) ≤ (D.ints .i64 ns).len := by show 1 + (ns.length - 1) ≤ ns.length; omega
 obtain ⟨F', he⟩ : ∃ F' : Fu, F' = { F with f := ns.getD 0 0, xs := ns, lo := 1, n := ns.length - 1 } := ⟨_, rfl⟩
 have hL : F'.lax := by subst he; exact ⟨(by show 1 + (ns.length - 1) ≤ ns.length; omega), (by show ns.length ≤ 1001; omega), (by have := hF.hb; show F.hs.length ≤ _; omega), hF.row⟩
 by_cases hv : okF F'.f F'.ls F'.r F'.hs ∧ okD F'.d
 · have hs := implSoc_ret F'.f F'.ls F'.r F'.hs F'.d hL.nb hL.hb
   rw [decide_eq_true hv] at hs
   have hsv := valid_yes F' hL hv
   subst he
   refine .chg { F with f := ns.getD 0 0, xs := ns, lo := 1, n := ns.length - 1 } ⟨hL.fit, hL.big, hv.1, hv.2, hL.row⟩ ?_ ?_
   · refine cZ Tryz.func88 ?_
     repeat' (conv => whnf); first | (intro h; try exact nZ) | apply And.intro | refine sZ ?_ | refine Ret.uA (hj) ?_ | refine CallA.gM [] (hr) ?_ | refine Ret.uB (hs) ?_ | fail
     all_goals try exact rZ
     all_goals (conv => whnf); exact endE1 [some 4, some 2] (.tup [I 0, Bo true]) [.cells (Fu.cells { F with f := ns.getD 0 0, xs := ns, lo := 1, n := ns.length - 1 } 3 4), .dead, .dead, Di ns, Dh F.hs]
   · refine cZ Tryz.func84 ?_
     repeat' (conv => whnf); first | (intro h; try exact nZ) | apply And.intro | refine sZ ?_ | refine Ret.uA (hk) ?_ | refine gZ [] (hq) ?_ | refine gZ [] (hsv) ?_ | fail
     all_goals try exact rZ
     all_goals (conv => whnf); exact endE1 [] (.tup [Fu.ro { F with f := ns.getD 0 0, xs := ns, lo := 1, n := ns.length - 1 }, Sv [111, 107], I 0]) []
 · have hs := implSoc_ret F'.f F'.ls F'.r F'.hs F'.d hL.nb hL.hb
   rw [decide_eq_false hv] at hs
   have hsv := valid_no F' hL hv
   subst he
   refine .chgE 1 ⟨by omega, by omega⟩ [111, 107] SocZ ?_ ?_
   · refine cZ Tryz.func88 ?_
     repeat' (conv => whnf); first | (intro h; try exact nZ) | apply And.intro | refine sZ ?_ | refine Ret.uA (hj) ?_ | refine CallA.gM [] (hr) ?_ | refine Ret.uB (hs) ?_ | fail
     all_goals try exact rZ
     all_goals (conv => whnf); exact endE1 [] (.tup [I 1, Bo true]) [.dead, Di F.xs, Dh F.hs]
   · refine cZ Tryz.func84 ?_
     repeat' (conv => whnf); first | (intro h; try exact nZ) | apply And.intro | refine sZ ?_ | refine Ret.uA (hk) ?_ | refine gZ [] (hq) ?_ | refine gZ [] (hsv) ?_ | fail
     all_goals try exact rZ
     all_goals (conv => whnf); exact endE1 [] (.tup [SocZ, Sv [111, 107], I 1]) []
end Go.Proofs.YtglbamncajileaaGreatDoor
