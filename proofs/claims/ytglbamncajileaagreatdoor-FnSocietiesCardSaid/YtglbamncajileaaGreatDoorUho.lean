/-
  A new holding, by the program and by the reference. No conditions but those in the statements.
-/
import Derived.Test.YtglbamncajileaaGreatDoorUhb
set_option linter.unusedVariables false
set_option linter.unusedSimpArgs false
set_option maxRecDepth 100000
set_option maxHeartbeats 16000000
namespace Go.Proofs.YtglbamncajileaaGreatDoor
open Go.AE Go.Lib
attribute [local irreducible] CallA LoopA DrawA CallQ arithK quoK remK eqK
attribute [local irreducible] okF okT
abbrev rowP (ys : List Int) (c : Int) : List Int := [ys.getD 0 0, ys.getD 1 0, ys.getD 2 0, ys.getD 3 0, ys.getD 4 0, 0, c]
theorem hold_no (F : Fu) (hF : F.ok) (b : ByteArray) (w : List UInt8) (hw : w.length ≤ 1048576) (hb : b = w_hold) (ns : List Int) (hp : ∀ ys, ¬ PAcc w ys) : Step F b (B w) ns := by
 obtain ⟨n1, n2, n3, n4, n5, n6, n7, n8, n9, n10, n11, n12, n13, n14, n15⟩ := only_hold hb
 have hfit := hF.fit
 have hi := implRP_ret w hw [0, 0, 0, 0, 0] false (.inr ⟨hp, rfl, rfl⟩)
 have hs := specRP_ret w hw [0, 0, 0, 0, 0] false (.inr ⟨hp, rfl, rfl⟩)
 refine .chgE 6 ⟨by omega, by omega⟩ [] F.ro ?_ ?_
 · refine cZ Tryz.func88 ?_
   repeat' (conv => whnf); first | (intro h; try exact nZ) | apply And.intro | refine sZ ?_ | refine Ret.uA (hi) ?_ | fail
   all_goals try exact rZ
   all_goals (conv => whnf); exact endE1 [] (.tup [I 6, Bo true]) [.dead, Di F.xs, Dh F.hs]
 · refine cZ Tryz.func84 ?_
   repeat' (conv => whnf); first | (intro h; try exact nZ) | apply And.intro | refine sZ ?_ | refine Ret.uA (hs) ?_ | fail
   all_goals try exact rZ
   all_goals (conv => whnf); exact endE1 [] (.tup [F.ro, Sv [], I 6]) []
theorem hold_i1 (F : Fu) (hF : F.ok) (b : ByteArray) (w : List UInt8) (hw : w.length ≤ 1048576) (hb : b = w_hold) (ns : List Int) (hl : ns.length = 1) (ys : List Int) (hp : PAcc w ys) (L : List (List Int)) (hE1 : D.recs 7 (F.hs ++ [rowP ys (ns.getD (Int.toNat 0) 0)]) = D.recs 7 L)
   (hE2 : (F.hs ++ [rowP ys (ns.getD (Int.toNat 0) 0)]).length = L.length) (hs : Rt 28 [Soc F.f (Ri F.ls) F.r (Rh L) F.d] (Bo true)) : ChgOk F { F with hs := L } b (B w) ns := by
 obtain ⟨n1, n2, n3, n4, n5, n6, n7, n8, n9, n10, n11, n12, n13, n14, n15⟩ := only_hold hb
 have hfit := hF.fit
 have h30 := hF.hb
 have hi := implRP_ret w hw ys true (.inl ⟨hp, rfl⟩)
 have hcl := cloneH_call F.hs (by omega)
 refine cZ Tryz.func88 ?_
 repeat' (conv => whnf); first | (intro h; try exact nZ) | apply And.intro | refine sZ ?_ | refine Ret.uA (hi) ?_ | refine CallA.gM [] (hcl) ?_ | refine Ret.uB (hs) ?_ | fail
 all_goals first | exact rZ | (show (_ : Nat) ≤ _; simp; omega) | skip
 all_goals ((conv => whnf); first | (refine ⟨[some 1, some 7], .tup [I 0, Bo true], [.cells (Fu.cells { F with hs := L } 3 4), .dead, .dead, Di F.xs, Dh L], ?_, ?_, ?_⟩; (repeat' first | apply And.intro | exact xZ | first | exact hE1 | exact hE2 | fail); done))
theorem hold_i0 (F : Fu) (hF : F.ok) (b : ByteArray) (w : List UInt8) (hw : w.length ≤ 1048576) (hb : b = w_hold) (ns : List Int) (hl : ns.length = 1) (ys : List Int) (hp : PAcc w ys) (L : List (List Int)) (hE1 : D.recs 7 (F.hs ++ [rowP ys (ns.getD (Int.toNat 0) 0)]) = D.recs 7 L)
   (hE2 : (F.hs ++ [rowP ys (ns.getD (Int.toNat 0) 0)]).length = L.length) (hs : Rt 28 [Soc F.f (Ri F.ls) F.r (Rh L) F.d] (Bo false)) : ChgEr F 1 b (B w) ns := by
 obtain ⟨n1, n2, n3, n4, n5, n6, n7, n8, n9, n10, n11, n12, n13, n14, n15⟩ := only_hold hb
 have hfit := hF.fit
 have h30 := hF.hb
 have hi := implRP_ret w hw ys true (.inl ⟨hp, rfl⟩)
 have hcl := cloneH_call F.hs (by omega)
 refine cZ Tryz.func88 ?_
 repeat' (conv => whnf); first | (intro h; try exact nZ) | apply And.intro | refine sZ ?_ | refine Ret.uA (hi) ?_ | refine CallA.gM [] (hcl) ?_ | refine Ret.uB (hs) ?_ | fail
 all_goals first | exact rZ | (show (_ : Nat) ≤ _; simp; omega) | skip
 all_goals (conv => whnf); exact endE1 [] (.tup [I 1, Bo true]) [.dead, Di F.xs, Dh F.hs]
theorem hold_s1 (F : Fu) (hF : F.ok) (b : ByteArray) (w : List UInt8) (hw : w.length ≤ 1048576) (hb : b = w_hold) (ns : List Int) (hl : ns.length = 1) (ys : List Int) (hp : PAcc w ys) (L : List (List Int)) (hE1 : D.recs 7 (F.hs ++ [rowP ys (ns.getD (Int.toNat 0) 0)]) = D.recs 7 L)
   (hE2 : (F.hs ++ [rowP ys (ns.getD (Int.toNat 0) 0)]).length = L.length) (hs : Ca 116 [Fu.own { F with hs := L } 0] [Dh L] (fun v J => v = .tup [Fu.own { F with hs := L } 0, I 0] ∧ J = [Dh L])) : SChg F b (B w) ns (Fu.ro { F with hs := L }) [111, 107] 0 := by
 obtain ⟨n1, n2, n3, n4, n5, n6, n7, n8, n9, n10, n11, n12, n13, n14, n15⟩ := only_hold hb
 have h30 := hF.hb
 have hsp := specRP_ret w hw ys true (.inl ⟨hp, rfl⟩)
 refine own_frozen (F' := { F with hs := L }) (CallA.ends (callA_of_body hT Tryz.func84 rfl ?_))
 repeat' (conv => whnf); first | (intro h; try exact nZ) | apply And.intro | refine sZ ?_ | refine Ret.uA (hsp) ?_ | refine gZ [6] (hs) ?_ | fail
 all_goals first | exact rZ | (show (_ : Nat) ≤ _; simp; omega) | skip
 all_goals ((conv => whnf); first | (refine ⟨[some 6], .tup [Fu.own { F with hs := L } 0, Sv [111, 107], I 0], [Dh L], ?_, ?_, ?_⟩; (repeat' first | apply And.intro | exact xZ | first | exact hE1 | exact hE2 | fail); done))
theorem hold_s0 (F : Fu) (hF : F.ok) (b : ByteArray) (w : List UInt8) (hw : w.length ≤ 1048576) (hb : b = w_hold) (ns : List Int) (hl : ns.length = 1) (ys : List Int) (hp : PAcc w ys) (L : List (List Int)) (hE1 : D.recs 7 (F.hs ++ [rowP ys (ns.getD (Int.toNat 0) 0)]) = D.recs 7 L)
   (hE2 : (F.hs ++ [rowP ys (ns.getD (Int.toNat 0) 0)]).length = L.length) (hs : Ca 116 [Fu.own { F with hs := L } 0] [Dh L] (fun v J => v = .tup [SocZ, I 1] ∧ J = [.dead])) : SChg F b (B w) ns SocZ [111, 107] 1 := by
 obtain ⟨n1, n2, n3, n4, n5, n6, n7, n8, n9, n10, n11, n12, n13, n14, n15⟩ := only_hold hb
 have h30 := hF.hb
 have hsp := specRP_ret w hw ys true (.inl ⟨hp, rfl⟩)
 refine cZ Tryz.func84 ?_
 repeat' (conv => whnf); first | (intro h; try exact nZ) | apply And.intro | refine sZ ?_ | refine Ret.uA (hsp) ?_ | refine gZ [6] (hs) ?_ | fail
 all_goals first | exact rZ | (show (_ : Nat) ≤ _; simp; omega) | skip
 all_goals (conv => whnf); exact endE1 [] (.tup [SocZ, Sv [111, 107], I 1]) []
theorem hold_yes (F : Fu) (hF : F.ok) (b : ByteArray) (w : List UInt8) (hw : w.length ≤ 1048576) (hb : b = w_hold) (ns : List Int) (hl : ns.length = 1) (ys : List Int) (hp : PAcc w ys) : Step F b (B w) ns := by
 have h30 := hF.hb
 obtain ⟨L, hLe⟩ : ∃ L, L = F.hs ++ [rowP ys (ns.getD (Int.toNat 0) 0)] := ⟨_, rfl⟩
 have hE1 : D.recs 7 (F.hs ++ [rowP ys (ns.getD (Int.toNat 0) 0)]) = D.recs 7 L := by rw [hLe]
 have hE2 : (F.hs ++ [rowP ys (ns.getD (Int.toNat 0) 0)]).length = L.length := by rw [hLe]
 have hL : Fu.lax { F with hs := L } := by
   refine ⟨hF.fit, hF.big, (by show L.length ≤ _; rw [hLe]; simp; omega), fun h hh => ?_⟩
   have hh : h ∈ F.hs ++ [rowP ys (ns.getD (Int.toNat 0) 0)] := hLe ▸ hh
   rcases List.mem_append.1 hh with hh | hh
   · exact hF.row h hh
   · obtain rfl := List.mem_singleton.1 hh
     rfl
 have hs := implSoc_ret F.f F.ls F.r L F.d hF.nb hL.hb
 by_cases hv : okF F.f F.ls F.r L ∧ okD F.d
 · rw [decide_eq_true hv] at hs
   exact .chg { F with hs := L } ⟨hF.fit, hF.big, hv.1, hv.2, hL.row⟩ (hold_i1 F hF b w hw hb ns hl ys hp L hE1 hE2 hs) (hold_s1 F hF b w hw hb ns hl ys hp L hE1 hE2 (valid_own { F with hs := L } hL hv))
 · rw [decide_eq_false hv] at hs
   exact .chgE 1 ⟨by omega, by omega⟩ [111, 107] SocZ (hold_i0 F hF b w hw hb ns hl ys hp L hE1 hE2 hs) (hold_s0 F hF b w hw hb ns hl ys hp L hE1 hE2 (valid_ownN { F with hs := L } hL hv))
end Go.Proofs.YtglbamncajileaaGreatDoor
