/-
  A holding is given up, by the program and by the reference. No conditions but those in the statements.
-/
import Derived.Test.YtglbamncajileaaGreatDoorUhb
set_option linter.unusedVariables false
set_option linter.unusedSimpArgs false
set_option maxRecDepth 100000
set_option maxHeartbeats 16000000
namespace Go.Proofs.YtglbamncajileaaGreatDoor
open Go.AE Go.Lib
attribute [local irreducible] CallA LoopA DrawA CallQ arithK quoK remK eqK
attribute [local irreducible] okF okT
theorem drop_no (F : Fu) (hF : F.ok) (b w : ByteArray) (hb : b = w_drop) (ns : List Int) (hl : ns.length = 1) (hr : ¬ (0 ≤ ns.getD (Int.toNat 0) 0 ∧ ns.getD (Int.toNat 0) 0 ≤ (F.hs.length : Int) - 1)) : Step F b w ns := by
 obtain ⟨n1, n2, n3, n4, n5, n6, n7, n8, n9, n10, n11, n12, n13, n14, n15⟩ := only_drop hb
 have hfit := hF.fit
 have h30 := hF.hb
 have hln := lenH_ret F.hs
 have hi := inRange_ret (ns.getD (Int.toNat 0) 0) 0 ((F.hs.length : Int) - 1)
 have hs := l01In_ret (ns.getD (Int.toNat 0) 0) 0 ((F.hs.length : Int) - 1)
 rw [decide_eq_false hr] at hi hs
 refine .chgE 2 ⟨by omega, by omega⟩ [] F.ro ?_ ?_
 · refine cZ Tryz.func88 ?_
   repeat' (conv => whnf); first | (intro h; try exact nZ) | apply And.intro | refine sZ ?_ | refine Ret.uA (hln) ?_ | refine Ret.uB (hi) ?_ | fail
   all_goals try exact rZ
   all_goals (conv => whnf); exact endE1 [] (.tup [I 2, Bo true]) [.dead, Di F.xs, Dh F.hs]
 · refine cZ Tryz.func84 ?_
   repeat' (conv => whnf); first | (intro h; try exact nZ) | apply And.intro | refine sZ ?_ | refine Ret.uB (hs) ?_ | fail
   all_goals try exact rZ
   all_goals (conv => whnf); exact endE1 [] (.tup [F.ro, Sv [], I 2]) []
theorem okF_erase {f : Int} {ls : List Int} {r : Int} {hs : List (List Int)} (h : okF f ls r hs) (i : Nat) : okF f ls r (hs.eraseIdx i) := by
 unfold okF at h ⊢
 refine ⟨h.1, Nat.le_trans (List.length_eraseIdx_le ..) h.2.1, fun x hx => h.2.2 x (List.mem_of_mem_eraseIdx hx)⟩
theorem drop_i (F : Fu) (hF : F.ok) (b w : ByteArray) (hb : b = w_drop) (ns : List Int) (hl : ns.length = 1) (i : Nat) (hr : i < F.hs.length) (hn : ns.getD (Int.toNat 0) 0 = (i : Int)) (L : List (List Int)) (hL : F.hs.eraseIdx i = L) (hLl : F.hs.length - 1 = L.length)
   (hs : Rt 28 [Soc F.f (Ri F.ls) F.r (Rh L) F.d] (Bo true)) : ChgOk F { F with hs := L } b w ns := by
 obtain ⟨n1, n2, n3, n4, n5, n6, n7, n8, n9, n10, n11, n12, n13, n14, n15⟩ := only_drop hb
 have hfit := hF.fit
 have h30 := hF.hb
 have hln := lenH_ret F.hs
 have hi := inRange_ret (ns.getD (Int.toNat 0) 0) 0 ((F.hs.length : Int) - 1)
 rw [decide_eq_true (show 0 ≤ ns.getD (Int.toNat 0) 0 ∧ ns.getD (Int.toNat 0) 0 ≤ (F.hs.length : Int) - 1 by omega)] at hi
 have hcl := cloneH_call F.hs (by omega)
 have hdl := delete_call F.hs i hr
 rw [← hn, hL] at hdl
 refine cZ Tryz.func88 ?_
 repeat' (conv => whnf); first | (intro h; try exact nZ) | apply And.intro | refine sZ ?_ | refine Ret.uA (hln) ?_ | refine Ret.uB (hi) ?_ | refine CallA.gM [] (hcl) ?_ | refine CallA.gM [4] (hdl) ?_ | refine Ret.uB (hs) ?_ | fail
 all_goals try exact rZ
 all_goals ((conv => whnf); first | (refine ⟨[some 1, some 4], .tup [I 0, Bo true], [.cells (Fu.cells { F with hs := L } 3 4), .dead, .dead, Di F.xs, Dh L], ?_, ?_, ?_⟩; (repeat' first | apply And.intro | exact xZ | first | exact hLl | fail); done))
abbrev dropE (hs : List (List Int)) (n : Int) : List (List Int) := [] ++ (hs.drop 0).take (n.toNat - 0) ++ (hs.drop (n + 1).toNat).take (hs.length - (n + 1).toNat)
theorem dropE_eq {hs : List (List Int)} {n : Int} {i : Nat} (hr : i < hs.length) (hn : n = (i : Int)) : dropE hs n = hs.eraseIdx i := by
 have e1 : (n + 1).toNat = i + 1 := by omega
 have e2 : n.toNat - 0 = i := by omega
 have e3 : (hs.drop (i + 1)).take (hs.length - (i + 1)) = hs.drop (i + 1) := List.take_of_length_le (by rw [List.length_drop]; exact Nat.le_refl _)
 unfold dropE
 rw [e1, e2, e3, List.drop_zero, List.nil_append, List.eraseIdx_eq_take_drop_succ]
theorem drop_s (F : Fu) (hF : F.ok) (b w : ByteArray) (hb : b = w_drop) (ns : List Int) (hl : ns.length = 1) (i : Nat) (hr : i < F.hs.length) (hn : ns.getD (Int.toNat 0) 0 = (i : Int)) (L : List (List Int)) (hE1 : D.recs 7 (dropE F.hs (ns.getD (Int.toNat 0) 0)) = D.recs 7 L) (hE2 : (dropE F.hs (ns.getD (Int.toNat 0) 0)).length = L.length)
   (hv : Ca 116 [Fu.own { F with hs := L } 0] [Dh L] (fun v J => v = .tup [Fu.own { F with hs := L } 0, I 0] ∧ J = [Dh L])) : SChg F b w ns (Fu.ro { F with hs := L }) [111, 107] 0 := by
 obtain ⟨n1, n2, n3, n4, n5, n6, n7, n8, n9, n10, n11, n12, n13, n14, n15⟩ := only_drop hb
 have h30 := hF.hb
 have hs := l01In_ret (ns.getD (Int.toNat 0) 0) 0 ((F.hs.length : Int) - 1)
 rw [decide_eq_true (show 0 ≤ ns.getD (Int.toNat 0) 0 ∧ ns.getD (Int.toNat 0) 0 ≤ (F.hs.length : Int) - 1 by omega)] at hs
 refine own_frozen (F' := { F with hs := L }) (CallA.ends (callA_of_body hT Tryz.func84 rfl ?_))
 repeat' (conv => whnf); first | (intro h; try exact nZ) | apply And.intro | refine sZ ?_ | refine Ret.uB (hs) ?_ | refine gZ [4] (hv) ?_ | fail
 all_goals first | exact rZ | (show (_ : Nat) ≤ _; simp; omega) | skip
 all_goals ((conv => whnf); first | (refine ⟨[some 4], .tup [Fu.own { F with hs := L } 0, Sv [111, 107], I 0], [Dh L], ?_, ?_, ?_⟩; (repeat' first | apply And.intro | exact xZ | first | exact hE1 | exact hE2 | fail); done))
theorem drop_step (F : Fu) (hF : F.ok) (b w : ByteArray) (hb : b = w_drop) (ns : List Int) (hl : ns.length = 1) : Step F b w ns := by
 by_cases hr : 0 ≤ ns.getD (Int.toNat 0) 0 ∧ ns.getD (Int.toNat 0) 0 ≤ (F.hs.length : Int) - 1
 · obtain ⟨i, hi⟩ : ∃ i : Nat, ns.getD (Int.toNat 0) 0 = (i : Int) := ⟨(ns.getD (Int.toNat 0) 0).toNat, by omega⟩
   have hil : i < F.hs.length := by omega
   have hL : Fu.lax { F with hs := F.hs.eraseIdx i } := ⟨hF.fit, hF.big, Nat.le_trans (List.length_eraseIdx_le ..) (by have := hF.hb; omega), fun h hh => hF.row h (List.mem_of_mem_eraseIdx hh)⟩
   have hv : okF F.f F.ls F.r (F.hs.eraseIdx i) ∧ okD F.d := ⟨okF_erase hF.pf i, hF.fd⟩
   have hs := implSoc_ret F.f F.ls F.r (F.hs.eraseIdx i) F.d hF.nb hL.hb
   rw [decide_eq_true hv] at hs
   have hE := dropE_eq hil hi
   exact .chg { F with hs := F.hs.eraseIdx i } ⟨hF.fit, hF.big, hv.1, hv.2, hL.row⟩ (drop_i F hF b w hb ns hl i hil hi _ rfl (by rw [List.length_eraseIdx, if_pos hil]) hs) (drop_s F hF b w hb ns hl i hil hi _ (by rw [hE]) (by rw [hE]) (valid_own { F with hs := F.hs.eraseIdx i } hL hv))
 · exact drop_no F hF b w hb ns hl hr
end Go.Proofs.YtglbamncajileaaGreatDoor
