/-
  Queries of the console with two numbers, by the program and by the reference: premiums, quote, leave. No conditions but those in the statements.
-/
import Derived.Test.YtglbamncajileaaGreatDoorUtq
import Derived.Test.YtglbamncajileaaGreatDoorUhb
set_option linter.unusedVariables false
set_option linter.unusedSimpArgs false
set_option maxRecDepth 100000
set_option maxHeartbeats 2000000
namespace Go.Proofs.YtglbamncajileaaGreatDoor
open Go.AE Go.Lib
attribute [local irreducible] CallA LoopA DrawA CallQ arithK quoK remK eqK
attribute [local irreducible] okF okT cN cM cD cC tot nets loads
theorem okF_H {f : Int} {ls : List Int} {r : Int} {hs : List (List Int)} (h : okF f ls r hs) {x : List Int} (hx : x ∈ hs) : okH f ls r x := by
 unfold okF at h
 exact h.2.2 x hx
theorem jb2_len {x y : Int} (hx : okI x) (hy : okI y) : (jb [x, y]).length ≤ 60 := by
 have h := jn_len (s := [32]) (xs := [x, y]) (fun z hz => by
   rcases List.mem_cons.1 hz with rfl | hz
   · exact hx
   · obtain rfl := List.mem_singleton.1 hz
     exact hy) (by decide) 2 (Nat.le_refl _)
 have e := jn_all [x, y] [32]
 rw [show [x, y].length = 2 from rfl] at e
 rw [e] at h
 show (join ([x, y].map itoa) [32]).length ≤ 60
 omega
theorem premiums_step (F : Fu) (hF : F.ok) (b w : ByteArray) (hb : b = w_premiums) (ns : List Int) : Step F b w ns := by
 obtain ⟨n1, n2, n3, n4, n5, n6, n7, n8, n9, n10, n11, n12, n13, n14, n15⟩ := only_premiums hb
 have hfit := hF.fit
 have h30 := hF.hb
 have h1 := implPrem_ret F.f F.ls F.r F.hs hF.pf
 have h2 := specPrem_ret F.f F.ls F.r F.hs hF.nb hF.pf
 have b1 := sumH_bd (okG_net hF.pf) F.hs.length (Nat.le_refl _)
 have b2 := sumH_bd (okG_load hF.pf) F.hs.length (Nat.le_refl _)
 have hx : okI (nets F.f F.ls F.r F.hs) := by unfold okI nets; omega
 have hy : okI (loads F.f F.ls F.r F.hs) := by unfold okI loads; omega
 have hp := implPortfolio_ret F.f F.ls F.r F.hs hF.nb (by omega)
 rw [decide_eq_true hF.pf] at hp
 have hP : Rt 143 [Bs F.f F.ls F.r, Rh F.hs] (.tup [I (nets F.f F.ls F.r F.hs), I (loads F.f F.ls F.r F.hs), I 0]) := by
   refine bZ Tryz.func143 ?_
   repeat' (conv => whnf); first | (intro h; try exact nZ) | apply And.intro | refine sZ ?_ | refine Ret.uB (hp) ?_ | (refine Ret.go (h1) rfl rfl ?_) | fail
   all_goals first | exact rZ
 have hbo := both_ret _ _ 0 hx hy
 have hpa := pair_ret _ 0 _ 0 hx hy rfl
 have hlen := jb2_len hx hy
 refine step_of (t := jb [nets F.f F.ls F.r F.hs, loads F.f F.ls F.r F.hs]) (t' := jb [nets F.f F.ls F.r F.hs, loads F.f F.ls F.r F.hs]) (c := 0) (chg_none F hF b w ns ‹_› ‹_› ‹_› ‹_› ‹_›) ?_ ?_ (fun _ => ⟨rfl, by omega⟩) ⟨by omega, by omega⟩
 · refine cZ Tryz.func89 ?_
   repeat' (conv => whnf); first | (intro h; try exact nZ) | apply And.intro | refine sZ ?_ | refine Ret.uA (hP) ?_ | (refine Ret.go (hbo) rfl rfl ?_) | fail
   all_goals try exact rZ
   all_goals (conv => whnf); exact endE1 [] (.tup [Sv (jb [nets F.f F.ls F.r F.hs, loads F.f F.ls F.r F.hs]), I 0]) [.cells (F.cells 1 2), Di F.xs, Dh F.hs]
 · refine bZ Tryz.func85 ?_
   repeat' (conv => whnf); first | (intro h; try exact nZ) | apply And.intro | refine sZ ?_ | refine Ret.uA (h2) ?_ | (refine Ret.go (hpa) rfl rfl ?_) | fail
   all_goals first | exact rZ
abbrev Fu.rpc (F : Fu) : AV := .rpc [I F.f, Ri F.ls, I F.r, Rh F.hs, I F.d] 0
theorem quote_ret (F : Fu) (hF : F.ok) (w : List UInt8) (hw : w.length ≤ 1048576) : ∃ (t t' : List UInt8) (c : Int), Rt 138 [F.rpc, Sv w] (.tup [Sv t, I c]) ∧ (∀ (b : ByteArray) (ns : List Int), b ≠ w_leave → Rt 118 [F.ro, .v (.string b), Sv w, Ri ns] (.tup [Sv t', I c])) ∧ (c = 0 → t = t' ∧ t.length ≤ 100000) ∧ 0 ≤ c ∧ c ≤ 6 := by
 by_cases hp : ∃ ys, PAcc w ys
 · obtain ⟨ys, hp⟩ := hp
   have hi := implRP_ret w hw ys true (.inl ⟨hp, rfl⟩)
   have hs := specRP_ret w hw ys true (.inl ⟨hp, rfl⟩)
   obtain ⟨v1, c1, i1, s1, b1, d1⟩ := net_both F.f F.ls F.r (ys.getD 0 0) (ys.getD 1 0) (ys.getD 2 0) (ys.getD 3 0) (ys.getD 4 0) hF.nb
   obtain ⟨v2, c2, i2, s2, b2, d2⟩ := off_both F.f F.ls F.r (ys.getD 0 0) (ys.getD 1 0) (ys.getD 2 0) (ys.getD 3 0) (ys.getD 4 0) hF.nb
   have hx : okI v1 := by unfold okI; omega
   have hy : okI v2 := by unfold okI; omega
   by_cases hc : c1 = 0
   · subst hc
     have hbo := both_ret v1 v2 c2 hx hy
     have hpa := pair_ret v1 0 v2 c2 hx hy rfl
     refine ⟨jb [v1, v2], jb [v1, v2], c2, ?_, fun b ns n9 => ?_, fun _ => ⟨rfl, by have := jb2_len hx hy; omega⟩, d2⟩
     · refine bZ Tryz.func138 ?_
       repeat' (conv => whnf); first | (intro h; try exact nZ) | apply And.intro | refine sZ ?_ | refine Ret.uA (hi) ?_ | (refine Ret.go (i1) rfl rfl ?_) | (refine Ret.go (i2) rfl rfl ?_) | (refine Ret.go (hbo) rfl rfl ?_) | fail
       all_goals first | exact rZ
     · refine bZ Tryz.func118 ?_
       repeat' (conv => whnf); first | (intro h; try exact nZ) | apply And.intro | refine sZ ?_ | refine Ret.uA (hs) ?_ | (refine Ret.go (s1) rfl rfl ?_) | (refine Ret.go (s2) rfl rfl ?_) | (refine Ret.go (hpa) rfl rfl ?_) | fail
       all_goals first | exact rZ
   · have hpa := pair_bad v1 c1 v2 c2 hc
     refine ⟨[], [], c1, ?_, fun b ns n9 => ?_, fun h0 => absurd h0 hc, d1⟩
     · refine bZ Tryz.func138 ?_
       repeat' (conv => whnf); first | (intro h; try exact nZ) | apply And.intro | refine sZ ?_ | refine Ret.uA (hi) ?_ | (refine Ret.go (i1) rfl rfl ?_) | fail
       all_goals first | exact rZ
     · refine bZ Tryz.func118 ?_
       repeat' (conv => whnf); first | (intro h; try exact nZ) | apply And.intro | refine sZ ?_ | refine Ret.uA (hs) ?_ | (refine Ret.go (s1) rfl rfl ?_) | (refine Ret.go (s2) rfl rfl ?_) | (refine Ret.go (hpa) rfl rfl ?_) | fail
       all_goals first | exact rZ
 · have hp : ∀ ys, ¬ PAcc w ys := fun ys h => hp ⟨ys, h⟩
   have hi := implRP_ret w hw [0, 0, 0, 0, 0] false (.inr ⟨hp, rfl, rfl⟩)
   have hs := specRP_ret w hw [0, 0, 0, 0, 0] false (.inr ⟨hp, rfl, rfl⟩)
   refine ⟨[], [], 6, ?_, fun b ns n9 => ?_, fun h0 => absurd h0 (by decide), by omega, by omega⟩
   · refine bZ Tryz.func138 ?_
     repeat' (conv => whnf); first | (intro h; try exact nZ) | apply And.intro | refine sZ ?_ | refine Ret.uA (hi) ?_ | fail
     all_goals first | exact rZ
   · refine bZ Tryz.func118 ?_
     repeat' (conv => whnf); first | (intro h; try exact nZ) | apply And.intro | refine sZ ?_ | refine Ret.uA (hs) ?_ | fail
     all_goals first | exact rZ
theorem quote_step (F : Fu) (hF : F.ok) (b : ByteArray) (w : List UInt8) (hw : w.length ≤ 1048576) (hb : b = w_quote) (ns : List Int) : Step F b (B w) ns := by
 obtain ⟨n1, n2, n3, n4, n5, n6, n7, n8, n9, n10, n11, n12, n13, n14, n15⟩ := only_quote hb
 have hfit := hF.fit
 obtain ⟨t, t', c, hI, hS, h0, hc⟩ := quote_ret F hF w hw
 have hS := hS b ns ‹_›
 refine step_of (t := t) (t' := t') (c := c) (chg_none F hF b (B w) ns ‹_› ‹_› ‹_› ‹_› ‹_›) ?_ ?_ h0 hc
 · refine cZ Tryz.func89 ?_
   repeat' (conv => whnf); first | (intro h; try exact nZ) | apply And.intro | refine sZ ?_ | refine Ret.uA (hI) ?_ | fail
   all_goals try exact rZ
   all_goals (conv => whnf); exact endE1 [] (.tup [Sv (t), I c]) [.cells (F.cells 1 2), Di F.xs, Dh F.hs]
 · refine bZ Tryz.func85 ?_
   repeat' (conv => whnf); first | (intro h; try exact nZ) | apply And.intro | refine sZ ?_ | (refine Ret.go (hS) rfl rfl ?_) | fail
   all_goals first | exact rZ
theorem leave_ret (F : Fu) (hF : F.ok) (i : Int) : ∃ (t t' : List UInt8) (c : Int), Rt 147 [F.rpc, I i] (.tup [Sv t, I c]) ∧ (∀ (b w : ByteArray) (ns : List Int), b = w_leave → ns.length = 1 → ns.getD (Int.toNat 0) 0 = i → Rt 118 [F.ro, .v (.string b), .v (.string w), Ri ns] (.tup [Sv t', I c])) ∧ (c = 0 → t = t' ∧ t.length ≤ 100000) ∧ 0 ≤ c ∧ c ≤ 6 := by
 have hln := lenH_ret F.hs
 have hir := inRange_ret i 0 ((F.hs.length : Int) - 1)
 have hsr := l01In_ret i 0 ((F.hs.length : Int) - 1)
 have h30 := hF.hb
 by_cases hr : 0 ≤ i ∧ i ≤ (F.hs.length : Int) - 1
 · rw [decide_eq_true hr] at hir hsr
   have hO := (okF_H hF.pf (x := F.hs.getD i.toNat []) (getD_mem (by omega))).1
   obtain ⟨v1, c1, i1, s1, b1, d1⟩ := sur_both F.f F.ls F.r ((F.hs.getD i.toNat []).getD 0 0) ((F.hs.getD i.toNat []).getD 1 0) ((F.hs.getD i.toNat []).getD 2 0) ((F.hs.getD i.toNat []).getD 3 0) ((F.hs.getD i.toNat []).getD 4 0) ((F.hs.getD i.toNat []).getD 5 0) hF.nb hO
   obtain ⟨v2, c2, i2, s2, b2, d2⟩ := paid_both F.f F.ls F.r ((F.hs.getD i.toNat []).getD 0 0) ((F.hs.getD i.toNat []).getD 1 0) ((F.hs.getD i.toNat []).getD 2 0) ((F.hs.getD i.toNat []).getD 3 0) ((F.hs.getD i.toNat []).getD 4 0) ((F.hs.getD i.toNat []).getD 5 0) hF.nb hO
   have hx : okI v1 := by unfold okI; omega
   have hy : okI v2 := by unfold okI; omega
   by_cases hc : c1 = 0
   · subst hc
     have hbo := both_ret v1 v2 c2 hx hy
     have hpa := pair_ret v1 0 v2 c2 hx hy rfl
     refine ⟨jb [v1, v2], jb [v1, v2], c2, ?_, fun b w ns hb hl hn => ?_, fun _ => ⟨rfl, by have := jb2_len hx hy; omega⟩, d2⟩
     · refine bZ Tryz.func147 ?_
       repeat' (conv => whnf); first | (intro h; try exact nZ) | apply And.intro | refine sZ ?_ | (refine Ret.go (hln) rfl rfl ?_) | refine Ret.uB (hir) ?_ | (refine Ret.go (i1) rfl rfl ?_) | (refine Ret.go (i2) rfl rfl ?_) | (refine Ret.go (hbo) rfl rfl ?_) | fail
       all_goals first | exact rZ
     · subst hn
       refine bZ Tryz.func118 ?_
       repeat' (conv => whnf); first | (intro h; try exact nZ) | apply And.intro | refine sZ ?_ | refine Ret.uB (hsr) ?_ | (refine Ret.go (s1) rfl rfl ?_) | (refine Ret.go (s2) rfl rfl ?_) | (refine Ret.go (hpa) rfl rfl ?_) | fail
       all_goals first | exact rZ
   · have hpa := pair_bad v1 c1 v2 c2 hc
     refine ⟨[], [], c1, ?_, fun b w ns hb hl hn => ?_, fun h0 => absurd h0 hc, d1⟩
     · refine bZ Tryz.func147 ?_
       repeat' (conv => whnf); first | (intro h; try exact nZ) | apply And.intro | refine sZ ?_ | (refine Ret.go (hln) rfl rfl ?_) | refine Ret.uB (hir) ?_ | (refine Ret.go (i1) rfl rfl ?_) | fail
       all_goals first | exact rZ
     · subst hn
       refine bZ Tryz.func118 ?_
       repeat' (conv => whnf); first | (intro h; try exact nZ) | apply And.intro | refine sZ ?_ | refine Ret.uB (hsr) ?_ | (refine Ret.go (s1) rfl rfl ?_) | (refine Ret.go (s2) rfl rfl ?_) | (refine Ret.go (hpa) rfl rfl ?_) | fail
       all_goals first | exact rZ
 · rw [decide_eq_false hr] at hir hsr
   refine ⟨[], [], 2, ?_, fun b w ns hb hl hn => ?_, fun h0 => absurd h0 (by decide), by omega, by omega⟩
   · refine bZ Tryz.func147 ?_
     repeat' (conv => whnf); first | (intro h; try exact nZ) | apply And.intro | refine sZ ?_ | (refine Ret.go (hln) rfl rfl ?_) | refine Ret.uB (hir) ?_ | fail
     all_goals first | exact rZ
   · subst hn
     refine bZ Tryz.func118 ?_
     repeat' (conv => whnf); first | (intro h; try exact nZ) | apply And.intro | refine sZ ?_ | refine Ret.uB (hsr) ?_ | fail
     all_goals first | exact rZ
theorem leave_step (F : Fu) (hF : F.ok) (b w : ByteArray) (hb : b = w_leave) (ns : List Int) (hl : ns.length = 1) : Step F b w ns := by
 obtain ⟨n1, n2, n3, n4, n5, n6, n7, n8, n9, n10, n11, n12, n13, n14, n15⟩ := only_leave hb
 have hfit := hF.fit
 obtain ⟨t, t', c, hI, hS, h0, hc⟩ := leave_ret F hF (ns.getD (Int.toNat 0) 0)
 have hS := hS b w ns hb hl rfl
 refine step_of (t := t) (t' := t') (c := c) (chg_none F hF b w ns ‹_› ‹_› ‹_› ‹_› ‹_›) ?_ ?_ h0 hc
 · refine cZ Tryz.func89 ?_
   repeat' (conv => whnf); first | (intro h; try exact nZ) | apply And.intro | refine sZ ?_ | refine Ret.uA (hI) ?_ | fail
   all_goals try exact rZ
   all_goals (conv => whnf); exact endE1 [] (.tup [Sv (t), I c]) [.cells (F.cells 1 2), Di F.xs, Dh F.hs]
 · refine bZ Tryz.func85 ?_
   repeat' (conv => whnf); first | (intro h; try exact nZ) | apply And.intro | refine sZ ?_ | (refine Ret.go (hS) rfl rfl ?_) | fail
   all_goals first | exact rZ
end Go.Proofs.YtglbamncajileaaGreatDoor
