/-
  Queries of the console: what all of them need. Queries of the console with one number, by the program and by the reference. No conditions but those in the statements.
-/
import Derived.Test.YtglbamncajileaaGreatDoorUst
import Derived.Test.YtglbamncajileaaGreatDoorUtx
import Derived.Test.YtglbamncajileaaGreatDoorUsu
set_option linter.unusedVariables false
set_option linter.unusedSimpArgs false
set_option maxRecDepth 100000
set_option maxHeartbeats 4000000
namespace Go.Proofs.YtglbamncajileaaGreatDoor
open Go.AE Go.Lib
section
attribute [local irreducible] CallA LoopA DrawA CallQ arithK quoK remK eqK
attribute [local irreducible] okF okT
theorem chg_none (F : Fu) (hF : F.ok) (b w : ByteArray) (ns : List Int) (h1 : b ≠ w_table) (h2 : b ≠ w_rate) (h3 : b ≠ w_fund) (h4 : b ≠ w_hold) (h5 : b ≠ w_drop) : ChgNo F b w ns := by
 refine cZ Tryz.func88 ?_
 have hfit := hF.fit
 repeat' (conv => whnf); first | (intro h; try exact nZ) | apply And.intro | refine sZ ?_ | fail
 all_goals try exact rZ
 all_goals (conv => whnf); exact endE1 [] (.tup [I 0, Bo false]) [.cells (F.cells 1 2), Di F.xs, Dh F.hs]
abbrev TelKeep (F : Fu) (b w : ByteArray) (ns : List Int) (t : List UInt8) (c : Int) : Prop := Ca 89 [.ptr 0 0, cmdA b w ns] [.cells (F.cells 1 2), Di F.xs, Dh F.hs] (fun v J => v = .tup [Sv t, I c] ∧ J = [.cells (F.cells 1 2), Di F.xs, Dh F.hs])
theorem step_of {F : Fu} {b w : ByteArray} {ns : List Int} {t t' : List UInt8} {c : Int} (hn : ChgNo F b w ns) (hk : TelKeep F b w ns t c) (hs : SAsk F b w ns t' c) (h0 : c = 0 → t = t' ∧ t.length ≤ 100000) (hc : 0 ≤ c ∧ c ≤ 6) (hw : ¬ cw b := by (intro h; rcases h with h | h | h | h | h | h <;> exact absurd h ‹_›)) : Step F b w ns := by
 by_cases hz : c = 0
 · subst hz
   obtain ⟨rfl, hl⟩ := h0 rfl
   refine .tel t hl hn (CallA.ends (hk.mono fun v J ⟨h1, h2⟩ => ?_)) hs hw
   subst h1 h2
   (exact endE1 [some 1, some 2] (.tup [Sv t, I 0]) [.cells (F.cells 3 4), .dead, .dead, Di F.xs, Dh F.hs])
 · refine .telE c ⟨by omega, by omega⟩ t t' hn (CallA.ends (hk.mono fun v J ⟨h1, h2⟩ => ?_)) hs hw
   subst h1 h2
   (exact endE1 [] (.tup [Sv t, I c]) [.dead, Di F.xs, Dh F.hs])
theorem single_ret (x c : Int) (h : okI x) : Rt 140 [I x, I c] (.tup [Sv (itoa x), I c]) := by
 refine bZ Tryz.func140 ?_
 have hd := decimal_ret x (by unfold okI at h; omega)
 repeat' (conv => whnf); first | (intro h; try exact nZ) | apply And.intro | refine sZ ?_ | (refine Ret.go (hd) rfl rfl ?_) | fail
 all_goals first | exact rZ
abbrev noneT : List UInt8 := [110, 111, 110, 101]
theorem listed_ret (xs : List Int) (h0 : xs ≠ []) (hn : xs.length ≤ 1048576) (hx : ∀ x ∈ xs, okI x) : Rt 150 [Ri xs] (Sv (jb xs)) := by
 refine bZ Tryz.func150 ?_
 have hl := List.length_pos_iff.2 h0
 have hj := joined_ret xs hn hx
 repeat' (conv => whnf); first | (intro h; try exact nZ) | apply And.intro | refine sZ ?_ | (refine Ret.go (hj) rfl rfl ?_) | fail
 all_goals first | exact rZ
theorem listed_nil : Rt 150 [Ri []] (Sv noneT) := by
 refine bZ Tryz.func150 ?_
 repeat' (conv => whnf); first | (intro h; try exact nZ) | apply And.intro | refine sZ ?_ | fail
 all_goals first | exact rZ
theorem both_ret (x y c : Int) (hx : okI x) (hy : okI y) : Rt 142 [I x, I y, I c] (.tup [Sv (jb [x, y]), I c]) := by
 refine bZ Tryz.func142 ?_
 have hj := listed_ret [x, y] (by simp) (by simp) (fun z hz => by
   rcases List.mem_cons.1 hz with rfl | hz
   · exact hx
   · obtain rfl := List.mem_singleton.1 hz
     exact hy)
 repeat' (conv => whnf); first | (intro h; try exact nZ) | apply And.intro | refine sZ ?_ | refine Ret.uA (hj) ?_ | fail
 all_goals first | exact rZ
theorem pair_ret (x one y two : Int) (hx : okI x) (hy : okI y) (h1 : one = 0) : Rt 121 [I x, I one, I y, I two] (.tup [Sv (jb [x, y]), I two]) := by
 refine bZ Tryz.func121 ?_
 have hj := l01Join_ret [x, y] [32] (by simp) (fun z hz => by
   rcases List.mem_cons.1 hz with rfl | hz
   · exact hx
   · obtain rfl := List.mem_singleton.1 hz
     exact hy) (by decide)
 repeat' (conv => whnf); first | (intro h; try exact nZ) | apply And.intro | refine sZ ?_ | refine Ret.uA (hj) ?_ | fail
 all_goals first | exact rZ
theorem pair_bad (x one y two : Int) (h1 : one ≠ 0) : Rt 121 [I x, I one, I y, I two] (.tup [Sv [], I one]) := by
 refine bZ Tryz.func121 ?_
 repeat' (conv => whnf); first | (intro h; try exact nZ) | apply And.intro | refine sZ ?_ | fail
 all_goals first | exact rZ
end
section
attribute [local irreducible] CallA LoopA DrawA CallQ arithK quoK remK eqK
attribute [local irreducible] okF okT cN cM cD cC tot
theorem implTotal_ret (f : Int) (ls : List Int) (r : Int) (hs : List (List Int)) (hn : ls.length ≤ 1048576) (hh : hs.length ≤ 1048576) (ho : okF f ls r hs) : Rt 141 [Bs f ls r, Rh hs] (.tup [I (tot f ls r hs), I 0]) := by
 refine bZ Tryz.func141 ?_
 repeat' (conv => whnf); first | (intro h; try exact nZ) | apply And.intro | refine sZ ?_ | (refine Ret.goP (implPortfolio_ret f ls r hs hn hh) rfl ?_) | refine gZ [] (reserves_ro f ls r hs ho) ?_ | (refine Ret.go (total_res f ls r hs ho) rfl rfl ?_) | fail
 all_goals first | exact rZ
theorem total_both (F : Fu) (hF : F.ok) : Both2 141 123 [Bs F.f F.ls F.r, Rh F.hs] 1000000000000000000 := by
 have hb := sumH_bd (okG_res hF.pf) F.hs.length (Nat.le_refl _)
 have h30 := hF.hb
 have he : tot F.f F.ls F.r F.hs = sumH (hRes F.f F.ls F.r) F.hs F.hs.length := by unfold tot; rfl
 exact ⟨_, 0, implTotal_ret F.f F.ls F.r F.hs hF.nb (by omega) hF.pf, specTotal_ret F.f F.ls F.r F.hs hF.nb hF.pf, by rw [he]; omega, by omega, by omega⟩
theorem okF_B {f : Int} {ls : List Int} {r : Int} {hs : List (List Int)} (h : okF f ls r hs) : okB f ls r := by
 unfold okF at h
 exact h.1
theorem reserve_step (F : Fu) (hF : F.ok) (b w : ByteArray) (hb : b = w_reserve) (ns : List Int) : Step F b w ns := by
 obtain ⟨n1, n2, n3, n4, n5, n6, n7, n8, n9, n10, n11, n12, n13, n14, n15⟩ := only_reserve hb
 obtain ⟨v, c, hi, hs, hv, hc⟩ := total_both F hF
 have hok : okI v := by unfold okI; omega
 have hsg := single_ret v c hok
 have hnb := l01Number_ret v hok
 have hlen := itoa_len hok
 have hfit := hF.fit
 refine step_of (t := itoa v) (t' := itoa v) (c := c) (chg_none F hF b w ns ‹_› ‹_› ‹_› ‹_› ‹_›) ?_ ?_ (fun _ => ⟨rfl, by omega⟩) hc
 · refine cZ Tryz.func89 ?_
   repeat' (conv => whnf); first | (intro h; try exact nZ) | apply And.intro | refine sZ ?_ | refine Ret.uA (hi) ?_ | (refine Ret.go (hsg) rfl rfl ?_) | fail
   all_goals try exact rZ
   all_goals (conv => whnf); exact endE1 [] (.tup [Sv (itoa v), I c]) [.cells (F.cells 1 2), Di F.xs, Dh F.hs]
 · refine bZ Tryz.func85 ?_
   repeat' (conv => whnf); first | (intro h; try exact nZ) | apply And.intro | refine sZ ?_ | refine Ret.uA (hs) ?_ | (refine Ret.go (hnb) rfl rfl ?_) | fail
   all_goals first | exact rZ
theorem annuity_step (F : Fu) (hF : F.ok) (b w : ByteArray) (hb : b = w_annuity) (ns : List Int) (hl : ns.length = 2) : Step F b w ns := by
 obtain ⟨n1, n2, n3, n4, n5, n6, n7, n8, n9, n10, n11, n12, n13, n14, n15⟩ := only_annuity hb
 obtain ⟨v, c, hi, hs, hv, hc⟩ := lifeAn_both F.f F.ls F.r (ns.getD (Int.toNat 0) 0) (ns.getD (Int.toNat 1) 0) (okF_B hF.pf)
 have hok : okI v := by unfold okI; omega
 have hsg := single_ret v c hok
 have hnb := l01Number_ret v hok
 have hlen := itoa_len hok
 have hfit := hF.fit
 refine step_of (t := itoa v) (t' := itoa v) (c := c) (chg_none F hF b w ns ‹_› ‹_› ‹_› ‹_› ‹_›) ?_ ?_ (fun _ => ⟨rfl, by omega⟩) hc
 · refine cZ Tryz.func89 ?_
   repeat' (conv => whnf); first | (intro h; try exact nZ) | apply And.intro | refine sZ ?_ | refine Ret.uA (hi) ?_ | (refine Ret.go (hsg) rfl rfl ?_) | fail
   all_goals try exact rZ
   all_goals (conv => whnf); exact endE1 [] (.tup [Sv (itoa v), I c]) [.cells (F.cells 1 2), Di F.xs, Dh F.hs]
 · refine bZ Tryz.func85 ?_
   repeat' (conv => whnf); first | (intro h; try exact nZ) | apply And.intro | refine sZ ?_ | refine Ret.uA (hs) ?_ | (refine Ret.go (hnb) rfl rfl ?_) | fail
   all_goals first | exact rZ
theorem price_step (F : Fu) (hF : F.ok) (b w : ByteArray) (hb : b = w_price) (ns : List Int) (hl : ns.length = 4) : Step F b w ns := by
 obtain ⟨n1, n2, n3, n4, n5, n6, n7, n8, n9, n10, n11, n12, n13, n14, n15⟩ := only_price hb
 obtain ⟨v, c, hi, hs, hv, hc⟩ := price_both F.f F.ls F.r (ns.getD (Int.toNat 0) 0) (ns.getD (Int.toNat 1) 0) (ns.getD (Int.toNat 2) 0) (ns.getD (Int.toNat 3) 0) (okF_B hF.pf)
 have hok : okI v := by unfold okI; omega
 have hsg := single_ret v c hok
 have hnb := l01Number_ret v hok
 have hlen := itoa_len hok
 have hfit := hF.fit
 refine step_of (t := itoa v) (t' := itoa v) (c := c) (chg_none F hF b w ns ‹_› ‹_› ‹_› ‹_› ‹_›) ?_ ?_ (fun _ => ⟨rfl, by omega⟩) hc
 · refine cZ Tryz.func89 ?_
   repeat' (conv => whnf); first | (intro h; try exact nZ) | apply And.intro | refine sZ ?_ | refine Ret.uA (hi) ?_ | (refine Ret.go (hsg) rfl rfl ?_) | fail
   all_goals try exact rZ
   all_goals (conv => whnf); exact endE1 [] (.tup [Sv (itoa v), I c]) [.cells (F.cells 1 2), Di F.xs, Dh F.hs]
 · refine bZ Tryz.func85 ?_
   repeat' (conv => whnf); first | (intro h; try exact nZ) | apply And.intro | refine sZ ?_ | refine Ret.uA (hs) ?_ | (refine Ret.go (hnb) rfl rfl ?_) | fail
   all_goals first | exact rZ
end
end Go.Proofs.YtglbamncajileaaGreatDoor
