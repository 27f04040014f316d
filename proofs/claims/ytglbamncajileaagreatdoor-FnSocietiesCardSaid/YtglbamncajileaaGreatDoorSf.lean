/-
  Societies, claims of a year and expected deaths: what the functions return; copies, sizes, marks of bases. No conditions but those in the statements.
-/
import Derived.Test.YtglbamncajileaaGreatDoorSe
import Derived.Test.YtglbamncajileaaGreatDoorIn
set_option linter.unusedVariables false
set_option linter.unusedSimpArgs false
set_option maxRecDepth 100000
set_option maxHeartbeats 400000
namespace Go.Proofs.YtglbamncajileaaGreatDoor
open Go.AE
attribute [local irreducible] CallA LoopA DrawA CallQ arithK quoK remK eqK
attribute [local irreducible] cols cN cM cD cC dur pTop pBase lv clS okF dOk okT
abbrev Soc (f : Int) (l : AV) (r : Int) (h : AV) (d : Int) : AV := .agg [I f, l, I r, h, I d]
abbrev okD (d : Int) : Prop := 0 ≤ d ∧ d ≤ 1000000000000
theorem implFund_ret (d : Int) : Rt 52 [I d] (Bo (decide (okD d))) := by
 refine bZ Tryz.func52 ?_
 repeat' (conv => whnf); first | (intro h; try exact nZ) | apply And.intro | refine dZ ?_ | refine sZ ?_ | (refine Ret.goP (inRange_ret _ _ _) rfl ?_) | (refine Ret.goQP (inRange_ret _ _ _) rfl ?_) | fail
 all_goals first | exact bv_true ‹_› | exact bv_false ‹_›
theorem specFund_ret (d : Int) : Rt 54 [I d] (Bo (decide (okD d))) := by
 refine bZ Tryz.func54 ?_
 repeat' (conv => whnf); first | (intro h; try exact nZ) | apply And.intro | refine dZ ?_ | refine sZ ?_ | (refine Ret.goP (l01In_ret _ _ _) rfl ?_) | (refine Ret.goQP (l01In_ret _ _ _) rfl ?_) | fail
 all_goals first | exact bv_true ‹_› | exact bv_false ‹_›
theorem implSoc_ret (f : Int) (ls : List Int) (r : Int) (hs : List (List Int)) (d : Int) (hn : ls.length ≤ 1048576) (hm : hs.length ≤ 1048576) : Rt 28 [Soc f (Ri ls) r (Rh hs) d] (Bo (decide (okF f ls r hs ∧ okD d))) := by
 refine bZ Tryz.func28 ?_
 repeat' (conv => whnf); first | (intro h; try exact nZ) | apply And.intro | refine dZ ?_ | refine sZ ?_ | (refine Ret.goP (implPortfolio_ret f ls r hs hn hm) rfl ?_) | (refine Ret.goQP (implPortfolio_ret f ls r hs hn hm) rfl ?_) | (refine Ret.goP (implFund_ret d) rfl ?_) | (refine Ret.goQP (implFund_ret d) rfl ?_) | fail
 all_goals first | exact bv_true ⟨by assumption, by assumption⟩ | (exact bv_false fun e => absurd e.2 ‹_›) | (exact bv_false fun e => absurd e.1 ‹_›)
theorem specSoc_ret (f : Int) (ls : List Int) (r : Int) (hs : List (List Int)) (d : Int) (hn : ls.length ≤ 1048576) (hm : hs.length ≤ 1048576) : Rt 29 [Soc f (Ri ls) r (Rh hs) d] (Bo (decide (okF f ls r hs ∧ okD d))) := by
 refine bZ Tryz.func29 ?_
 repeat' (conv => whnf); first | (intro h; try exact nZ) | apply And.intro | refine dZ ?_ | refine sZ ?_ | (refine Ret.goP (specPortfolio_ret f ls r hs hn hm) rfl ?_) | (refine Ret.goQP (specPortfolio_ret f ls r hs hn hm) rfl ?_) | (refine Ret.goP (specFund_ret d) rfl ?_) | (refine Ret.goQP (specFund_ret d) rfl ?_) | fail
 all_goals first | exact bv_true ⟨by assumption, by assumption⟩ | (exact bv_false fun e => absurd e.2 ‹_›) | (exact bv_false fun e => absurd e.1 ‹_›)
theorem cDt_zero {f : Int} {ls : List Int} {r : Int} {hs : List (List Int)} {ds : List Int} (h : okF f ls r hs ∧ dOk hs ds) : cDt f ls r hs ds true = 0 := (if_pos h.1).trans (if_pos ⟨rfl, h.2⟩)
end Go.Proofs.YtglbamncajileaaGreatDoor
