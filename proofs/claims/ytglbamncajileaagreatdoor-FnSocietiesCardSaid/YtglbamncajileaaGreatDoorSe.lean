/-
  Reserves' parts and portfolios: what the functions return. Deaths and claims of a year: what the functions return. No conditions but those in the statements.
-/
import Derived.Test.YtglbamncajileaaGreatDoorSc
set_option linter.unusedVariables false
set_option linter.unusedSimpArgs false
set_option maxRecDepth 100000
set_option maxHeartbeats 4000000
namespace Go.Proofs.YtglbamncajileaaGreatDoor
open Go.AE
section
attribute [local irreducible] CallA LoopA DrawA CallQ arithK quoK remK eqK
attribute [local irreducible] cols cN cM cD cC
theorem notd_true {p : Prop} [Decidable p] (h : (!decide p) = true) : ¬ p := by simpa using h
theorem notd_false {p : Prop} [Decidable p] (h : (!decide p) = false) : p := by simpa using h
def dur (f : Int) (ls : List Int) (k a y : Int) : Int := if k = 0 then f + ls.length - 1 - a else y
theorem dur_bd {f : Int} {ls : List Int} {r k a y s l : Int} (h : okP f ls r k a y s l) : a + dur f ls k a y ≤ 150 ∧ 0 ≤ a ∧ f ≤ a ∧ f ≤ 100 ∧ -200 ≤ dur f ls k a y := by
 have h0 := h.1.1.1
 have h1 := h.2.1
 unfold hdT at h0
 unfold okA at h1
 unfold dur
 split <;> omega
theorem implDur_ret (f : Int) (ls : List Int) (r k a y s l : Int) (ho : okP f ls r k a y s l) : Rt 165 [Bs f ls r, Po k a y s l] (I (dur f ls k a y)) := by
 refine bZ Tryz.func165 ?_
 have h0 := ho.1.1.1
 have h1 := ho.2.1
 unfold hdT at h0
 unfold okA at h1
 by_cases hk : k = 0
 · rw [show dur f ls k a y = f + ls.length - 1 - a from if_pos hk]
   repeat' (conv => whnf); first | (intro h; try exact nZ) | apply And.intro | refine dZ ?_ | refine sZ ?_ | (refine Ret.go (implEnd_ret f ls ho.1.1) rfl rfl ?_) | (refine Ret.goQ (implEnd_ret f ls ho.1.1) rfl rfl ?_) | fail
   all_goals first | exact rZ
 · rw [show dur f ls k a y = y from if_neg hk]
   repeat' (conv => whnf); first | (intro h; try exact nZ) | apply And.intro | refine dZ ?_ | refine sZ ?_ | fail
   all_goals first | exact rZ
theorem specDur_ret (f : Int) (ls : List Int) (r k a y s l : Int) (ho : okP f ls r k a y s l) : Rt 74 [Bs f ls r, Po k a y s l] (I (dur f ls k a y)) := by
 refine bZ Tryz.func74 ?_
 have h0 := ho.1.1.1
 have h1 := ho.2.1
 unfold hdT at h0
 unfold okA at h1
 by_cases hk : k = 0
 · rw [show dur f ls k a y = f + ls.length - 1 - a from if_pos hk]
   repeat' (conv => whnf); first | (intro h; try exact nZ) | apply And.intro | refine dZ ?_ | refine sZ ?_ | (refine Ret.go (specEnd_ret f ls ho.1.1) rfl rfl ?_) | (refine Ret.goQ (specEnd_ret f ls ho.1.1) rfl rfl ?_) | fail
   all_goals first | exact rZ
 · rw [show dur f ls k a y = y from if_neg hk]
   repeat' (conv => whnf); first | (intro h; try exact nZ) | apply And.intro | refine dZ ?_ | refine sZ ?_ | fail
   all_goals first | exact rZ
def top (k m m2 d2 : Int) : Int := if k = 0 then m else if k = 1 then m - m2 else if k = 2 then m - m2 + d2 else d2
def base (k n n2 : Int) : Int := if k = 0 then n else n - n2
abbrev inC (x : Int) : Prop := 0 ≤ x ∧ x ≤ 1000000000000000000
theorem benefits_ret (k d n c m d2 n2 c2 m2 : Int) (h1 : inC n ∧ inC m) (h2 : inC n2 ∧ inC m2 ∧ inC d2) : Rt 231 [I k, .agg [I d, I n, I c, I m], .agg [I d2, I n2, I c2, I m2]] (.tup [I (top k m m2 d2), I (base k n n2)]) := by
 refine bZ Tryz.func231 ?_
 unfold top base
 by_cases hk : k = 0
 · rw [if_pos hk, if_pos hk]
   repeat' (conv => whnf); first | (intro h; try exact nZ) | apply And.intro | refine dZ ?_ | refine sZ ?_ | fail
   all_goals first | exact rZ
 · rw [if_neg hk, if_neg hk]
   by_cases hk1 : k = 1
   · rw [if_pos hk1]
     repeat' (conv => whnf); first | (intro h; try exact nZ) | apply And.intro | refine dZ ?_ | refine sZ ?_ | fail
     all_goals first | exact rZ
   · rw [if_neg hk1]
     by_cases hk2 : k = 2
     · rw [if_pos hk2]
       repeat' (conv => whnf); first | (intro h; try exact nZ) | apply And.intro | refine dZ ?_ | refine sZ ?_ | fail
       all_goals first | exact rZ
     · rw [if_neg hk2]
       repeat' (conv => whnf); first | (intro h; try exact nZ) | apply And.intro | refine dZ ?_ | refine sZ ?_ | fail
       all_goals first | exact rZ
def pTop (f : Int) (ls : List Int) (r k a y q : Int) : Int := top k (cM f ls r (a + q)) (cM f ls r (a + y)) (cD f ls r (a + y))
def pBase (f : Int) (ls : List Int) (r k a y q : Int) : Int := base k (cN f ls r (a + q)) (cN f ls r (a + y))
theorem inC_all {f : Int} {ls : List Int} {r : Int} (ho : okB f ls r) {x : Int} (hx : f ≤ x) : inC (cN f ls r x) ∧ inC (cM f ls r x) ∧ inC (cD f ls r x) := by
 have h0 := ho.1.1
 unfold hdT at h0
 have h1 := cN_bd ho.1 ho.2 (x := x) (by omega)
 have h2 := cM_bd ho.1 ho.2 (x := x) (by omega) hx
 have h3 := cD_bd ho.1 ho.2 x
 exact ⟨⟨h1.1, by omega⟩, ⟨h2.1, by omega⟩, ⟨h3.1, by omega⟩⟩
theorem partsAt_ret (f : Int) (ls : List Int) (r k a y s l q : Int) (ho : okP f ls r k a y s l) (hq : 0 ≤ q ∧ q ≤ dur f ls k a y) : Rt 166 [Bs f ls r, Po k a y s l, Rc (cols f ls r), I q] (.agg [I (pTop f ls r k a y q), I (pBase f ls r k a y q), I (cD f ls r (a + q))]) := by
 refine bZ Tryz.func166 ?_
 have h0 := ho.1.1.1
 have h1 := ho.2.1
 have hdb := dur_bd ho
 unfold hdT at h0
 unfold okA at h1
 have c1 := inC_all ho.1 (x := a + q) (by omega)
 have c2 := inC_all ho.1 (x := a + y) (by omega)
 have z : inC 0 := ⟨Int.le_refl _, by decide⟩
 by_cases hk : k = 0
 · have e1 : pTop f ls r k a y q = top k (cM f ls r (a + q)) 0 0 := by unfold pTop top; rw [if_pos hk, if_pos hk]
   have e2 : pBase f ls r k a y q = base k (cN f ls r (a + q)) 0 := by unfold pBase base; rw [if_pos hk, if_pos hk]
   rw [e1, e2]
   repeat' (conv => whnf); first | (intro h; try exact nZ) | apply And.intro | refine dZ ?_ | refine sZ ?_ | (refine Ret.go (at_ret f ls r _ ho.1.1 (by omega)) rfl rfl ?_) | (refine Ret.goQ (at_ret f ls r _ ho.1.1 (by omega)) rfl rfl ?_) | (refine Ret.go (benefits_ret k _ _ _ _ _ _ _ _ ⟨c1.1, c1.2.1⟩ ⟨z, z, z⟩) rfl rfl ?_) | (refine Ret.goQ (benefits_ret k _ _ _ _ _ _ _ _ ⟨c1.1, c1.2.1⟩ ⟨z, z, z⟩) rfl rfl ?_) | fail
   all_goals first | exact rZ
 · repeat' (conv => whnf); first | (intro h; try exact nZ) | apply And.intro | refine dZ ?_ | refine sZ ?_ | (refine Ret.go (at_ret f ls r _ ho.1.1 (by omega)) rfl rfl ?_) | (refine Ret.goQ (at_ret f ls r _ ho.1.1 (by omega)) rfl rfl ?_) | (refine Ret.go (benefits_ret k _ _ _ _ _ _ _ _ ⟨c1.1, c1.2.1⟩ c2) rfl rfl ?_) | (refine Ret.goQ (benefits_ret k _ _ _ _ _ _ _ _ ⟨c1.1, c1.2.1⟩ c2) rfl rfl ?_) | fail
   all_goals first | exact rZ
attribute [local irreducible] dur pTop pBase
def hOk (f : Int) (ls : List Int) (r k a y s l q : Int) : Prop := okP f ls r k a y s l ∧ (0 ≤ q ∧ q ≤ dur f ls k a y - 1) ∧ cD f ls r (a + q) ≠ 0
noncomputable instance (f : Int) (ls : List Int) (r k a y s l q : Int) : Decidable (hOk f ls r k a y s l q) := Classical.propDecidable _
noncomputable def cR (f : Int) (ls : List Int) (r k a y s l q : Int) : Int := if okP f ls r k a y s l then (if 0 ≤ q ∧ q ≤ dur f ls k a y - 1 then (if cD f ls r (a + q) = 0 then 5 else 0) else 2) else 1
theorem cR_ok {f : Int} {ls : List Int} {r k a y s l q : Int} (h : hOk f ls r k a y s l q) : cR f ls r k a y s l q = 0 := by
 unfold cR
 rw [if_pos h.1, if_pos h.2.1, if_neg h.2.2]
theorem cR_bad {f : Int} {ls : List Int} {r k a y s l q : Int} (h : ¬ hOk f ls r k a y s l q) : cR f ls r k a y s l q ≠ 0 := by
 unfold cR
 split
 · rename_i h1
   split
   · rename_i h2
     split
     · decide
     · rename_i h3
       exact absurd ⟨h1, h2, h3⟩ h
   · decide
 · decide
theorem spec11_ret (f : Int) (ls : List Int) (r k a y s l q : Int) (hn : ls.length ≤ 1048576) : Rt 76 [Bs f ls r, Po k a y s l, I q] (I (cR f ls r k a y s l q)) := by
 refine bZ Tryz.func76 ?_
 unfold cR
 by_cases ho : okP f ls r k a y s l
 · rw [if_pos ho]
   have hdb := dur_bd ho
   by_cases hq : 0 ≤ q ∧ q ≤ dur f ls k a y - 1
   · rw [if_pos hq]
     by_cases hd : cD f ls r (a + q) = 0
     · rw [if_pos hd]
       repeat' (conv => whnf); first | (intro h; try exact nZ) | apply And.intro | refine dZ ?_ | refine sZ ?_ | (refine Ret.goP (specPolicy_ret f ls r k a y s l hn) rfl ?_) | (refine Ret.goQP (specPolicy_ret f ls r k a y s l hn) rfl ?_) | (refine Ret.go (specDur_ret f ls r k a y s l ho) rfl rfl ?_) | (refine Ret.goQ (specDur_ret f ls r k a y s l ho) rfl rfl ?_) | (refine Ret.goP (l01In_ret _ _ _) rfl ?_) | (refine Ret.goQP (l01In_ret _ _ _) rfl ?_) | (refine Ret.go (specD_ret f ls r _ ho.1.1 ho.1.2 (by omega)) rfl rfl ?_) | (refine Ret.goQ (specD_ret f ls r _ ho.1.1 ho.1.2 (by omega)) rfl rfl ?_) | fail
       all_goals first | exact rZ | exact absurd ho ‹_›
     · rw [if_neg hd]
       repeat' (conv => whnf); first | (intro h; try exact nZ) | apply And.intro | refine dZ ?_ | refine sZ ?_ | (refine Ret.goP (specPolicy_ret f ls r k a y s l hn) rfl ?_) | (refine Ret.goQP (specPolicy_ret f ls r k a y s l hn) rfl ?_) | (refine Ret.go (specDur_ret f ls r k a y s l ho) rfl rfl ?_) | (refine Ret.goQ (specDur_ret f ls r k a y s l ho) rfl rfl ?_) | (refine Ret.goP (l01In_ret _ _ _) rfl ?_) | (refine Ret.goQP (l01In_ret _ _ _) rfl ?_) | (refine Ret.go (specD_ret f ls r _ ho.1.1 ho.1.2 (by omega)) rfl rfl ?_) | (refine Ret.goQ (specD_ret f ls r _ ho.1.1 ho.1.2 (by omega)) rfl rfl ?_) | fail
       all_goals first | exact rZ | exact absurd ho ‹_›
   · rw [if_neg hq]
     repeat' (conv => whnf); first | (intro h; try exact nZ) | apply And.intro | refine dZ ?_ | refine sZ ?_ | (refine Ret.goP (specPolicy_ret f ls r k a y s l hn) rfl ?_) | (refine Ret.goQP (specPolicy_ret f ls r k a y s l hn) rfl ?_) | (refine Ret.go (specDur_ret f ls r k a y s l ho) rfl rfl ?_) | (refine Ret.goQ (specDur_ret f ls r k a y s l ho) rfl rfl ?_) | (refine Ret.goP (l01In_ret _ _ _) rfl ?_) | (refine Ret.goQP (l01In_ret _ _ _) rfl ?_) | fail
     all_goals first | exact rZ | exact absurd ho ‹_›
 · rw [if_neg ho]
   repeat' (conv => whnf); first | (intro h; try exact nZ) | apply And.intro | refine dZ ?_ | refine sZ ?_ | (refine Ret.goP (specPolicy_ret f ls r k a y s l hn) rfl ?_) | (refine Ret.goQP (specPolicy_ret f ls r k a y s l hn) rfl ?_) | fail
   all_goals first | exact rZ | exact absurd ‹_› ho
theorem check_ok (f : Int) (ls : List Int) (r k a y s l q : Int) (hn : ls.length ≤ 1048576) (hh : hOk f ls r k a y s l q) : Rt 108 [Bs f ls r, Po k a y s l, I q] (.tup [.agg [I (pTop f ls r k a y q), I (pBase f ls r k a y q), I (cD f ls r (a + q))], I 0]) := by
 refine bZ Tryz.func108 ?_
 obtain ⟨ho, hq, hd⟩ := hh
 have hdb := dur_bd ho
 repeat' (conv => whnf); first | (intro h; try exact nZ) | apply And.intro | refine sZ ?_ | (refine Ret.goP (implPolicy_ret f ls r k a y s l hn) rfl ?_) | (refine Ret.go (implDur_ret f ls r k a y s l ho) rfl rfl ?_) | (refine Ret.goP (inRange_ret _ _ _) rfl ?_) | (refine Ret.go (partsAt_ret f ls r k a y s l q ho (by omega)) rfl rfl ?_) | refine gZ [] (columns_ro f ls r ho.1.1 ho.1.2) ?_ | fail
 all_goals first | exact rZ | exact absurd ho ‹_›
theorem check_bad (f : Int) (ls : List Int) (r k a y s l q : Int) (hn : ls.length ≤ 1048576) (hh : ¬ hOk f ls r k a y s l q) : Rt 108 [Bs f ls r, Po k a y s l, I q] (.tup [.agg [I 0, I 0, I 0], I (cR f ls r k a y s l q)]) := by
 refine bZ Tryz.func108 ?_
 unfold cR
 by_cases ho : okP f ls r k a y s l
 · rw [if_pos ho]
   have hdb := dur_bd ho
   by_cases hq : 0 ≤ q ∧ q ≤ dur f ls k a y - 1
   · rw [if_pos hq]
     by_cases hd : cD f ls r (a + q) = 0
     · rw [if_pos hd]
       repeat' (conv => whnf); first | (intro h; try exact nZ) | apply And.intro | refine sZ ?_ | (refine Ret.goP (implPolicy_ret f ls r k a y s l hn) rfl ?_) | (refine Ret.go (implDur_ret f ls r k a y s l ho) rfl rfl ?_) | (refine Ret.goP (inRange_ret _ _ _) rfl ?_) | (refine Ret.go (partsAt_ret f ls r k a y s l q ho (by omega)) rfl rfl ?_) | refine gZ [] (columns_ro f ls r ho.1.1 ho.1.2) ?_ | fail
       all_goals first | exact rZ | exact absurd ho ‹_›
     · exact absurd ⟨ho, hq, hd⟩ hh
   · rw [if_neg hq]
     repeat' (conv => whnf); first | (intro h; try exact nZ) | apply And.intro | refine sZ ?_ | (refine Ret.goP (implPolicy_ret f ls r k a y s l hn) rfl ?_) | (refine Ret.go (implDur_ret f ls r k a y s l ho) rfl rfl ?_) | (refine Ret.goP (inRange_ret _ _ _) rfl ?_) | fail
     all_goals first | exact rZ | exact absurd ho ‹_›
 · rw [if_neg ho]
   repeat' (conv => whnf); first | (intro h; try exact nZ) | apply And.intro | refine sZ ?_ | (refine Ret.goP (implPolicy_ret f ls r k a y s l hn) rfl ?_) | fail
   all_goals first | exact rZ | exact absurd ‹_› ho
abbrev WH (h : List Int) : AV := .agg [I (h.getD 0 0), I (h.getD 1 0), I (h.getD 2 0), I (h.getD 3 0), I (h.getD 4 0), I (h.getD 5 0), I (h.getD 6 0)]
abbrev Rh (hs : List (List Int)) : AV := .ro (.recs 7 hs)
abbrev Dh (hs : List (List Int)) : Blk := .data (.recs 7 hs)
def hP (f : Int) (ls : List Int) (r : Int) (h : List Int) : Prop := hOk f ls r (h.getD 0 0) (h.getD 1 0) (h.getD 2 0) (h.getD 3 0) (h.getD 4 0) (h.getD 5 0)
def okH (f : Int) (ls : List Int) (r : Int) (h : List Int) : Prop := hP f ls r h ∧ 0 ≤ h.getD 6 0 ∧ h.getD 6 0 ≤ 1000000
noncomputable instance (f : Int) (ls : List Int) (r : Int) (h : List Int) : Decidable (okH f ls r h) := Classical.propDecidable _
def okF (f : Int) (ls : List Int) (r : Int) (hs : List (List Int)) : Prop := okB f ls r ∧ hs.length ≤ 30 ∧ ∀ h ∈ hs, okH f ls r h
noncomputable instance (f : Int) (ls : List Int) (r : Int) (hs : List (List Int)) : Decidable (okF f ls r hs) := Classical.propDecidable _
theorem isHolding_ret (f : Int) (ls : List Int) (r : Int) (h : List Int) (hn : ls.length ≤ 1048576) : Rt 80 [Bs f ls r, WH h] (Bo (decide (okH f ls r h))) := by
 refine bZ Tryz.func80 ?_
 by_cases hh : hP f ls r h
 · have hc := check_ok f ls r (h.getD 0 0) (h.getD 1 0) (h.getD 2 0) (h.getD 3 0) (h.getD 4 0) (h.getD 5 0) hn hh
   repeat' (conv => whnf); first | (intro h; try exact nZ) | apply And.intro | refine dZ ?_ | refine sZ ?_ | (refine Ret.go (hc) rfl rfl ?_) | (refine Ret.goQ (hc) rfl rfl ?_) | (refine Ret.goP (inRange_ret _ _ _) rfl ?_) | (refine Ret.goQP (inRange_ret _ _ _) rfl ?_) | fail
   all_goals first | omega | exact bv_true ⟨hh, by assumption⟩ | (exact bv_false fun ho => absurd ho.2 ‹_›)
 · have hc := check_bad f ls r (h.getD 0 0) (h.getD 1 0) (h.getD 2 0) (h.getD 3 0) (h.getD 4 0) (h.getD 5 0) hn hh
   have hz := cR_bad hh
   repeat' (conv => whnf); first | (intro h; try exact nZ) | apply And.intro | refine dZ ?_ | refine sZ ?_ | (refine Ret.go (hc) rfl rfl ?_) | (refine Ret.goQ (hc) rfl rfl ?_) | (refine Ret.goP (inRange_ret _ _ _) rfl ?_) | (refine Ret.goQP (inRange_ret _ _ _) rfl ?_) | fail
   all_goals first | omega | exact absurd ‹_› hz | (exact bv_false fun ho => hh ho.1)
theorem isHolding1_ret (f : Int) (ls : List Int) (r : Int) (x : List Int) (hn : ls.length ≤ 1048576) : Rt 79 [WH x, .rpc [I f, Ri ls, I r] 0] (Bo (!decide (okH f ls r x))) := by
 refine bZ Tryz.func79 ?_
 repeat' (conv => whnf); first | (intro h; try exact nZ) | apply And.intro | refine dZ ?_ | refine sZ ?_ | (refine Ret.goP (isHolding_ret f ls r x hn) rfl ?_) | (refine Ret.goQP (isHolding_ret f ls r x hn) rfl ?_) | fail
 all_goals first | (rw [decide_eq_true h]; done) | (rw [decide_eq_false h]; done) | (rw [decide_eq_true h]; rfl) | (rw [decide_eq_false h]; rfl)
def idxH (p : List Int → Bool) (hs : List (List Int)) : Int := if firstOf p hs < hs.length then (firstOf p hs : Int) else -1
theorem indexH_ret (f : FuncId) (caps : List AV) (p : List Int → Bool) (hs : List (List Int)) (hn : hs.length ≤ 2305843009213693952) (hc : capsOk caps = true) (hp : ∀ i, i < hs.length → Rt f (WH (hs.getD i []) :: caps) (Bo (p (hs.getD i [])))) :
   Rt 107 [Rh hs, .fn f caps] (I (idxH p hs)) := by
 refine bZ Tryz.func107 ?_
 repeat' (conv => whnf); first | (intro h; try exact nZ) | apply And.intro | refine dZ ?_ | refine sZ ?_ | fail
 refine loop_rule hT (fun i : Nat => i ≤ hs.length ∧ ∀ j, j < i → p (hs.getD j []) = false) 19 0 [0, 1, 7, 8] (fun i => [Rh hs, .fn f caps, I hs.length, I i]) (fun _ => []) (fun i => hs.length - i) (0) (Nat.le_of_ble_eq_true rfl) ?_ ?_ ?_
 · exact ⟨Nat.zero_le _, fun j h => absurd h (Nat.not_lt_zero j)⟩
 · (refine ⟨rfl, [], ?_, ?_⟩; all_goals (repeat' (first | exact rfl | exact trivial | (with_reducible assumption) | refine And.intro ?_ ?_ | omega)))
   all_goals exact caps_vm hc
 · rintro i ⟨h1, h2⟩
   repeat' (conv => whnf); first | (intro h; try exact nZ) | apply And.intro | refine dZ ?_ | refine sZ ?_ | (refine Ret.goB (hp i (by omega)) (caps_self hc) ?_) | fail
   all_goals try omega
   · have : firstOf p hs = i := firstOf_eq [] (by omega) h2 fun _ => h
     exact iv (by unfold idxH; rw [if_pos (by omega), this])
   · refine ⟨i + 1, ⟨by omega, fun j hj => ?_⟩, ?_, by omega⟩
     · by_cases hji : j = i
       · rw [hji]; exact h
       · exact h2 j (by omega)
     · (refine ⟨rfl, [], ?_, ?_⟩; all_goals (repeat' (first | exact rfl | exact trivial | (with_reducible assumption) | refine And.intro ?_ ?_ | omega)))
       all_goals exact caps_vm hc
   · have : firstOf p hs = hs.length := firstOf_eq [] (Nat.le_refl _) (fun j hj => h2 j (by omega)) fun h => absurd h (Nat.lt_irrefl _)
     exact iv (by unfold idxH; rw [if_neg (by omega)])
theorem containsH_ret (f : FuncId) (caps : List AV) (p : List Int → Bool) (hs : List (List Int)) (hn : hs.length ≤ 2305843009213693952) (hc : capsOk caps = true) (hp : ∀ i, i < hs.length → Rt f (WH (hs.getD i []) :: caps) (Bo (p (hs.getD i [])))) :
   Rt 78 [Rh hs, .fn f caps] (Bo (hs.any p)) := by
 refine bZ Tryz.func78 ?_
 have h0 := indexH_ret f caps p hs hn hc hp
 have hiff := firstOf_lt_iff p hs
 have hs' : ([Rh hs, .fn f caps] : List AV).all selfV = true := by
   simp only [List.all_cons, List.all_nil, Bool.and_true, Bool.and_eq_true]
   exact ⟨rfl, List.all_eq_true.2 fun c h => by have := List.all_eq_true.1 hc c h; simp only [Bool.and_eq_true] at this; exact this.1⟩
 repeat' (conv => whnf); first | (intro h; try exact nZ) | apply And.intro | refine dZ ?_ | refine sZ ?_ | (refine Ret.go h0 hs' rfl ?_) | fail
 all_goals
   refine bv ?_
   unfold idxH at h
   split at h
   · rename_i hlt
     first | omega | (symm; rw [List.any_eq_true]; exact hiff.1 hlt)
   · rename_i hlt
     first | omega | (symm; rw [Bool.eq_false_iff]; intro hany; exact hlt (hiff.2 (List.any_eq_true.1 hany)))
theorem anyH (f : Int) (ls : List Int) (r : Int) (hs : List (List Int)) : (hs.any fun h => !decide (okH f ls r h)) = !decide (∀ h ∈ hs, okH f ls r h) := by
 cases h : (hs.any fun h => !decide (okH f ls r h)) with
 | true =>
   obtain ⟨x, h1, h2⟩ := List.any_eq_true.1 h
   have : ¬ ∀ h ∈ hs, okH f ls r h := fun ha => by simp [ha x h1] at h2
   simp [this]
 | false =>
   have : ∀ h ∈ hs, okH f ls r h := fun x hx => by simpa using List.any_eq_false.1 h x hx
   rw [decide_eq_true this]; rfl
theorem implPortfolio_ret (f : Int) (ls : List Int) (r : Int) (hs : List (List Int)) (hn : ls.length ≤ 1048576) (hh : hs.length ≤ 1048576) : Rt 51 [Bs f ls r, Rh hs] (Bo (decide (okF f ls r hs))) := by
 refine bZ Tryz.func51 ?_
 have h0 := containsH_ret 79 [.rpc [I f, Ri ls, I r] 0] (fun h => !decide (okH f ls r h)) hs (by omega) rfl fun i _ => isHolding1_ret f ls r _ hn
 rw [anyH] at h0
 repeat' (conv => whnf); first | (intro h; try exact nZ) | apply And.intro | refine dZ ?_ | refine sZ ?_ | (refine Ret.goP (implBasis_ret f ls r hn) rfl ?_) | (refine Ret.goQP (implBasis_ret f ls r hn) rfl ?_) | refine Ret.uB (h0) ?_ | refine Ret.uQB (h0) ?_ | fail
 all_goals first
   | omega
   | (exact bv_true ⟨by assumption, by omega, notd_false h⟩)
   | (exact bv_false fun ho => notd_true h ho.2.2)
   | (exact bv_false fun ho => absurd ho.1 ‹_›)
   | (exact bv_false fun ho => by have := ho.2.1; omega)
  
theorem specPortfolio_ret (f : Int) (ls : List Int) (r : Int) (hs : List (List Int)) (hn : ls.length ≤ 1048576) (hh : hs.length ≤ 1048576) : Rt 53 [Bs f ls r, Rh hs] (Bo (decide (okF f ls r hs))) := by
 refine bZ Tryz.func53 ?_
 repeat' (conv => whnf); first | (intro h; try exact nZ) | apply And.intro | refine dZ ?_ | refine sZ ?_ | fail
 refine loop_rule hT (fun i : Nat => i ≤ hs.length ∧ ∀ h ∈ hs.take i, okH f ls r h) 41 1 [1, 2, 5] (fun i => [Rh hs, .ptr 0 0, I i]) (fun _ => [.cells [I f, Ri ls, I r]]) (fun i => hs.length - i) (0) (Nat.le_of_ble_eq_true rfl) ?_ ?_ ?_
 · exact ⟨Nat.zero_le _, by simp⟩
 · (exact endHA)
 · rintro i ⟨h1, h2⟩
   by_cases hi : i < hs.length
   · have hc := spec11_ret f ls r ((hs.getD ((i : Int)).toNat []).getD 0 0) ((hs.getD ((i : Int)).toNat []).getD 1 0) ((hs.getD ((i : Int)).toNat []).getD 2 0) ((hs.getD ((i : Int)).toNat []).getD 3 0) ((hs.getD ((i : Int)).toNat []).getD 4 0) ((hs.getD ((i : Int)).toNat []).getD 5 0) hn
     have hm : hs.getD ((i : Int)).toNat [] ∈ hs := getD_mem hi
     by_cases hp : hP f ls r (hs.getD ((i : Int)).toNat [])
     · rw [cR_ok hp] at hc
       repeat' (conv => whnf); first | (intro h; try exact nZ) | apply And.intro | refine dZ ?_ | refine sZ ?_ | (refine Ret.go (hc) rfl rfl ?_) | (refine Ret.goQ (hc) rfl rfl ?_) | (refine Ret.goP (l01In_ret _ _ _) rfl ?_) | (refine Ret.goQP (l01In_ret _ _ _) rfl ?_) | fail
       all_goals first | omega | (refine ⟨i + 1, ⟨by omega, all_snoc [] hi h2 ⟨hp, by assumption⟩⟩, ?_, by omega⟩; (exact endHA)) | (exact bv_false fun ho => absurd (ho.2.2 _ hm).2 ‹_›)
     · have hz := cR_bad hp
       repeat' (conv => whnf); first | (intro h; try exact nZ) | apply And.intro | refine dZ ?_ | refine sZ ?_ | (refine Ret.go (hc) rfl rfl ?_) | (refine Ret.goQ (hc) rfl rfl ?_) | (refine Ret.goP (l01In_ret _ _ _) rfl ?_) | (refine Ret.goQP (l01In_ret _ _ _) rfl ?_) | fail
       all_goals first | omega | exact absurd ‹_› hz | (exact bv_false fun ho => hp (ho.2.2 _ hm).1)
   · repeat' (conv => whnf); first | (intro h; try exact nZ) | apply And.intro | refine dZ ?_ | refine sZ ?_ | (refine Ret.goP (specBasis_ret f ls r hn) rfl ?_) | (refine Ret.goQP (specBasis_ret f ls r hn) rfl ?_) | fail
     all_goals first | omega | (exact bv_true ⟨by assumption, by omega, all_end (by omega) h2⟩) | (exact bv_false fun ho => absurd ho.1 ‹_›) | (exact bv_false fun ho => by have := ho.2.1; omega)
end
section
attribute [local irreducible] CallA LoopA DrawA CallQ arithK quoK remK eqK
attribute [local irreducible] cols cN cM cD cC dur pTop pBase lv
abbrev hdur (f : Int) (ls : List Int) (h : List Int) : Int := dur f ls (h.getD 0 0) (h.getD 1 0) (h.getD 2 0)
def dOk (hs : List (List Int)) (ds : List Int) : Prop := ds.length = hs.length ∧ ∀ i, i < hs.length → 0 ≤ ds.getD i 0 ∧ ds.getD i 0 ≤ (hs.getD i []).getD 6 0
noncomputable instance (hs : List (List Int)) (ds : List Int) : Decidable (dOk hs ds) := Classical.propDecidable _
noncomputable def cDt (f : Int) (ls : List Int) (r : Int) (hs : List (List Int)) (ds : List Int) (b : Bool) : Int := if okF f ls r hs then (if b = true ∧ dOk hs ds then 0 else 2) else 1
theorem dth_step {hs : List (List Int)} {ds : List Int} {i : Nat} (h : ∀ j, j < i → 0 ≤ ds.getD j 0 ∧ ds.getD j 0 ≤ (hs.getD j []).getD 6 0) (hi : 0 ≤ ds.getD i 0 ∧ ds.getD i 0 ≤ (hs.getD i []).getD 6 0) : ∀ j, j < i + 1 → 0 ≤ ds.getD j 0 ∧ ds.getD j 0 ≤ (hs.getD j []).getD 6 0 := fun j hj => by
 by_cases he : j = i
 · rw [he]; exact hi
 · exact h j (by omega)
theorem implCheck_ret (f : Int) (ls : List Int) (r : Int) (hs : List (List Int)) (ds : List Int) (hn : ls.length ≤ 1048576) (hh : hs.length ≤ 1048576) (hd : ds.length ≤ 1048576) : Rt 279 [Bs f ls r, Rh hs, Ri ds] (I (cDt f ls r hs ds true)) := by
 refine bZ Tryz.func279 ?_
 by_cases ho : okF f ls r hs
 · by_cases hl : ds.length = hs.length
   · repeat' (conv => whnf); first | (intro h; try exact nZ) | apply And.intro | refine dZ ?_ | refine sZ ?_ | (refine Ret.goP (implPortfolio_ret f ls r hs hn hh) rfl ?_) | (refine Ret.goQP (implPortfolio_ret f ls r hs hn hh) rfl ?_) | fail
     all_goals first | omega | exact absurd ho ‹_› | skip
     refine loop_rule hT (fun i : Nat => i ≤ hs.length ∧ ∀ j, j < i → 0 ≤ ds.getD j 0 ∧ ds.getD j 0 ≤ (hs.getD j []).getD 6 0) 34 1 [1, 2, 3, 18, 19, 20] (fun i => [Rh hs, Ri ds, .ptr 0 0, Rh hs, I hs.length, I i]) (fun _ => [.cells [I f, Ri ls, I r]]) (fun i => hs.length - i) (0) (Nat.le_of_ble_eq_true rfl) ?_ ?_ ?_
     · exact ⟨Nat.zero_le _, fun j hj => absurd hj (Nat.not_lt_zero j)⟩
     · (exact endHA)
     · rintro i ⟨h1, h2⟩
       by_cases hi : i < hs.length
       · by_cases hdi : 0 ≤ ds.getD ((i : Int)).toNat 0 ∧ ds.getD ((i : Int)).toNat 0 ≤ (hs.getD ((i : Int)).toNat []).getD 6 0
         · repeat' (conv => whnf); first | (intro h; try exact nZ) | apply And.intro | refine dZ ?_ | refine sZ ?_ | (refine Ret.goP (inRange_ret _ _ _) rfl ?_) | (refine Ret.goQP (inRange_ret _ _ _) rfl ?_) | fail
           all_goals first | omega | exact absurd hdi ‹_› | ((conv => whnf); refine ⟨i + 1, ⟨by omega, dth_step h2 hdi⟩, ?_, by omega⟩; (exact endHA))
         · have hc : cDt f ls r hs ds true = 2 := (if_pos ho).trans (if_neg fun e => hdi (e.2.2 i hi))
           rw [hc]
           repeat' (conv => whnf); first | (intro h; try exact nZ) | apply And.intro | refine dZ ?_ | refine sZ ?_ | (refine Ret.goP (inRange_ret _ _ _) rfl ?_) | (refine Ret.goQP (inRange_ret _ _ _) rfl ?_) | fail
           all_goals first | omega | rfl | exact absurd ‹_› hdi
       · have hc : cDt f ls r hs ds true = 0 := (if_pos ho).trans (if_pos ⟨rfl, hl, fun j hj => h2 j (by omega)⟩)
         rw [hc]
         repeat' (conv => whnf); first | (intro h; try exact nZ) | apply And.intro | refine dZ ?_ | refine sZ ?_ | fail
         all_goals first | omega | rfl
   · have hc : cDt f ls r hs ds true = 2 := (if_pos ho).trans (if_neg fun e => hl e.2.1)
     rw [hc]
     repeat' (conv => whnf); first | (intro h; try exact nZ) | apply And.intro | refine dZ ?_ | refine sZ ?_ | (refine Ret.goP (implPortfolio_ret f ls r hs hn hh) rfl ?_) | (refine Ret.goQP (implPortfolio_ret f ls r hs hn hh) rfl ?_) | fail
     all_goals first | omega | rfl | exact absurd ho ‹_›
 · have hc : cDt f ls r hs ds true = 1 := if_neg ho
   rw [hc]
   repeat' (conv => whnf); first | (intro h; try exact nZ) | apply And.intro | refine dZ ?_ | refine sZ ?_ | (refine Ret.goP (implPortfolio_ret f ls r hs hn hh) rfl ?_) | (refine Ret.goQP (implPortfolio_ret f ls r hs hn hh) rfl ?_) | fail
   all_goals first | omega | rfl | exact absurd ‹_› ho
theorem specCode_ret (f : Int) (ls : List Int) (r : Int) (hs : List (List Int)) (ds : List Int) (b : Bool) (hn : ls.length ≤ 1048576) (hh : hs.length ≤ 1048576) (hd : ds.length ≤ 1048576) : Rt 168 [Bs f ls r, Rh hs, Ri ds, Bo b] (I (cDt f ls r hs ds b)) := by
 refine bZ Tryz.func168 ?_
 by_cases ho : okF f ls r hs
 · cases b
   · have hc : cDt f ls r hs ds false = 2 := (if_pos ho).trans (if_neg fun e => by have := e.1; cases this)
     rw [hc]
     repeat' (conv => whnf); first | (intro h; try exact nZ) | apply And.intro | refine dZ ?_ | refine sZ ?_ | (refine Ret.goP (specPortfolio_ret f ls r hs hn hh) rfl ?_) | (refine Ret.goQP (specPortfolio_ret f ls r hs hn hh) rfl ?_) | fail
     all_goals first | omega | rfl | exact absurd ho ‹_› | skip
     refine loop_rule hT (fun i : Nat => i = 0) 43 1 [1, 2, 3, 4, 9] (fun i => [Rh hs, Ri ds, Bo false, .ptr 0 0, I i]) (fun _ => [.cells [I f, Ri ls, I r]]) (fun i => i) (0) (Nat.le_of_ble_eq_true rfl) ?_ ?_ ?_
     · rfl
     · (exact endHA)
     · rintro i rfl
       repeat' (conv => whnf); first | (intro h; try exact nZ) | apply And.intro | refine dZ ?_ | refine sZ ?_ | fail
       all_goals first | omega | rfl
   · by_cases hl : ds.length = hs.length
     · repeat' (conv => whnf); first | (intro h; try exact nZ) | apply And.intro | refine dZ ?_ | refine sZ ?_ | (refine Ret.goP (specPortfolio_ret f ls r hs hn hh) rfl ?_) | (refine Ret.goQP (specPortfolio_ret f ls r hs hn hh) rfl ?_) | fail
       all_goals first | omega | exact absurd ho ‹_› | skip
       refine loop_rule hT (fun p : Nat × Bool => p.1 ≤ hs.length ∧ (p.2 = true → ∀ j, j < p.1 → 0 ≤ ds.getD j 0 ∧ ds.getD j 0 ≤ (hs.getD j []).getD 6 0) ∧ (p.2 = false → ¬ dOk hs ds)) 43 1 [1, 2, 3, 4, 9] (fun p => [Rh hs, Ri ds, Bo p.2, .ptr 0 0, I p.1]) (fun _ => [.cells [I f, Ri ls, I r]]) (fun p => hs.length - p.1) ((0, true)) (Nat.le_of_ble_eq_true rfl) ?_ ?_ ?_
       · exact ⟨Nat.zero_le _, fun _ j hj => absurd hj (Nat.not_lt_zero j), fun h => by cases h⟩
       · (exact endHA)
       · rintro ⟨i, b⟩ ⟨h1, h2, h3⟩
         dsimp only at h1 h2 h3 ⊢
         cases b
         · have hc : cDt f ls r hs ds true = 2 := (if_pos ho).trans (if_neg fun e => h3 rfl e.2)
           rw [hc]
           repeat' (conv => whnf); first | (intro h; try exact nZ) | apply And.intro | refine dZ ?_ | refine sZ ?_ | fail
           all_goals first | omega | rfl
         · by_cases hi : i < hs.length
           · by_cases hdi : 0 ≤ ds.getD ((i : Int)).toNat 0 ∧ ds.getD ((i : Int)).toNat 0 ≤ (hs.getD ((i : Int)).toNat []).getD 6 0
             · repeat' (conv => whnf); first | (intro h; try exact nZ) | apply And.intro | refine dZ ?_ | refine sZ ?_ | (refine Ret.goP (l01In_ret _ _ _) rfl ?_) | (refine Ret.goQP (l01In_ret _ _ _) rfl ?_) | fail
               all_goals first | omega | exact absurd hdi ‹_› | ((conv => whnf); refine ⟨(i + 1, true), ⟨by dsimp only; omega, fun _ => dth_step (h2 rfl) hdi, fun h => (by cases h)⟩, ?_, by dsimp only; omega⟩; (exact endHA))
             · repeat' (conv => whnf); first | (intro h; try exact nZ) | apply And.intro | refine dZ ?_ | refine sZ ?_ | (refine Ret.goP (l01In_ret _ _ _) rfl ?_) | (refine Ret.goQP (l01In_ret _ _ _) rfl ?_) | fail
               all_goals first | omega | exact absurd ‹_› hdi | ((conv => whnf); refine ⟨(i + 1, false), ⟨by dsimp only; omega, fun h => (by cases h), fun _ e => hdi (e.2 i hi)⟩, ?_, by dsimp only; omega⟩; (exact endHA))
           · have hc : cDt f ls r hs ds true = 0 := (if_pos ho).trans (if_pos ⟨rfl, hl, fun j hj => h2 rfl j (by omega)⟩)
             rw [hc]
             repeat' (conv => whnf); first | (intro h; try exact nZ) | apply And.intro | refine dZ ?_ | refine sZ ?_ | fail
             all_goals first | omega | rfl
     · have hc : cDt f ls r hs ds true = 2 := (if_pos ho).trans (if_neg fun e => hl e.2.1)
       rw [hc]
       repeat' (conv => whnf); first | (intro h; try exact nZ) | apply And.intro | refine dZ ?_ | refine sZ ?_ | (refine Ret.goP (specPortfolio_ret f ls r hs hn hh) rfl ?_) | (refine Ret.goQP (specPortfolio_ret f ls r hs hn hh) rfl ?_) | fail
       all_goals first | omega | rfl | exact absurd ho ‹_› | skip
       refine loop_rule hT (fun i : Nat => i = 0) 43 1 [1, 2, 3, 4, 9] (fun i => [Rh hs, Ri ds, Bo false, .ptr 0 0, I i]) (fun _ => [.cells [I f, Ri ls, I r]]) (fun i => i) (0) (Nat.le_of_ble_eq_true rfl) ?_ ?_ ?_
       · rfl
       · (exact endHA)
       · rintro i rfl
         repeat' (conv => whnf); first | (intro h; try exact nZ) | apply And.intro | refine dZ ?_ | refine sZ ?_ | fail
         all_goals first | omega | rfl
 · have hc : cDt f ls r hs ds b = 1 := if_neg ho
   rw [hc]
   cases b
   · repeat' (conv => whnf); first | (intro h; try exact nZ) | apply And.intro | refine dZ ?_ | refine sZ ?_ | (refine Ret.goP (specPortfolio_ret f ls r hs hn hh) rfl ?_) | (refine Ret.goQP (specPortfolio_ret f ls r hs hn hh) rfl ?_) | fail
     all_goals first | omega | rfl | exact absurd ‹_› ho
   · repeat' (conv => whnf); first | (intro h; try exact nZ) | apply And.intro | refine dZ ?_ | refine sZ ?_ | (refine Ret.goP (specPortfolio_ret f ls r hs hn hh) rfl ?_) | (refine Ret.goQP (specPortfolio_ret f ls r hs hn hh) rfl ?_) | fail
     all_goals first | omega | rfl | exact absurd ‹_› ho
theorem specLast_ret (f : Int) (ls : List Int) (r : Int) (h : List Int) (ho : okP f ls r (h.getD 0 0) (h.getD 1 0) (h.getD 2 0) (h.getD 3 0) (h.getD 4 0)) : Rt 292 [Bs f ls r, WH h] (Bo (decide (h.getD 5 0 = hdur f ls h - 1))) := by
 refine bZ Tryz.func292 ?_
 have hb := dur_bd ho
 have hc := specDur_ret f ls r (h.getD 0 0) (h.getD 1 0) (h.getD 2 0) (h.getD 3 0) (h.getD 4 0) ho
 repeat' (conv => whnf); first | (intro h; try exact nZ) | apply And.intro | refine dZ ?_ | refine sZ ?_ | (refine Ret.go (hc) rfl rfl ?_) | (refine Ret.goQ (hc) rfl rfl ?_) | fail
 all_goals first | omega | exact bv_true ‹_› | exact bv_false ‹_›
theorem matures_ret (f : Int) (ls : List Int) (r : Int) (h : List Int) (ho : okP f ls r (h.getD 0 0) (h.getD 1 0) (h.getD 2 0) (h.getD 3 0) (h.getD 4 0)) : Rt 316 [WH h, Bs f ls r] (Bo (decide (2 ≤ h.getD 0 0 ∧ h.getD 5 0 = hdur f ls h - 1))) := by
 refine bZ Tryz.func316 ?_
 have hb := dur_bd ho
 have hc := implDur_ret f ls r (h.getD 0 0) (h.getD 1 0) (h.getD 2 0) (h.getD 3 0) (h.getD 4 0) ho
 repeat' (conv => whnf); first | (intro h; try exact nZ) | apply And.intro | refine dZ ?_ | refine sZ ?_ | (refine Ret.go (hc) rfl rfl ?_) | (refine Ret.goQ (hc) rfl rfl ?_) | fail
 all_goals first | omega | exact bv_true ⟨by assumption, by assumption⟩ | (exact bv_false fun e => absurd e.2 ‹_›) | (exact bv_false fun e => absurd e.1 (by omega))
def cl1 (f : Int) (ls : List Int) (h : List Int) (d : Int) : Int := (if h.getD 0 0 = 3 then 0 else d * h.getD 3 0) + (if 2 ≤ h.getD 0 0 ∧ h.getD 5 0 = hdur f ls h - 1 then (h.getD 6 0 - d) * h.getD 3 0 else 0)
def clS (f : Int) (ls : List Int) (hs : List (List Int)) (ds : List Int) : Nat → Int
 | 0 => 0
 | i + 1 => clS f ls hs ds i + cl1 f ls (hs.getD i []) (ds.getD i 0)
theorem clS_next (f : Int) (ls : List Int) (hs : List (List Int)) (ds : List Int) (i : Nat) : clS f ls hs ds (i + 1) = clS f ls hs ds i + cl1 f ls (hs.getD i []) (ds.getD i 0) := rfl
theorem okH_sum {f : Int} {ls : List Int} {r : Int} {h : List Int} (ho : okH f ls r h) : (1 ≤ h.getD 3 0 ∧ h.getD 3 0 ≤ 100000000) ∧ (0 ≤ h.getD 0 0 ∧ h.getD 0 0 ≤ 3) ∧ 0 ≤ h.getD 6 0 ∧ h.getD 6 0 ≤ 1000000 := by
 have := ho.1.1.2.1
 unfold okA at this
 exact ⟨this.2.2.1, this.1, ho.2⟩
theorem cl_parts {c d S : Int} (hd : 0 ≤ d ∧ d ≤ c) (hc : c ≤ 1000000) (hS : 1 ≤ S ∧ S ≤ 100000000) : (0 ≤ d * S ∧ d * S ≤ 100000000000000) ∧ 0 ≤ (c - d) * S ∧ (c - d) * S ≤ 100000000000000 := by
 have h1 := mul_in (a := d) (A := 1000000) (b := S) (B := 100000000) hd.1 (by omega) (by omega) hS.2
 have h2 := mul_in (a := c - d) (A := 1000000) (b := S) (B := 100000000) (by omega) (by omega) (by omega) hS.2
 omega
theorem clS_bd {f : Int} {ls : List Int} {r : Int} {hs : List (List Int)} {ds : List Int} (ho : okF f ls r hs) (hd : dOk hs ds) : ∀ i, i ≤ hs.length → 0 ≤ clS f ls hs ds i ∧ clS f ls hs ds i ≤ 200000000000000 * i
 | 0, _ => by simp [clS]
 | i + 1, hi => by
   have ih := clS_bd ho hd i (by omega)
   have h1 := okH_sum (ho.2.2 (hs.getD i []) (getD_mem (by omega)))
   have h2 := cl_parts (hd.2 i (by omega)) h1.2.2.2 h1.1
   rw [clS_next]
   unfold cl1
   split <;> split <;> omega
attribute [local irreducible] clS
theorem cl1_a {f : Int} {ls h : List Int} {d : Int} (hk : h.getD 0 0 = 3) (hm : 2 ≤ h.getD 0 0 ∧ h.getD 5 0 = hdur f ls h - 1) : cl1 f ls h d = (h.getD 6 0 - d) * h.getD 3 0 := by
 unfold cl1; rw [if_pos hk, if_pos hm, Int.zero_add]
theorem cl1_b {f : Int} {ls h : List Int} {d : Int} (hk : h.getD 0 0 = 3) (hm : ¬ (2 ≤ h.getD 0 0 ∧ h.getD 5 0 = hdur f ls h - 1)) : cl1 f ls h d = 0 := by
 unfold cl1; rw [if_pos hk, if_neg hm]; rfl
theorem cl1_c {f : Int} {ls h : List Int} {d : Int} (hk : ¬ h.getD 0 0 = 3) (hm : 2 ≤ h.getD 0 0 ∧ h.getD 5 0 = hdur f ls h - 1) : cl1 f ls h d = d * h.getD 3 0 + (h.getD 6 0 - d) * h.getD 3 0 := by
 unfold cl1; rw [if_neg hk, if_pos hm]
theorem cl1_d {f : Int} {ls h : List Int} {d : Int} (hk : ¬ h.getD 0 0 = 3) (hm : ¬ (2 ≤ h.getD 0 0 ∧ h.getD 5 0 = hdur f ls h - 1)) : cl1 f ls h d = d * h.getD 3 0 := by
 unfold cl1; rw [if_neg hk, if_neg hm, Int.add_zero]
attribute [local irreducible] cl1
theorem implClaims_ret (f : Int) (ls : List Int) (r : Int) (hs : List (List Int)) (ds : List Int) (ho : okF f ls r hs) (hd : dOk hs ds) : Rt 281 [Bs f ls r, Rh hs, Ri ds] (I (clS f ls hs ds hs.length)) := by
 refine bZ Tryz.func281 ?_
 have hl := ho.2.1
 have hdl := hd.1
 repeat' (conv => whnf); first | (intro h; try exact nZ) | apply And.intro | refine dZ ?_ | refine sZ ?_ | fail
 refine loop_rule hT (fun i : Nat => i ≤ hs.length) 49 1 [1, 2, 3, 7, 10, 11, 12] (fun i => [Rh hs, Ri ds, .ptr 0 0, I (clS f ls hs ds i), Rh hs, I hs.length, I i]) (fun _ => [.cells [I f, Ri ls, I r]]) (fun i => hs.length - i) (0) (Nat.le_of_ble_eq_true rfl) ?_ ?_ ?_
 · exact Nat.zero_le _
 · (refine ⟨rfl, [], ?_, ?_⟩; (repeat' first | apply And.intro | exact xZ | (unfold clS; rfl) | fail); done)
 · rintro i h1
   have hbd := clS_bd ho hd i h1
   by_cases hi : i < hs.length
   · have hoh := ho.2.2 (hs.getD ((i : Int)).toNat []) (getD_mem hi)
     have hsm := okH_sum hoh
     have hdi : 0 ≤ ds.getD ((i : Int)).toNat 0 ∧ ds.getD ((i : Int)).toNat 0 ≤ (hs.getD ((i : Int)).toNat []).getD 6 0 := hd.2 i hi
     have hpp := cl_parts hdi hsm.2.2.2 hsm.1
     have hmr := matures_ret f ls r (hs.getD ((i : Int)).toNat []) hoh.1.1
     have hnx : clS f ls hs ds (i + 1) = clS f ls hs ds i + cl1 f ls (hs.getD ((i : Int)).toNat []) (ds.getD ((i : Int)).toNat 0) := clS_next f ls hs ds i
     by_cases hk : (hs.getD ((i : Int)).toNat []).getD 0 0 = 3
     · by_cases hm : 2 ≤ (hs.getD ((i : Int)).toNat []).getD 0 0 ∧ (hs.getD ((i : Int)).toNat []).getD 5 0 = hdur f ls (hs.getD ((i : Int)).toNat []) - 1
       · rw [cl1_a hk hm] at hnx
         (repeat' (conv => whnf); first | (intro h; try exact nZ) | apply And.intro | refine dZ ?_ | refine sZ ?_ | (refine Ret.goP (hmr) rfl ?_) | (refine Ret.goQP (hmr) rfl ?_) | fail); all_goals first | omega | exact absurd hm ‹_› | exact absurd ‹_› hm | ((conv => whnf); refine ⟨i + 1, by omega, ?_, by omega⟩; (refine ⟨rfl, [], ?_, ?_⟩; (repeat' first | apply And.intro | exact xZ | exact hnx.symm | fail); done))
       · rw [cl1_b hk hm, Int.add_zero] at hnx
         (repeat' (conv => whnf); first | (intro h; try exact nZ) | apply And.intro | refine dZ ?_ | refine sZ ?_ | (refine Ret.goP (hmr) rfl ?_) | (refine Ret.goQP (hmr) rfl ?_) | fail); all_goals first | omega | exact absurd hm ‹_› | exact absurd ‹_› hm | ((conv => whnf); refine ⟨i + 1, by omega, ?_, by omega⟩; (refine ⟨rfl, [], ?_, ?_⟩; (repeat' first | apply And.intro | exact xZ | exact hnx.symm | fail); done))
     · by_cases hm : 2 ≤ (hs.getD ((i : Int)).toNat []).getD 0 0 ∧ (hs.getD ((i : Int)).toNat []).getD 5 0 = hdur f ls (hs.getD ((i : Int)).toNat []) - 1
       · rw [cl1_c hk hm, ← Int.add_assoc] at hnx
         (repeat' (conv => whnf); first | (intro h; try exact nZ) | apply And.intro | refine dZ ?_ | refine sZ ?_ | (refine Ret.goP (hmr) rfl ?_) | (refine Ret.goQP (hmr) rfl ?_) | fail); all_goals first | omega | exact absurd hm ‹_› | exact absurd ‹_› hm | ((conv => whnf); refine ⟨i + 1, by omega, ?_, by omega⟩; (refine ⟨rfl, [], ?_, ?_⟩; (repeat' first | apply And.intro | exact xZ | exact hnx.symm | fail); done))
       · rw [cl1_d hk hm] at hnx
         (repeat' (conv => whnf); first | (intro h; try exact nZ) | apply And.intro | refine dZ ?_ | refine sZ ?_ | (refine Ret.goP (hmr) rfl ?_) | (refine Ret.goQP (hmr) rfl ?_) | fail); all_goals first | omega | exact absurd hm ‹_› | exact absurd ‹_› hm | ((conv => whnf); refine ⟨i + 1, by omega, ?_, by omega⟩; (refine ⟨rfl, [], ?_, ?_⟩; (repeat' first | apply And.intro | exact xZ | exact hnx.symm | fail); done))
   · obtain rfl : i = hs.length := by omega
     repeat' (conv => whnf); first | (intro h; try exact nZ) | apply And.intro | refine dZ ?_ | refine sZ ?_ | fail
     all_goals first | omega | rfl
theorem specClaims_ret (f : Int) (ls : List Int) (r : Int) (hs : List (List Int)) (ds : List Int) (ho : okF f ls r hs) (hd : dOk hs ds) : Rt 235 [Bs f ls r, Rh hs, Ri ds] (I (clS f ls hs ds hs.length)) := by
 refine bZ Tryz.func235 ?_
 have hl := ho.2.1
 have hdl := hd.1
 repeat' (conv => whnf); first | (intro h; try exact nZ) | apply And.intro | refine dZ ?_ | refine sZ ?_ | fail
 refine loop_rule hT (fun i : Nat => i ≤ hs.length) 63 1 [1, 2, 3, 7, 8] (fun i => [Rh hs, Ri ds, .ptr 0 0, I (clS f ls hs ds i), I i]) (fun _ => [.cells [I f, Ri ls, I r]]) (fun i => hs.length - i) (0) (Nat.le_of_ble_eq_true rfl) ?_ ?_ ?_
 · exact Nat.zero_le _
 · (refine ⟨rfl, [], ?_, ?_⟩; (repeat' first | apply And.intro | exact xZ | (unfold clS; rfl) | fail); done)
 · rintro i h1
   have hbd := clS_bd ho hd i h1
   by_cases hi : i < hs.length
   · have hoh := ho.2.2 (hs.getD ((i : Int)).toNat []) (getD_mem hi)
     have hsm := okH_sum hoh
     have hdi : 0 ≤ ds.getD ((i : Int)).toNat 0 ∧ ds.getD ((i : Int)).toNat 0 ≤ (hs.getD ((i : Int)).toNat []).getD 6 0 := hd.2 i hi
     have hpp := cl_parts hdi hsm.2.2.2 hsm.1
     have hmr := specLast_ret f ls r (hs.getD ((i : Int)).toNat []) hoh.1.1
     have hnx : clS f ls hs ds (i + 1) = clS f ls hs ds i + cl1 f ls (hs.getD ((i : Int)).toNat []) (ds.getD ((i : Int)).toNat 0) := clS_next f ls hs ds i
     by_cases hk : (hs.getD ((i : Int)).toNat []).getD 0 0 = 3
     · by_cases hm : 2 ≤ (hs.getD ((i : Int)).toNat []).getD 0 0 ∧ (hs.getD ((i : Int)).toNat []).getD 5 0 = hdur f ls (hs.getD ((i : Int)).toNat []) - 1
       · rw [cl1_a hk hm] at hnx
         (repeat' (conv => whnf); first | (intro h; try exact nZ) | apply And.intro | refine dZ ?_ | refine sZ ?_ | (refine Ret.goP (hmr) rfl ?_) | (refine Ret.goQP (hmr) rfl ?_) | fail); all_goals first | omega | ((conv => whnf); refine ⟨i + 1, by omega, ?_, by omega⟩; (refine ⟨rfl, [], ?_, ?_⟩; (repeat' first | apply And.intro | exact xZ | exact hnx.symm | fail); done))
       · rw [cl1_b hk hm, Int.add_zero] at hnx
         (repeat' (conv => whnf); first | (intro h; try exact nZ) | apply And.intro | refine dZ ?_ | refine sZ ?_ | (refine Ret.goP (hmr) rfl ?_) | (refine Ret.goQP (hmr) rfl ?_) | fail); all_goals first | omega | ((conv => whnf); refine ⟨i + 1, by omega, ?_, by omega⟩; (refine ⟨rfl, [], ?_, ?_⟩; (repeat' first | apply And.intro | exact xZ | exact hnx.symm | fail); done))
     · by_cases hm : 2 ≤ (hs.getD ((i : Int)).toNat []).getD 0 0 ∧ (hs.getD ((i : Int)).toNat []).getD 5 0 = hdur f ls (hs.getD ((i : Int)).toNat []) - 1
       · rw [cl1_c hk hm, ← Int.add_assoc] at hnx
         (repeat' (conv => whnf); first | (intro h; try exact nZ) | apply And.intro | refine dZ ?_ | refine sZ ?_ | (refine Ret.goP (hmr) rfl ?_) | (refine Ret.goQP (hmr) rfl ?_) | fail); all_goals first | omega | ((conv => whnf); refine ⟨i + 1, by omega, ?_, by omega⟩; (refine ⟨rfl, [], ?_, ?_⟩; (repeat' first | apply And.intro | exact xZ | exact hnx.symm | fail); done))
       · rw [cl1_d hk hm] at hnx
         (repeat' (conv => whnf); first | (intro h; try exact nZ) | apply And.intro | refine dZ ?_ | refine sZ ?_ | (refine Ret.goP (hmr) rfl ?_) | (refine Ret.goQP (hmr) rfl ?_) | fail); all_goals first | omega | ((conv => whnf); refine ⟨i + 1, by omega, ?_, by omega⟩; (refine ⟨rfl, [], ?_, ?_⟩; (repeat' first | apply And.intro | exact xZ | exact hnx.symm | fail); done))
   · obtain rfl : i = hs.length := by omega
     repeat' (conv => whnf); first | (intro h; try exact nZ) | apply And.intro | refine dZ ?_ | refine sZ ?_ | fail
     all_goals first | omega | rfl
theorem cD_lv {f : Int} {ls : List Int} {r x : Int} (ho : okT f ls) (h : cD f ls r x ≠ 0) : 1 ≤ lv f ls x := by
 have h1 := lv_bd ho x
 by_cases h2 : lv f ls x < 1
 · exfalso
   refine h ?_
   unfold cD
   split
   · rw [show lv f ls x = 0 by omega, Int.zero_mul]
   · rfl
 · omega
end
end Go.Proofs.YtglbamncajileaaGreatDoor
