/-
  Products divided where only the quotient has a bound, by the program and by the reference. The price of a life annuity and of an assurance, by the program and by the reference: both return the same. No conditions but those in the statements.
-/
import Derived.Test.YtglbamncajileaaGreatDoorMk
set_option linter.unusedVariables false
set_option linter.unusedSimpArgs false
set_option maxRecDepth 100000
set_option maxHeartbeats 4000000
namespace Go.Proofs.YtglbamncajileaaGreatDoor
open Go.AE
section
attribute [local irreducible] CallA LoopA DrawA CallQ arithK quoK remK eqK
structure MI (a b c : Int) : Prop where
 ha : 0 ≤ a ∧ a ≤ 1000000000000000000
 hb : 0 ≤ b ∧ b ≤ 1000000000000000000
 hc : 1 ≤ c ∧ c ≤ 1000000000000000000
 hq : a * b / c ≤ 1000000000000000000
theorem MI.q {a b c : Int} (h : MI a b c) : 0 ≤ a * b / c ∧ 0 ≤ a * b ∧ a * b / c * c + a * b % c = a * b ∧ 0 ≤ a * b % c ∧ a * b % c < c := by
 have h1 := h.ha
 have h2 := h.hb
 have h3 := h.hc
 have hn := Int.mul_nonneg h1.1 h2.1
 exact ⟨Int.ediv_nonneg hn (by omega), hn, floor_spec (by omega)⟩
theorem mulDivI_ret (a b c : Int) (h : MI a b c) : Rt 270 [I a, I b, I c] (.tup [I (a * b / c), I (a * b % c), Bo true]) := by
 refine bZ Tryz.func270 ?_
 obtain ⟨hq, hn, h0⟩ := h.q
 have h1 := h.ha
 have h2 := h.hb
 have h3 := h.hc
 have h4 := h.hq
 have hle : a * b / c * c ≤ 1000000000000000000 * c := Int.mul_le_mul_of_nonneg_right h4 (by omega)
 have hhi : a * b / 18446744073709551616 < c := Int.ediv_lt_of_lt_mul (by omega) (by omega)
 have hm := mul64_ret a b ⟨by omega, by omega⟩ ⟨by omega, by omega⟩
 have hd := div64_ret (a * b / 18446744073709551616) (a * b % 18446744073709551616) c (Int.ediv_nonneg hn (by omega)) hhi (by omega) ⟨by omega, by omega⟩
 rw [show a * b / 18446744073709551616 * 18446744073709551616 + a * b % 18446744073709551616 = a * b by omega] at hd
 repeat' (conv => whnf); first | (intro h; try exact nZ) | apply And.intro | refine dZ ?_ | refine sZ ?_ | (refine Ret.go (hm) rfl rfl ?_) | (refine Ret.goQ (hm) rfl rfl ?_) | (refine Ret.go (hd) rfl rfl ?_) | (refine Ret.goQ (hd) rfl rfl ?_) | fail
 all_goals first | exact rZ
theorem roundUpI_ret (a b c : Int) (h : MI a b c) : Rt 267 [I a, I b, I c] (.tup [I (cdiv (a * b) c), Bo true]) := by
 refine bZ Tryz.func267 ?_
 obtain ⟨hq, hn, h0⟩ := h.q
 have h4 := h.hq
 unfold cdiv
 by_cases hz : a * b % c = 0
 · rw [if_pos hz]
   repeat' (conv => whnf); first | (intro h; try exact nZ) | apply And.intro | refine dZ ?_ | refine sZ ?_ | (refine Ret.go (mulDivI_ret a b c h) rfl rfl ?_) | (refine Ret.goQ (mulDivI_ret a b c h) rfl rfl ?_) | fail
   all_goals first | exact rZ | (rw [Int.add_zero]; rfl) | (rw [Int.add_zero]; done)
 · rw [if_neg hz]
   repeat' (conv => whnf); first | (intro h; try exact nZ) | apply And.intro | refine dZ ?_ | refine sZ ?_ | (refine Ret.go (mulDivI_ret a b c h) rfl rfl ?_) | (refine Ret.goQ (mulDivI_ret a b c h) rfl rfl ?_) | fail
   all_goals first | exact rZ
theorem pricedI_ret (a b c : Int) (h : MI a b c) : Rt 201 [I a, I b, I c] (I (cdiv (a * b) c)) := by
 refine bZ Tryz.func201 ?_
 repeat' (conv => whnf); first | (intro h; try exact nZ) | apply And.intro | refine dZ ?_ | refine sZ ?_ | (refine Ret.go (roundUpI_ret a b c h) rfl rfl ?_) | (refine Ret.goQ (roundUpI_ret a b c h) rfl rfl ?_) | fail
 all_goals first | exact rZ
attribute [local irreducible] sh
theorem sh_div_le {a b c : Int} (h : MI a b c) (j : Nat) : 0 ≤ sh a j * b / c ∧ sh a j * b / c ≤ 1000000000000000000 := by
 have hs := sh_bd h.ha.1 j
 have h2 := h.hb
 have h3 := h.hc
 refine ⟨Int.ediv_nonneg (Int.mul_nonneg hs.1 h2.1) (by omega), Int.le_trans (Int.ediv_le_ediv (by omega) (Int.mul_le_mul_of_nonneg_right hs.2 h2.1)) h.hq⟩
theorem specDivI_ret (a b c : Int) (ha : a ≤ 4398046511103) (h : MI a b c) : Rt 240 [I a, I b, I c] (.tup [I (a * b / c), I (a * b % c)]) := by
 refine bZ Tryz.func240 ?_
 have h1 := h.ha
 have h2 := h.hb
 have h3 := h.hc
 have h4 := h.hq
 repeat' (conv => whnf); first | (intro h; try exact nZ) | apply And.intro | refine dZ ?_ | refine sZ ?_ | fail
 all_goals try omega
 refine loop_rule hT (fun j : Nat => j ≤ 42) 47 0 [0, 1, 2, 8, 9, 10] (fun j => [I a, I b, I c, I (sh a j * b / c), I (sh a j * b % c), I ((j : Int) - 1)]) (fun _ => []) (fun j => j) (42) (Nat.le_of_ble_eq_true rfl) ?_ ?_ ?_
 · exact Nat.le_refl _
 · have ht := sh_top (a := a) h1.1 (by omega)
   have e1 : sh a 42 * b / c = 0 := by rw [ht, Int.zero_mul, Int.zero_ediv]
   have e2 : sh a 42 * b % c = 0 := by rw [ht, Int.zero_mul, Int.zero_emod]
   (refine ⟨rfl, [], ?_, ?_⟩; (repeat' first | apply And.intro | exact xZ | first | exact e1.symm | exact e2.symm | fail); done)
 · rintro j hj
   by_cases hj0 : j = 0
   · subst hj0
     rw [sh_zero]
     repeat' (conv => whnf); first | (intro h; try exact nZ) | apply And.intro | refine dZ ?_ | refine sZ ?_ | fail
     all_goals first | exact rZ
   · have hsb := sh_bd h1.1 j
     have hsb1 := sh_bd h1.1 (j - 1)
     have hst := sh_step a (j - 1)
     rw [show j - 1 + 1 = j by omega] at hst
     have hdb := sh_div_le h j
     have hdb1 := sh_div_le h (j - 1)
     have hf := floor_spec (x := sh a j * b) (d := c) (by omega)
     have hfb := floor_spec (x := b) (d := c) (by omega)
     have hbq0 : 0 ≤ b / c := Int.ediv_nonneg h2.1 (by omega)
     have hbq1 : b / c ≤ 1000000000000000000 := Int.ediv_le_of_le_mul (by omega) (by
       have : 1000000000000000000 * 1 ≤ 1000000000000000000 * c := Int.mul_le_mul_of_nonneg_left h3.1 (by decide)
       omega)
     have hsr := sh_shr (a := a) (j := j) (by omega) hj
     by_cases hbit : sh a (j - 1) % 2 = 1
     · obtain ⟨d1, d2⟩ := dstep1 (A := sh a j) (b := b) (c := c) (by omega)
       rw [show 2 * sh a j + 1 = sh a (j - 1) by omega] at d1 d2
       have ht : 0 ≤ (2 * (sh a j * b % c) + b % c) / c ∧ (2 * (sh a j * b % c) + b % c) / c ≤ 3 := ⟨Int.ediv_nonneg (by omega) (by omega), Int.ediv_le_of_le_mul (by omega) (by omega)⟩
       repeat' (conv => whnf); first | (intro h; try exact nZ) | apply And.intro | refine dZ ?_ | refine sZ ?_ | (refine eqv hsr ?_) | refine qZ ?_ | refine mZ ?_ | fail
       all_goals first | omega | ((conv => whnf); refine ⟨j - 1, by omega, ?_, by omega⟩; (refine ⟨rfl, [], ?_, ?_⟩; (repeat' first | apply And.intro | exact xZ | first | exact d1.symm | exact d2.symm | omega | fail); done))
     · obtain ⟨d1, d2⟩ := dstep0 (A := sh a j) (b := b) (c := c) (by omega)
       rw [show 2 * sh a j = sh a (j - 1) by omega] at d1 d2
       have ht : 0 ≤ 2 * (sh a j * b % c) / c ∧ 2 * (sh a j * b % c) / c ≤ 3 := ⟨Int.ediv_nonneg (by omega) (by omega), Int.ediv_le_of_le_mul (by omega) (by omega)⟩
       repeat' (conv => whnf); first | (intro h; try exact nZ) | apply And.intro | refine dZ ?_ | refine sZ ?_ | (refine eqv hsr ?_) | refine qZ ?_ | refine mZ ?_ | fail
       all_goals first | omega | ((conv => whnf); refine ⟨j - 1, by omega, ?_, by omega⟩; (refine ⟨rfl, [], ?_, ?_⟩; (repeat' first | apply And.intro | exact xZ | first | exact d1.symm | exact d2.symm | omega | fail); done))
theorem specUp5I_ret (a b c : Int) (ha : a ≤ 4398046511103) (h : MI a b c) : Rt 182 [I a, I b, I c] (I (cdiv (a * b) c)) := by
 refine bZ Tryz.func182 ?_
 obtain ⟨hq, hn, h0⟩ := h.q
 have h4 := h.hq
 unfold cdiv
 by_cases hz : a * b % c = 0
 · rw [if_pos hz]
   repeat' (conv => whnf); first | (intro h; try exact nZ) | apply And.intro | refine dZ ?_ | refine sZ ?_ | (refine Ret.go (specDivI_ret a b c ha h) rfl rfl ?_) | (refine Ret.goQ (specDivI_ret a b c ha h) rfl rfl ?_) | fail
   all_goals first | exact rZ | (refine iv ?_; omega)
 · rw [if_neg hz]
   repeat' (conv => whnf); first | (intro h; try exact nZ) | apply And.intro | refine dZ ?_ | refine sZ ?_ | (refine Ret.go (specDivI_ret a b c ha h) rfl rfl ?_) | (refine Ret.goQ (specDivI_ret a b c ha h) rfl rfl ?_) | fail
   all_goals first | exact rZ | (refine iv ?_; omega)
end
section
attribute [local irreducible] CallA LoopA DrawA CallQ arithK quoK remK eqK
attribute [local irreducible] cols cN cM cD cC pTop pBase netP top base
def Both2 (fi fs : FuncId) (args : List AV) (B : Int) : Prop := ∃ v c : Int, Rt fi args (.tup [I v, I c]) ∧ Rt fs args (.tup [I v, I c]) ∧ (-B ≤ v ∧ v ≤ B) ∧ 0 ≤ c ∧ c ≤ 6
def okAn (f a m n : Int) : Prop := (f ≤ a ∧ a ≤ 150) ∧ (1 ≤ m ∧ m ≤ 1000000) ∧ (0 ≤ n ∧ n ≤ 120) ∧ a + n ≤ 150
abbrev Cl4 (a b c d : Int) : AV := .agg [I a, I b, I c, I d]
theorem chkAn_bad (f : Int) (ls : List Int) (r a m n : Int) (ho : okB f ls r) (h : ¬ okAn f a m n) : Rt 268 [Tb f ls, I r, I a, I m, I n] (.tup [Cl4 0 0 0 0, Cl4 0 0 0 0, I 2]) := by
 refine bZ Tryz.func268 ?_
 have h0 := ho.1.1
 unfold hdT at h0
 unfold okAn at h
 repeat' (conv => whnf); first | (intro h; try exact nZ) | apply And.intro | refine sZ ?_ | (refine Ret.goP (implTable_ret f ls (by omega)) rfl ?_) | (refine Ret.goP (implRate_ret r) rfl ?_) | (refine Ret.goP (inRange_ret _ _ _) rfl ?_) | (refine Ret.goP (implYears_ret _) rfl ?_) | fail
 all_goals first | exact rZ | exact absurd ho.1 ‹_›
theorem chkAn_zero (f : Int) (ls : List Int) (r a m n : Int) (ho : okB f ls r) (h : okAn f a m n) (hd : cD f ls r a = 0) : Rt 268 [Tb f ls, I r, I a, I m, I n] (.tup [Cl4 0 0 0 0, Cl4 0 0 0 0, I 5]) := by
 refine bZ Tryz.func268 ?_
 unfold okAn at h
 have h0 := ho.1.1
 unfold hdT at h0
 have c1 := inC_all ho (x := a) (by omega)
 have c2 := inC_all ho (x := a + n) (by omega)
 have hl := cols_len f ls r
 have hca := cols_at (ls := ls) (r := r) (f := f) (x := a) (by omega) (by omega)
 have hcb := cols_at (ls := ls) (r := r) (f := f) (x := a + n) (by omega) (by omega)
 have n0 : ((cols f ls r).getD (a - f).toNat []).getD 0 0 = cD f ls r a := by rw [hca]; rfl
 have n1 : ((cols f ls r).getD (a - f).toNat []).getD 1 0 = cN f ls r a := by rw [hca]; rfl
 have n2 : ((cols f ls r).getD (a - f).toNat []).getD 2 0 = cC f ls r a := by rw [hca]; rfl
 have n3 : ((cols f ls r).getD (a - f).toNat []).getD 3 0 = cM f ls r a := by rw [hca]; rfl
 have m0 : ((cols f ls r).getD (a + n - f).toNat []).getD 0 0 = cD f ls r (a + n) := by rw [hcb]; rfl
 have m1 : ((cols f ls r).getD (a + n - f).toNat []).getD 1 0 = cN f ls r (a + n) := by rw [hcb]; rfl
 have m2 : ((cols f ls r).getD (a + n - f).toNat []).getD 2 0 = cC f ls r (a + n) := by rw [hcb]; rfl
 have m3 : ((cols f ls r).getD (a + n - f).toNat []).getD 3 0 = cM f ls r (a + n) := by rw [hcb]; rfl
 repeat' (conv => whnf); first | (intro h; try exact nZ) | apply And.intro | refine sZ ?_ | (refine Ret.goP (implTable_ret f ls (by omega)) rfl ?_) | (refine Ret.goP (implRate_ret r) rfl ?_) | (refine Ret.goP (inRange_ret _ _ _) rfl ?_) | (refine Ret.goP (implYears_ret _) rfl ?_) | refine gZ [] (columns_ro f ls r ho.1 ho.2) ?_ | fail
 all_goals first | exact rZ | (show _ < _; omega) | exact absurd ho.1 ‹_›
theorem chkAn_ok (f : Int) (ls : List Int) (r a m n : Int) (ho : okB f ls r) (h : okAn f a m n) (hd : cD f ls r a ≠ 0) : Rt 268 [Tb f ls, I r, I a, I m, I n] (.tup [Cl4 (cD f ls r a) (cN f ls r a) (cC f ls r a) (cM f ls r a), Cl4 (cD f ls r (a + n)) (cN f ls r (a + n)) (cC f ls r (a + n)) (cM f ls r (a + n)), I 0]) := by
 refine bZ Tryz.func268 ?_
 unfold okAn at h
 have h0 := ho.1.1
 unfold hdT at h0
 have c1 := inC_all ho (x := a) (by omega)
 have c2 := inC_all ho (x := a + n) (by omega)
 have hl := cols_len f ls r
 have hca := cols_at (ls := ls) (r := r) (f := f) (x := a) (by omega) (by omega)
 have hcb := cols_at (ls := ls) (r := r) (f := f) (x := a + n) (by omega) (by omega)
 have n0 : ((cols f ls r).getD (a - f).toNat []).getD 0 0 = cD f ls r a := by rw [hca]; rfl
 have n1 : ((cols f ls r).getD (a - f).toNat []).getD 1 0 = cN f ls r a := by rw [hca]; rfl
 have n2 : ((cols f ls r).getD (a - f).toNat []).getD 2 0 = cC f ls r a := by rw [hca]; rfl
 have n3 : ((cols f ls r).getD (a - f).toNat []).getD 3 0 = cM f ls r a := by rw [hca]; rfl
 have m0 : ((cols f ls r).getD (a + n - f).toNat []).getD 0 0 = cD f ls r (a + n) := by rw [hcb]; rfl
 have m1 : ((cols f ls r).getD (a + n - f).toNat []).getD 1 0 = cN f ls r (a + n) := by rw [hcb]; rfl
 have m2 : ((cols f ls r).getD (a + n - f).toNat []).getD 2 0 = cC f ls r (a + n) := by rw [hcb]; rfl
 have m3 : ((cols f ls r).getD (a + n - f).toNat []).getD 3 0 = cM f ls r (a + n) := by rw [hcb]; rfl
 repeat' (conv => whnf); first | (intro h; try exact nZ) | apply And.intro | refine sZ ?_ | (refine Ret.goP (implTable_ret f ls (by omega)) rfl ?_) | (refine Ret.goP (implRate_ret r) rfl ?_) | (refine Ret.goP (inRange_ret _ _ _) rfl ?_) | (refine Ret.goP (implYears_ret _) rfl ?_) | refine gZ [] (columns_ro f ls r ho.1 ho.2) ?_ | fail
 all_goals first | omega | (show _ < _; omega) | exact absurd ho.1 ‹_› | skip
 all_goals first | ((conv => whnf); rw [n0, n1, n2, n3, m0, m1, m2, m3]; rfl) | ((conv => whnf); rw [n0, n1, n2, n3, m0, m1, m2, m3]; done)
theorem l06Amount_ret (m : Int) : Rt 183 [I m] (Bo (decide (1 ≤ m ∧ m ≤ 1000000))) := by
 refine bZ Tryz.func183 ?_
 repeat' (conv => whnf); first | (intro h; try exact nZ) | apply And.intro | refine sZ ?_ | refine Ret.uP (l01In_ret _ _ _) ?_ | fail
 all_goals first | exact bv_true (by omega) | exact bv_false (by omega)
theorem cN_all {f : Int} {ls : List Int} {r a : Int} (ho : okB f ls r) (h : f ≤ a ∧ a ≤ 150) : 0 ≤ cN f ls r a ∧ cN f ls r a ≤ 151 * cD f ls r a := by
 have h0 := ho.1.1
 unfold hdT at h0
 have n := (cN_diff ho.1 ho.2 (151 - a).toNat a h.1 (by omega)).1
 rw [show a + ((151 - a).toNat : Int) = 151 by omega, cN_top] at n
 have hd := cD_bd ho.1 ho.2 a
 have hb : ((151 - a).toNat : Int) * cD f ls r a ≤ 151 * cD f ls r a := Int.mul_le_mul_of_nonneg_right (by omega) hd.1
 omega
theorem md_up {a b c K : Int} (h : MD a b c) (hK : a * b ≤ K * c) : 0 ≤ cdiv (a * b) c ∧ cdiv (a * b) c ≤ K := by
 have h3 := h.hc
 obtain ⟨q1, q2, q3, q4, q5⟩ := h.q
 have q6 : a * b / c ≤ K := Int.ediv_le_of_le_mul (by omega) hK
 unfold cdiv
 split
 · omega
 · refine ⟨by omega, ?_⟩
   by_cases e : a * b / c = K
   · rw [e] at q3; omega
   · omega
theorem lifeAn_both (f : Int) (ls : List Int) (r a m : Int) (ho : okB f ls r) : Both2 145 125 [Tb f ls, I r, I a, I m] 1000000000000000000 := by
 have hs6 := spec06_ret f ls r a (decide (1 ≤ m ∧ m ≤ 1000000)) 0 ho
 have h0 := ho.1.1
 unfold hdT at h0
 by_cases h : okAn f a m 0
 · have h' := h
   unfold okAn at h'
   have hc : c06 f ls r a (decide (1 ≤ m ∧ m ≤ 1000000)) 0 = if cD f ls r a = 0 then 5 else 0 := if_pos ⟨h'.1, decide_eq_true h'.2.1, h'.2.2.1, h'.2.2.2⟩
   rw [hc] at hs6
   by_cases hd : cD f ls r a = 0
   · rw [if_pos hd] at hs6
     have hk := chkAn_zero f ls r a m 0 ho h hd
     have hl : Rt 204 [Tb f ls, I r, I a, I m, I 0] (.tup [I 0, I 5]) := by
       refine bZ Tryz.func204 ?_
       repeat' (conv => whnf); first | (intro h; try exact nZ) | apply And.intro | refine sZ ?_ | (refine Ret.go (hk) rfl rfl ?_) | fail
       all_goals first | exact rZ
     refine ⟨0, 5, ?_, ?_, by omega, by omega, by omega⟩
     · refine bZ Tryz.func145 ?_
       repeat' (conv => whnf); first | (intro h; try exact nZ) | apply And.intro | refine sZ ?_ | (refine Ret.go (hl) rfl rfl ?_) | fail
       all_goals first | exact rZ
     · refine bZ Tryz.func125 ?_
       repeat' (conv => whnf); first | (intro h; try exact nZ) | apply And.intro | refine sZ ?_ | refine Ret.uA (l06Amount_ret m) ?_ | (refine Ret.go (hs6) rfl rfl ?_) | fail
       all_goals first | exact rZ
   · rw [if_neg hd] at hs6
     have hk := chkAn_ok f ls r a m 0 ho h hd
     rw [Int.add_zero] at hk
     have hD := cD_bd ho.1 ho.2 a
     have hN := cN_all ho h'.1
     have hm : MD m (cN f ls r a) (cD f ls r a) := ⟨by omega, by omega, by omega, by omega⟩
     have hb := md_up (K := 151000000) hm (by
       have h1 : m * cN f ls r a ≤ 1000000 * cN f ls r a := Int.mul_le_mul_of_nonneg_right h'.2.1.2 hN.1
       omega)
     have hl : Rt 204 [Tb f ls, I r, I a, I m, I 0] (.tup [I (cdiv (m * cN f ls r a) (cD f ls r a)), I 0]) := by
       refine bZ Tryz.func204 ?_
       repeat' (conv => whnf); first | (intro h; try exact nZ) | apply And.intro | refine sZ ?_ | (refine Ret.go (hk) rfl rfl ?_) | (refine Ret.go (priced_ret _ _ _ hm) rfl rfl ?_) | fail
       all_goals first | exact rZ
     refine ⟨cdiv (m * cN f ls r a) (cD f ls r a), 0, ?_, ?_, ⟨?_, ?_⟩, by omega, by omega⟩
     · refine bZ Tryz.func145 ?_
       repeat' (conv => whnf); first | (intro h; try exact nZ) | apply And.intro | refine sZ ?_ | (refine Ret.go (hl) rfl rfl ?_) | fail
       all_goals first | exact rZ
     · refine bZ Tryz.func125 ?_
       repeat' (conv => whnf); first | (intro h; try exact nZ) | apply And.intro | refine sZ ?_ | refine Ret.uA (l06Amount_ret m) ?_ | (refine Ret.go (hs6) rfl rfl ?_) | (refine Ret.go (specN_ret f ls r a ho.1 ho.2 (by omega)) rfl rfl ?_) | (refine Ret.go (specD_ret f ls r a ho.1 ho.2 (by omega)) rfl rfl ?_) | (refine Ret.go (specUp5_ret _ _ _ hm) rfl rfl ?_) | fail
       all_goals first | exact rZ
     · omega
     · omega
 · have hk := chkAn_bad f ls r a m 0 ho h
   unfold okAn at h
   have hc : c06 f ls r a (decide (1 ≤ m ∧ m ≤ 1000000)) 0 = 2 := if_neg fun e => h ⟨e.1, of_decide_eq_true e.2.1, e.2.2.1, e.2.2.2⟩
   rw [hc] at hs6
   have hl : Rt 204 [Tb f ls, I r, I a, I m, I 0] (.tup [I 0, I 2]) := by
     refine bZ Tryz.func204 ?_
     repeat' (conv => whnf); first | (intro h; try exact nZ) | apply And.intro | refine sZ ?_ | (refine Ret.go (hk) rfl rfl ?_) | fail
     all_goals first | exact rZ
   refine ⟨0, 2, ?_, ?_, by omega, by omega, by omega⟩
   · refine bZ Tryz.func145 ?_
     repeat' (conv => whnf); first | (intro h; try exact nZ) | apply And.intro | refine sZ ?_ | (refine Ret.go (hl) rfl rfl ?_) | fail
     all_goals first | exact rZ
   · refine bZ Tryz.func125 ?_
     repeat' (conv => whnf); first | (intro h; try exact nZ) | apply And.intro | refine sZ ?_ | refine Ret.uA (l06Amount_ret m) ?_ | (refine Ret.go (hs6) rfl rfl ?_) | fail
     all_goals first | exact rZ
theorem chkAs_bad (f : Int) (ls : List Int) (r k a y s : Int) (ho : okB f ls r) (hA : ¬ okA f k a y s) : Rt 205 [Tb f ls, I r, I k, I a, I y, I s] (.tup [.agg [I 0, I 0, I 0], I 2]) := by
 refine bZ Tryz.func205 ?_
 have h0 := ho.1.1
 unfold hdT at h0
 repeat' (conv => whnf); first | (intro h; try exact nZ) | apply And.intro | refine sZ ?_ | (refine Ret.goP (implTable_ret f ls (by omega)) rfl ?_) | (refine Ret.goP (implAssurance_ret f ls r k a y s (by omega)) rfl ?_) | fail
 all_goals first | exact rZ | exact absurd ho.1 ‹_› | exact absurd (And.right (by assumption : okR r ∧ okA f k a y s)) hA
theorem chkAs_zero (f : Int) (ls : List Int) (r k a y s : Int) (ho : okB f ls r) (hA : okA f k a y s) (hd : cD f ls r a = 0) : Rt 205 [Tb f ls, I r, I k, I a, I y, I s] (.tup [.agg [I 0, I 0, I 0], I 5]) := by
 refine bZ Tryz.func205 ?_
 have h1 := hA
 unfold okA at h1
 have h0 := ho.1.1
 unfold hdT at h0
 have c1 := inC_all ho (x := a) (by omega)
 have c2 := inC_all ho (x := a + y) (by omega)
 have hl := cols_len f ls r
 have hca := cols_at (ls := ls) (r := r) (f := f) (x := a) (by omega) (by omega)
 have hcb := cols_at (ls := ls) (r := r) (f := f) (x := a + y) (by omega) (by omega)
 have n0 : ((cols f ls r).getD (a - f).toNat []).getD 0 0 = cD f ls r a := by rw [hca]; rfl
 have n1 : ((cols f ls r).getD (a - f).toNat []).getD 1 0 = cN f ls r a := by rw [hca]; rfl
 have n2 : ((cols f ls r).getD (a - f).toNat []).getD 2 0 = cC f ls r a := by rw [hca]; rfl
 have n3 : ((cols f ls r).getD (a - f).toNat []).getD 3 0 = cM f ls r a := by rw [hca]; rfl
 have m0 : ((cols f ls r).getD (a + y - f).toNat []).getD 0 0 = cD f ls r (a + y) := by rw [hcb]; rfl
 have m1 : ((cols f ls r).getD (a + y - f).toNat []).getD 1 0 = cN f ls r (a + y) := by rw [hcb]; rfl
 have m2 : ((cols f ls r).getD (a + y - f).toNat []).getD 2 0 = cC f ls r (a + y) := by rw [hcb]; rfl
 have m3 : ((cols f ls r).getD (a + y - f).toNat []).getD 3 0 = cM f ls r (a + y) := by rw [hcb]; rfl
 repeat' (conv => whnf); first | (intro h; try exact nZ) | apply And.intro | refine sZ ?_ | (refine Ret.goP (implTable_ret f ls (by omega)) rfl ?_) | (refine Ret.goP (implAssurance_ret f ls r k a y s (by omega)) rfl ?_) | refine gZ [] (columns_ro f ls r ho.1 ho.2) ?_ | fail
 all_goals first | exact rZ | (show _ < _; omega) | exact absurd ho.1 ‹_› | exact absurd (And.intro ho.2 hA : okR r ∧ okA f k a y s) ‹_›
theorem chkAs_ok (f : Int) (ls : List Int) (r k a y s : Int) (ho : okB f ls r) (hA : okA f k a y s) (hd : cD f ls r a ≠ 0) : Rt 205 [Tb f ls, I r, I k, I a, I y, I s] (.tup [.agg [I (top k (cM f ls r a) (cM f ls r (a + y)) (cD f ls r (a + y))), I (cD f ls r a), I (base k (cN f ls r a) (cN f ls r (a + y)))], I 0]) := by
 refine bZ Tryz.func205 ?_
 have h1 := hA
 unfold okA at h1
 have h0 := ho.1.1
 unfold hdT at h0
 have c1 := inC_all ho (x := a) (by omega)
 have c2 := inC_all ho (x := a + y) (by omega)
 have hl := cols_len f ls r
 have hca := cols_at (ls := ls) (r := r) (f := f) (x := a) (by omega) (by omega)
 have hcb := cols_at (ls := ls) (r := r) (f := f) (x := a + y) (by omega) (by omega)
 have n0 : ((cols f ls r).getD (a - f).toNat []).getD 0 0 = cD f ls r a := by rw [hca]; rfl
 have n1 : ((cols f ls r).getD (a - f).toNat []).getD 1 0 = cN f ls r a := by rw [hca]; rfl
 have n2 : ((cols f ls r).getD (a - f).toNat []).getD 2 0 = cC f ls r a := by rw [hca]; rfl
 have n3 : ((cols f ls r).getD (a - f).toNat []).getD 3 0 = cM f ls r a := by rw [hca]; rfl
 have m0 : ((cols f ls r).getD (a + y - f).toNat []).getD 0 0 = cD f ls r (a + y) := by rw [hcb]; rfl
 have m1 : ((cols f ls r).getD (a + y - f).toNat []).getD 1 0 = cN f ls r (a + y) := by rw [hcb]; rfl
 have m2 : ((cols f ls r).getD (a + y - f).toNat []).getD 2 0 = cC f ls r (a + y) := by rw [hcb]; rfl
 have m3 : ((cols f ls r).getD (a + y - f).toNat []).getD 3 0 = cM f ls r (a + y) := by rw [hcb]; rfl
 have b1 := c1.1
 have b2 := c1.2.1
 rw [← n1] at b1
 rw [← n3] at b2
 have b3 := c2.1
 have b4 := c2.2.1
 have b5 := c2.2.2
 rw [← m1] at b3
 rw [← m3] at b4
 rw [← m0] at b5
 have hbn := benefits_ret k (((cols f ls r).getD (a - f).toNat []).getD 0 0) (((cols f ls r).getD (a - f).toNat []).getD 1 0) (((cols f ls r).getD (a - f).toNat []).getD 2 0) (((cols f ls r).getD (a - f).toNat []).getD 3 0) (((cols f ls r).getD (a + y - f).toNat []).getD 0 0) (((cols f ls r).getD (a + y - f).toNat []).getD 1 0) (((cols f ls r).getD (a + y - f).toNat []).getD 2 0) (((cols f ls r).getD (a + y - f).toNat []).getD 3 0) ⟨b1, b2⟩ ⟨b3, b4, b5⟩
 repeat' (conv => whnf); first | (intro h; try exact nZ) | apply And.intro | refine sZ ?_ | (refine Ret.goP (implTable_ret f ls (by omega)) rfl ?_) | (refine Ret.goP (implAssurance_ret f ls r k a y s (by omega)) rfl ?_) | refine gZ [] (columns_ro f ls r ho.1 ho.2) ?_ | (refine Ret.go (hbn) rfl rfl ?_) | fail
 all_goals first | omega | (show _ < _; omega) | exact absurd ho.1 ‹_› | exact absurd (And.intro ho.2 hA : okR r ∧ okA f k a y s) ‹_› | skip
 all_goals first | ((conv => whnf); rw [n0, n1, n3, m0, m1, m3]; rfl) | ((conv => whnf); rw [n0, n1, n3, m0, m1, m3]; done)
theorem top_all {f : Int} {ls : List Int} {r k a y s : Int} (ho : okB f ls r) (hA : okA f k a y s) : 0 ≤ top k (cM f ls r a) (cM f ls r (a + y)) (cD f ls r (a + y)) ∧ top k (cM f ls r a) (cM f ls r (a + y)) (cD f ls r (a + y)) ≤ cD f ls r a := by
 have h0 := ho.1.1
 unfold hdT at h0
 unfold okA at hA
 have hd := cD_bd ho.1 ho.2 a
 have hd2 := cD_bd ho.1 ho.2 (a + y)
 have m := cM_diff ho.1 ho.2 y.toNat a (by omega) (by omega)
 rw [show a + (y.toNat : Int) = a + y by omega] at m
 unfold top
 split
 · have m2 := cM_diff ho.1 ho.2 (151 - a).toNat a (by omega) (by omega)
   rw [show a + ((151 - a).toNat : Int) = 151 by omega, cM_top] at m2
   have t := cD_bd ho.1 ho.2 151
   omega
 · split
   · omega
   · split <;> omega
theorem price_both (f : Int) (ls : List Int) (r k a y s : Int) (ho : okB f ls r) : Both2 146 126 [Tb f ls, I r, I k, I a, I y, I s] 1000000000000000000 := by
 have hs7 := spec07_ret f ls r k a y (decide (1 ≤ s ∧ s ≤ 100000000)) ho
 have h0 := ho.1.1
 unfold hdT at h0
 by_cases hA : okA f k a y s
 · have h1 := hA
   unfold okA at h1
   have hc : c06 f ls r a (decide (1 ≤ s ∧ s ≤ 100000000) && decide ((0 ≤ k ∧ k ≤ 3) ∧ (y = 0 ↔ k = 0))) y = if cD f ls r a = 0 then 5 else 0 :=
     if_pos ⟨h1.2.1, by rw [decide_eq_true h1.2.2.1, decide_eq_true (show (0 ≤ k ∧ k ≤ 3) ∧ (y = 0 ↔ k = 0) from ⟨h1.1, h1.2.2.2.2.2⟩)]; rfl, h1.2.2.2.1, h1.2.2.2.2.1⟩
   rw [hc] at hs7
   by_cases hd : cD f ls r a = 0
   · rw [if_pos hd] at hs7
     refine ⟨0, 5, ?_, ?_, by omega, by omega, by omega⟩
     · refine bZ Tryz.func146 ?_
       repeat' (conv => whnf); first | (intro h; try exact nZ) | apply And.intro | refine sZ ?_ | (refine Ret.go (chkAs_zero f ls r k a y s ho hA hd) rfl rfl ?_) | fail
       all_goals first | exact rZ
     · refine bZ Tryz.func126 ?_
       repeat' (conv => whnf); first | (intro h; try exact nZ) | apply And.intro | refine sZ ?_ | refine Ret.uA (specSum_ret s) ?_ | (refine Ret.go (hs7) rfl rfl ?_) | fail
       all_goals first | exact rZ
   · rw [if_neg hd] at hs7
     have hD := cD_bd ho.1 ho.2 a
     have hTp := top_all ho hA
     have hm : MD s (top k (cM f ls r a) (cM f ls r (a + y)) (cD f ls r (a + y))) (cD f ls r a) := ⟨by omega, by omega, by omega, by omega⟩
     have hb := cdiv_le (s := s) (by omega) hTp.1 hTp.2 (by omega)
     refine ⟨cdiv (s * top k (cM f ls r a) (cM f ls r (a + y)) (cD f ls r (a + y))) (cD f ls r a), 0, ?_, ?_, ⟨by omega, by omega⟩, by omega, by omega⟩
     · refine bZ Tryz.func146 ?_
       repeat' (conv => whnf); first | (intro h; try exact nZ) | apply And.intro | refine sZ ?_ | (refine Ret.go (chkAs_ok f ls r k a y s ho hA hd) rfl rfl ?_) | (refine Ret.go (priced_ret _ _ _ hm) rfl rfl ?_) | fail
       all_goals first | exact rZ
     · refine bZ Tryz.func126 ?_
       repeat' (conv => whnf); first | (intro h; try exact nZ) | apply And.intro | refine sZ ?_ | refine Ret.uA (specSum_ret s) ?_ | (refine Ret.go (hs7) rfl rfl ?_) | (refine Ret.go (specTop_ret f ls r k a y ho (by omega) (by omega) (by omega)) rfl rfl ?_) | (refine Ret.go (specD_ret f ls r a ho.1 ho.2 (by omega)) rfl rfl ?_) | (refine Ret.go (specUp5_ret _ _ _ hm) rfl rfl ?_) | fail
       all_goals first | exact rZ
 · have hc : c06 f ls r a (decide (1 ≤ s ∧ s ≤ 100000000) && decide ((0 ≤ k ∧ k ≤ 3) ∧ (y = 0 ↔ k = 0))) y = 2 := if_neg fun e => by
     have e2 := e.2.1
     rw [Bool.and_eq_true, decide_eq_true_eq, decide_eq_true_eq] at e2
     refine hA ?_
     unfold okA
     exact ⟨e2.2.1, e.1, e2.1, e.2.2.1, e.2.2.2, e2.2.2⟩
   rw [hc] at hs7
   refine ⟨0, 2, ?_, ?_, by omega, by omega, by omega⟩
   · refine bZ Tryz.func146 ?_
     repeat' (conv => whnf); first | (intro h; try exact nZ) | apply And.intro | refine sZ ?_ | (refine Ret.go (chkAs_bad f ls r k a y s ho hA) rfl rfl ?_) | fail
     all_goals first | exact rZ
   · refine bZ Tryz.func126 ?_
     repeat' (conv => whnf); first | (intro h; try exact nZ) | apply And.intro | refine sZ ?_ | refine Ret.uA (specSum_ret s) ?_ | (refine Ret.go (hs7) rfl rfl ?_) | fail
     all_goals first | exact rZ
end
end Go.Proofs.YtglbamncajileaaGreatDoor
