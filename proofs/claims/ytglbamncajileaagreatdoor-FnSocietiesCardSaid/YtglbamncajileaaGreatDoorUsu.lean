/-
  Premiums told, surrender values and paid-up sums, by the program and by the reference: both return the same. No conditions but those in the statements.
-/
import Derived.Test.YtglbamncajileaaGreatDoorUan
import Derived.Test.YtglbamncajileaaGreatDoorMk
set_option linter.unusedVariables false
set_option linter.unusedSimpArgs false
set_option maxRecDepth 100000
set_option maxHeartbeats 1000000
namespace Go.Proofs.YtglbamncajileaaGreatDoor
open Go.AE
attribute [local irreducible] CallA LoopA DrawA CallQ arithK quoK remK eqK
attribute [local irreducible] cols cN cM cD cC pTop pBase netP offP top base rnd fwX
theorem net_both (f : Int) (ls : List Int) (r k a y s l : Int) (hn : ls.length ≤ 1048576) : Both2 196 173 [Bs f ls r, Po k a y s l] 1000000000000000000 := by
 by_cases ho : okP f ls r k a y s l
 · have hm := (net_MD ho).2
   refine ⟨netP f ls r k a y s, 0, ?_, ?_, by omega, by omega, by omega⟩
   · refine bZ Tryz.func196 ?_
     repeat' (conv => whnf); first | (intro h; try exact nZ) | apply And.intro | refine sZ ?_ | (refine Ret.goP (implPolicy_ret f ls r k a y s l hn) rfl ?_) | (refine Ret.go (net_ret f ls r k a y s l ho) rfl rfl ?_) | fail
     all_goals first | exact rZ | exact absurd ho ‹_›
   · refine bZ Tryz.func173 ?_
     repeat' (conv => whnf); first | (intro h; try exact nZ) | apply And.intro | refine sZ ?_ | (refine Ret.goP (specPolicy_ret f ls r k a y s l hn) rfl ?_) | (refine Ret.go (specNet_ret f ls r k a y s l ho) rfl rfl ?_) | fail
     all_goals first | exact rZ | exact absurd ho ‹_›
 · refine ⟨0, 1, ?_, ?_, by omega, by omega, by omega⟩
   · refine bZ Tryz.func196 ?_
     repeat' (conv => whnf); first | (intro h; try exact nZ) | apply And.intro | refine sZ ?_ | (refine Ret.goP (implPolicy_ret f ls r k a y s l hn) rfl ?_) | fail
     all_goals first | exact rZ | exact absurd ‹_› ho
   · refine bZ Tryz.func173 ?_
     repeat' (conv => whnf); first | (intro h; try exact nZ) | apply And.intro | refine sZ ?_ | (refine Ret.goP (specPolicy_ret f ls r k a y s l hn) rfl ?_) | fail
     all_goals first | exact rZ | exact absurd ‹_› ho
theorem off_all {f : Int} {ls : List Int} {r k a y s l : Int} (ho : okP f ls r k a y s l) : 0 ≤ offP f ls r k a y s l ∧ offP f ls r k a y s l ≤ 200000000 := by
 have h1 := off_dif ho
 have h2 := (net_MD ho).2
 omega
theorem off_both (f : Int) (ls : List Int) (r k a y s l : Int) (hn : ls.length ≤ 1048576) : Both2 197 174 [Bs f ls r, Po k a y s l] 1000000000000000000 := by
 by_cases ho : okP f ls r k a y s l
 · have hm := off_all ho
   refine ⟨offP f ls r k a y s l, 0, ?_, ?_, by omega, by omega, by omega⟩
   · refine bZ Tryz.func197 ?_
     repeat' (conv => whnf); first | (intro h; try exact nZ) | apply And.intro | refine sZ ?_ | (refine Ret.goP (implPolicy_ret f ls r k a y s l hn) rfl ?_) | (refine Ret.go (office_ret f ls r k a y s l ho) rfl rfl ?_) | fail
     all_goals first | exact rZ | exact absurd ho ‹_›
   · refine bZ Tryz.func174 ?_
     repeat' (conv => whnf); first | (intro h; try exact nZ) | apply And.intro | refine sZ ?_ | (refine Ret.goP (specPolicy_ret f ls r k a y s l hn) rfl ?_) | (refine Ret.go (specOffice_ret f ls r k a y s l ho) rfl rfl ?_) | fail
     all_goals first | exact rZ | exact absurd ho ‹_›
 · refine ⟨0, 1, ?_, ?_, by omega, by omega, by omega⟩
   · refine bZ Tryz.func197 ?_
     repeat' (conv => whnf); first | (intro h; try exact nZ) | apply And.intro | refine sZ ?_ | (refine Ret.goP (implPolicy_ret f ls r k a y s l hn) rfl ?_) | fail
     all_goals first | exact rZ | exact absurd ‹_› ho
   · refine bZ Tryz.func174 ?_
     repeat' (conv => whnf); first | (intro h; try exact nZ) | apply And.intro | refine sZ ?_ | (refine Ret.goP (specPolicy_ret f ls r k a y s l hn) rfl ?_) | fail
     all_goals first | exact rZ | exact absurd ‹_› ho
theorem downP_ret (a b : Int) (ha : 0 ≤ a ∧ a ≤ 1000000000000000000) (hb : 1 ≤ b ∧ b ≤ 1000000000000000000) : Rt 276 [I a, I b] (I (a / b)) := by
 refine bZ Tryz.func276 ?_
 have hq0 : 0 ≤ a / b := Int.ediv_nonneg ha.1 (by omega)
 have hq1 : a / b ≤ a := Int.ediv_le_self b ha.1
 have h3 : 0 ≤ a % b := Int.emod_nonneg _ (by omega)
 have hw : IntKind.i64.wrap (a.tdiv b) = a / b := by rw [Int.tdiv_eq_ediv_of_nonneg ha.1, IntKind.wrap_i64]; omega
 have hr : a.tmod b = a % b := Int.tmod_eq_emod_of_nonneg ha.1
 repeat' (conv => whnf); first | (intro h; try exact nZ) | apply And.intro | refine sZ ?_ | (refine quov (by omega) hw ?_) | (refine remv (by omega) hr ?_) | fail
 all_goals first | exact rZ
theorem perMille_ret (a m : Int) (ha : 0 ≤ a ∧ a ≤ 1000000000000) (hm : 0 ≤ m ∧ m ≤ 1000) : Rt 310 [I a, I m] (I (a * m / 1000)) := by
 refine bZ Tryz.func310 ?_
 have hb := mul_in ha.1 ha.2 hm.1 hm.2
 repeat' (conv => whnf); first | (intro h; try exact nZ) | apply And.intro | refine sZ ?_ | (refine Ret.go (downP_ret (a * m) 1000 (by omega) (by omega)) rfl rfl ?_) | fail
 all_goals first | exact rZ
abbrev sur (f : Int) (ls : List Int) (r k a y s q : Int) : Int := rnd f ls r k a y s q * 900 / 1000
theorem chkLv_ok (f : Int) (ls : List Int) (r k a y s l q : Int) (hn : ls.length ≤ 1048576) (hO : hOk f ls r k a y s l q) (hq : 2 ≤ q) :
   Rt 269 [Bs f ls r, Po k a y s l, I q] (.tup [.agg [I (pTop f ls r k a y q), I (pBase f ls r k a y q), I (cD f ls r (a + q)), I (rnd f ls r k a y s q), I (sur f ls r k a y s q)], I 0]) := by
 refine bZ Tryz.func269 ?_
 have hb := rnd_bd hO
 repeat' (conv => whnf); first | (intro h; try exact nZ) | apply And.intro | refine sZ ?_ | (refine Ret.go (check_ok f ls r k a y s l q hn hO) rfl rfl ?_) | (refine Ret.go (net_ret f ls r k a y s l hO.1) rfl rfl ?_) | (refine Ret.go (rounded_ret f ls r k a y s l q hO) rfl rfl ?_) | (refine Ret.go (perMille_ret (rnd f ls r k a y s q) 900 (by omega) (by omega)) rfl rfl ?_) | fail
 all_goals first | exact rZ
theorem chkLv_no (f : Int) (ls : List Int) (r k a y s l q : Int) (hn : ls.length ≤ 1048576) (hO : hOk f ls r k a y s l q) (hq : ¬ 2 ≤ q) :
   Rt 269 [Bs f ls r, Po k a y s l, I q] (.tup [.agg [I 0, I 0, I 0, I 0, I 0], I 4]) := by
 refine bZ Tryz.func269 ?_
 repeat' (conv => whnf); first | (intro h; try exact nZ) | apply And.intro | refine sZ ?_ | (refine Ret.go (check_ok f ls r k a y s l q hn hO) rfl rfl ?_) | fail
 all_goals first | exact rZ
theorem spec12_ret (f : Int) (ls : List Int) (r k a y s l q : Int) (hn : ls.length ≤ 1048576) (hO : hOk f ls r k a y s l q) : Rt 237 [Bs f ls r, Po k a y s l, I q] (I (if 2 ≤ q then 0 else 4)) := by
 refine bZ Tryz.func237 ?_
 have h0 := spec11_ret f ls r k a y s l q hn
 rw [cR_ok hO] at h0
 by_cases hq : 2 ≤ q
 · rw [if_pos hq]
   repeat' (conv => whnf); first | (intro h; try exact nZ) | apply And.intro | refine sZ ?_ | (refine Ret.go (h0) rfl rfl ?_) | fail
   all_goals first | exact rZ
 · rw [if_neg hq]
   repeat' (conv => whnf); first | (intro h; try exact nZ) | apply And.intro | refine sZ ?_ | (refine Ret.go (h0) rfl rfl ?_) | fail
   all_goals first | exact rZ
theorem spec12V_ret (f : Int) (ls : List Int) (r k a y s l q : Int) (hO : hOk f ls r k a y s l q) : Rt 238 [Bs f ls r, Po k a y s l, I q] (I (sur f ls r k a y s q)) := by
 refine bZ Tryz.func238 ?_
 have hb := rnd_bd hO
 repeat' (conv => whnf); first | (intro h; try exact nZ) | apply And.intro | refine sZ ?_ | (refine Ret.go (specAt_ret f ls r k a y s l q hO) rfl rfl ?_) | refine qZ ?_ | fail
 all_goals first | exact rZ
theorem sur_both (f : Int) (ls : List Int) (r k a y s l q : Int) (hn : ls.length ≤ 1048576) (hO : hOk f ls r k a y s l q) : Both2 206 171 [Bs f ls r, Po k a y s l, I q] 1000000000000000000 := by
 have h0 := spec12_ret f ls r k a y s l q hn hO
 have hb := rnd_bd hO
 by_cases hq : 2 ≤ q
 · rw [if_pos hq] at h0
   refine ⟨sur f ls r k a y s q, 0, ?_, ?_, ⟨by unfold sur; omega, by unfold sur; omega⟩, by omega, by omega⟩
   · refine bZ Tryz.func206 ?_
     repeat' (conv => whnf); first | (intro h; try exact nZ) | apply And.intro | refine sZ ?_ | (refine Ret.go (chkLv_ok f ls r k a y s l q hn hO hq) rfl rfl ?_) | fail
     all_goals first | exact rZ
   · refine bZ Tryz.func171 ?_
     repeat' (conv => whnf); first | (intro h; try exact nZ) | apply And.intro | refine sZ ?_ | (refine Ret.go (h0) rfl rfl ?_) | (refine Ret.go (spec12V_ret f ls r k a y s l q hO) rfl rfl ?_) | fail
     all_goals first | exact rZ
 · rw [if_neg hq] at h0
   refine ⟨0, 4, ?_, ?_, by omega, by omega, by omega⟩
   · refine bZ Tryz.func206 ?_
     repeat' (conv => whnf); first | (intro h; try exact nZ) | apply And.intro | refine sZ ?_ | (refine Ret.go (chkLv_no f ls r k a y s l q hn hO hq) rfl rfl ?_) | fail
     all_goals first | exact rZ
   · refine bZ Tryz.func171 ?_
     repeat' (conv => whnf); first | (intro h; try exact nZ) | apply And.intro | refine sZ ?_ | (refine Ret.go (h0) rfl rfl ?_) | fail
     all_goals first | exact rZ
theorem paid_MI {f : Int} {ls : List Int} {r k a y s l q : Int} (hO : hOk f ls r k a y s l q) (ht : pTop f ls r k a y q ≠ 0) : MI (sur f ls r k a y s q) (cD f ls r (a + q)) (pTop f ls r k a y q) ∧ sur f ls r k a y s q ≤ 100000001 := by
 obtain ⟨-, -, -, -, f1, f2, f3, f4, f5, -⟩ := fw_facts hO
 have hb := rnd_bd hO
 have hp := pt_bd hO.1 (q := q) ⟨hO.2.1.1, by have := hO.2.1.2; omega⟩
 have hd := cD_bd hO.1.1.1 hO.1.1.2 (a + q)
 have hv : 0 ≤ sur f ls r k a y s q ∧ sur f ls r k a y s q ≤ 100000001 := by unfold sur; omega
 refine ⟨⟨by omega, by omega, by omega, ?_⟩, hv.2⟩
 by_cases hz : sur f ls r k a y s q = 0
 · rw [hz, Int.zero_mul, Int.zero_ediv]; decide
 · have h2 : 2 ≤ rnd f ls r k a y s q := by unfold sur at hz; omega
   have h3 : 1 ≤ fwX f ls r k a y s q / cD f ls r (a + q) := by
     unfold rnd at h2
     split at h2 <;> omega
   have h4 : cD f ls r (a + q) ≤ fwX f ls r k a y s q := by
     have := Int.mul_ediv_add_emod (fwX f ls r k a y s q) (cD f ls r (a + q))
     have h5 : cD f ls r (a + q) * 1 ≤ cD f ls r (a + q) * (fwX f ls r k a y s q / cD f ls r (a + q)) := Int.mul_le_mul_of_nonneg_left h3 hd.1
     omega
   have h6 : fwX f ls r k a y s q ≤ s * pTop f ls r k a y q := by
     have : 0 ≤ netP f ls r k a y s * pBase f ls r k a y q := Int.mul_nonneg f5 (by omega)
     unfold fwX
     omega
   have h7 : s * pTop f ls r k a y q ≤ 100000000 * pTop f ls r k a y q := Int.mul_le_mul_of_nonneg_right f4.2 hp.1.1
   refine Int.ediv_le_of_le_mul (by omega) ?_
   have h8 : sur f ls r k a y s q * cD f ls r (a + q) ≤ 100000001 * cD f ls r (a + q) := Int.mul_le_mul_of_nonneg_right hv.2 hd.1
   omega
theorem paid_both (f : Int) (ls : List Int) (r k a y s l q : Int) (hn : ls.length ≤ 1048576) (hO : hOk f ls r k a y s l q) : Both2 207 172 [Bs f ls r, Po k a y s l, I q] 1000000000000000000 := by
 have h0 := spec12_ret f ls r k a y s l q hn hO
 have hb := rnd_bd hO
 have hs := (net_MD hO.1).2.2
 by_cases hq : 2 ≤ q
 · rw [if_pos hq] at h0
   by_cases ht : pTop f ls r k a y q = 0
   · have hc := chkLv_ok f ls r k a y s l q hn hO hq
     have hp := specParts_ret f ls r k a y s l q hO
     rw [ht] at hc hp
     refine ⟨0, 0, ?_, ?_, by omega, by omega, by omega⟩
     · refine bZ Tryz.func207 ?_
       repeat' (conv => whnf); first | (intro h; try exact nZ) | apply And.intro | refine sZ ?_ | (refine Ret.go (hc) rfl rfl ?_) | fail
       all_goals first | exact rZ
     · refine bZ Tryz.func172 ?_
       repeat' (conv => whnf); first | (intro h; try exact nZ) | apply And.intro | refine sZ ?_ | (refine Ret.go (h0) rfl rfl ?_) | (refine Ret.go (hp) rfl rfl ?_) | fail
       all_goals first | exact rZ
   · obtain ⟨hm, hv⟩ := paid_MI hO ht
     have hQ := hm.q.1
     refine ⟨min s (sur f ls r k a y s q * cD f ls r (a + q) / pTop f ls r k a y q), 0, ?_, ?_, ⟨by omega, by omega⟩, by omega, by omega⟩
     · refine bZ Tryz.func207 ?_
       repeat' (conv => whnf); first | (intro h; try exact nZ) | apply And.intro | refine sZ ?_ | (refine Ret.go (chkLv_ok f ls r k a y s l q hn hO hq) rfl rfl ?_) | (refine Ret.go (mulDivI_ret _ _ _ hm) rfl rfl ?_) | fail
       all_goals first | exact rZ | (refine iv ?_; omega)
     · refine bZ Tryz.func172 ?_
       repeat' (conv => whnf); first | (intro h; try exact nZ) | apply And.intro | refine sZ ?_ | (refine Ret.go (h0) rfl rfl ?_) | (refine Ret.go (specParts_ret f ls r k a y s l q hO) rfl rfl ?_) | (refine Ret.go (spec12V_ret f ls r k a y s l q hO) rfl rfl ?_) | (refine Ret.go (specDivI_ret _ _ _ (by omega) hm) rfl rfl ?_) | fail
       all_goals first | exact rZ | (refine iv ?_; omega)
 · rw [if_neg hq] at h0
   refine ⟨0, 4, ?_, ?_, by omega, by omega, by omega⟩
   · refine bZ Tryz.func207 ?_
     repeat' (conv => whnf); first | (intro h; try exact nZ) | apply And.intro | refine sZ ?_ | (refine Ret.go (chkLv_no f ls r k a y s l q hn hO hq) rfl rfl ?_) | fail
     all_goals first | exact rZ
   · refine bZ Tryz.func172 ?_
     repeat' (conv => whnf); first | (intro h; try exact nZ) | apply And.intro | refine sZ ?_ | (refine Ret.go (h0) rfl rfl ?_) | fail
     all_goals first | exact rZ
end Go.Proofs.YtglbamncajileaaGreatDoor
