/-
  Reserves seen from behind, gains and the denominator: what the functions return. No conditions but those in the statements.
-/
import Derived.Test.YtenofbabiacacaaGreatMj
set_option linter.unusedVariables false
set_option linter.unusedSimpArgs false
namespace Go.Proofs.YtenofbabiacacaaGreat
open Go.AE

attribute [local irreducible] CallA LoopA DrawA CallQ arithK quoK remK eqK
attribute [local irreducible] pTop pBase fwX netP cD okT
/-- By what the net premium exceeds, in parts. -/
def exs (f : Int) (ls : List Int) (r k a y s : Int) : Int := if s * pTop f ls r k a y 0 % pBase f ls r k a y 0 = 0 then 0 else pBase f ls r k a y 0 - s * pTop f ls r k a y 0 % pBase f ls r k a y 0
theorem exs_bd {f : Int} {ls : List Int} {r k a y s l : Int} (ho : okP f ls r k a y s l) : 0 ≤ exs f ls r k a y s ∧ exs f ls r k a y s ≤ 1000000000000000000 := by
  have h1 := (net_MD ho).1
  have h2 := h1.q
  have h3 := h1.hc
  unfold exs
  split <;> omega
set_option maxRecDepth 100000 in
theorem excess_ret (f : Int) (ls : List Int) (r k a y s l : Int) (ho : okP f ls r k a y s l) : Ret Tryz.prog G 113 [Bs f ls r, Po k a y s l] (I (exs f ls r k a y s)) := by
  refine ret_of_body hT Tryz.func113 rfl ?_ rfl
  have hc := checkAss_ret f ls r k a y s l ho
  have hm := mulDiv_ret _ _ _ (net_MD ho).1
  have h2 := (net_MD ho).1.q
  have h3 := (net_MD ho).1.hc
  by_cases hz : s * pTop f ls r k a y 0 % pBase f ls r k a y 0 = 0
  · have he : exs f ls r k a y s = 0 := if_pos hz
    rw [he]
    repeat' ((first | (conv => whnf) | skip); (first | ((with_reducible intro h); first | contradiction | omega | (conv => whnf) | skip) | (with_reducible refine And.intro ?_ ?_) | ((with_reducible show arithK _ _ _); refine arith_ok ⟨by omega, by omega⟩ ?_) | ((with_reducible show quoK _ _ _ _); refine quo_ok ⟨by omega, by omega⟩ (by omega) (by omega) ?_) | ((with_reducible show remK _ _ _ _); refine rem_ok (by omega) (by omega) ?_) | ((first | (with_reducible show CallA _ _ _ _ _ _) | (with_reducible show CallQ _ _ _ _ _ _)); first | (refine Ret.go (hc) rfl rfl ?_) | (refine Ret.goQ (hc) rfl rfl ?_) | (refine Ret.go (hm) rfl rfl ?_) | (refine Ret.goQ (hm) rfl rfl ?_)) | ((with_reducible show DrawA _ _ _ _ _ _); first | (first | (refine draw_quiet hT mixed (by decide +kernel) ?_) | (refine draw_hard hT mixed (by decide +kernel) ?_)))))
    all_goals first | rfl | omega | contradiction | trace_state
  · have he : exs f ls r k a y s = pBase f ls r k a y 0 - s * pTop f ls r k a y 0 % pBase f ls r k a y 0 := if_neg hz
    rw [he]
    repeat' ((first | (conv => whnf) | skip); (first | ((with_reducible intro h); first | contradiction | omega | (conv => whnf) | skip) | (with_reducible refine And.intro ?_ ?_) | ((with_reducible show arithK _ _ _); refine arith_ok ⟨by omega, by omega⟩ ?_) | ((with_reducible show quoK _ _ _ _); refine quo_ok ⟨by omega, by omega⟩ (by omega) (by omega) ?_) | ((with_reducible show remK _ _ _ _); refine rem_ok (by omega) (by omega) ?_) | ((first | (with_reducible show CallA _ _ _ _ _ _) | (with_reducible show CallQ _ _ _ _ _ _)); first | (refine Ret.go (hc) rfl rfl ?_) | (refine Ret.goQ (hc) rfl rfl ?_) | (refine Ret.go (hm) rfl rfl ?_) | (refine Ret.goQ (hm) rfl rfl ?_)) | ((with_reducible show DrawA _ _ _ _ _ _); first | (first | (refine draw_quiet hT mixed (by decide +kernel) ?_) | (refine draw_hard hT mixed (by decide +kernel) ?_)))))
    all_goals first | rfl | omega | contradiction | trace_state
attribute [local irreducible] exs
abbrev T3 (x y z : Int) : AV := .tup [I x, I y, I z]
/-- The forward reserve, as it is told. -/
noncomputable def frQ (f : Int) (ls : List Int) (r k a y s l q : Int) : Int × Int × Int := if hOk f ls r k a y s l q then (fwX f ls r k a y s q / cD f ls r (a + q), fwX f ls r k a y s q % cD f ls r (a + q), 0) else (0, 0, cR f ls r k a y s l q)
noncomputable def gaQ (f : Int) (ls : List Int) (r k a y s l q : Int) : Int × Int × Int := if hOk f ls r k a y s l q then (exs f ls r k a y s / cD f ls r (a + q), exs f ls r k a y s % cD f ls r (a + q), 0) else (0, 0, cR f ls r k a y s l q)
noncomputable def deQ (f : Int) (ls : List Int) (r k a y s l q : Int) : Int × Int := if hOk f ls r k a y s l q then (cD f ls r (a + q), 0) else (0, cR f ls r k a y s l q)
noncomputable def bkQ (f : Int) (ls : List Int) (r k a y s l q : Int) : Int × Int × Int := if hOk f ls r k a y s l q then
  (fwX f ls r k a y s q / cD f ls r (a + q) + exs f ls r k a y s / cD f ls r (a + q) + (fwX f ls r k a y s q % cD f ls r (a + q) + exs f ls r k a y s % cD f ls r (a + q)) / cD f ls r (a + q), (fwX f ls r k a y s q % cD f ls r (a + q) + exs f ls r k a y s % cD f ls r (a + q)) % cD f ls r (a + q), 0) else (0, 0, cR f ls r k a y s l q)
set_option maxRecDepth 100000 in
theorem implFwd_ret (f : Int) (ls : List Int) (r k a y s l q : Int) (hn : ls.length ≤ 1048576) : Ret Tryz.prog G 49 [Bs f ls r, Po k a y s l, I q] (T3 (frQ f ls r k a y s l q).1 (frQ f ls r k a y s l q).2.1 (frQ f ls r k a y s l q).2.2) := by
  refine ret_of_body hT Tryz.func49 rfl ?_ rfl
  by_cases hh : hOk f ls r k a y s l q
  · obtain ⟨m1, m2, m3, x1, x2, x3, x4, x5, x6⟩ := fw_facts hh
    have hf := forward_ret (pTop f ls r k a y q) (pBase f ls r k a y q) (cD f ls r (a + q)) s (netP f ls r k a y s) m1 m2
    have he : s * pTop f ls r k a y q - netP f ls r k a y s * pBase f ls r k a y q = fwX f ls r k a y s q := by unfold fwX; rfl
    rw [he] at hf
    rw [show frQ f ls r k a y s l q = _ from if_pos hh]
    have hc := check_ok f ls r k a y s l q hn hh
    have hp := net_ret f ls r k a y s l hh.1
    repeat' ((first | (conv => whnf) | skip); (first | ((with_reducible intro h); first | contradiction | omega | (conv => whnf) | skip) | (with_reducible refine And.intro ?_ ?_) | ((with_reducible show arithK _ _ _); refine arith_ok ⟨by omega, by omega⟩ ?_) | ((with_reducible show quoK _ _ _ _); refine quo_ok ⟨by omega, by omega⟩ (by omega) (by omega) ?_) | ((with_reducible show remK _ _ _ _); refine rem_ok (by omega) (by omega) ?_) | ((first | (with_reducible show CallA _ _ _ _ _ _) | (with_reducible show CallQ _ _ _ _ _ _)); first | (refine Ret.go (hc) rfl rfl ?_) | (refine Ret.goQ (hc) rfl rfl ?_) | (refine Ret.go (hf) rfl rfl ?_) | (refine Ret.goQ (hf) rfl rfl ?_) | (refine Ret.go (hp) rfl rfl ?_) | (refine Ret.goQ (hp) rfl rfl ?_)) | ((with_reducible show DrawA _ _ _ _ _ _); first | (first | (refine draw_quiet hT mixed (by decide +kernel) ?_) | (refine draw_hard hT mixed (by decide +kernel) ?_)))))
    all_goals first | rfl | omega | contradiction | trace_state
  · rw [show frQ f ls r k a y s l q = _ from if_neg hh]
    have hc := check_bad f ls r k a y s l q hn hh
    have hb := cR_bad hh
    repeat' ((first | (conv => whnf) | skip); (first | ((with_reducible intro h); first | contradiction | omega | (conv => whnf) | skip) | (with_reducible refine And.intro ?_ ?_) | ((with_reducible show arithK _ _ _); refine arith_ok ⟨by omega, by omega⟩ ?_) | ((with_reducible show quoK _ _ _ _); refine quo_ok ⟨by omega, by omega⟩ (by omega) (by omega) ?_) | ((with_reducible show remK _ _ _ _); refine rem_ok (by omega) (by omega) ?_) | ((first | (with_reducible show CallA _ _ _ _ _ _) | (with_reducible show CallQ _ _ _ _ _ _)); first | (refine Ret.go (hc) rfl rfl ?_) | (refine Ret.goQ (hc) rfl rfl ?_)) | ((with_reducible show DrawA _ _ _ _ _ _); first | (first | (refine draw_quiet hT mixed (by decide +kernel) ?_) | (refine draw_hard hT mixed (by decide +kernel) ?_)))))
    all_goals first | rfl | omega | contradiction | trace_state
set_option maxRecDepth 100000 in
theorem specFwd_ret (f : Int) (ls : List Int) (r k a y s l q : Int) (hn : ls.length ≤ 1048576) : Ret Tryz.prog G 50 [Bs f ls r, Po k a y s l, I q] (T3 (frQ f ls r k a y s l q).1 (frQ f ls r k a y s l q).2.1 (frQ f ls r k a y s l q).2.2) := by
  refine ret_of_body hT Tryz.func50 rfl ?_ rfl
  have hc := spec11_ret f ls r k a y s l q hn
  by_cases hh : hOk f ls r k a y s l q
  · rw [show frQ f ls r k a y s l q = _ from if_pos hh]
    rw [cR_ok hh] at hc
    have hf := specForward_ret f ls r k a y s l q hh
    repeat' ((first | (conv => whnf) | skip); (first | ((with_reducible intro h); first | contradiction | omega | (conv => whnf) | skip) | (with_reducible refine And.intro ?_ ?_) | ((with_reducible show arithK _ _ _); refine arith_ok ⟨by omega, by omega⟩ ?_) | ((with_reducible show quoK _ _ _ _); refine quo_ok ⟨by omega, by omega⟩ (by omega) (by omega) ?_) | ((with_reducible show remK _ _ _ _); refine rem_ok (by omega) (by omega) ?_) | ((first | (with_reducible show CallA _ _ _ _ _ _) | (with_reducible show CallQ _ _ _ _ _ _)); first | (refine Ret.go (hc) rfl rfl ?_) | (refine Ret.goQ (hc) rfl rfl ?_) | (refine Ret.go (hf) rfl rfl ?_) | (refine Ret.goQ (hf) rfl rfl ?_)) | ((with_reducible show DrawA _ _ _ _ _ _); first | (first | (refine draw_quiet hT mixed (by decide +kernel) ?_) | (refine draw_hard hT mixed (by decide +kernel) ?_)))))
    all_goals first | rfl | omega | contradiction | trace_state
  · rw [show frQ f ls r k a y s l q = _ from if_neg hh]
    have hb := cR_bad hh
    repeat' ((first | (conv => whnf) | skip); (first | ((with_reducible intro h); first | contradiction | omega | (conv => whnf) | skip) | (with_reducible refine And.intro ?_ ?_) | ((with_reducible show arithK _ _ _); refine arith_ok ⟨by omega, by omega⟩ ?_) | ((with_reducible show quoK _ _ _ _); refine quo_ok ⟨by omega, by omega⟩ (by omega) (by omega) ?_) | ((with_reducible show remK _ _ _ _); refine rem_ok (by omega) (by omega) ?_) | ((first | (with_reducible show CallA _ _ _ _ _ _) | (with_reducible show CallQ _ _ _ _ _ _)); first | (refine Ret.go (hc) rfl rfl ?_) | (refine Ret.goQ (hc) rfl rfl ?_)) | ((with_reducible show DrawA _ _ _ _ _ _); first | (first | (refine draw_quiet hT mixed (by decide +kernel) ?_) | (refine draw_hard hT mixed (by decide +kernel) ?_)))))
    all_goals first | rfl | omega | contradiction | trace_state
set_option maxRecDepth 100000 in
theorem implGain_ret (f : Int) (ls : List Int) (r k a y s l q : Int) (hn : ls.length ≤ 1048576) : Ret Tryz.prog G 52 [Bs f ls r, Po k a y s l, I q] (T3 (gaQ f ls r k a y s l q).1 (gaQ f ls r k a y s l q).2.1 (gaQ f ls r k a y s l q).2.2) := by
  refine ret_of_body hT Tryz.func52 rfl ?_ rfl
  by_cases hh : hOk f ls r k a y s l q
  · obtain ⟨m1, m2, m3, x1, x2, x3, x4, x5, x6⟩ := fw_facts hh
    have hx := exs_bd hh.1
    rw [show gaQ f ls r k a y s l q = _ from if_pos hh]
    have hc := check_ok f ls r k a y s l q hn hh
    have hp := excess_ret f ls r k a y s l hh.1
    repeat' ((first | (conv => whnf) | skip); (first | ((with_reducible intro h); first | contradiction | omega | (conv => whnf) | skip) | (with_reducible refine And.intro ?_ ?_) | ((with_reducible show arithK _ _ _); refine arith_ok ⟨by omega, by omega⟩ ?_) | ((with_reducible show quoK _ _ _ _); refine quo_ok ⟨by omega, by omega⟩ (by omega) (by omega) ?_) | ((with_reducible show remK _ _ _ _); refine rem_ok (by omega) (by omega) ?_) | ((first | (with_reducible show CallA _ _ _ _ _ _) | (with_reducible show CallQ _ _ _ _ _ _)); first | (refine Ret.go (hc) rfl rfl ?_) | (refine Ret.goQ (hc) rfl rfl ?_) | (refine Ret.go (hp) rfl rfl ?_) | (refine Ret.goQ (hp) rfl rfl ?_)) | ((with_reducible show DrawA _ _ _ _ _ _); first | (first | (refine draw_quiet hT mixed (by decide +kernel) ?_) | (refine draw_hard hT mixed (by decide +kernel) ?_)))))
    all_goals first | rfl | omega | contradiction | trace_state
  · rw [show gaQ f ls r k a y s l q = _ from if_neg hh]
    have hc := check_bad f ls r k a y s l q hn hh
    have hb := cR_bad hh
    repeat' ((first | (conv => whnf) | skip); (first | ((with_reducible intro h); first | contradiction | omega | (conv => whnf) | skip) | (with_reducible refine And.intro ?_ ?_) | ((with_reducible show arithK _ _ _); refine arith_ok ⟨by omega, by omega⟩ ?_) | ((with_reducible show quoK _ _ _ _); refine quo_ok ⟨by omega, by omega⟩ (by omega) (by omega) ?_) | ((with_reducible show remK _ _ _ _); refine rem_ok (by omega) (by omega) ?_) | ((first | (with_reducible show CallA _ _ _ _ _ _) | (with_reducible show CallQ _ _ _ _ _ _)); first | (refine Ret.go (hc) rfl rfl ?_) | (refine Ret.goQ (hc) rfl rfl ?_)) | ((with_reducible show DrawA _ _ _ _ _ _); first | (first | (refine draw_quiet hT mixed (by decide +kernel) ?_) | (refine draw_hard hT mixed (by decide +kernel) ?_)))))
    all_goals first | rfl | omega | contradiction | trace_state
set_option maxRecDepth 100000 in
theorem implDen_ret (f : Int) (ls : List Int) (r k a y s l q : Int) (hn : ls.length ≤ 1048576) : Ret Tryz.prog G 53 [Bs f ls r, Po k a y s l, I q] (.tup [I (deQ f ls r k a y s l q).1, I (deQ f ls r k a y s l q).2]) := by
  refine ret_of_body hT Tryz.func53 rfl ?_ rfl
  by_cases hh : hOk f ls r k a y s l q
  · rw [show deQ f ls r k a y s l q = _ from if_pos hh]
    have hc := check_ok f ls r k a y s l q hn hh
    repeat' ((first | (conv => whnf) | skip); (first | ((with_reducible intro h); first | contradiction | omega | (conv => whnf) | skip) | (with_reducible refine And.intro ?_ ?_) | ((with_reducible show arithK _ _ _); refine arith_ok ⟨by omega, by omega⟩ ?_) | ((with_reducible show quoK _ _ _ _); refine quo_ok ⟨by omega, by omega⟩ (by omega) (by omega) ?_) | ((with_reducible show remK _ _ _ _); refine rem_ok (by omega) (by omega) ?_) | ((first | (with_reducible show CallA _ _ _ _ _ _) | (with_reducible show CallQ _ _ _ _ _ _)); first | (refine Ret.go (hc) rfl rfl ?_) | (refine Ret.goQ (hc) rfl rfl ?_)) | ((with_reducible show DrawA _ _ _ _ _ _); first | (first | (refine draw_quiet hT mixed (by decide +kernel) ?_) | (refine draw_hard hT mixed (by decide +kernel) ?_)))))
    all_goals first | rfl | omega | contradiction | trace_state
  · rw [show deQ f ls r k a y s l q = _ from if_neg hh]
    have hc := check_bad f ls r k a y s l q hn hh
    repeat' ((first | (conv => whnf) | skip); (first | ((with_reducible intro h); first | contradiction | omega | (conv => whnf) | skip) | (with_reducible refine And.intro ?_ ?_) | ((with_reducible show arithK _ _ _); refine arith_ok ⟨by omega, by omega⟩ ?_) | ((with_reducible show quoK _ _ _ _); refine quo_ok ⟨by omega, by omega⟩ (by omega) (by omega) ?_) | ((with_reducible show remK _ _ _ _); refine rem_ok (by omega) (by omega) ?_) | ((first | (with_reducible show CallA _ _ _ _ _ _) | (with_reducible show CallQ _ _ _ _ _ _)); first | (refine Ret.go (hc) rfl rfl ?_) | (refine Ret.goQ (hc) rfl rfl ?_)) | ((with_reducible show DrawA _ _ _ _ _ _); first | (first | (refine draw_quiet hT mixed (by decide +kernel) ?_) | (refine draw_hard hT mixed (by decide +kernel) ?_)))))
    all_goals first | rfl | omega | contradiction | trace_state
set_option maxRecDepth 100000 in
theorem implBack_ret (f : Int) (ls : List Int) (r k a y s l q : Int) (hn : ls.length ≤ 1048576) : Ret Tryz.prog G 51 [Bs f ls r, Po k a y s l, I q] (T3 (bkQ f ls r k a y s l q).1 (bkQ f ls r k a y s l q).2.1 (bkQ f ls r k a y s l q).2.2) := by
  refine ret_of_body hT Tryz.func51 rfl ?_ rfl
  by_cases hh : hOk f ls r k a y s l q
  · obtain ⟨m1, m2, m3, x1, x2, x3, x4, x5, x6⟩ := fw_facts hh
    have hf := forward_ret (pTop f ls r k a y q) (pBase f ls r k a y q) (cD f ls r (a + q)) s (netP f ls r k a y s) m1 m2
    have he : s * pTop f ls r k a y q - netP f ls r k a y s * pBase f ls r k a y q = fwX f ls r k a y s q := by unfold fwX; rfl
    rw [he] at hf
    have hx := exs_bd hh.1
    have hdd := m1.hc
    have hxb := floor_spec (x := exs f ls r k a y s) (d := cD f ls r (a + q)) (by omega)
    have hxq : 0 ≤ exs f ls r k a y s / cD f ls r (a + q) ∧ exs f ls r k a y s / cD f ls r (a + q) ≤ 1000000000000000000 := ⟨Int.ediv_nonneg hx.1 (by omega), Int.le_trans (Int.ediv_le_self _ hx.1) hx.2⟩
    have hcq : 0 ≤ (fwX f ls r k a y s q % cD f ls r (a + q) + exs f ls r k a y s % cD f ls r (a + q)) / cD f ls r (a + q) ∧ (fwX f ls r k a y s q % cD f ls r (a + q) + exs f ls r k a y s % cD f ls r (a + q)) / cD f ls r (a + q) ≤ 2000000000000000000 := ⟨Int.ediv_nonneg (by omega) (by omega), Int.le_trans (Int.ediv_le_self _ (by omega)) (by omega)⟩
    rw [show bkQ f ls r k a y s l q = _ from if_pos hh]
    have hc := check_ok f ls r k a y s l q hn hh
    have hp := net_ret f ls r k a y s l hh.1
    have hg := excess_ret f ls r k a y s l hh.1
    repeat' ((first | (conv => whnf) | skip); (first | ((with_reducible intro h); first | contradiction | omega | (conv => whnf) | skip) | (with_reducible refine And.intro ?_ ?_) | ((with_reducible show arithK _ _ _); refine arith_ok ⟨by omega, by omega⟩ ?_) | ((with_reducible show quoK _ _ _ _); refine quo_ok ⟨by omega, by omega⟩ (by omega) (by omega) ?_) | ((with_reducible show remK _ _ _ _); refine rem_ok (by omega) (by omega) ?_) | ((first | (with_reducible show CallA _ _ _ _ _ _) | (with_reducible show CallQ _ _ _ _ _ _)); first | (refine Ret.go (hc) rfl rfl ?_) | (refine Ret.goQ (hc) rfl rfl ?_) | (refine Ret.go (hf) rfl rfl ?_) | (refine Ret.goQ (hf) rfl rfl ?_) | (refine Ret.go (hp) rfl rfl ?_) | (refine Ret.goQ (hp) rfl rfl ?_) | (refine Ret.go (hg) rfl rfl ?_) | (refine Ret.goQ (hg) rfl rfl ?_)) | ((with_reducible show DrawA _ _ _ _ _ _); first | (first | (refine draw_quiet hT mixed (by decide +kernel) ?_) | (refine draw_hard hT mixed (by decide +kernel) ?_)))))
    all_goals first | rfl | omega | contradiction | trace_state
  · rw [show bkQ f ls r k a y s l q = _ from if_neg hh]
    have hc := check_bad f ls r k a y s l q hn hh
    have hb := cR_bad hh
    repeat' ((first | (conv => whnf) | skip); (first | ((with_reducible intro h); first | contradiction | omega | (conv => whnf) | skip) | (with_reducible refine And.intro ?_ ?_) | ((with_reducible show arithK _ _ _); refine arith_ok ⟨by omega, by omega⟩ ?_) | ((with_reducible show quoK _ _ _ _); refine quo_ok ⟨by omega, by omega⟩ (by omega) (by omega) ?_) | ((with_reducible show remK _ _ _ _); refine rem_ok (by omega) (by omega) ?_) | ((first | (with_reducible show CallA _ _ _ _ _ _) | (with_reducible show CallQ _ _ _ _ _ _)); first | (refine Ret.go (hc) rfl rfl ?_) | (refine Ret.goQ (hc) rfl rfl ?_)) | ((with_reducible show DrawA _ _ _ _ _ _); first | (first | (refine draw_quiet hT mixed (by decide +kernel) ?_) | (refine draw_hard hT mixed (by decide +kernel) ?_)))))
    all_goals first | rfl | omega | contradiction | trace_state
end Go.Proofs.YtenofbabiacacaaGreat
