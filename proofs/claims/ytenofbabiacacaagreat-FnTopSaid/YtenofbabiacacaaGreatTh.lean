/-
  Reserves seen from behind, gains and the denominator: what the functions return. No conditions but those in the statements. The income of a class, with its checks; sums of what is paid. No conditions but those in the statements. Classes, incomes, policies with a year drawn: what the functions return. No conditions but those in the statements. Sources of a surplus, total reserves: what the functions return. No conditions but those in the statements. The law on reserves, sources of a surplus and incomes of classes, drawn from bytes. No conditions but those in the statements.
-/
import Derived.Test.YtenofbabiacacaaGreatMj
import Derived.Test.YtenofbabiacacaaGreatTd
import Derived.Test.YtenofbabiacacaaGreatPlain
import Derived.Test.YtenofbabiacacaaGreatNg
import Derived.Test.YtenofbabiacacaaGreatMn
namespace Go.Proofs.YtenofbabiacacaaGreat
open Go.AE

attribute [local irreducible] CallA LoopA DrawA CallQ arithK quoK remK eqK
attribute [local irreducible] pTop pBase fwX netP cD okT
/-- By what the net premium exceeds, in parts. -/
def exs (f : Int) (ls : List Int) (r k a y s : Int) : Int := if s * pTop f ls r k a y 0 % pBase f ls r k a y 0 = 0 then 0 else pBase f ls r k a y 0 - s * pTop f ls r k a y 0 % pBase f ls r k a y 0
theorem exs_bd {f : Int} {ls : List Int} {r k a y s l : Int} (ho : okP f ls r k a y s l) : 0 ≤ exs f ls r k a y s ∧ exs f ls r k a y s ≤ 1000000000000000000 := by
  have h1 := (net_MD ho).1
  have h2 := h1.q
  have h3 := h1.hc
  unfold exs
  split <;> omega
set_option maxRecDepth 100000 in
theorem excess_ret (f : Int) (ls : List Int) (r k a y s l : Int) (ho : okP f ls r k a y s l) : Ret Tryz.prog G 113 [Bs f ls r, Po k a y s l] (I (exs f ls r k a y s)) := by
  refine ret_of_body hT Tryz.func113 rfl ?_ rfl
  have hc := checkAss_ret f ls r k a y s l ho
  have hm := mulDiv_ret _ _ _ (net_MD ho).1
  have h2 := (net_MD ho).1.q
  have h3 := (net_MD ho).1.hc
  by_cases hz : s * pTop f ls r k a y 0 % pBase f ls r k a y 0 = 0
  · have he : exs f ls r k a y s = 0 := if_pos hz
    rw [he]
    repeat' ((first | (conv => whnf) | skip); (first | ((with_reducible intro h); first | contradiction | omega | (conv => whnf) | skip) | (with_reducible refine And.intro ?_ ?_) | ((with_reducible show arithK _ _ _); refine arith_ok ⟨by omega, by omega⟩ ?_) | ((with_reducible show quoK _ _ _ _); refine quo_ok ⟨by omega, by omega⟩ (by omega) (by omega) ?_) | ((with_reducible show remK _ _ _ _); refine rem_ok (by omega) (by omega) ?_) | ((first | (with_reducible show CallA _ _ _ _ _ _) | (with_reducible show CallQ _ _ _ _ _ _)); first | (refine Ret.go (hc) rfl rfl ?_) | (refine Ret.goQ (hc) rfl rfl ?_) | (refine Ret.go (hm) rfl rfl ?_) | (refine Ret.goQ (hm) rfl rfl ?_)) | ((with_reducible show DrawA _ _ _ _ _ _); first | (first | (refine draw_quiet hT mixed (by decide +kernel) ?_) | (refine draw_hard hT mixed (by decide +kernel) ?_)))))
    all_goals first | rfl | omega | contradiction | trace_state
  · have he : exs f ls r k a y s = pBase f ls r k a y 0 - s * pTop f ls r k a y 0 % pBase f ls r k a y 0 := if_neg hz
    rw [he]
    repeat' ((first | (conv => whnf) | skip); (first | ((with_reducible intro h); first | contradiction | omega | (conv => whnf) | skip) | (with_reducible refine And.intro ?_ ?_) | ((with_reducible show arithK _ _ _); refine arith_ok ⟨by omega, by omega⟩ ?_) | ((with_reducible show quoK _ _ _ _); refine quo_ok ⟨by omega, by omega⟩ (by omega) (by omega) ?_) | ((with_reducible show remK _ _ _ _); refine rem_ok (by omega) (by omega) ?_) | ((first | (with_reducible show CallA _ _ _ _ _ _) | (with_reducible show CallQ _ _ _ _ _ _)); first | (refine Ret.go (hc) rfl rfl ?_) | (refine Ret.goQ (hc) rfl rfl ?_) | (refine Ret.go (hm) rfl rfl ?_) | (refine Ret.goQ (hm) rfl rfl ?_)) | ((with_reducible show DrawA _ _ _ _ _ _); first | (first | (refine draw_quiet hT mixed (by decide +kernel) ?_) | (refine draw_hard hT mixed (by decide +kernel) ?_)))))
    all_goals first | rfl | omega | contradiction | trace_state
attribute [local irreducible] exs
abbrev T3 (x y z : Int) : AV := .tup [I x, I y, I z]
/-- The forward reserve, as it is told. -/
noncomputable def frQ (f : Int) (ls : List Int) (r k a y s l q : Int) : Int × Int × Int := if hOk f ls r k a y s l q then (fwX f ls r k a y s q / cD f ls r (a + q), fwX f ls r k a y s q % cD f ls r (a + q), 0) else (0, 0, cR f ls r k a y s l q)
noncomputable def gaQ (f : Int) (ls : List Int) (r k a y s l q : Int) : Int × Int × Int := if hOk f ls r k a y s l q then (exs f ls r k a y s / cD f ls r (a + q), exs f ls r k a y s % cD f ls r (a + q), 0) else (0, 0, cR f ls r k a y s l q)
noncomputable def deQ (f : Int) (ls : List Int) (r k a y s l q : Int) : Int × Int := if hOk f ls r k a y s l q then (cD f ls r (a + q), 0) else (0, cR f ls r k a y s l q)
noncomputable def bkQ (f : Int) (ls : List Int) (r k a y s l q : Int) : Int × Int × Int := if hOk f ls r k a y s l q then
  (fwX f ls r k a y s q / cD f ls r (a + q) + exs f ls r k a y s / cD f ls r (a + q) + (fwX f ls r k a y s q % cD f ls r (a + q) + exs f ls r k a y s % cD f ls r (a + q)) / cD f ls r (a + q), (fwX f ls r k a y s q % cD f ls r (a + q) + exs f ls r k a y s % cD f ls r (a + q)) % cD f ls r (a + q), 0) else (0, 0, cR f ls r k a y s l q)
set_option maxRecDepth 100000 in
theorem implFwd_ret (f : Int) (ls : List Int) (r k a y s l q : Int) (hn : ls.length ≤ 1048576) : Ret Tryz.prog G 49 [Bs f ls r, Po k a y s l, I q] (T3 (frQ f ls r k a y s l q).1 (frQ f ls r k a y s l q).2.1 (frQ f ls r k a y s l q).2.2) := by
  refine ret_of_body hT Tryz.func49 rfl ?_ rfl
  by_cases hh : hOk f ls r k a y s l q
  · obtain ⟨m1, m2, m3, x1, x2, x3, x4, x5, x6⟩ := fw_facts hh
    have hf := forward_ret (pTop f ls r k a y q) (pBase f ls r k a y q) (cD f ls r (a + q)) s (netP f ls r k a y s) m1 m2
    have he : s * pTop f ls r k a y q - netP f ls r k a y s * pBase f ls r k a y q = fwX f ls r k a y s q := by unfold fwX; rfl
    rw [he] at hf
    rw [show frQ f ls r k a y s l q = _ from if_pos hh]
    have hc := check_ok f ls r k a y s l q hn hh
    have hp := net_ret f ls r k a y s l hh.1
    repeat' ((first | (conv => whnf) | skip); (first | ((with_reducible intro h); first | contradiction | omega | (conv => whnf) | skip) | (with_reducible refine And.intro ?_ ?_) | ((with_reducible show arithK _ _ _); refine arith_ok ⟨by omega, by omega⟩ ?_) | ((with_reducible show quoK _ _ _ _); refine quo_ok ⟨by omega, by omega⟩ (by omega) (by omega) ?_) | ((with_reducible show remK _ _ _ _); refine rem_ok (by omega) (by omega) ?_) | ((first | (with_reducible show CallA _ _ _ _ _ _) | (with_reducible show CallQ _ _ _ _ _ _)); first | (refine Ret.go (hc) rfl rfl ?_) | (refine Ret.goQ (hc) rfl rfl ?_) | (refine Ret.go (hf) rfl rfl ?_) | (refine Ret.goQ (hf) rfl rfl ?_) | (refine Ret.go (hp) rfl rfl ?_) | (refine Ret.goQ (hp) rfl rfl ?_)) | ((with_reducible show DrawA _ _ _ _ _ _); first | (first | (refine draw_quiet hT mixed (by decide +kernel) ?_) | (refine draw_hard hT mixed (by decide +kernel) ?_)))))
    all_goals first | rfl | omega | contradiction | trace_state
  · rw [show frQ f ls r k a y s l q = _ from if_neg hh]
    have hc := check_bad f ls r k a y s l q hn hh
    have hb := cR_bad hh
    repeat' ((first | (conv => whnf) | skip); (first | ((with_reducible intro h); first | contradiction | omega | (conv => whnf) | skip) | (with_reducible refine And.intro ?_ ?_) | ((with_reducible show arithK _ _ _); refine arith_ok ⟨by omega, by omega⟩ ?_) | ((with_reducible show quoK _ _ _ _); refine quo_ok ⟨by omega, by omega⟩ (by omega) (by omega) ?_) | ((with_reducible show remK _ _ _ _); refine rem_ok (by omega) (by omega) ?_) | ((first | (with_reducible show CallA _ _ _ _ _ _) | (with_reducible show CallQ _ _ _ _ _ _)); first | (refine Ret.go (hc) rfl rfl ?_) | (refine Ret.goQ (hc) rfl rfl ?_)) | ((with_reducible show DrawA _ _ _ _ _ _); first | (first | (refine draw_quiet hT mixed (by decide +kernel) ?_) | (refine draw_hard hT mixed (by decide +kernel) ?_)))))
    all_goals first | rfl | omega | contradiction | trace_state
set_option maxRecDepth 100000 in
theorem specFwd_ret (f : Int) (ls : List Int) (r k a y s l q : Int) (hn : ls.length ≤ 1048576) : Ret Tryz.prog G 50 [Bs f ls r, Po k a y s l, I q] (T3 (frQ f ls r k a y s l q).1 (frQ f ls r k a y s l q).2.1 (frQ f ls r k a y s l q).2.2) := by
  refine ret_of_body hT Tryz.func50 rfl ?_ rfl
  have hc := spec11_ret f ls r k a y s l q hn
  by_cases hh : hOk f ls r k a y s l q
  · rw [show frQ f ls r k a y s l q = _ from if_pos hh]
    rw [cR_ok hh] at hc
    have hf := specForward_ret f ls r k a y s l q hh
    repeat' ((first | (conv => whnf) | skip); (first | ((with_reducible intro h); first | contradiction | omega | (conv => whnf) | skip) | (with_reducible refine And.intro ?_ ?_) | ((with_reducible show arithK _ _ _); refine arith_ok ⟨by omega, by omega⟩ ?_) | ((with_reducible show quoK _ _ _ _); refine quo_ok ⟨by omega, by omega⟩ (by omega) (by omega) ?_) | ((with_reducible show remK _ _ _ _); refine rem_ok (by omega) (by omega) ?_) | ((first | (with_reducible show CallA _ _ _ _ _ _) | (with_reducible show CallQ _ _ _ _ _ _)); first | (refine Ret.go (hc) rfl rfl ?_) | (refine Ret.goQ (hc) rfl rfl ?_) | (refine Ret.go (hf) rfl rfl ?_) | (refine Ret.goQ (hf) rfl rfl ?_)) | ((with_reducible show DrawA _ _ _ _ _ _); first | (first | (refine draw_quiet hT mixed (by decide +kernel) ?_) | (refine draw_hard hT mixed (by decide +kernel) ?_)))))
    all_goals first | rfl | omega | contradiction | trace_state
  · rw [show frQ f ls r k a y s l q = _ from if_neg hh]
    have hb := cR_bad hh
    repeat' ((first | (conv => whnf) | skip); (first | ((with_reducible intro h); first | contradiction | omega | (conv => whnf) | skip) | (with_reducible refine And.intro ?_ ?_) | ((with_reducible show arithK _ _ _); refine arith_ok ⟨by omega, by omega⟩ ?_) | ((with_reducible show quoK _ _ _ _); refine quo_ok ⟨by omega, by omega⟩ (by omega) (by omega) ?_) | ((with_reducible show remK _ _ _ _); refine rem_ok (by omega) (by omega) ?_) | ((first | (with_reducible show CallA _ _ _ _ _ _) | (with_reducible show CallQ _ _ _ _ _ _)); first | (refine Ret.go (hc) rfl rfl ?_) | (refine Ret.goQ (hc) rfl rfl ?_)) | ((with_reducible show DrawA _ _ _ _ _ _); first | (first | (refine draw_quiet hT mixed (by decide +kernel) ?_) | (refine draw_hard hT mixed (by decide +kernel) ?_)))))
    all_goals first | rfl | omega | contradiction | trace_state
set_option maxRecDepth 100000 in
theorem implGain_ret (f : Int) (ls : List Int) (r k a y s l q : Int) (hn : ls.length ≤ 1048576) : Ret Tryz.prog G 52 [Bs f ls r, Po k a y s l, I q] (T3 (gaQ f ls r k a y s l q).1 (gaQ f ls r k a y s l q).2.1 (gaQ f ls r k a y s l q).2.2) := by
  refine ret_of_body hT Tryz.func52 rfl ?_ rfl
  by_cases hh : hOk f ls r k a y s l q
  · obtain ⟨m1, m2, m3, x1, x2, x3, x4, x5, x6⟩ := fw_facts hh
    have hx := exs_bd hh.1
    rw [show gaQ f ls r k a y s l q = _ from if_pos hh]
    have hc := check_ok f ls r k a y s l q hn hh
    have hp := excess_ret f ls r k a y s l hh.1
    repeat' ((first | (conv => whnf) | skip); (first | ((with_reducible intro h); first | contradiction | omega | (conv => whnf) | skip) | (with_reducible refine And.intro ?_ ?_) | ((with_reducible show arithK _ _ _); refine arith_ok ⟨by omega, by omega⟩ ?_) | ((with_reducible show quoK _ _ _ _); refine quo_ok ⟨by omega, by omega⟩ (by omega) (by omega) ?_) | ((with_reducible show remK _ _ _ _); refine rem_ok (by omega) (by omega) ?_) | ((first | (with_reducible show CallA _ _ _ _ _ _) | (with_reducible show CallQ _ _ _ _ _ _)); first | (refine Ret.go (hc) rfl rfl ?_) | (refine Ret.goQ (hc) rfl rfl ?_) | (refine Ret.go (hp) rfl rfl ?_) | (refine Ret.goQ (hp) rfl rfl ?_)) | ((with_reducible show DrawA _ _ _ _ _ _); first | (first | (refine draw_quiet hT mixed (by decide +kernel) ?_) | (refine draw_hard hT mixed (by decide +kernel) ?_)))))
    all_goals first | rfl | omega | contradiction | trace_state
  · rw [show gaQ f ls r k a y s l q = _ from if_neg hh]
    have hc := check_bad f ls r k a y s l q hn hh
    have hb := cR_bad hh
    repeat' ((first | (conv => whnf) | skip); (first | ((with_reducible intro h); first | contradiction | omega | (conv => whnf) | skip) | (with_reducible refine And.intro ?_ ?_) | ((with_reducible show arithK _ _ _); refine arith_ok ⟨by omega, by omega⟩ ?_) | ((with_reducible show quoK _ _ _ _); refine quo_ok ⟨by omega, by omega⟩ (by omega) (by omega) ?_) | ((with_reducible show remK _ _ _ _); refine rem_ok (by omega) (by omega) ?_) | ((first | (with_reducible show CallA _ _ _ _ _ _) | (with_reducible show CallQ _ _ _ _ _ _)); first | (refine Ret.go (hc) rfl rfl ?_) | (refine Ret.goQ (hc) rfl rfl ?_)) | ((with_reducible show DrawA _ _ _ _ _ _); first | (first | (refine draw_quiet hT mixed (by decide +kernel) ?_) | (refine draw_hard hT mixed (by decide +kernel) ?_)))))
    all_goals first | rfl | omega | contradiction | trace_state
set_option maxRecDepth 100000 in
theorem implDen_ret (f : Int) (ls : List Int) (r k a y s l q : Int) (hn : ls.length ≤ 1048576) : Ret Tryz.prog G 53 [Bs f ls r, Po k a y s l, I q] (.tup [I (deQ f ls r k a y s l q).1, I (deQ f ls r k a y s l q).2]) := by
  refine ret_of_body hT Tryz.func53 rfl ?_ rfl
  by_cases hh : hOk f ls r k a y s l q
  · rw [show deQ f ls r k a y s l q = _ from if_pos hh]
    have hc := check_ok f ls r k a y s l q hn hh
    repeat' ((first | (conv => whnf) | skip); (first | ((with_reducible intro h); first | contradiction | omega | (conv => whnf) | skip) | (with_reducible refine And.intro ?_ ?_) | ((with_reducible show arithK _ _ _); refine arith_ok ⟨by omega, by omega⟩ ?_) | ((with_reducible show quoK _ _ _ _); refine quo_ok ⟨by omega, by omega⟩ (by omega) (by omega) ?_) | ((with_reducible show remK _ _ _ _); refine rem_ok (by omega) (by omega) ?_) | ((first | (with_reducible show CallA _ _ _ _ _ _) | (with_reducible show CallQ _ _ _ _ _ _)); first | (refine Ret.go (hc) rfl rfl ?_) | (refine Ret.goQ (hc) rfl rfl ?_)) | ((with_reducible show DrawA _ _ _ _ _ _); first | (first | (refine draw_quiet hT mixed (by decide +kernel) ?_) | (refine draw_hard hT mixed (by decide +kernel) ?_)))))
    all_goals first | rfl | omega | contradiction | trace_state
  · rw [show deQ f ls r k a y s l q = _ from if_neg hh]
    have hc := check_bad f ls r k a y s l q hn hh
    repeat' ((first | (conv => whnf) | skip); (first | ((with_reducible intro h); first | contradiction | omega | (conv => whnf) | skip) | (with_reducible refine And.intro ?_ ?_) | ((with_reducible show arithK _ _ _); refine arith_ok ⟨by omega, by omega⟩ ?_) | ((with_reducible show quoK _ _ _ _); refine quo_ok ⟨by omega, by omega⟩ (by omega) (by omega) ?_) | ((with_reducible show remK _ _ _ _); refine rem_ok (by omega) (by omega) ?_) | ((first | (with_reducible show CallA _ _ _ _ _ _) | (with_reducible show CallQ _ _ _ _ _ _)); first | (refine Ret.go (hc) rfl rfl ?_) | (refine Ret.goQ (hc) rfl rfl ?_)) | ((with_reducible show DrawA _ _ _ _ _ _); first | (first | (refine draw_quiet hT mixed (by decide +kernel) ?_) | (refine draw_hard hT mixed (by decide +kernel) ?_)))))
    all_goals first | rfl | omega | contradiction | trace_state
set_option maxRecDepth 100000 in
theorem implBack_ret (f : Int) (ls : List Int) (r k a y s l q : Int) (hn : ls.length ≤ 1048576) : Ret Tryz.prog G 51 [Bs f ls r, Po k a y s l, I q] (T3 (bkQ f ls r k a y s l q).1 (bkQ f ls r k a y s l q).2.1 (bkQ f ls r k a y s l q).2.2) := by
  refine ret_of_body hT Tryz.func51 rfl ?_ rfl
  by_cases hh : hOk f ls r k a y s l q
  · obtain ⟨m1, m2, m3, x1, x2, x3, x4, x5, x6⟩ := fw_facts hh
    have hf := forward_ret (pTop f ls r k a y q) (pBase f ls r k a y q) (cD f ls r (a + q)) s (netP f ls r k a y s) m1 m2
    have he : s * pTop f ls r k a y q - netP f ls r k a y s * pBase f ls r k a y q = fwX f ls r k a y s q := by unfold fwX; rfl
    rw [he] at hf
    have hx := exs_bd hh.1
    have hdd := m1.hc
    have hxb := floor_spec (x := exs f ls r k a y s) (d := cD f ls r (a + q)) (by omega)
    have hxq : 0 ≤ exs f ls r k a y s / cD f ls r (a + q) ∧ exs f ls r k a y s / cD f ls r (a + q) ≤ 1000000000000000000 := ⟨Int.ediv_nonneg hx.1 (by omega), Int.le_trans (Int.ediv_le_self _ hx.1) hx.2⟩
    have hcq : 0 ≤ (fwX f ls r k a y s q % cD f ls r (a + q) + exs f ls r k a y s % cD f ls r (a + q)) / cD f ls r (a + q) ∧ (fwX f ls r k a y s q % cD f ls r (a + q) + exs f ls r k a y s % cD f ls r (a + q)) / cD f ls r (a + q) ≤ 2000000000000000000 := ⟨Int.ediv_nonneg (by omega) (by omega), Int.le_trans (Int.ediv_le_self _ (by omega)) (by omega)⟩
    rw [show bkQ f ls r k a y s l q = _ from if_pos hh]
    have hc := check_ok f ls r k a y s l q hn hh
    have hp := net_ret f ls r k a y s l hh.1
    have hg := excess_ret f ls r k a y s l hh.1
    repeat' ((first | (conv => whnf) | skip); (first | ((with_reducible intro h); first | contradiction | omega | (conv => whnf) | skip) | (with_reducible refine And.intro ?_ ?_) | ((with_reducible show arithK _ _ _); refine arith_ok ⟨by omega, by omega⟩ ?_) | ((with_reducible show quoK _ _ _ _); refine quo_ok ⟨by omega, by omega⟩ (by omega) (by omega) ?_) | ((with_reducible show remK _ _ _ _); refine rem_ok (by omega) (by omega) ?_) | ((first | (with_reducible show CallA _ _ _ _ _ _) | (with_reducible show CallQ _ _ _ _ _ _)); first | (refine Ret.go (hc) rfl rfl ?_) | (refine Ret.goQ (hc) rfl rfl ?_) | (refine Ret.go (hf) rfl rfl ?_) | (refine Ret.goQ (hf) rfl rfl ?_) | (refine Ret.go (hp) rfl rfl ?_) | (refine Ret.goQ (hp) rfl rfl ?_) | (refine Ret.go (hg) rfl rfl ?_) | (refine Ret.goQ (hg) rfl rfl ?_)) | ((with_reducible show DrawA _ _ _ _ _ _); first | (first | (refine draw_quiet hT mixed (by decide +kernel) ?_) | (refine draw_hard hT mixed (by decide +kernel) ?_)))))
    all_goals first | rfl | omega | contradiction | trace_state
  · rw [show bkQ f ls r k a y s l q = _ from if_neg hh]
    have hc := check_bad f ls r k a y s l q hn hh
    have hb := cR_bad hh
    repeat' ((first | (conv => whnf) | skip); (first | ((with_reducible intro h); first | contradiction | omega | (conv => whnf) | skip) | (with_reducible refine And.intro ?_ ?_) | ((with_reducible show arithK _ _ _); refine arith_ok ⟨by omega, by omega⟩ ?_) | ((with_reducible show quoK _ _ _ _); refine quo_ok ⟨by omega, by omega⟩ (by omega) (by omega) ?_) | ((with_reducible show remK _ _ _ _); refine rem_ok (by omega) (by omega) ?_) | ((first | (with_reducible show CallA _ _ _ _ _ _) | (with_reducible show CallQ _ _ _ _ _ _)); first | (refine Ret.go (hc) rfl rfl ?_) | (refine Ret.goQ (hc) rfl rfl ?_)) | ((with_reducible show DrawA _ _ _ _ _ _); first | (first | (refine draw_quiet hT mixed (by decide +kernel) ?_) | (refine draw_hard hT mixed (by decide +kernel) ?_)))))
    all_goals first | rfl | omega | contradiction | trace_state
end Go.Proofs.YtenofbabiacacaaGreat
namespace Go.Proofs.YtenofbabiacacaaGreat
open Go.AE

attribute [local irreducible] CallA LoopA DrawA CallQ arithK quoK remK eqK
attribute [local irreducible] pd lvS
abbrev pyT (S D P : List Int) (C c : Int) : AV := .tup [.agg [.sl 0 1 S.length, .sl 1 1 D.length, I C], .sl 2 1 P.length, I c]
theorem pd_sum (sh de : List Int) (e : Int) : ∀ i, i ≤ sh.length → ((pd sh de e sh.length).take i).sum = e * lvS sh de i
  | 0, _ => by simp [lvS]
  | i + 1, hi => by
    have ih := pd_sum sh de e i (by omega)
    have hl := pd_len sh de e sh.length
    have hg : (pd sh de e sh.length).getD i 0 = pdF sh de e sh.length i := by unfold pd; exact tg_get (by omega)
    rw [take_snoc 0 (by omega), List.sum_append, ih, hg]
    unfold pdF
    rw [if_pos (show i < sh.length by omega)]
    by_cases hd : (i : Int) ∈ de
    · rw [if_pos hd, lvS_yes hd]; simp
    · rw [if_neg hd, lvS_no hd, Int.mul_add]; simp
theorem each_bd2 {e x : Int} (he : 0 ≤ e ∧ e ≤ 1000100000000) (hx : 1 ≤ x ∧ x ≤ 1000) : 0 ≤ e * x ∧ e * x ≤ 1000100000000 * 1000 := mul_in he.1 he.2 (by omega) hx.2
theorem ke_small {sh de : List Int} {ch y : Int} (ho : okC sh de ch) (hy : 0 ≤ y ∧ y ≤ 100000000) (hp : 0 < lvS sh de sh.length) : keC sh de ch y ≤ 60000 := by
  have hf := pay_facts ho hy
  have hf2 := hf.2 hp
  rw [show keC sh de ch y = _ from if_pos hp]
  omega
set_option maxHeartbeats 8000000 in
set_option maxRecDepth 100000 in
theorem specPay_ok (sh de : List Int) (ch y : Int) (ho : okC sh de ch) (hy : 0 ≤ y ∧ y ≤ 100000000) (hk : keC sh de ch y ≤ 1000000000000) : CallA Tryz.prog G 121 [Cl sh de ch, I y] [] (fun v J => v = pyT sh de (pd sh de (eaC sh de ch y) sh.length) (keC sh de ch y) 0 ∧ J = [Di sh, Di de, Di (pd sh de (eaC sh de ch y) sh.length)]) := by
  refine CallA.ends (callA_of_body hT Tryz.func121 rfl ?_)
  have hl := okC_len ho
  have h1 := ho.1.1
  have h3 := ho.1.2.2.2
  have hf := pay_facts ho hy
  have hlv := specLiving_ret sh de ch ho
  by_cases hp : 0 < lvS sh de sh.length
  · have hf2 := hf.2 hp
    rw [show eaC sh de ch y = _ from if_pos hp, show keC sh de ch y = _ from if_pos hp]
    repeat' ((first | (conv => whnf) | skip); (first | ((with_reducible intro h); first | contradiction | omega | (conv => whnf) | skip) | (with_reducible refine And.intro ?_ ?_) | ((with_reducible show arithK _ _ _); refine arith_ok ⟨by omega, by omega⟩ ?_) | ((with_reducible show quoK _ _ _ _); refine quo_ok ⟨by omega, by omega⟩ (by omega) (by omega) ?_) | ((with_reducible show remK _ _ _ _); refine rem_ok (by omega) (by omega) ?_) | ((first | (with_reducible show CallA _ _ _ _ _ _) | (with_reducible show CallQ _ _ _ _ _ _)); first | (refine CallA.go [] (ownC_call sh de ch (by omega) (by omega)) rfl (by first | ((repeat' (first | exact rfl | exact trivial | (with_reducible assumption) | refine And.intro ?_ ?_ | omega | assumption)); done) | fail) trivial ?_) | (refine Ret.go (hlv) rfl rfl ?_) | (refine Ret.goQ (hlv) rfl rfl ?_)) | ((with_reducible show DrawA _ _ _ _ _ _); first | (refine draw_hard hT mixed (by decide +kernel) ?_))))
    all_goals first | rfl | omega | skip
    (conv => whnf)
    refine loop_rule hT (fun q : Nat => q ≤ sh.length) 63 6 [2, 4, 7, 8, 9, 10, 11] (fun q => [.ptr 0 0, .ptr 1 0, .ptr 4 0, .sl 5 1 sh.length, I (lvS sh de sh.length), I ((ch + y) / lvS sh de sh.length), I q]) (fun q => [.cells [Ri sh, Ri de, I ch], .cells [.nilsl, .nilsl, I 0], Di sh, Di de, .cells [.sl 2 1 sh.length, .sl 3 1 de.length, I (ch + y)], Di (pd sh de ((ch + y) / lvS sh de sh.length) q)]) (fun q => sh.length - q) (0) (Nat.le_of_ble_eq_true rfl) ?_ ?_ ?_
    · exact Nat.zero_le _
    · rw [← pd_zero]; (refine ⟨rfl, [], ?_, ?_⟩; all_goals (repeat' (first | exact rfl | exact trivial | (with_reducible assumption) | refine And.intro ?_ ?_)); all_goals (first | omega | assumption); done)
    · intro i hi1
      have hpl := pd_len sh de ((ch + y) / lvS sh de sh.length) i
      by_cases hi : i < sh.length
      · have hx := ho.1.2.1 _ (getD_mem (d := 0) hi)
        have hx' : 1 ≤ sh.getD ((i : Int)).toNat 0 ∧ sh.getD ((i : Int)).toNat 0 ≤ 1000 := hx
        have hm := each_bd2 hf2.1 hx'
        have hpl' : ((i : Int)).toNat < (pd sh de ((ch + y) / lvS sh de sh.length) i).length := by omega
        have hr := l01Has_ret de i (by omega)
        by_cases hd : (i : Int) ∈ de
        · rw [decide_eq_true hd] at hr
          repeat' ((first | (conv => whnf) | skip); (first | ((with_reducible intro h); first | contradiction | omega | (conv => whnf) | skip) | (with_reducible refine And.intro ?_ ?_) | ((with_reducible show arithK _ _ _); refine arith_ok ⟨by omega, by omega⟩ ?_) | ((with_reducible show quoK _ _ _ _); refine quo_ok ⟨by omega, by omega⟩ (by omega) (by omega) ?_) | ((with_reducible show remK _ _ _ _); refine rem_ok (by omega) (by omega) ?_) | ((first | (with_reducible show CallA _ _ _ _ _ _) | (with_reducible show CallQ _ _ _ _ _ _)); first | (refine Ret.go (hr) rfl rfl ?_) | (refine Ret.goQ (hr) rfl rfl ?_)) | ((with_reducible show DrawA _ _ _ _ _ _); first | (first | (refine draw_quiet hT mixed (by decide +kernel) ?_) | (refine draw_hard hT mixed (by decide +kernel) ?_)))))
          all_goals first | rfl | omega | skip
          all_goals ((conv => whnf); refine ⟨i + 1, by omega, ?_, by omega⟩; rw [pd_yes hd]; (refine ⟨rfl, [], ?_, ?_⟩; all_goals (repeat' (first | exact rfl | exact trivial | (with_reducible assumption) | refine And.intro ?_ ?_)); all_goals (first | omega | assumption); done))
        · rw [decide_eq_false hd] at hr
          repeat' ((first | (conv => whnf) | skip); (first | ((with_reducible intro h); first | contradiction | omega | (conv => whnf) | skip) | (with_reducible refine And.intro ?_ ?_) | ((with_reducible show arithK _ _ _); refine arith_ok ⟨by omega, by omega⟩ ?_) | ((with_reducible show quoK _ _ _ _); refine quo_ok ⟨by omega, by omega⟩ (by omega) (by omega) ?_) | ((with_reducible show remK _ _ _ _); refine rem_ok (by omega) (by omega) ?_) | ((first | (with_reducible show CallA _ _ _ _ _ _) | (with_reducible show CallQ _ _ _ _ _ _)); first | (refine Ret.go (hr) rfl rfl ?_) | (refine Ret.goQ (hr) rfl rfl ?_)) | ((with_reducible show DrawA _ _ _ _ _ _); first | (first | (refine draw_quiet hT mixed (by decide +kernel) ?_) | (refine draw_hard hT mixed (by decide +kernel) ?_)))))
          all_goals first | rfl | omega | exact hpl' | skip
          all_goals ((conv => whnf); refine ⟨i + 1, by omega, ?_, by omega⟩; rw [← pd_no hd]; (refine ⟨rfl, [], ?_, ?_⟩; all_goals (repeat' (first | exact rfl | exact trivial | (with_reducible assumption) | refine And.intro ?_ ?_)); all_goals (first | omega | assumption); done))
      · obtain rfl : i = sh.length := by omega
        repeat' ((first | (conv => whnf) | skip); (first | ((with_reducible intro h); first | contradiction | omega | (conv => whnf) | skip) | (with_reducible refine And.intro ?_ ?_) | ((with_reducible show arithK _ _ _); refine arith_ok ⟨by omega, by omega⟩ ?_) | ((with_reducible show quoK _ _ _ _); refine quo_ok ⟨by omega, by omega⟩ (by omega) (by omega) ?_) | ((with_reducible show remK _ _ _ _); refine rem_ok (by omega) (by omega) ?_) | ((first | (with_reducible show CallA _ _ _ _ _ _) | (with_reducible show CallQ _ _ _ _ _ _)); first | fail) | ((with_reducible show DrawA _ _ _ _ _ _); first | (refine draw_hard hT mixed (by decide +kernel) ?_))))
        all_goals first | rfl | omega | skip
        all_goals ((conv => whnf); first | (refine ⟨[some 2, some 3, some 5], pyT sh de (pd sh de ((ch + y) / lvS sh de sh.length) sh.length) ((ch + y) % lvS sh de sh.length) 0, [Di sh, Di de, Di (pd sh de ((ch + y) / lvS sh de sh.length) sh.length)], ?_, ?_, ?_⟩; all_goals (repeat' (first | exact rfl | exact trivial | (with_reducible assumption) | refine And.intro ?_ ?_)); all_goals (first | omega | assumption | ((repeat' (first | exact (pd_len _ _ _ _).symm | exact rfl | exact trivial | (with_reducible assumption) | refine And.intro ?_ ?_ | omega | assumption)); done)); done) | trace_state)
  · have hk' : ch + y ≤ 1000000000000 := by rwa [show keC sh de ch y = _ from if_neg hp] at hk
    rw [show eaC sh de ch y = _ from if_neg hp, show keC sh de ch y = _ from if_neg hp, ← pd_all hp]
    repeat' ((first | (conv => whnf) | skip); (first | ((with_reducible intro h); first | contradiction | omega | (conv => whnf) | skip) | (with_reducible refine And.intro ?_ ?_) | ((with_reducible show arithK _ _ _); refine arith_ok ⟨by omega, by omega⟩ ?_) | ((with_reducible show quoK _ _ _ _); refine quo_ok ⟨by omega, by omega⟩ (by omega) (by omega) ?_) | ((with_reducible show remK _ _ _ _); refine rem_ok (by omega) (by omega) ?_) | ((first | (with_reducible show CallA _ _ _ _ _ _) | (with_reducible show CallQ _ _ _ _ _ _)); first | (refine CallA.go [] (ownC_call sh de ch (by omega) (by omega)) rfl (by first | ((repeat' (first | exact rfl | exact trivial | (with_reducible assumption) | refine And.intro ?_ ?_ | omega | assumption)); done) | fail) trivial ?_) | (refine Ret.go (hlv) rfl rfl ?_) | (refine Ret.goQ (hlv) rfl rfl ?_)) | ((with_reducible show DrawA _ _ _ _ _ _); first | (refine draw_hard hT mixed (by decide +kernel) ?_))))
    all_goals first | rfl | omega | skip
    all_goals ((conv => whnf); first | (refine ⟨[some 2, some 3, some 5], pyT sh de (List.replicate sh.length 0) (ch + y) 0, [Di sh, Di de, Di (List.replicate sh.length 0)], ?_, ?_, ?_⟩; all_goals (repeat' (first | exact rfl | exact trivial | (with_reducible assumption) | refine And.intro ?_ ?_)); all_goals (first | omega | assumption | ((repeat' (first | (simp; done) | exact rfl | exact trivial | (with_reducible assumption) | refine And.intro ?_ ?_ | omega | assumption)); done)); done) | trace_state)
set_option maxRecDepth 100000 in
theorem specPay_no (sh de : List Int) (ch y : Int) (ho : okC sh de ch) (hy : 0 ≤ y ∧ y ≤ 100000000) (hk : ¬ keC sh de ch y ≤ 1000000000000) : CallA Tryz.prog G 121 [Cl sh de ch, I y] [] (fun v J => v = pyT [] [] [] 0 3 ∧ J = [Di [], Di [], Di []]) := by
  refine CallA.ends (callA_of_body hT Tryz.func121 rfl ?_)
  have hl := okC_len ho
  have h1 := ho.1.1
  have h3 := ho.1.2.2.2
  have hlv := specLiving_ret sh de ch ho
  have hp : ¬ 0 < lvS sh de sh.length := fun hp => by have := ke_small ho hy hp; omega
  have hk' : ¬ ch + y ≤ 1000000000000 := by rwa [show keC sh de ch y = _ from if_neg hp] at hk
  repeat' ((first | (conv => whnf) | skip); (first | ((with_reducible intro h); first | contradiction | omega | (conv => whnf) | skip) | (with_reducible refine And.intro ?_ ?_) | ((with_reducible show arithK _ _ _); refine arith_ok ⟨by omega, by omega⟩ ?_) | ((with_reducible show quoK _ _ _ _); refine quo_ok ⟨by omega, by omega⟩ (by omega) (by omega) ?_) | ((with_reducible show remK _ _ _ _); refine rem_ok (by omega) (by omega) ?_) | ((first | (with_reducible show CallA _ _ _ _ _ _) | (with_reducible show CallQ _ _ _ _ _ _)); first | (refine CallA.go [] (ownC_call sh de ch (by omega) (by omega)) rfl (by first | ((repeat' (first | exact rfl | exact trivial | (with_reducible assumption) | refine And.intro ?_ ?_ | omega | assumption)); done) | fail) trivial ?_) | (refine Ret.go (hlv) rfl rfl ?_) | (refine Ret.goQ (hlv) rfl rfl ?_)) | ((with_reducible show DrawA _ _ _ _ _ _); first | (refine draw_hard hT mixed (by decide +kernel) ?_))))
  all_goals first | rfl | omega | skip
  all_goals ((conv => whnf); first | (refine ⟨[none, none, none], .tup [.agg [.sl 0 1 0, .sl 1 1 0, I 0], .sl 2 1 0, I 3], [Di [], Di [], Di []], ?_, ?_, ?_⟩; all_goals (repeat' (first | exact rfl | exact trivial | (with_reducible assumption) | refine And.intro ?_ ?_ | omega))) | trace_state)
/-! With the checks -/
noncomputable def piR (sh de : List Int) (ch y : Int) : (List Int × List Int × List Int) × Int × Int := if okC sh de ch then (if 0 ≤ y ∧ y ≤ 100000000 then (if keC sh de ch y ≤ 1000000000000 then ((sh, de, pd sh de (eaC sh de ch y) sh.length), keC sh de ch y, 0) else (([], [], []), 0, 3)) else (([], [], []), 0, 2)) else (([], [], []), 0, 1)
noncomputable abbrev piT (sh de : List Int) (ch y : Int) : AV := pyT (piR sh de ch y).1.1 (piR sh de ch y).1.2.1 (piR sh de ch y).1.2.2 (piR sh de ch y).2.1 (piR sh de ch y).2.2
set_option maxRecDepth 100000 in
theorem isIncome_ret (y : Int) : Ret Tryz.prog G 118 [I y] (Bo (decide (0 ≤ y ∧ y ≤ 100000000))) := by
  refine ret_of_body hT Tryz.func118 rfl ?_ rfl
  repeat' ((first | (conv => whnf) | skip); (first | ((with_reducible intro h); first | contradiction | omega | (conv => whnf) | skip) | (with_reducible refine And.intro ?_ ?_) | ((with_reducible show arithK _ _ _); refine arith_ok ⟨by omega, by omega⟩ ?_) | ((with_reducible show quoK _ _ _ _); refine quo_ok ⟨by omega, by omega⟩ (by omega) (by omega) ?_) | ((with_reducible show remK _ _ _ _); refine rem_ok (by omega) (by omega) ?_) | ((first | (with_reducible show CallA _ _ _ _ _ _) | (with_reducible show CallQ _ _ _ _ _ _)); first | (refine Ret.goP (inRange_ret _ _ _) rfl ?_) | (refine Ret.goQP (inRange_ret _ _ _) rfl ?_)) | ((with_reducible show DrawA _ _ _ _ _ _); first | (first | (refine draw_quiet hT mixed (by decide +kernel) ?_) | (refine draw_hard hT mixed (by decide +kernel) ?_)))))
  all_goals (first | exact bv_true (by omega) | exact bv_false (by omega))
set_option maxRecDepth 100000 in
theorem specPI_call (sh de : List Int) (ch y : Int) (hs : sh.length ≤ 1048576) (hd : de.length ≤ 1048576) : CallA Tryz.prog G 61 [Cl sh de ch, I y] [] (fun v J => v = piT sh de ch y ∧ J = [Di (piR sh de ch y).1.1, Di (piR sh de ch y).1.2.1, Di (piR sh de ch y).1.2.2]) := by
  refine CallA.ends (callA_of_body hT Tryz.func61 rfl ?_)
  have hc := specClass_ret sh de ch hs hd
  by_cases ho : okC sh de ch
  · rw [decide_eq_true ho] at hc
    by_cases hy : 0 ≤ y ∧ y ≤ 100000000
    · by_cases hk : keC sh de ch y ≤ 1000000000000
      · have hpp := specPay_ok sh de ch y ho hy hk
        have hpl := pd_len sh de (eaC sh de ch y) sh.length
        rw [piT, show piR sh de ch y = ((sh, de, pd sh de (eaC sh de ch y) sh.length), keC sh de ch y, 0) from (if_pos ho).trans ((if_pos hy).trans (if_pos hk))]
        repeat' ((first | (conv => whnf) | skip); (first | ((with_reducible intro h); first | contradiction | omega | (conv => whnf) | skip) | (with_reducible refine And.intro ?_ ?_) | ((with_reducible show arithK _ _ _); refine arith_ok ⟨by omega, by omega⟩ ?_) | ((with_reducible show quoK _ _ _ _); refine quo_ok ⟨by omega, by omega⟩ (by omega) (by omega) ?_) | ((with_reducible show remK _ _ _ _); refine rem_ok (by omega) (by omega) ?_) | ((first | (with_reducible show CallA _ _ _ _ _ _) | (with_reducible show CallQ _ _ _ _ _ _)); first | (refine Ret.go (hc) rfl rfl ?_) | (refine Ret.goQ (hc) rfl rfl ?_) | (refine Ret.goP (l01In_ret _ _ _) rfl ?_) | (refine Ret.goQP (l01In_ret _ _ _) rfl ?_) | (refine CallA.go [] (hpp) rfl (by first | ((repeat' (first | exact rfl | exact trivial | (with_reducible assumption) | refine And.intro ?_ ?_ | omega | assumption)); done) | fail) trivial ?_)) | ((with_reducible show DrawA _ _ _ _ _ _); first | (refine draw_hard hT mixed (by decide +kernel) ?_))))
        all_goals first | rfl | omega | skip
        all_goals ((conv => whnf); first | (refine ⟨[some 2, some 3, some 4], pyT sh de (pd sh de (eaC sh de ch y) sh.length) (keC sh de ch y) 0, [Di sh, Di de, Di (pd sh de (eaC sh de ch y) sh.length)], ?_, ?_, ?_⟩; all_goals (repeat' (first | exact rfl | exact trivial | (with_reducible assumption) | refine And.intro ?_ ?_)); all_goals (first | omega | assumption); done) | trace_state)
      · have hpp := specPay_no sh de ch y ho hy hk
        rw [piT, show piR sh de ch y = (([], [], []), 0, 3) from (if_pos ho).trans ((if_pos hy).trans (if_neg hk))]
        repeat' ((first | (conv => whnf) | skip); (first | ((with_reducible intro h); first | contradiction | omega | (conv => whnf) | skip) | (with_reducible refine And.intro ?_ ?_) | ((with_reducible show arithK _ _ _); refine arith_ok ⟨by omega, by omega⟩ ?_) | ((with_reducible show quoK _ _ _ _); refine quo_ok ⟨by omega, by omega⟩ (by omega) (by omega) ?_) | ((with_reducible show remK _ _ _ _); refine rem_ok (by omega) (by omega) ?_) | ((first | (with_reducible show CallA _ _ _ _ _ _) | (with_reducible show CallQ _ _ _ _ _ _)); first | (refine Ret.go (hc) rfl rfl ?_) | (refine Ret.goQ (hc) rfl rfl ?_) | (refine Ret.goP (l01In_ret _ _ _) rfl ?_) | (refine Ret.goQP (l01In_ret _ _ _) rfl ?_) | (refine CallA.go [] (hpp) rfl (by first | ((repeat' (first | exact rfl | exact trivial | (with_reducible assumption) | refine And.intro ?_ ?_ | omega | assumption)); done) | fail) trivial ?_)) | ((with_reducible show DrawA _ _ _ _ _ _); first | (refine draw_hard hT mixed (by decide +kernel) ?_))))
        all_goals first | rfl | omega | skip
        all_goals ((conv => whnf); first | (refine ⟨[some 2, some 3, some 4], pyT [] [] [] 0 3, [Di [], Di [], Di []], ?_, ?_, ?_⟩; all_goals (repeat' (first | exact rfl | exact trivial | (with_reducible assumption) | refine And.intro ?_ ?_)); all_goals (first | omega | assumption); done) | trace_state)
    · rw [piT, show piR sh de ch y = (([], [], []), 0, 2) from (if_pos ho).trans (if_neg hy)]
      repeat' ((first | (conv => whnf) | skip); (first | ((with_reducible intro h); first | contradiction | omega | (conv => whnf) | skip) | (with_reducible refine And.intro ?_ ?_) | ((with_reducible show arithK _ _ _); refine arith_ok ⟨by omega, by omega⟩ ?_) | ((with_reducible show quoK _ _ _ _); refine quo_ok ⟨by omega, by omega⟩ (by omega) (by omega) ?_) | ((with_reducible show remK _ _ _ _); refine rem_ok (by omega) (by omega) ?_) | ((first | (with_reducible show CallA _ _ _ _ _ _) | (with_reducible show CallQ _ _ _ _ _ _)); first | (refine Ret.go (hc) rfl rfl ?_) | (refine Ret.goQ (hc) rfl rfl ?_) | (refine Ret.goP (l01In_ret _ _ _) rfl ?_) | (refine Ret.goQP (l01In_ret _ _ _) rfl ?_)) | ((with_reducible show DrawA _ _ _ _ _ _); first | (refine draw_hard hT mixed (by decide +kernel) ?_))))
      all_goals first | rfl | omega | skip
      all_goals ((conv => whnf); first | (refine ⟨[none, none, none], .tup [.agg [.sl 0 1 0, .sl 1 1 0, I 0], .sl 2 1 0, I 2], [Di [], Di [], Di []], ?_, ?_, ?_⟩; all_goals (repeat' (first | exact rfl | exact trivial | (with_reducible assumption) | refine And.intro ?_ ?_ | omega))) | trace_state)
  · rw [decide_eq_false ho] at hc
    rw [piT, show piR sh de ch y = (([], [], []), 0, 1) from if_neg ho]
    repeat' ((first | (conv => whnf) | skip); (first | ((with_reducible intro h); first | contradiction | omega | (conv => whnf) | skip) | (with_reducible refine And.intro ?_ ?_) | ((with_reducible show arithK _ _ _); refine arith_ok ⟨by omega, by omega⟩ ?_) | ((with_reducible show quoK _ _ _ _); refine quo_ok ⟨by omega, by omega⟩ (by omega) (by omega) ?_) | ((with_reducible show remK _ _ _ _); refine rem_ok (by omega) (by omega) ?_) | ((first | (with_reducible show CallA _ _ _ _ _ _) | (with_reducible show CallQ _ _ _ _ _ _)); first | (refine Ret.go (hc) rfl rfl ?_) | (refine Ret.goQ (hc) rfl rfl ?_)) | ((with_reducible show DrawA _ _ _ _ _ _); first | (refine draw_hard hT mixed (by decide +kernel) ?_))))
    all_goals first | rfl | omega | skip
    all_goals ((conv => whnf); first | (refine ⟨[none, none, none], .tup [.agg [.sl 0 1 0, .sl 1 1 0, I 0], .sl 2 1 0, I 1], [Di [], Di [], Di []], ?_, ?_, ?_⟩; all_goals (repeat' (first | exact rfl | exact trivial | (with_reducible assumption) | refine And.intro ?_ ?_ | omega))) | trace_state)
set_option maxRecDepth 100000 in
theorem implPI_call (sh de : List Int) (ch y : Int) (hs : sh.length ≤ 1048576) (hd : de.length ≤ 1048576) : CallA Tryz.prog G 60 [Cl sh de ch, I y] [] (fun v J => v = piT sh de ch y ∧ J = [Di (piR sh de ch y).1.1, Di (piR sh de ch y).1.2.1, Di (piR sh de ch y).1.2.2]) := by
  refine CallA.ends (callA_of_body hT Tryz.func60 rfl ?_)
  have hc := implClass_ret sh de ch hs hd
  by_cases ho : okC sh de ch
  · rw [decide_eq_true ho] at hc
    by_cases hy : 0 ≤ y ∧ y ≤ 100000000
    · have hpp := implPay_call sh de ch y ho hy
      have hpl := pd_len sh de (eaC sh de ch y) sh.length
      by_cases hk : keC sh de ch y ≤ 1000000000000
      · rw [decide_eq_true hk] at hpp
        rw [piT, show piR sh de ch y = ((sh, de, pd sh de (eaC sh de ch y) sh.length), keC sh de ch y, 0) from (if_pos ho).trans ((if_pos hy).trans (if_pos hk))]
        repeat' ((first | (conv => whnf) | skip); (first | ((with_reducible intro h); first | contradiction | omega | (conv => whnf) | skip) | (with_reducible refine And.intro ?_ ?_) | ((with_reducible show arithK _ _ _); refine arith_ok ⟨by omega, by omega⟩ ?_) | ((with_reducible show quoK _ _ _ _); refine quo_ok ⟨by omega, by omega⟩ (by omega) (by omega) ?_) | ((with_reducible show remK _ _ _ _); refine rem_ok (by omega) (by omega) ?_) | ((first | (with_reducible show CallA _ _ _ _ _ _) | (with_reducible show CallQ _ _ _ _ _ _)); first | (refine Ret.go (hc) rfl rfl ?_) | (refine Ret.goQ (hc) rfl rfl ?_) | (refine Ret.goP (isIncome_ret _) rfl ?_) | (refine Ret.goQP (isIncome_ret _) rfl ?_) | (refine CallA.go [] (hpp) rfl (by first | ((repeat' (first | exact rfl | exact trivial | (with_reducible assumption) | refine And.intro ?_ ?_ | omega | assumption)); done) | fail) trivial ?_)) | ((with_reducible show DrawA _ _ _ _ _ _); first | (refine draw_hard hT mixed (by decide +kernel) ?_))))
        all_goals first | rfl | omega | skip
        all_goals ((conv => whnf); first | (refine ⟨[some 2, some 3, some 4], pyT sh de (pd sh de (eaC sh de ch y) sh.length) (keC sh de ch y) 0, [Di sh, Di de, Di (pd sh de (eaC sh de ch y) sh.length)], ?_, ?_, ?_⟩; all_goals (repeat' (first | exact rfl | exact trivial | (with_reducible assumption) | refine And.intro ?_ ?_)); all_goals (first | omega | assumption); done) | trace_state)
      · rw [decide_eq_false hk] at hpp
        rw [piT, show piR sh de ch y = (([], [], []), 0, 3) from (if_pos ho).trans ((if_pos hy).trans (if_neg hk))]
        repeat' ((first | (conv => whnf) | skip); (first | ((with_reducible intro h); first | contradiction | omega | (conv => whnf) | skip) | (with_reducible refine And.intro ?_ ?_) | ((with_reducible show arithK _ _ _); refine arith_ok ⟨by omega, by omega⟩ ?_) | ((with_reducible show quoK _ _ _ _); refine quo_ok ⟨by omega, by omega⟩ (by omega) (by omega) ?_) | ((with_reducible show remK _ _ _ _); refine rem_ok (by omega) (by omega) ?_) | ((first | (with_reducible show CallA _ _ _ _ _ _) | (with_reducible show CallQ _ _ _ _ _ _)); first | (refine Ret.go (hc) rfl rfl ?_) | (refine Ret.goQ (hc) rfl rfl ?_) | (refine Ret.goP (isIncome_ret _) rfl ?_) | (refine Ret.goQP (isIncome_ret _) rfl ?_) | (refine CallA.go [] (hpp) rfl (by first | ((repeat' (first | exact rfl | exact trivial | (with_reducible assumption) | refine And.intro ?_ ?_ | omega | assumption)); done) | fail) trivial ?_)) | ((with_reducible show DrawA _ _ _ _ _ _); first | (refine draw_hard hT mixed (by decide +kernel) ?_))))
        all_goals first | rfl | omega | skip
        all_goals ((conv => whnf); first | (refine ⟨[none, none, none], .tup [.agg [.sl 0 1 0, .sl 1 1 0, I 0], .sl 2 1 0, I 3], [Di [], Di [], Di []], ?_, ?_, ?_⟩; all_goals (repeat' (first | exact rfl | exact trivial | (with_reducible assumption) | refine And.intro ?_ ?_ | omega))) | trace_state)
    · rw [piT, show piR sh de ch y = (([], [], []), 0, 2) from (if_pos ho).trans (if_neg hy)]
      repeat' ((first | (conv => whnf) | skip); (first | ((with_reducible intro h); first | contradiction | omega | (conv => whnf) | skip) | (with_reducible refine And.intro ?_ ?_) | ((with_reducible show arithK _ _ _); refine arith_ok ⟨by omega, by omega⟩ ?_) | ((with_reducible show quoK _ _ _ _); refine quo_ok ⟨by omega, by omega⟩ (by omega) (by omega) ?_) | ((with_reducible show remK _ _ _ _); refine rem_ok (by omega) (by omega) ?_) | ((first | (with_reducible show CallA _ _ _ _ _ _) | (with_reducible show CallQ _ _ _ _ _ _)); first | (refine Ret.go (hc) rfl rfl ?_) | (refine Ret.goQ (hc) rfl rfl ?_) | (refine Ret.goP (isIncome_ret _) rfl ?_) | (refine Ret.goQP (isIncome_ret _) rfl ?_)) | ((with_reducible show DrawA _ _ _ _ _ _); first | (refine draw_hard hT mixed (by decide +kernel) ?_))))
      all_goals first | rfl | omega | skip
      all_goals ((conv => whnf); first | (refine ⟨[none, none, none], .tup [.agg [.sl 0 1 0, .sl 1 1 0, I 0], .sl 2 1 0, I 2], [Di [], Di [], Di []], ?_, ?_, ?_⟩; all_goals (repeat' (first | exact rfl | exact trivial | (with_reducible assumption) | refine And.intro ?_ ?_ | omega))) | trace_state)
  · rw [decide_eq_false ho] at hc
    rw [piT, show piR sh de ch y = (([], [], []), 0, 1) from if_neg ho]
    repeat' ((first | (conv => whnf) | skip); (first | ((with_reducible intro h); first | contradiction | omega | (conv => whnf) | skip) | (with_reducible refine And.intro ?_ ?_) | ((with_reducible show arithK _ _ _); refine arith_ok ⟨by omega, by omega⟩ ?_) | ((with_reducible show quoK _ _ _ _); refine quo_ok ⟨by omega, by omega⟩ (by omega) (by omega) ?_) | ((with_reducible show remK _ _ _ _); refine rem_ok (by omega) (by omega) ?_) | ((first | (with_reducible show CallA _ _ _ _ _ _) | (with_reducible show CallQ _ _ _ _ _ _)); first | (refine Ret.go (hc) rfl rfl ?_) | (refine Ret.goQ (hc) rfl rfl ?_)) | ((with_reducible show DrawA _ _ _ _ _ _); first | (refine draw_hard hT mixed (by decide +kernel) ?_))))
    all_goals first | rfl | omega | skip
    all_goals ((conv => whnf); first | (refine ⟨[none, none, none], .tup [.agg [.sl 0 1 0, .sl 1 1 0, I 0], .sl 2 1 0, I 1], [Di [], Di [], Di []], ?_, ?_, ?_⟩; all_goals (repeat' (first | exact rfl | exact trivial | (with_reducible assumption) | refine And.intro ?_ ?_ | omega))) | trace_state)
set_option maxRecDepth 100000 in
theorem likeClasses_ret (S D : List Int) (C : Int) (hs : S.length ≤ 1048576) (hd : D.length ≤ 1048576) : Ret Tryz.prog G 62 [Cl S D C, Cl S D C] (Bo true) := by
  refine ret_of_body hT Tryz.func62 rfl ?_ rfl
  repeat' ((first | (conv => whnf) | skip); (first | ((with_reducible intro h); first | contradiction | omega | (conv => whnf) | skip) | (with_reducible refine And.intro ?_ ?_) | ((with_reducible show arithK _ _ _); refine arith_ok ⟨by omega, by omega⟩ ?_) | ((with_reducible show quoK _ _ _ _); refine quo_ok ⟨by omega, by omega⟩ (by omega) (by omega) ?_) | ((with_reducible show remK _ _ _ _); refine rem_ok (by omega) (by omega) ?_) | ((first | (with_reducible show CallA _ _ _ _ _ _) | (with_reducible show CallQ _ _ _ _ _ _)); first | (refine Ret.goP (likeInts_ret S S (by omega)) rfl ?_) | (refine Ret.goQP (likeInts_ret S S (by omega)) rfl ?_) | (refine Ret.goP (likeInts_ret D D (by omega)) rfl ?_) | (refine Ret.goQP (likeInts_ret D D (by omega)) rfl ?_)) | ((with_reducible show DrawA _ _ _ _ _ _); first | (first | (refine draw_quiet hT mixed (by decide +kernel) ?_) | (refine draw_hard hT mixed (by decide +kernel) ?_)))))
  all_goals first | rfl | omega | contradiction | trace_state
end Go.Proofs.YtenofbabiacacaaGreat
namespace Go.Proofs.YtenofbabiacacaaGreat
open Go.AE

attribute [local irreducible] CallA LoopA DrawA CallQ arithK quoK remK eqK
attribute [local irreducible] srcOk okP okT dur
theorem ends_cl {code : List Int} {v : AV} {H : List Blk} (S D : List Int) (C a2 s2 : Int) (sel : List (Option Nat)) (h1 : vmV 1 sel v (.agg [.sl 1 1 S.length, .sl 2 1 D.length, I C])) (h2 : heapM 1 sel H [Src code a2 s2, Di S, Di D]) (h3 : S.length ≤ 61 ∧ D.length ≤ 20) (h4 : srcOk code a2 s2) :
    ∃ sel v' J, vmV 1 sel v v' ∧ heapM 1 sel H J ∧ (∃ (x : (List Int × List Int) × Int) (a' s' : Int), v' = .agg [.sl 1 1 x.1.1.length, .sl 2 1 x.1.2.length, I x.2] ∧ J = [Src code a' s', Di x.1.1, Di x.1.2] ∧ (x.1.1.length ≤ 61 ∧ x.1.2.length ≤ 20) ∧ srcOk code a' s') :=
  ⟨sel, _, _, h1, h2, ((S, D), C), a2, s2, rfl, rfl, h3, h4⟩
set_option maxHeartbeats 8000000 in
set_option maxRecDepth 100000 in
theorem l13Draw_call (code : List Int) (hn : code.length ≤ 2305843009213693952) (hb : bytesOk code) (a s : Int) (h : srcOk code a s) : CallA Tryz.prog G 115 [.ptr 0 0] [Src code a s] (fun v J => ∃ (x : (List Int × List Int) × Int) (a' s' : Int), v = .agg [.sl 1 1 x.1.1.length, .sl 2 1 x.1.2.length, I x.2] ∧ J = [Src code a' s', Di x.1.1, Di x.1.2] ∧ (x.1.1.length ≤ 61 ∧ x.1.2.length ≤ 20) ∧ srcOk code a' s') := by
  refine CallA.ends (callA_of_body hT Tryz.func115 rfl ?_)
  repeat' ((first | (conv => whnf) | skip); (first | ((with_reducible intro h); first | contradiction | omega | (conv => whnf) | skip) | (with_reducible refine And.intro ?_ ?_) | ((with_reducible show arithK _ _ _); refine arith_ok ⟨by omega, by omega⟩ ?_) | ((with_reducible show quoK _ _ _ _); refine quo_ok ⟨by omega, by omega⟩ (by omega) (by omega) ?_) | ((with_reducible show remK _ _ _ _); refine rem_ok (by omega) (by omega) ?_) | ((first | (with_reducible show CallA _ _ _ _ _ _) | (with_reducible show CallQ _ _ _ _ _ _)); first | (refine CallA.goE3 false [0, 4] (pickB_call code hn hb _ _ [1, 50, 10000] (Nat.le_of_ble_eq_true rfl) (Nat.le_of_ble_eq_true rfl) ‹srcOk code _ _› 1 10000 (fun y hy => by simp only [List.mem_cons, List.not_mem_nil, or_false] at hy; omega)) rfl (by first | ((repeat' (first | exact rfl | exact trivial | refine And.intro ?_ ?_)); done) | fail) (by first | ((repeat' (first | exact rfl | exact trivial | refine And.intro ?_ ?_)); done) | fail) ?_; rintro u a2 s2 ⟨hu, hs⟩; (first | (conv => whnf) | skip)) | (refine CallA.goE3 false [0] (nextP_call code hn hb _ _ (u) (by first | decide | omega) ‹srcOk code _ _›) rfl (by first | ((repeat' (first | exact rfl | exact trivial | refine And.intro ?_ ?_)); done) | fail) (by first | ((repeat' (first | exact rfl | exact trivial | refine And.intro ?_ ?_)); done) | fail) ?_; rintro ch a2 s2 ⟨hch, hs⟩; (first | (conv => whnf) | skip)) | (refine CallA.goE3 false [0, 6] (pickB_call code hn hb _ _ [3, 6, 1, 100] (Nat.le_of_ble_eq_true rfl) (Nat.le_of_ble_eq_true rfl) ‹srcOk code _ _› 1 100 (fun y hy => by simp only [List.mem_cons, List.not_mem_nil, or_false] at hy; omega)) rfl (by first | ((repeat' (first | exact rfl | exact trivial | refine And.intro ?_ ?_)); done) | fail) (by first | ((repeat' (first | exact rfl | exact trivial | refine And.intro ?_ ?_)); done) | fail) ?_; rintro dd a2 s2 ⟨hdd, hs⟩; (first | (conv => whnf) | skip)) | (refine CallA.goE3 false [0] (nextP_call code hn hb _ _ (8) (by first | decide | omega) ‹srcOk code _ _›) rfl (by first | ((repeat' (first | exact rfl | exact trivial | refine And.intro ?_ ?_)); done) | fail) (by first | ((repeat' (first | exact rfl | exact trivial | refine And.intro ?_ ?_)); done) | fail) ?_; rintro x a2 s2 ⟨hx, hs⟩; (first | (conv => whnf) | skip))) | ((with_reducible show DrawA _ _ _ _ _ _); first | (refine draw_hard hT mixed (by decide +kernel) ?_))))
  all_goals first | rfl | omega | skip
  (conv => whnf)
  refine loop_rule hT (fun q : Nat × List Int × List Int × Int × Int => (q.1 + q.2.1.length ≤ 8 ∧ 1 ≤ q.1 + q.2.1.length) ∧ q.2.2.1.length ≤ q.2.1.length ∧ srcOk code q.2.2.2.1 q.2.2.2.2) 97 7 [0, 2, 3, 4, 5] (fun q => [.ptr 0 0, .ptr 1 0, .ptr 5 0, I dd, I q.1]) (fun q => [Src code q.2.2.2.1 q.2.2.2.2, .cells [.nilsl, .nilsl, I 0], .dead, .dead, .dead, .cells [.sl 7 1 q.2.1.length, .sl 8 1 q.2.2.1.length, I ch], .dead, Di q.2.1, Di q.2.2.1]) (fun q => q.1) (((1 + x).toNat, [], [], a2, s2)) (Nat.le_of_ble_eq_true rfl) ?_ ?_ ?_
  · exact ⟨by dsimp only [List.length_nil]; omega, Nat.le_refl _, hs⟩
  · (refine ⟨rfl, [some 2, some 3], ?_, ?_⟩; all_goals (repeat' (first | exact rfl | exact trivial | (with_reducible assumption) | refine And.intro ?_ ?_)); all_goals (first | omega | assumption); done)
  · rintro ⟨n, sh, de, a, s⟩ ⟨h1, h2, h3⟩
    dsimp only at h1 h2 h3 ⊢
    by_cases hz : n = 0
    · subst hz
      repeat' ((first | (conv => whnf) | skip); (first | ((with_reducible intro h); first | contradiction | omega | (conv => whnf) | skip) | (with_reducible refine And.intro ?_ ?_) | ((with_reducible show arithK _ _ _); refine arith_ok ⟨by omega, by omega⟩ ?_) | ((with_reducible show quoK _ _ _ _); refine quo_ok ⟨by omega, by omega⟩ (by omega) (by omega) ?_) | ((with_reducible show remK _ _ _ _); refine rem_ok (by omega) (by omega) ?_) | ((first | (with_reducible show CallA _ _ _ _ _ _) | (with_reducible show CallQ _ _ _ _ _ _)); first | (refine CallA.goE3 false [0] (nextP_call code hn hb _ _ (40) (by first | decide | omega) ‹srcOk code _ _›) rfl (by first | ((repeat' (first | exact rfl | exact trivial | refine And.intro ?_ ?_)); done) | fail) (by first | ((repeat' (first | exact rfl | exact trivial | refine And.intro ?_ ?_)); done) | fail) ?_; rintro t a2 s2 ⟨ht, hs⟩; (first | (conv => whnf) | skip)) | (refine CallA.goE3 false [0, 9] (pickB_call code hn hb _ _ [0, 1000, 1001] (Nat.le_of_ble_eq_true rfl) (Nat.le_of_ble_eq_true rfl) ‹srcOk code _ _› 0 1001 (fun y hy => by simp only [List.mem_cons, List.not_mem_nil, or_false] at hy; omega)) rfl (by first | ((repeat' (first | exact rfl | exact trivial | refine And.intro ?_ ?_)); done) | fail) (by first | ((repeat' (first | exact rfl | exact trivial | refine And.intro ?_ ?_)); done) | fail) ?_; rintro z a2 s2 ⟨hz, hs⟩; (first | (conv => whnf) | skip)) | (refine CallA.goE3 false [0, 9] (pickB_call code hn hb _ _ [-1, 0, (sh.length : Int), (sh.length : Int) - 1] (Nat.le_of_ble_eq_true rfl) (Nat.le_of_ble_eq_true rfl) ‹srcOk code _ _› (-1) 8 (fun y hy => by simp only [List.mem_cons, List.not_mem_nil, or_false] at hy; omega)) rfl (by first | ((repeat' (first | exact rfl | exact trivial | refine And.intro ?_ ?_)); done) | fail) (by first | ((repeat' (first | exact rfl | exact trivial | refine And.intro ?_ ?_)); done) | fail) ?_; rintro z2 a2 s2 ⟨hz2, hs⟩; (first | (conv => whnf) | skip)) | (refine CallA.goE3 false [0, 9] (pickB_call code hn hb _ _ [-1, 1000000000000, 999999999995, 1000000000001] (Nat.le_of_ble_eq_true rfl) (Nat.le_of_ble_eq_true rfl) ‹srcOk code _ _› (-1) 1000000000001 (fun y hy => by simp only [List.mem_cons, List.not_mem_nil, or_false] at hy; omega)) rfl (by first | ((repeat' (first | exact rfl | exact trivial | refine And.intro ?_ ?_)); done) | fail) (by first | ((repeat' (first | exact rfl | exact trivial | refine And.intro ?_ ?_)); done) | fail) ?_; rintro z3 a2 s2 ⟨hz3, hs⟩; (first | (conv => whnf) | skip)) | (refine CallA.goE3 false [0] (nextP_call code hn hb _ _ (2) (by first | decide | omega) ‹srcOk code _ _›) rfl (by first | ((repeat' (first | exact rfl | exact trivial | refine And.intro ?_ ?_)); done) | fail) (by first | ((repeat' (first | exact rfl | exact trivial | refine And.intro ?_ ?_)); done) | fail) ?_; rintro z4 a2 s2 ⟨hz4, hs⟩; (first | (conv => whnf) | skip))) | ((with_reducible show DrawA _ _ _ _ _ _); first | (refine draw_hard hT mixed (by decide +kernel) ?_))))
      all_goals first | rfl | omega | (simp only [List.nil_append, List.length_cons, List.length_nil]; omega) | skip
      all_goals ((conv => whnf); first
        | (apply ends_cl sh de _ _ _ [some 7, some 8]; all_goals (repeat' (first | exact rfl | exact trivial | (with_reducible assumption) | refine And.intro ?_ ?_)); all_goals (first | omega | assumption | (simp; done) | (simp; omega)); done)
        | (apply ends_cl (sh.set (Int.toNat 0) z) de _ _ _ [some 7, some 8]; all_goals (repeat' (first | exact rfl | exact trivial | (with_reducible assumption) | refine And.intro ?_ ?_)); all_goals (first | omega | assumption | (simp; done) | (simp; omega)); done)
        | (apply ends_cl sh (de ++ ([] ++ [z2])) _ _ _ [some 7, some 11]; all_goals (repeat' (first | exact rfl | exact trivial | (with_reducible assumption) | refine And.intro ?_ ?_)); all_goals (first | omega | assumption | (simp; done) | (simp; omega)); done)
        | skip)
      refine loop_rule hT (fun q : Nat × List Int => q.1 ≤ q.2.length ∧ q.2.length = (60 + z4).toNat) 97 10 [0, 2, 3, 6] (fun q => [.ptr 0 0, .ptr 1 0, .ptr 5 0, I q.1]) (fun q => [Src code a2 s2, .cells [.nilsl, .nilsl, I 0], .dead, .dead, .dead, .cells [.sl 9 1 q.2.length, .nilsl, I 0], .dead, .dead, .dead, Di q.2]) (fun q => q.2.length - q.1) ((0, List.replicate (60 + z4).toNat 0)) (Nat.le_of_ble_eq_true rfl) ?_ ?_ ?_
      · exact ⟨Nat.zero_le _, by simp⟩
      · first | (refine ⟨rfl, [], ?_, ?_⟩; all_goals (repeat' (first | exact rfl | exact trivial | (with_reducible assumption) | refine And.intro ?_ ?_)); all_goals (first | omega | assumption | ((repeat' (first | (simp; done) | exact rfl | exact trivial | (with_reducible assumption) | refine And.intro ?_ ?_ | omega | assumption)); done)); done) | trace_state
      · rintro ⟨i, xs⟩ ⟨h4, h5⟩
        dsimp only at h4 h5 ⊢
        repeat' ((first | (conv => whnf) | skip); (first | ((with_reducible intro h); first | contradiction | omega | (conv => whnf) | skip) | (with_reducible refine And.intro ?_ ?_) | ((with_reducible show arithK _ _ _); refine arith_ok ⟨by omega, by omega⟩ ?_) | ((with_reducible show quoK _ _ _ _); refine quo_ok ⟨by omega, by omega⟩ (by omega) (by omega) ?_) | ((with_reducible show remK _ _ _ _); refine rem_ok (by omega) (by omega) ?_) | ((first | (with_reducible show CallA _ _ _ _ _ _) | (with_reducible show CallQ _ _ _ _ _ _)); first | fail) | ((with_reducible show DrawA _ _ _ _ _ _); first | (refine draw_hard hT mixed (by decide +kernel) ?_))))
        all_goals first | rfl | omega | skip
        all_goals ((conv => whnf); first | (refine ⟨(i + 1, xs.set i 1), ⟨by dsimp only; simp; omega, by dsimp only; simp; omega⟩, ?_, by dsimp only; simp; omega⟩; (refine ⟨rfl, [], ?_, ?_⟩; all_goals (repeat' (first | exact rfl | exact trivial | (with_reducible assumption) | refine And.intro ?_ ?_)); all_goals (first | omega | assumption | ((repeat' (first | (simp; done) | exact rfl | exact trivial | (with_reducible assumption) | refine And.intro ?_ ?_ | omega | assumption)); done)); done)) | (apply ends_cl xs [] _ _ _ [some 9, none]; all_goals (repeat' (first | exact rfl | exact trivial | (with_reducible assumption) | refine And.intro ?_ ?_)); all_goals (first | omega | assumption | (simp; done) | (simp; omega)); done) | trace_state)
    · have hdd : 1 ≤ dd := hdd.1
      repeat' ((first | (conv => whnf) | skip); (first | ((with_reducible intro h); first | contradiction | omega | (conv => whnf) | skip) | (with_reducible refine And.intro ?_ ?_) | ((with_reducible show arithK _ _ _); refine arith_ok ⟨by omega, by omega⟩ ?_) | ((with_reducible show quoK _ _ _ _); refine quo_ok ⟨by omega, by omega⟩ (by omega) (by omega) ?_) | ((with_reducible show remK _ _ _ _); refine rem_ok (by omega) (by omega) ?_) | ((first | (with_reducible show CallA _ _ _ _ _ _) | (with_reducible show CallQ _ _ _ _ _ _)); first | (refine CallA.goE3 false [0] (nextP_call code hn hb _ _ (dd) (by first | decide | omega) ‹srcOk code _ _›) rfl (by first | ((repeat' (first | exact rfl | exact trivial | refine And.intro ?_ ?_)); done) | fail) (by first | ((repeat' (first | exact rfl | exact trivial | refine And.intro ?_ ?_)); done) | fail) ?_; rintro t a2 s2 ⟨ht, hs⟩; (first | (conv => whnf) | skip)) | (refine CallA.goE3 false [0] (nextP_call code hn hb _ _ (9) (by first | decide | omega) ‹srcOk code _ _›) rfl (by first | ((repeat' (first | exact rfl | exact trivial | refine And.intro ?_ ?_)); done) | fail) (by first | ((repeat' (first | exact rfl | exact trivial | refine And.intro ?_ ?_)); done) | fail) ?_; rintro w a2 s2 ⟨hw, hs⟩; (first | (conv => whnf) | skip))) | ((with_reducible show DrawA _ _ _ _ _ _); first | (refine draw_hard hT mixed (by decide +kernel) ?_))))
      all_goals first | rfl | omega | (simp only [List.nil_append, List.length_cons, List.length_nil]; omega) | skip
      all_goals ((conv => whnf); first | (refine ⟨(n - 1, sh ++ ([] ++ [1 + w]), de, _, _), ⟨by dsimp only; simp; omega, by dsimp only; simp; omega, by assumption⟩, ?_, by dsimp only; omega⟩; first | (refine ⟨rfl, [some 10, some 8], ?_, ?_⟩; all_goals (repeat' (first | exact rfl | exact trivial | (with_reducible assumption) | refine And.intro ?_ ?_)); all_goals (first | omega | assumption); done) | (refine ⟨rfl, [some 12, some 10], ?_, ?_⟩; all_goals (repeat' (first | exact rfl | exact trivial | (with_reducible assumption) | refine And.intro ?_ ?_)); all_goals (first | omega | assumption); done)) | (refine ⟨(n - 1, sh ++ ([] ++ [1 + w]), (de ++ ([] ++ [(sh.length : Int)])), _, _), ⟨by dsimp only; simp; omega, by dsimp only; simp; omega, by assumption⟩, ?_, by dsimp only; omega⟩; first | (refine ⟨rfl, [some 10, some 8], ?_, ?_⟩; all_goals (repeat' (first | exact rfl | exact trivial | (with_reducible assumption) | refine And.intro ?_ ?_)); all_goals (first | omega | assumption); done) | (refine ⟨rfl, [some 12, some 10], ?_, ?_⟩; all_goals (repeat' (first | exact rfl | exact trivial | (with_reducible assumption) | refine And.intro ?_ ?_)); all_goals (first | omega | assumption); done)) | trace_state)
set_option maxRecDepth 100000 in
theorem l13DrawIncome_call (code : List Int) (hn : code.length ≤ 2305843009213693952) (hb : bytesOk code) (a s : Int) (h : srcOk code a s) : CallA Tryz.prog G 116 [.ptr 0 0] [Src code a s] (fun v J => ∃ (x : Int) (a' s' : Int), v = I x ∧ J = [Src code a' s'] ∧ True ∧ srcOk code a' s') := by
  refine CallA.ends (callA_of_body hT Tryz.func116 rfl ?_)
  repeat' ((first | (conv => whnf) | skip); (first | ((with_reducible intro h); first | contradiction | omega | (conv => whnf) | skip) | (with_reducible refine And.intro ?_ ?_) | ((with_reducible show arithK _ _ _); refine arith_ok ⟨by omega, by omega⟩ ?_) | ((with_reducible show quoK _ _ _ _); refine quo_ok ⟨by omega, by omega⟩ (by omega) (by omega) ?_) | ((with_reducible show remK _ _ _ _); refine rem_ok (by omega) (by omega) ?_) | ((first | (with_reducible show CallA _ _ _ _ _ _) | (with_reducible show CallQ _ _ _ _ _ _)); first | (refine CallA.goE3 false [0] (nextP_call code hn hb _ _ (30) (by first | decide | omega) ‹srcOk code _ _›) rfl (by first | ((repeat' (first | exact rfl | exact trivial | refine And.intro ?_ ?_)); done) | fail) (by first | ((repeat' (first | exact rfl | exact trivial | refine And.intro ?_ ?_)); done) | fail) ?_; rintro x a2 s2 ⟨hx, hs⟩; (first | (conv => whnf) | skip)) | (refine CallA.goE3 false [0, 1] (pickB_call code hn hb _ _ [-1, 0, 100000000, 100000001] (Nat.le_of_ble_eq_true rfl) (Nat.le_of_ble_eq_true rfl) ‹srcOk code _ _› (-1) 100000001 (fun y hy => by simp only [List.mem_cons, List.not_mem_nil, or_false] at hy; omega)) rfl (by first | ((repeat' (first | exact rfl | exact trivial | refine And.intro ?_ ?_)); done) | fail) (by first | ((repeat' (first | exact rfl | exact trivial | refine And.intro ?_ ?_)); done) | fail) ?_; rintro z a2 s2 ⟨hz, hs⟩; (first | (conv => whnf) | skip)) | (refine CallA.goE3 false [0, 1] (pickB_call code hn hb _ _ [30, 5000, 400000] (Nat.le_of_ble_eq_true rfl) (Nat.le_of_ble_eq_true rfl) ‹srcOk code _ _› 30 400000 (fun y hy => by simp only [List.mem_cons, List.not_mem_nil, or_false] at hy; omega)) rfl (by first | ((repeat' (first | exact rfl | exact trivial | refine And.intro ?_ ?_)); done) | fail) (by first | ((repeat' (first | exact rfl | exact trivial | refine And.intro ?_ ?_)); done) | fail) ?_; rintro w a2 s2 ⟨hw, hs⟩; (first | (conv => whnf) | skip)) | (refine CallA.goE3 false [0] (nextP_call code hn hb _ _ (w) (by first | decide | omega) ‹srcOk code _ _›) rfl (by first | ((repeat' (first | exact rfl | exact trivial | refine And.intro ?_ ?_)); done) | fail) (by first | ((repeat' (first | exact rfl | exact trivial | refine And.intro ?_ ?_)); done) | fail) ?_; rintro y a2 s2 ⟨hy, hs⟩; (first | (conv => whnf) | skip))) | ((with_reducible show DrawA _ _ _ _ _ _); first | (refine draw_hard hT mixed (by decide +kernel) ?_))))
  all_goals first | rfl | omega | skip
  all_goals ((conv => whnf); first | (refine ends_src (ne := 1) [] z a2 s2 ?_ ?_ ?_; all_goals (repeat' (first | exact rfl | exact trivial | (with_reducible assumption) | refine And.intro ?_ ?_)); all_goals (first | omega | assumption | (simp; done) | (simp; omega)); done) | (refine ends_src (ne := 1) [] y a2 s2 ?_ ?_ ?_; all_goals (repeat' (first | exact rfl | exact trivial | (with_reducible assumption) | refine And.intro ?_ ?_)); all_goals (first | omega | assumption | (simp; done) | (simp; omega)); done) | trace_state)
theorem ends_pi {v : AV} {H : List Blk} (S D : List Int) (C y : Int) (sel : List (Option Nat)) (h1 : vmV 0 sel v (.tup [.agg [.sl 0 1 S.length, .sl 1 1 D.length, I C], I y])) (h2 : heapM 0 sel H [Di S, Di D]) (h3 : S.length ≤ 61 ∧ D.length ≤ 20) :
    ∃ sel v' J, vmV 0 sel v v' ∧ heapM 0 sel H J ∧ (∃ (x : ((List Int × List Int) × Int) × Int) (a' s' : Int), v' = .tup [.agg [.sl 0 1 x.1.1.1.length, .sl 1 1 x.1.1.2.length, I x.1.2], I x.2] ∧ J = [Di x.1.1.1, Di x.1.1.2] ∧ (x.1.1.1.length ≤ 61 ∧ x.1.1.2.length ≤ 20) ∧ a' = 0 ∧ s' = 0) :=
  ⟨sel, _, _, h1, h2, (((S, D), C), y), 0, 0, rfl, rfl, h3, rfl, rfl⟩
set_option maxRecDepth 100000 in
theorem drawPI_call (code : List Int) (hn : code.length ≤ 2305843009213693952) (hb : bytesOk code) : CallA Tryz.prog G 59 [Rb code] [] (fun v J => ∃ (x : ((List Int × List Int) × Int) × Int) (a' s' : Int), v = .tup [.agg [.sl 0 1 x.1.1.1.length, .sl 1 1 x.1.1.2.length, I x.1.2], I x.2] ∧ J = [Di x.1.1.1, Di x.1.1.2] ∧ (x.1.1.1.length ≤ 61 ∧ x.1.1.2.length ≤ 20) ∧ a' = 0 ∧ s' = 0) := by
  refine CallA.ends (callA_of_body hT Tryz.func59 rfl ?_)
  repeat' ((first | (conv => whnf) | skip); (first | ((with_reducible intro h); first | contradiction | omega | (conv => whnf) | skip) | (with_reducible refine And.intro ?_ ?_) | ((with_reducible show arithK _ _ _); refine arith_ok ⟨by omega, by omega⟩ ?_) | ((with_reducible show quoK _ _ _ _); refine quo_ok ⟨by omega, by omega⟩ (by omega) (by omega) ?_) | ((with_reducible show remK _ _ _ _); refine rem_ok (by omega) (by omega) ?_) | ((first | (with_reducible show CallA _ _ _ _ _ _) | (with_reducible show CallQ _ _ _ _ _ _)); first | (refine CallA.goE3 false [] (l01From_call code hn hb) rfl (by first | ((repeat' (first | exact rfl | exact trivial | (with_reducible assumption) | refine And.intro ?_ ?_ | omega | assumption)); done) | fail) (by first | ((repeat' (first | exact rfl | exact trivial | (with_reducible assumption) | refine And.intro ?_ ?_ | omega | assumption)); done) | fail) ?_; rintro x a2 s2 ⟨_, hs⟩; (first | (conv => whnf) | skip)) | (refine CallA.goE3 false [1] (l13Draw_call code hn hb _ _ ‹srcOk code _ _›) rfl (by first | ((repeat' (first | exact rfl | exact trivial | (with_reducible assumption) | refine And.intro ?_ ?_ | omega | assumption)); done) | fail) (by first | ((repeat' (first | exact rfl | exact trivial | (with_reducible assumption) | refine And.intro ?_ ?_ | omega | assumption)); done) | fail) ?_; rintro ⟨⟨S, D⟩, C⟩ a2 s2 ⟨⟨hl, hd⟩, hs⟩; (first | (conv => whnf) | skip); dsimp only at hl hd) | (refine CallA.goE3 false [1] (l13DrawIncome_call code hn hb _ _ ‹srcOk code _ _›) rfl (by first | ((repeat' (first | exact rfl | exact trivial | (with_reducible assumption) | refine And.intro ?_ ?_ | omega | assumption)); done) | fail) (by first | ((repeat' (first | exact rfl | exact trivial | (with_reducible assumption) | refine And.intro ?_ ?_ | omega | assumption)); done) | fail) ?_; rintro y a2 s2 ⟨_, hs⟩; (first | (conv => whnf) | skip))) | ((with_reducible show DrawA _ _ _ _ _ _); first | (refine draw_hard hT mixed (by decide +kernel) ?_))))
  all_goals first | rfl | omega | skip
  all_goals ((conv => whnf); apply ends_pi S D C y [some 2, some 3])
  all_goals first | (exact ⟨hl, hd⟩) | (repeat' (first | exact rfl | exact trivial | refine And.intro ?_ ?_))
/-! A policy with a year -/
theorem ends_11 {code : List Int} {v : AV} {H : List Blk} (f : Int) (ls : List Int) (r k g y m w q a2 s2 : Int) (sel : List (Option Nat)) (h1 : vmV 1 sel v (.tup [.agg [I f, .sl 1 1 ls.length, I r], .agg [I k, I g, I y, I m, I w], I q])) (h2 : heapM 1 sel H [Src code a2 s2, Di ls]) (h3 : ls.length ≤ 27) (h4 : srcOk code a2 s2) :
    ∃ sel v' J, vmV 1 sel v v' ∧ heapM 1 sel H J ∧ (∃ (x : (Int × List Int × Int) × (Int × Int × Int × Int × Int) × Int) (a' s' : Int), v' = .tup [.agg [I x.1.1, .sl 1 1 x.1.2.1.length, I x.1.2.2], .agg [I x.2.1.1, I x.2.1.2.1, I x.2.1.2.2.1, I x.2.1.2.2.2.1, I x.2.1.2.2.2.2], I x.2.2] ∧ J = [Src code a' s', Di x.1.2.1] ∧ x.1.2.1.length ≤ 27 ∧ srcOk code a' s') :=
  ⟨sel, _, _, h1, h2, ((f, ls, r), (k, g, y, m, w), q), a2, s2, rfl, rfl, h3, h4⟩
set_option maxHeartbeats 8000000 in
set_option maxRecDepth 100000 in
theorem l11Draw_call (code : List Int) (hn : code.length ≤ 2305843009213693952) (hb : bytesOk code) (a s : Int) (h : srcOk code a s) : CallA Tryz.prog G 107 [.ptr 0 0] [Src code a s] (fun v J => ∃ (x : (Int × List Int × Int) × (Int × Int × Int × Int × Int) × Int) (a' s' : Int), v = .tup [.agg [I x.1.1, .sl 1 1 x.1.2.1.length, I x.1.2.2], .agg [I x.2.1.1, I x.2.1.2.1, I x.2.1.2.2.1, I x.2.1.2.2.2.1, I x.2.1.2.2.2.2], I x.2.2] ∧ J = [Src code a' s', Di x.1.2.1] ∧ x.1.2.1.length ≤ 27 ∧ srcOk code a' s') := by
  refine CallA.ends (callA_of_body hT Tryz.func107 rfl ?_)
  repeat' ((first | (conv => whnf) | skip); (first | ((with_reducible intro h); first | contradiction | omega | (conv => whnf) | skip) | (with_reducible refine And.intro ?_ ?_) | ((with_reducible show arithK _ _ _); refine arith_ok ⟨by omega, by omega⟩ ?_) | ((with_reducible show quoK _ _ _ _); refine quo_ok ⟨by omega, by omega⟩ (by omega) (by omega) ?_) | ((with_reducible show remK _ _ _ _); refine rem_ok (by omega) (by omega) ?_) | ((first | (with_reducible show CallA _ _ _ _ _ _) | (with_reducible show CallQ _ _ _ _ _ _)); first | (refine CallA.goE3 false [0] (l10Draw_call code hn hb _ _ ‹srcOk code _ _›) rfl (by first | ((repeat' (first | exact rfl | exact trivial | (with_reducible assumption) | refine And.intro ?_ ?_ | omega | assumption)); done) | fail) (by first | ((repeat' (first | exact rfl | exact trivial | (with_reducible assumption) | refine And.intro ?_ ?_ | omega | assumption)); done) | fail) ?_; rintro ⟨⟨f, ls, r⟩, k, g, y, m, w⟩ a2 s2 ⟨⟨⟨hf, hl, hr⟩, hk, hg, hy, hm, hw⟩, hs⟩; (first | (conv => whnf) | skip); dsimp only at hf hl hr hk hg hy hm hw)) | ((with_reducible show DrawA _ _ _ _ _ _); first | (refine draw_hard hT mixed (by decide +kernel) ?_))))
  all_goals first | rfl | omega | skip
  have hlen : ls.length ≤ 1048576 := Nat.le_trans hl.2 (by decide)
  by_cases ho : okP f ls r k g y m w
  · have hdb := dur_bd ho
    have hd := specDur_ret f ls r k g y m w ho
    have hp := specPolicy_ret f ls r k g y m w hlen
    rw [decide_eq_true ho] at hp
    repeat' ((first | (conv => whnf) | skip); (first | ((with_reducible intro h); first | contradiction | omega | (conv => whnf) | skip) | (with_reducible refine And.intro ?_ ?_) | ((with_reducible show arithK _ _ _); refine arith_ok ⟨by omega, by omega⟩ ?_) | ((with_reducible show quoK _ _ _ _); refine quo_ok ⟨by omega, by omega⟩ (by omega) (by omega) ?_) | ((with_reducible show remK _ _ _ _); refine rem_ok (by omega) (by omega) ?_) | ((first | (with_reducible show CallA _ _ _ _ _ _) | (with_reducible show CallQ _ _ _ _ _ _)); first | (refine Ret.use (hp) (by first | ((repeat' (first | exact rfl | exact trivial | (with_reducible assumption) | refine And.intro ?_ ?_ | omega | assumption)); done) | fail) ?_) | (refine Ret.useQ (hp) (by first | ((repeat' (first | exact rfl | exact trivial | (with_reducible assumption) | refine And.intro ?_ ?_ | omega | assumption)); done) | fail) rfl ?_) | (refine Ret.use (hd) (by first | ((repeat' (first | exact rfl | exact trivial | (with_reducible assumption) | refine And.intro ?_ ?_ | omega | assumption)); done) | fail) ?_) | (refine Ret.useQ (hd) (by first | ((repeat' (first | exact rfl | exact trivial | (with_reducible assumption) | refine And.intro ?_ ?_ | omega | assumption)); done) | fail) rfl ?_) | (refine CallA.goE3 false [0] (nextP_call code hn hb _ _ (16) (by first | decide | omega) ‹srcOk code _ _›) rfl (by first | ((repeat' (first | exact rfl | exact trivial | refine And.intro ?_ ?_)); done) | fail) (by first | ((repeat' (first | exact rfl | exact trivial | refine And.intro ?_ ?_)); done) | fail) ?_; rintro t a2 s2 ⟨ht, hs⟩; (first | (conv => whnf) | skip)) | (refine CallA.goE3 false [0] (next0_call code hn hb _ _ (dur f ls k g y) ‹srcOk code _ _›) rfl (by first | ((repeat' (first | exact rfl | exact trivial | refine And.intro ?_ ?_)); done) | fail) (by first | ((repeat' (first | exact rfl | exact trivial | refine And.intro ?_ ?_)); done) | fail) ?_; rintro x a2 s2 ⟨hx, hs⟩; (first | (conv => whnf) | skip)) | (refine CallA.goE3 false [0, 6] (l01Pick_call code hn hb _ _ [-1, 0, dur f ls k g y - 1, dur f ls k g y] (Nat.le_of_ble_eq_true rfl) (Nat.le_of_ble_eq_true rfl) ‹srcOk code _ _›) rfl (by first | ((repeat' (first | exact rfl | exact trivial | refine And.intro ?_ ?_)); done) | fail) (by first | ((repeat' (first | exact rfl | exact trivial | refine And.intro ?_ ?_)); done) | fail) ?_; rintro z a2 s2 ⟨hz, hs⟩; (first | (conv => whnf) | skip))) | ((with_reducible show DrawA _ _ _ _ _ _); first | (refine draw_hard hT mixed (by decide +kernel) ?_))))
    all_goals first | rfl | omega | skip
    all_goals ((conv => whnf); first | (apply ends_11 f ls r k g y m w _ _ _ [some 3]; all_goals (repeat' (first | exact rfl | exact trivial | (with_reducible assumption) | refine And.intro ?_ ?_)); all_goals (first | omega | assumption); done) | trace_state)
  · have hp := specPolicy_ret f ls r k g y m w hlen
    rw [decide_eq_false ho] at hp
    repeat' ((first | (conv => whnf) | skip); (first | ((with_reducible intro h); first | contradiction | omega | (conv => whnf) | skip) | (with_reducible refine And.intro ?_ ?_) | ((with_reducible show arithK _ _ _); refine arith_ok ⟨by omega, by omega⟩ ?_) | ((with_reducible show quoK _ _ _ _); refine quo_ok ⟨by omega, by omega⟩ (by omega) (by omega) ?_) | ((with_reducible show remK _ _ _ _); refine rem_ok (by omega) (by omega) ?_) | ((first | (with_reducible show CallA _ _ _ _ _ _) | (with_reducible show CallQ _ _ _ _ _ _)); first | (refine Ret.use (hp) (by first | ((repeat' (first | exact rfl | exact trivial | (with_reducible assumption) | refine And.intro ?_ ?_ | omega | assumption)); done) | fail) ?_) | (refine Ret.useQ (hp) (by first | ((repeat' (first | exact rfl | exact trivial | (with_reducible assumption) | refine And.intro ?_ ?_ | omega | assumption)); done) | fail) rfl ?_) | (refine CallA.goE3 false [0] (nextP_call code hn hb _ _ (16) (by first | decide | omega) ‹srcOk code _ _›) rfl (by first | ((repeat' (first | exact rfl | exact trivial | refine And.intro ?_ ?_)); done) | fail) (by first | ((repeat' (first | exact rfl | exact trivial | refine And.intro ?_ ?_)); done) | fail) ?_; rintro t a2 s2 ⟨ht, hs⟩; (first | (conv => whnf) | skip)) | (refine CallA.goE3 false [0] (nextP_call code hn hb _ _ (5) (by first | decide | omega) ‹srcOk code _ _›) rfl (by first | ((repeat' (first | exact rfl | exact trivial | refine And.intro ?_ ?_)); done) | fail) (by first | ((repeat' (first | exact rfl | exact trivial | refine And.intro ?_ ?_)); done) | fail) ?_; rintro x a2 s2 ⟨hx, hs⟩; (first | (conv => whnf) | skip)) | (refine CallA.goE3 false [0, 6] (l01Pick_call code hn hb _ _ [-1, 0, 4, 5] (Nat.le_of_ble_eq_true rfl) (Nat.le_of_ble_eq_true rfl) ‹srcOk code _ _›) rfl (by first | ((repeat' (first | exact rfl | exact trivial | refine And.intro ?_ ?_)); done) | fail) (by first | ((repeat' (first | exact rfl | exact trivial | refine And.intro ?_ ?_)); done) | fail) ?_; rintro z a2 s2 ⟨hz, hs⟩; (first | (conv => whnf) | skip))) | ((with_reducible show DrawA _ _ _ _ _ _); first | (refine draw_hard hT mixed (by decide +kernel) ?_))))
    all_goals first | rfl | omega | skip
    all_goals ((conv => whnf); first | (apply ends_11 f ls r k g y m w _ _ _ [some 3]; all_goals (repeat' (first | exact rfl | exact trivial | (with_reducible assumption) | refine And.intro ?_ ?_)); all_goals (first | omega | assumption); done) | trace_state)
theorem ends_fr {v : AV} {H : List Blk} (f : Int) (ls : List Int) (r k g y m w q : Int) (sel : List (Option Nat)) (h1 : vmV 0 sel v (.tup [.agg [I f, .sl 0 1 ls.length, I r], .agg [I k, I g, I y, I m, I w], I q])) (h2 : heapM 0 sel H [Di ls]) (h3 : ls.length ≤ 27) :
    ∃ sel v' J, vmV 0 sel v v' ∧ heapM 0 sel H J ∧ (∃ (x : (Int × List Int × Int) × (Int × Int × Int × Int × Int) × Int) (a' s' : Int), v' = .tup [.agg [I x.1.1, .sl 0 1 x.1.2.1.length, I x.1.2.2], .agg [I x.2.1.1, I x.2.1.2.1, I x.2.1.2.2.1, I x.2.1.2.2.2.1, I x.2.1.2.2.2.2], I x.2.2] ∧ J = [Di x.1.2.1] ∧ x.1.2.1.length ≤ 27 ∧ a' = 0 ∧ s' = 0) :=
  ⟨sel, _, _, h1, h2, ((f, ls, r), (k, g, y, m, w), q), 0, 0, rfl, rfl, h3, rfl, rfl⟩
set_option maxRecDepth 100000 in
theorem drawFR_call (code : List Int) (hn : code.length ≤ 2305843009213693952) (hb : bytesOk code) : CallA Tryz.prog G 48 [Rb code] [] (fun v J => ∃ (x : (Int × List Int × Int) × (Int × Int × Int × Int × Int) × Int) (a' s' : Int), v = .tup [.agg [I x.1.1, .sl 0 1 x.1.2.1.length, I x.1.2.2], .agg [I x.2.1.1, I x.2.1.2.1, I x.2.1.2.2.1, I x.2.1.2.2.2.1, I x.2.1.2.2.2.2], I x.2.2] ∧ J = [Di x.1.2.1] ∧ x.1.2.1.length ≤ 27 ∧ a' = 0 ∧ s' = 0) := by
  refine CallA.ends (callA_of_body hT Tryz.func48 rfl ?_)
  repeat' ((first | (conv => whnf) | skip); (first | ((with_reducible intro h); first | contradiction | omega | (conv => whnf) | skip) | (with_reducible refine And.intro ?_ ?_) | ((with_reducible show arithK _ _ _); refine arith_ok ⟨by omega, by omega⟩ ?_) | ((with_reducible show quoK _ _ _ _); refine quo_ok ⟨by omega, by omega⟩ (by omega) (by omega) ?_) | ((with_reducible show remK _ _ _ _); refine rem_ok (by omega) (by omega) ?_) | ((first | (with_reducible show CallA _ _ _ _ _ _) | (with_reducible show CallQ _ _ _ _ _ _)); first | (refine CallA.goE3 false [] (l01From_call code hn hb) rfl (by first | ((repeat' (first | exact rfl | exact trivial | (with_reducible assumption) | refine And.intro ?_ ?_ | omega | assumption)); done) | fail) (by first | ((repeat' (first | exact rfl | exact trivial | (with_reducible assumption) | refine And.intro ?_ ?_ | omega | assumption)); done) | fail) ?_; rintro x a2 s2 ⟨_, hs⟩; (first | (conv => whnf) | skip)) | (refine CallA.goE3 false [2] (l11Draw_call code hn hb _ _ ‹srcOk code _ _›) rfl (by first | ((repeat' (first | exact rfl | exact trivial | (with_reducible assumption) | refine And.intro ?_ ?_ | omega | assumption)); done) | fail) (by first | ((repeat' (first | exact rfl | exact trivial | (with_reducible assumption) | refine And.intro ?_ ?_ | omega | assumption)); done) | fail) ?_; rintro ⟨⟨f, ls, r⟩, ⟨k, g, y, m, w⟩, q⟩ a2 s2 ⟨hl, hs⟩; (first | (conv => whnf) | skip); dsimp only at hl)) | ((with_reducible show DrawA _ _ _ _ _ _); first | (refine draw_hard hT mixed (by decide +kernel) ?_))))
  all_goals first | rfl | omega | skip
  all_goals ((conv => whnf); apply ends_fr f ls r k g y m w q [some 3])
  all_goals first | (exact hl) | (repeat' (first | exact rfl | exact trivial | refine And.intro ?_ ?_))
end Go.Proofs.YtenofbabiacacaaGreat
namespace Go.Proofs.YtenofbabiacacaaGreat
open Go.AE

attribute [local irreducible] CallA LoopA DrawA CallQ arithK quoK remK eqK
set_option maxRecDepth 100000 in
theorem implSurp_ret (a b c d e f g : Int) (h : isYr a b c d e f g) : Ret Tryz.prog G 47 [V7 a b c d e f g] (.tup [I (a + b + c - d + e - f - g), I 0]) := by
  refine ret_of_body hT Tryz.func47 rfl ?_ rfl
  have hb := yr_bd h
  repeat' ((first | (conv => whnf) | skip); (first | ((with_reducible intro h); first | contradiction | omega | (conv => whnf) | skip) | (with_reducible refine And.intro ?_ ?_) | ((with_reducible show arithK _ _ _); refine arith_ok ⟨by omega, by omega⟩ ?_) | ((with_reducible show quoK _ _ _ _); refine quo_ok ⟨by omega, by omega⟩ (by omega) (by omega) ?_) | ((with_reducible show remK _ _ _ _); refine rem_ok (by omega) (by omega) ?_) | ((first | (with_reducible show CallA _ _ _ _ _ _) | (with_reducible show CallQ _ _ _ _ _ _)); first | (refine Ret.goP (implYear_ret _ _ _ _ _ _ _) rfl ?_) | (refine Ret.goQP (implYear_ret _ _ _ _ _ _ _) rfl ?_) | (refine Ret.go (implEndF_ret _ _ _ _ _ _ _ h) rfl rfl ?_) | (refine Ret.goQ (implEndF_ret _ _ _ _ _ _ _ h) rfl rfl ?_)) | ((with_reducible show DrawA _ _ _ _ _ _); first | (first | (refine draw_quiet hT mixed (by decide +kernel) ?_) | (refine draw_hard hT mixed (by decide +kernel) ?_)))))
  all_goals first | rfl | omega | contradiction | trace_state
set_option maxRecDepth 100000 in
theorem expected_ret (a b c d e f g r : Int) (h : isYr a b c d e f g) (hr : okR r) : Ret Tryz.prog G 114 [V7 a b c d e f g, I r] (I ((a + b) * r / 1000)) := by
  refine ret_of_body hT Tryz.func114 rfl ?_ rfl
  have hb := yr_bd h
  have hm := mul_in (a := a + b) (A := 2000000000000) (b := r) (B := 200) (by omega) (by omega) hr.1 hr.2
  repeat' ((first | (conv => whnf) | skip); (first | ((with_reducible intro h); first | contradiction | omega | (conv => whnf) | skip) | (with_reducible refine And.intro ?_ ?_) | ((with_reducible show arithK _ _ _); refine arith_ok ⟨by omega, by omega⟩ ?_) | ((with_reducible show quoK _ _ _ _); refine quo_ok ⟨by omega, by omega⟩ (by omega) (by omega) ?_) | ((with_reducible show remK _ _ _ _); refine rem_ok (by omega) (by omega) ?_) | ((first | (with_reducible show CallA _ _ _ _ _ _) | (with_reducible show CallQ _ _ _ _ _ _)); first | fail) | ((with_reducible show DrawA _ _ _ _ _ _); first | (first | (refine draw_quiet hT mixed (by decide +kernel) ?_) | (refine draw_hard hT mixed (by decide +kernel) ?_)))))
  all_goals first | rfl | omega | trace_state
abbrev srcL (a b c d e f g r : Int) : List Int := [e - (a + b) * r / 1000, c - d, a + b + (a + b) * r / 1000 - f - g]
set_option maxRecDepth 100000 in
theorem sources_call (a b c d e f g r : Int) (h : isYr a b c d e f g) (hr : okR r) : CallA Tryz.prog G 56 [V7 a b c d e f g, I r] [] (fun v J => v = .tup [.sl 0 1 3, I 0] ∧ J = [Di (srcL a b c d e f g r)]) := by
  refine CallA.ends (callA_of_body hT Tryz.func56 rfl ?_)
  have hb := yr_bd h
  have hm := mul_in (a := a + b) (A := 2000000000000) (b := r) (B := 200) (by omega) (by omega) hr.1 hr.2
  have hx := expected_ret a b c d e f g r h hr
  repeat' ((first | (conv => whnf) | skip); (first | ((with_reducible intro h); first | contradiction | omega | (conv => whnf) | skip) | (with_reducible refine And.intro ?_ ?_) | ((with_reducible show arithK _ _ _); refine arith_ok ⟨by omega, by omega⟩ ?_) | ((with_reducible show quoK _ _ _ _); refine quo_ok ⟨by omega, by omega⟩ (by omega) (by omega) ?_) | ((with_reducible show remK _ _ _ _); refine rem_ok (by omega) (by omega) ?_) | ((first | (with_reducible show CallA _ _ _ _ _ _) | (with_reducible show CallQ _ _ _ _ _ _)); first | (refine Ret.goP (implYear_ret _ _ _ _ _ _ _) rfl ?_) | (refine Ret.goQP (implYear_ret _ _ _ _ _ _ _) rfl ?_) | (refine Ret.goP (implRate_ret _) rfl ?_) | (refine Ret.goQP (implRate_ret _) rfl ?_) | (refine Ret.go (hx) rfl rfl ?_) | (refine Ret.goQ (hx) rfl rfl ?_)) | ((with_reducible show DrawA _ _ _ _ _ _); first | (refine draw_hard hT mixed (by decide +kernel) ?_))))
  all_goals first | rfl | omega | contradiction | skip
  all_goals ((conv => whnf); first | (refine ⟨[some 1], .tup [.sl 0 1 3, I 0], [Di (srcL a b c d e f g r)], ?_, ?_, ?_⟩; all_goals (repeat' (first | exact rfl | exact trivial | (with_reducible assumption) | refine And.intro ?_ ?_)); all_goals (first | omega | assumption); done) | trace_state)
set_option maxRecDepth 100000 in
theorem implTotal_ret (f : Int) (ls : List Int) (r : Int) (hs : List (List Int)) (hn : ls.length ≤ 1048576) (hh : hs.length ≤ 1048576) (ho : okF f ls r hs) : Ret Tryz.prog G 57 [Bs f ls r, Rh hs] (.tup [I (tot f ls r hs), I 0]) := by
  refine ret_of_body hT Tryz.func57 rfl ?_ rfl
  repeat' ((first | (conv => whnf) | skip); (first | ((with_reducible intro h); first | contradiction | omega | (conv => whnf) | skip) | (with_reducible refine And.intro ?_ ?_) | ((with_reducible show arithK _ _ _); refine arith_ok ⟨by omega, by omega⟩ ?_) | ((with_reducible show quoK _ _ _ _); refine quo_ok ⟨by omega, by omega⟩ (by omega) (by omega) ?_) | ((with_reducible show remK _ _ _ _); refine rem_ok (by omega) (by omega) ?_) | ((first | (with_reducible show CallA _ _ _ _ _ _) | (with_reducible show CallQ _ _ _ _ _ _)); first | (refine Ret.goP (implPortfolio_ret f ls r hs hn hh) rfl ?_) | (refine Ret.goQP (implPortfolio_ret f ls r hs hn hh) rfl ?_) | (refine CallA.go [] (reserves_call2 f ls r hs ho) rfl (by first | ((repeat' (first | exact rfl | exact trivial | (with_reducible assumption) | refine And.intro ?_ ?_ | omega | assumption)); done) | fail) trivial ?_) | (refine Ret.use (total_res f ls r hs ho) (by first | ((repeat' (first | exact rfl | exact trivial | (with_reducible assumption) | refine And.intro ?_ ?_ | omega | assumption)); done) | fail) ?_) | (refine Ret.useQ (total_res f ls r hs ho) (by first | ((repeat' (first | exact rfl | exact trivial | (with_reducible assumption) | refine And.intro ?_ ?_ | omega | assumption)); done) | fail) rfl ?_)) | ((with_reducible show DrawA _ _ _ _ _ _); first | (refine draw_hard hT mixed (by decide +kernel) ?_))))
  all_goals first | rfl | omega | contradiction | trace_state
set_option maxRecDepth 100000 in
theorem likeHoldings_ret (xss : List (List Int)) (hn : xss.length ≤ 1048576) : Ret Tryz.prog G 55 [Rh xss, Rh xss] (Bo true) := by
  refine ret_of_body hT Tryz.func55 rfl ?_ rfl
  repeat' ((first | (conv => whnf) | skip); (first | ((with_reducible intro h); first | contradiction | omega | (conv => whnf) | skip) | (with_reducible refine And.intro ?_ ?_) | ((with_reducible show arithK _ _ _); refine arith_ok ⟨by omega, by omega⟩ ?_) | ((with_reducible show quoK _ _ _ _); refine quo_ok ⟨by omega, by omega⟩ (by omega) (by omega) ?_) | ((with_reducible show remK _ _ _ _); refine rem_ok (by omega) (by omega) ?_) | ((first | (with_reducible show CallA _ _ _ _ _ _) | (with_reducible show CallQ _ _ _ _ _ _)); first | fail) | ((with_reducible show DrawA _ _ _ _ _ _); first | (first | (refine draw_quiet hT mixed (by decide +kernel) ?_) | (refine draw_hard hT mixed (by decide +kernel) ?_)))))
  all_goals first | omega | skip
  refine loop_rule hT (fun i : Nat => i ≤ xss.length) 26 0 [0, 1, 5] (fun i => [Rh xss, Rh xss, I i]) (fun _ => []) (fun i => xss.length - i) (0) (Nat.le_of_ble_eq_true rfl) ?_ ?_ ?_
  · exact Nat.zero_le _
  · (refine ⟨rfl, [], ?_, ?_⟩; all_goals (repeat' (first | exact rfl | exact trivial | (with_reducible assumption) | refine And.intro ?_ ?_ | omega)))
  · intro i h1
    repeat' ((first | (conv => whnf) | skip); (first | ((with_reducible intro h); first | contradiction | omega | (conv => whnf) | skip) | (with_reducible refine And.intro ?_ ?_) | ((with_reducible show arithK _ _ _); refine arith_ok ⟨by omega, by omega⟩ ?_) | ((with_reducible show quoK _ _ _ _); refine quo_ok ⟨by omega, by omega⟩ (by omega) (by omega) ?_) | ((with_reducible show remK _ _ _ _); refine rem_ok (by omega) (by omega) ?_) | ((first | (with_reducible show CallA _ _ _ _ _ _) | (with_reducible show CallQ _ _ _ _ _ _)); first | fail) | ((with_reducible show DrawA _ _ _ _ _ _); first | (first | (refine draw_quiet hT mixed (by decide +kernel) ?_) | (refine draw_hard hT mixed (by decide +kernel) ?_)))))
    all_goals first | rfl | omega | contradiction | skip
    all_goals ((conv => whnf); first | (refine ⟨i + 1, by omega, ?_, by omega⟩; (refine ⟨rfl, [], ?_, ?_⟩; all_goals (repeat' (first | exact rfl | exact trivial | (with_reducible assumption) | refine And.intro ?_ ?_ | omega)))) | trace_state)
end Go.Proofs.YtenofbabiacacaaGreat
namespace Go.Proofs.YtenofbabiacacaaGreat
open Go.AE

attribute [local irreducible] CallA LoopA DrawA CallQ arithK quoK remK eqK
attribute [local irreducible] pTop pBase fwX netP cD okT okP exs lvS pd
theorem top_cases {f : Int} {ls : List Int} {r k a y s l q : Int} :
    (∃ F R g t D : Int, frQ f ls r k a y s l q = (F, R, 0) ∧ gaQ f ls r k a y s l q = (g, t, 0) ∧ deQ f ls r k a y s l q = (D, 0) ∧ bkQ f ls r k a y s l q = (F + g + (R + t) / D, (R + t) % D, 0) ∧
      (1 ≤ D ∧ D ≤ 1000000000000000000) ∧ (-(879609302220803) ≤ F ∧ F ≤ 100000000) ∧ (0 ≤ R ∧ R < D) ∧ (0 ≤ g ∧ g ≤ 1000000000000000000) ∧ (0 ≤ t ∧ t < D) ∧
      (0 ≤ (R + t) / D ∧ (R + t) / D ≤ 2000000000000000000) ∧ 0 ≤ (R + t) / D * D ∧ (R + t) / D * D + (R + t) % D = R + t ∧ 0 ≤ (R + t) % D ∧ (R + t) % D < D) ∨
    (∃ e : Int, e ≠ 0 ∧ frQ f ls r k a y s l q = (0, 0, e) ∧ gaQ f ls r k a y s l q = (0, 0, e) ∧ deQ f ls r k a y s l q = (0, e) ∧ bkQ f ls r k a y s l q = (0, 0, e)) := by
  by_cases hh : hOk f ls r k a y s l q
  · obtain ⟨m1, m2, m3, x1, x2, x3, x4, x5, x6⟩ := fw_facts hh
    have hx := exs_bd hh.1
    have hdd := m1.hc
    have hxb := floor_spec (x := exs f ls r k a y s) (d := cD f ls r (a + q)) (by omega)
    have hxq : 0 ≤ exs f ls r k a y s / cD f ls r (a + q) ∧ exs f ls r k a y s / cD f ls r (a + q) ≤ 1000000000000000000 := ⟨Int.ediv_nonneg hx.1 (by omega), Int.le_trans (Int.ediv_le_self _ hx.1) hx.2⟩
    refine .inl ⟨_, _, _, _, _, if_pos hh, if_pos hh, if_pos hh, if_pos hh, hdd, ⟨x1.1, by omega⟩, ⟨x2, x3⟩, hxq, hxb.2, ?_⟩
    generalize fwX f ls r k a y s q % cD f ls r (a + q) = R at x2 x3 ⊢
    generalize exs f ls r k a y s % cD f ls r (a + q) = t at hxb ⊢
    generalize cD f ls r (a + q) = D at hxb hdd x2 x3 ⊢
    have hf := floor_spec (x := R + t) (d := D) (by omega)
    have hq : 0 ≤ (R + t) / D := Int.ediv_nonneg (by omega) (by omega)
    exact ⟨⟨hq, Int.le_trans (Int.ediv_le_self _ (by omega)) (by omega)⟩, Int.mul_nonneg hq (by omega), hf.1, hf.2.1, hf.2.2⟩
  · exact .inr ⟨_, cR_bad hh, if_neg hh, if_neg hh, if_neg hh, if_neg hh⟩
theorem pi_cases {S E : List Int} {C y : Int} (hS : S.length ≤ 61) :
    (∃ e : Int, e ≠ 0 ∧ piR S E C y = (([], [], []), 0, e)) ∨
    (∃ (P : List Int) (K : Int), piR S E C y = ((S, E, P), K, 0) ∧ P.length = S.length ∧ (∀ i, i ≤ P.length → -9223372036854775808 ≤ (P.take i).sum ∧ (P.take i).sum ≤ 9223372036854775807) ∧ P.sum + K = C + y ∧ (0 ≤ C ∧ C ≤ 1000000000000) ∧ (0 ≤ y ∧ y ≤ 100000000) ∧ 0 ≤ K ∧ K ≤ 1000000000000) := by
  by_cases ho : okC S E C
  · by_cases hy : 0 ≤ y ∧ y ≤ 100000000
    · by_cases hk : keC S E C y ≤ 1000000000000
      · have hc := ho.1.2.2.2
        have hf := pay_facts ho hy
        refine .inr ⟨pd S E (eaC S E C y) S.length, keC S E C y, (if_pos ho).trans ((if_pos hy).trans (if_pos hk)), pd_len _ _ _ _, ?_, ?_, hc, hy, ?_, hk⟩
        · intro i hi
          rw [pd_len] at hi
          rw [pd_sum _ _ _ i hi]
          have hb := lvS_bd (de := E) ho.1.2.1 i hi
          by_cases hp : 0 < lvS S E S.length
          · have h2 := hf.2 hp
            rw [show eaC S E C y = _ from if_pos hp]
            have hm := mul_in (a := (C + y) / lvS S E S.length) (A := 1000100000000) (b := lvS S E i) (B := 61000) h2.1.1 h2.1.2 hb.1 (by omega)
            omega
          · rw [show eaC S E C y = _ from if_neg hp, Int.zero_mul]
            omega
        · have hs := pd_sum S E (eaC S E C y) S.length (Nat.le_refl _)
          rw [take_all (by rw [pd_len]; exact Nat.le_refl _)] at hs
          rw [hs]
          by_cases hp : 0 < lvS S E S.length
          · have h2 := hf.2 hp
            rw [show eaC S E C y = _ from if_pos hp, show keC S E C y = _ from if_pos hp]
            omega
          · rw [show eaC S E C y = _ from if_neg hp, show keC S E C y = _ from if_neg hp, Int.zero_mul]
            omega
        · by_cases hp : 0 < lvS S E S.length
          · have h2 := hf.2 hp
            rw [show keC S E C y = _ from if_pos hp]
            omega
          · rw [show keC S E C y = _ from if_neg hp]
            omega
      · exact .inl ⟨3, by decide, (if_pos ho).trans ((if_pos hy).trans (if_neg hk))⟩
    · exact .inl ⟨2, by decide, (if_pos ho).trans (if_neg hy)⟩
  · exact .inl ⟨1, by decide, if_neg ho⟩
theorem cy_parts {f : Int} {ls : List Int} {r : Int} {hs : List (List Int)} {ds : List Int} {fu ex it : Int} (h : cyQ f ls r hs ds fu ex it) : okF f ls r hs ∧ dOk hs ds ∧ noBad f ls r hs ds hs.length := ⟨h.1.1.1, h.1.1.2, h.2.1⟩
attribute [local irreducible] rowB frQ gaQ deQ bkQ piR srcOk agL nets loads tot clS yrQ clQ cyC eDs okC okF
theorem srcL_sum (a b c d e f g r : Int) : (srcL a b c d e f g r).sum = a + b + c - d + e - f - g := by
  simp only [srcL, List.sum_cons, List.sum_nil]; omega
theorem sumSrc_ret (a b c d e f g r : Int) (h : isYr a b c d e f g) (hr : okR r) : Ret Tryz.prog G 58 [Ri (srcL a b c d e f g r)] (I (a + b + c - d + e - f - g)) := by
  have hb := yr_bd h
  have hm := mul_in (a := a + b) (A := 2000000000000) (b := r) (B := 200) (by omega) (by omega) hr.1 hr.2
  have := sum_ret (srcL a b c d e f g r) (by simp) (fun i hi => by
    have hi : i ≤ 3 := hi
    match i, hi with
    | 0, _ => simp
    | 1, _ => simp only [srcL, List.take_succ_cons, List.take_zero, List.sum_cons, List.sum_nil]; omega
    | 2, _ => simp only [srcL, List.take_succ_cons, List.take_zero, List.sum_cons, List.sum_nil]; omega
    | 3, _ => simp only [srcL, List.take_succ_cons, List.take_zero, List.sum_cons, List.sum_nil]; omega)
  rwa [srcL_sum] at this
theorem okF_R {f : Int} {ls : List Int} {r : Int} {hs : List (List Int)} (h : okF f ls r hs) : okR r := by
  unfold okF at h
  exact h.1.2
set_option maxHeartbeats 16000000 in
set_option maxRecDepth 100000 in
theorem lawTop_ret (code : List Int) (hn : code.length ≤ 9223372036854775807) (hb : bytesOk code) : Ret Tryz.prog G 8 [Rb code] (Bo true) := by
  refine ret_of_body hT Tryz.func8 rfl ?_ rfl
  by_cases hbig : (4096 : Int) < code.length
  · repeat' ((first | (conv => whnf) | skip); (first | ((with_reducible intro h); first | contradiction | omega | (conv => whnf) | skip) | (with_reducible refine And.intro ?_ ?_) | ((with_reducible show arithK _ _ _); refine arith_ok ⟨by omega, by omega⟩ ?_) | ((with_reducible show quoK _ _ _ _); refine quo_ok ⟨by omega, by omega⟩ (by omega) (by omega) ?_) | ((with_reducible show remK _ _ _ _); refine rem_ok (by omega) (by omega) ?_) | ((first | (with_reducible show CallA _ _ _ _ _ _) | (with_reducible show CallQ _ _ _ _ _ _)); first | (refine Ret.goP (big_ret code) rfl ?_) | (refine Ret.goQP (big_ret code) rfl ?_)) | ((with_reducible show DrawA _ _ _ _ _ _); first | (refine draw_hard hT mixed (by decide +kernel) ?_))))
    all_goals first | rfl | omega | trace_state
  replace hn : code.length ≤ 2305843009213693952 := by omega
  repeat' ((first | (conv => whnf) | skip); (first | ((with_reducible intro h); first | contradiction | omega | (conv => whnf) | skip) | (with_reducible refine And.intro ?_ ?_) | ((with_reducible show arithK _ _ _); refine arith_ok ⟨by omega, by omega⟩ ?_) | ((with_reducible show quoK _ _ _ _); refine quo_ok ⟨by omega, by omega⟩ (by omega) (by omega) ?_) | ((with_reducible show remK _ _ _ _); refine rem_ok (by omega) (by omega) ?_) | ((first | (with_reducible show CallA _ _ _ _ _ _) | (with_reducible show CallQ _ _ _ _ _ _)); first | (refine Ret.goP (big_ret code) rfl ?_) | (refine Ret.goQP (big_ret code) rfl ?_) | (refine CallA.goE3 false [] (drawFR_call code hn hb) rfl (by first | ((repeat' (first | exact rfl | exact trivial | (with_reducible assumption) | refine And.intro ?_ ?_ | omega | assumption)); done) | fail) (by first | ((repeat' (first | exact rfl | exact trivial | (with_reducible assumption) | refine And.intro ?_ ?_ | omega | assumption)); done) | fail) ?_; rintro ⟨⟨f, ls, r⟩, ⟨k, a, y, s, l⟩, q⟩ _ _ ⟨hl, _⟩; (first | (conv => whnf) | skip); dsimp only at hl)) | ((with_reducible show DrawA _ _ _ _ _ _); first | (refine draw_hard hT mixed (by decide +kernel) ?_))))
  all_goals first | rfl | omega | skip
  have n1 : ls.length ≤ 1048576 := Nat.le_trans hl (by decide)
  have h1 := implFwd_ret f ls r k a y s l q n1
  have h2 := specFwd_ret f ls r k a y s l q n1
  have h3 := implBack_ret f ls r k a y s l q n1
  have h4 := implGain_ret f ls r k a y s l q n1
  have h5 := implDen_ret f ls r k a y s l q n1
  rcases top_cases (f := f) (ls := ls) (r := r) (k := k) (a := a) (y := y) (s := s) (l := l) (q := q) with ⟨F, R, g, t, D, e1, e2, e3, e4, b1, b2, b3, b4, b5, b6, b7, b8, b9, b10⟩ | ⟨e, he, e1, e2, e3, e4⟩
  · rw [e1] at h1 h2
    rw [e4] at h3
    rw [e2] at h4
    rw [e3] at h5
    dsimp only at h1 h2 h3 h4 h5
    repeat' ((first | (conv => whnf) | skip); (first | ((with_reducible intro h); first | contradiction | omega | (conv => whnf) | skip) | (with_reducible refine And.intro ?_ ?_) | ((with_reducible show arithK _ _ _); refine arith_ok ⟨by omega, by omega⟩ ?_) | ((with_reducible show quoK _ _ _ _); refine quo_ok ⟨by omega, by omega⟩ (by omega) (by omega) ?_) | ((with_reducible show remK _ _ _ _); refine rem_ok (by omega) (by omega) ?_) | ((first | (with_reducible show CallA _ _ _ _ _ _) | (with_reducible show CallQ _ _ _ _ _ _)); first | (refine Ret.use (h1) (by first | ((repeat' (first | exact rfl | exact trivial | (with_reducible assumption) | refine And.intro ?_ ?_ | omega | assumption)); done) | fail) ?_) | (refine Ret.useQ (h1) (by first | ((repeat' (first | exact rfl | exact trivial | (with_reducible assumption) | refine And.intro ?_ ?_ | omega | assumption)); done) | fail) rfl ?_) | (refine Ret.use (h2) (by first | ((repeat' (first | exact rfl | exact trivial | (with_reducible assumption) | refine And.intro ?_ ?_ | omega | assumption)); done) | fail) ?_) | (refine Ret.useQ (h2) (by first | ((repeat' (first | exact rfl | exact trivial | (with_reducible assumption) | refine And.intro ?_ ?_ | omega | assumption)); done) | fail) rfl ?_) | (refine Ret.use (h3) (by first | ((repeat' (first | exact rfl | exact trivial | (with_reducible assumption) | refine And.intro ?_ ?_ | omega | assumption)); done) | fail) ?_) | (refine Ret.useQ (h3) (by first | ((repeat' (first | exact rfl | exact trivial | (with_reducible assumption) | refine And.intro ?_ ?_ | omega | assumption)); done) | fail) rfl ?_) | (refine Ret.use (h4) (by first | ((repeat' (first | exact rfl | exact trivial | (with_reducible assumption) | refine And.intro ?_ ?_ | omega | assumption)); done) | fail) ?_) | (refine Ret.useQ (h4) (by first | ((repeat' (first | exact rfl | exact trivial | (with_reducible assumption) | refine And.intro ?_ ?_ | omega | assumption)); done) | fail) rfl ?_) | (refine Ret.use (h5) (by first | ((repeat' (first | exact rfl | exact trivial | (with_reducible assumption) | refine And.intro ?_ ?_ | omega | assumption)); done) | fail) ?_) | (refine Ret.useQ (h5) (by first | ((repeat' (first | exact rfl | exact trivial | (with_reducible assumption) | refine And.intro ?_ ?_ | omega | assumption)); done) | fail) rfl ?_) | (refine CallA.goE3 false [] (drawCY_call code hn hb) rfl (by first | ((repeat' (first | exact rfl | exact trivial | (with_reducible assumption) | refine And.intro ?_ ?_ | omega | assumption)); done) | fail) (by first | ((repeat' (first | exact rfl | exact trivial | (with_reducible assumption) | refine And.intro ?_ ?_ | omega | assumption)); done) | fail) ?_; rintro ⟨⟨⟨f2, ls2, r2⟩, hp, ds⟩, fu, ex, it⟩ _ _ ⟨⟨hl2, hh2, hw2, hd2⟩, _⟩; (first | (conv => whnf) | skip); dsimp only at hl2 hh2 hw2 hd2)) | ((with_reducible show DrawA _ _ _ _ _ _); first | (refine draw_hard hT mixed (by decide +kernel) ?_))))
    all_goals first | rfl | omega | skip
    all_goals (clear h1 h2 h3 h4 h5 e1 e2 e3 e4 b1 b2 b3 b4 b5 b6 b7 b8 b9 b10)
    have m1 : ls2.length ≤ 1048576 := Nat.le_trans hl2 (by decide)
    have m2 : hp.length ≤ 1048576 := Nat.le_trans hh2 (by decide)
    have m3 : ds.length ≤ 1048576 := Nat.le_trans hd2 (by decide)
    have c1 := implCY_call f2 ls2 r2 hp ds fu ex it m1 m2 m3
    have c2 := specCY_call f2 ls2 r2 hp ds fu ex it m1 m2 m3
    have hlen := (cyL_row (f := f2) (ls := ls2) (r := r2) (hs := hp) (ds := ds) (fu := fu) (ex := ex) (it := it)).2
    by_cases hq : cyQ f2 ls2 r2 hp ds fu ex it
    · have hy := yr_of hq
      have hyb := yr_bd hy
      have hlo := later_ok (cy_parts hq).1 (cy_parts hq).2.1 (cy_parts hq).2.2
      have hrr : okR r2 := okF_R (cy_parts hq).1
      rw [cyT, yT_yes hq, cyC_zero hq, cyL, yL, whL_yes hq] at c1 c2
      rw [cyL, yL, whL_yes hq] at hlen
      generalize later f2 ls2 hp ds = L at c1 c2 hlo hlen hy hyb
      have hsp := implSurp_ret _ _ _ _ _ _ _ hy
      have hso := sources_call _ _ _ _ _ _ _ r2 hy hrr
      have hss := sumSrc_ret _ _ _ _ _ _ _ r2 hy hrr
      have hto := implTotal_ret f2 ls2 r2 L m1 (by omega) hlo
      have hlk := likeHoldings_ret L (by omega)
      generalize nets f2 ls2 r2 hp = v1 at c1 c2 hyb hsp hso hss
      generalize loads f2 ls2 r2 hp = v2 at c1 c2 hyb hsp hso hss
      generalize clm f2 ls2 hp ds = v3 at c1 c2 hyb hsp hso hss
      generalize tot f2 ls2 r2 L = v4 at c1 c2 hyb hsp hso hss hto
      repeat' ((first | (conv => whnf) | skip); (first | ((with_reducible intro h); first | contradiction | omega | (conv => whnf) | skip) | (with_reducible refine And.intro ?_ ?_) | ((with_reducible show arithK _ _ _); refine arith_ok ⟨by omega, by omega⟩ ?_) | ((with_reducible show quoK _ _ _ _); refine quo_ok ⟨by omega, by omega⟩ (by omega) (by omega) ?_) | ((with_reducible show remK _ _ _ _); refine rem_ok (by omega) (by omega) ?_) | ((first | (with_reducible show CallA _ _ _ _ _ _) | (with_reducible show CallQ _ _ _ _ _ _)); first | (refine CallA.go [] (c1) rfl (by first | ((repeat' (first | exact rfl | exact trivial | (with_reducible assumption) | refine And.intro ?_ ?_ | omega | assumption)); done) | fail) trivial ?_) | (refine CallA.go [] (c2) rfl (by first | ((repeat' (first | exact rfl | exact trivial | (with_reducible assumption) | refine And.intro ?_ ?_ | omega | assumption)); done) | fail) trivial ?_) | (refine Ret.use (hlk) (by first | ((repeat' (first | exact rfl | exact trivial | (with_reducible assumption) | refine And.intro ?_ ?_ | omega | assumption)); done) | fail) ?_) | (refine Ret.useQ (hlk) (by first | ((repeat' (first | exact rfl | exact trivial | (with_reducible assumption) | refine And.intro ?_ ?_ | omega | assumption)); done) | fail) rfl ?_) | (refine Ret.use (hsp) (by first | ((repeat' (first | exact rfl | exact trivial | (with_reducible assumption) | refine And.intro ?_ ?_ | omega | assumption)); done) | fail) ?_) | (refine Ret.useQ (hsp) (by first | ((repeat' (first | exact rfl | exact trivial | (with_reducible assumption) | refine And.intro ?_ ?_ | omega | assumption)); done) | fail) rfl ?_) | (refine CallA.go [] (hso) rfl (by first | ((repeat' (first | exact rfl | exact trivial | (with_reducible assumption) | refine And.intro ?_ ?_ | omega | assumption)); done) | fail) trivial ?_) | (refine Ret.use (hss) (by first | ((repeat' (first | exact rfl | exact trivial | (with_reducible assumption) | refine And.intro ?_ ?_ | omega | assumption)); done) | fail) ?_) | (refine Ret.useQ (hss) (by first | ((repeat' (first | exact rfl | exact trivial | (with_reducible assumption) | refine And.intro ?_ ?_ | omega | assumption)); done) | fail) rfl ?_) | (refine Ret.use (hto) (by first | ((repeat' (first | exact rfl | exact trivial | (with_reducible assumption) | refine And.intro ?_ ?_ | omega | assumption)); done) | fail) ?_) | (refine Ret.useQ (hto) (by first | ((repeat' (first | exact rfl | exact trivial | (with_reducible assumption) | refine And.intro ?_ ?_ | omega | assumption)); done) | fail) rfl ?_) | (refine CallA.goE3 false [] (drawPI_call code hn hb) rfl (by first | ((repeat' (first | exact rfl | exact trivial | (with_reducible assumption) | refine And.intro ?_ ?_ | omega | assumption)); done) | fail) (by first | ((repeat' (first | exact rfl | exact trivial | (with_reducible assumption) | refine And.intro ?_ ?_ | omega | assumption)); done) | fail) ?_; rintro ⟨⟨⟨S, E⟩, C⟩, inc⟩ _ _ ⟨⟨hS, hE⟩, _⟩; (first | (conv => whnf) | skip); dsimp only at hS hE)) | ((with_reducible show DrawA _ _ _ _ _ _); first | (refine draw_hard hT mixed (by decide +kernel) ?_))))
      all_goals first | rfl | omega | contradiction | skip
      rcases pi_cases (S := S) (E := E) (C := C) (y := inc) hS with ⟨e3, he3, hpi⟩ | ⟨P, K, hpi, hPl, hPs, hsum, hC, hI, hK⟩
      · have p1 := implPI_call S E C inc (by omega) (by omega)
        have p2 := specPI_call S E C inc (by omega) (by omega)
        rw [piT, hpi] at p1 p2
        dsimp only at p1 p2
        have q1 : (((S, E), C), inc).1.2 = C := rfl
        have q2 : (((S, E), C), inc).2 = inc := rfl
        repeat' ((first | (conv => whnf) | skip); (first | ((with_reducible intro h); first | contradiction | omega | (conv => whnf) | skip) | (with_reducible refine And.intro ?_ ?_) | ((with_reducible show arithK _ _ _); refine arith_ok ⟨by omega, by omega⟩ ?_) | ((with_reducible show quoK _ _ _ _); refine quo_ok ⟨by omega, by omega⟩ (by omega) (by omega) ?_) | ((with_reducible show remK _ _ _ _); refine rem_ok (by omega) (by omega) ?_) | ((first | (with_reducible show CallA _ _ _ _ _ _) | (with_reducible show CallQ _ _ _ _ _ _)); first | (refine CallA.go [] (p1) rfl (by first | ((repeat' (first | exact rfl | exact trivial | (with_reducible assumption) | refine And.intro ?_ ?_ | omega | assumption)); done) | fail) trivial ?_) | (refine CallA.go [] (p2) rfl (by first | ((repeat' (first | exact rfl | exact trivial | (with_reducible assumption) | refine And.intro ?_ ?_ | omega | assumption)); done) | fail) trivial ?_) | (refine Ret.use (likeClasses_ret [] [] 0 (by decide) (by decide)) (by first | ((repeat' (first | exact rfl | exact trivial | (with_reducible assumption) | refine And.intro ?_ ?_ | omega | assumption)); done) | fail) ?_) | (refine Ret.useQ (likeClasses_ret [] [] 0 (by decide) (by decide)) (by first | ((repeat' (first | exact rfl | exact trivial | (with_reducible assumption) | refine And.intro ?_ ?_ | omega | assumption)); done) | fail) rfl ?_) | (refine Ret.useP (likeInts_ret [] [] (by decide)) (by first | ((repeat' (first | exact rfl | exact trivial | (with_reducible assumption) | refine And.intro ?_ ?_ | omega | assumption)); done) | fail) ?_) | (refine Ret.useQP (likeInts_ret [] [] (by decide)) (by first | ((repeat' (first | exact rfl | exact trivial | (with_reducible assumption) | refine And.intro ?_ ?_ | omega | assumption)); done) | fail) ?_)) | ((with_reducible show DrawA _ _ _ _ _ _); first | (refine draw_hard hT mixed (by decide +kernel) ?_))))
        all_goals first | rfl | omega | contradiction | trace_state
      · have p1 := implPI_call S E C inc (by omega) (by omega)
        have p2 := specPI_call S E C inc (by omega) (by omega)
        rw [piT, hpi] at p1 p2
        dsimp only at p1 p2
        have q1 : (((S, E), C), inc).1.2 = C := rfl
        have q2 : (((S, E), C), inc).2 = inc := rfl
        have hsr := sum_ret P (by omega) hPs
        have hsb := hPs P.length (Nat.le_refl _)
        rw [take_all (Nat.le_refl _)] at hsb
        have hlc := likeClasses_ret S E K (by omega) (by omega)
        have hli := likeInts_ret P P (by omega)
        repeat' ((first | (conv => whnf) | skip); (first | ((with_reducible intro h); first | contradiction | omega | (conv => whnf) | skip) | (with_reducible refine And.intro ?_ ?_) | ((with_reducible show arithK _ _ _); refine arith_ok ⟨by omega, by omega⟩ ?_) | ((with_reducible show quoK _ _ _ _); refine quo_ok ⟨by omega, by omega⟩ (by omega) (by omega) ?_) | ((with_reducible show remK _ _ _ _); refine rem_ok (by omega) (by omega) ?_) | ((first | (with_reducible show CallA _ _ _ _ _ _) | (with_reducible show CallQ _ _ _ _ _ _)); first | (refine CallA.go [] (p1) rfl (by first | ((repeat' (first | exact rfl | exact trivial | (with_reducible assumption) | refine And.intro ?_ ?_ | omega | assumption)); done) | fail) trivial ?_) | (refine CallA.go [] (p2) rfl (by first | ((repeat' (first | exact rfl | exact trivial | (with_reducible assumption) | refine And.intro ?_ ?_ | omega | assumption)); done) | fail) trivial ?_) | (refine Ret.use (hlc) (by first | ((repeat' (first | exact rfl | exact trivial | (with_reducible assumption) | refine And.intro ?_ ?_ | omega | assumption)); done) | fail) ?_) | (refine Ret.useQ (hlc) (by first | ((repeat' (first | exact rfl | exact trivial | (with_reducible assumption) | refine And.intro ?_ ?_ | omega | assumption)); done) | fail) rfl ?_) | (refine Ret.useP (hli) (by first | ((repeat' (first | exact rfl | exact trivial | (with_reducible assumption) | refine And.intro ?_ ?_ | omega | assumption)); done) | fail) ?_) | (refine Ret.useQP (hli) (by first | ((repeat' (first | exact rfl | exact trivial | (with_reducible assumption) | refine And.intro ?_ ?_ | omega | assumption)); done) | fail) ?_) | (refine Ret.use (hsr) (by first | ((repeat' (first | exact rfl | exact trivial | (with_reducible assumption) | refine And.intro ?_ ?_ | omega | assumption)); done) | fail) ?_) | (refine Ret.useQ (hsr) (by first | ((repeat' (first | exact rfl | exact trivial | (with_reducible assumption) | refine And.intro ?_ ?_ | omega | assumption)); done) | fail) rfl ?_)) | ((with_reducible show DrawA _ _ _ _ _ _); first | (refine draw_hard hT mixed (by decide +kernel) ?_))))
        all_goals first | rfl | omega | contradiction | trace_state
    · have hcn := cyC_ne hq
      rw [cyT, yT_no hq, cyL, yL, whL_no hq] at c1 c2
      have hlk := likeHoldings_ret [] (by decide)
      repeat' ((first | (conv => whnf) | skip); (first | ((with_reducible intro h); first | contradiction | omega | (conv => whnf) | skip) | (with_reducible refine And.intro ?_ ?_) | ((with_reducible show arithK _ _ _); refine arith_ok ⟨by omega, by omega⟩ ?_) | ((with_reducible show quoK _ _ _ _); refine quo_ok ⟨by omega, by omega⟩ (by omega) (by omega) ?_) | ((with_reducible show remK _ _ _ _); refine rem_ok (by omega) (by omega) ?_) | ((first | (with_reducible show CallA _ _ _ _ _ _) | (with_reducible show CallQ _ _ _ _ _ _)); first | (refine CallA.go [] (c1) rfl (by first | ((repeat' (first | exact rfl | exact trivial | (with_reducible assumption) | refine And.intro ?_ ?_ | omega | assumption)); done) | fail) trivial ?_) | (refine CallA.go [] (c2) rfl (by first | ((repeat' (first | exact rfl | exact trivial | (with_reducible assumption) | refine And.intro ?_ ?_ | omega | assumption)); done) | fail) trivial ?_) | (refine Ret.use (hlk) (by first | ((repeat' (first | exact rfl | exact trivial | (with_reducible assumption) | refine And.intro ?_ ?_ | omega | assumption)); done) | fail) ?_) | (refine Ret.useQ (hlk) (by first | ((repeat' (first | exact rfl | exact trivial | (with_reducible assumption) | refine And.intro ?_ ?_ | omega | assumption)); done) | fail) rfl ?_) | (refine CallA.goE3 false [] (drawPI_call code hn hb) rfl (by first | ((repeat' (first | exact rfl | exact trivial | (with_reducible assumption) | refine And.intro ?_ ?_ | omega | assumption)); done) | fail) (by first | ((repeat' (first | exact rfl | exact trivial | (with_reducible assumption) | refine And.intro ?_ ?_ | omega | assumption)); done) | fail) ?_; rintro ⟨⟨⟨S, E⟩, C⟩, inc⟩ _ _ ⟨⟨hS, hE⟩, _⟩; (first | (conv => whnf) | skip); dsimp only at hS hE)) | ((with_reducible show DrawA _ _ _ _ _ _); first | (refine draw_hard hT mixed (by decide +kernel) ?_))))
      all_goals first | rfl | omega | contradiction | skip
      rcases pi_cases (S := S) (E := E) (C := C) (y := inc) hS with ⟨e3, he3, hpi⟩ | ⟨P, K, hpi, hPl, hPs, hsum, hC, hI, hK⟩
      · have p1 := implPI_call S E C inc (by omega) (by omega)
        have p2 := specPI_call S E C inc (by omega) (by omega)
        rw [piT, hpi] at p1 p2
        dsimp only at p1 p2
        have q1 : (((S, E), C), inc).1.2 = C := rfl
        have q2 : (((S, E), C), inc).2 = inc := rfl
        repeat' ((first | (conv => whnf) | skip); (first | ((with_reducible intro h); first | contradiction | omega | (conv => whnf) | skip) | (with_reducible refine And.intro ?_ ?_) | ((with_reducible show arithK _ _ _); refine arith_ok ⟨by omega, by omega⟩ ?_) | ((with_reducible show quoK _ _ _ _); refine quo_ok ⟨by omega, by omega⟩ (by omega) (by omega) ?_) | ((with_reducible show remK _ _ _ _); refine rem_ok (by omega) (by omega) ?_) | ((first | (with_reducible show CallA _ _ _ _ _ _) | (with_reducible show CallQ _ _ _ _ _ _)); first | (refine CallA.go [] (p1) rfl (by first | ((repeat' (first | exact rfl | exact trivial | (with_reducible assumption) | refine And.intro ?_ ?_ | omega | assumption)); done) | fail) trivial ?_) | (refine CallA.go [] (p2) rfl (by first | ((repeat' (first | exact rfl | exact trivial | (with_reducible assumption) | refine And.intro ?_ ?_ | omega | assumption)); done) | fail) trivial ?_) | (refine Ret.use (likeClasses_ret [] [] 0 (by decide) (by decide)) (by first | ((repeat' (first | exact rfl | exact trivial | (with_reducible assumption) | refine And.intro ?_ ?_ | omega | assumption)); done) | fail) ?_) | (refine Ret.useQ (likeClasses_ret [] [] 0 (by decide) (by decide)) (by first | ((repeat' (first | exact rfl | exact trivial | (with_reducible assumption) | refine And.intro ?_ ?_ | omega | assumption)); done) | fail) rfl ?_) | (refine Ret.useP (likeInts_ret [] [] (by decide)) (by first | ((repeat' (first | exact rfl | exact trivial | (with_reducible assumption) | refine And.intro ?_ ?_ | omega | assumption)); done) | fail) ?_) | (refine Ret.useQP (likeInts_ret [] [] (by decide)) (by first | ((repeat' (first | exact rfl | exact trivial | (with_reducible assumption) | refine And.intro ?_ ?_ | omega | assumption)); done) | fail) ?_)) | ((with_reducible show DrawA _ _ _ _ _ _); first | (refine draw_hard hT mixed (by decide +kernel) ?_))))
        all_goals first | rfl | omega | contradiction | trace_state
      · have p1 := implPI_call S E C inc (by omega) (by omega)
        have p2 := specPI_call S E C inc (by omega) (by omega)
        rw [piT, hpi] at p1 p2
        dsimp only at p1 p2
        have q1 : (((S, E), C), inc).1.2 = C := rfl
        have q2 : (((S, E), C), inc).2 = inc := rfl
        have hsr := sum_ret P (by omega) hPs
        have hsb := hPs P.length (Nat.le_refl _)
        rw [take_all (Nat.le_refl _)] at hsb
        have hlc := likeClasses_ret S E K (by omega) (by omega)
        have hli := likeInts_ret P P (by omega)
        repeat' ((first | (conv => whnf) | skip); (first | ((with_reducible intro h); first | contradiction | omega | (conv => whnf) | skip) | (with_reducible refine And.intro ?_ ?_) | ((with_reducible show arithK _ _ _); refine arith_ok ⟨by omega, by omega⟩ ?_) | ((with_reducible show quoK _ _ _ _); refine quo_ok ⟨by omega, by omega⟩ (by omega) (by omega) ?_) | ((with_reducible show remK _ _ _ _); refine rem_ok (by omega) (by omega) ?_) | ((first | (with_reducible show CallA _ _ _ _ _ _) | (with_reducible show CallQ _ _ _ _ _ _)); first | (refine CallA.go [] (p1) rfl (by first | ((repeat' (first | exact rfl | exact trivial | (with_reducible assumption) | refine And.intro ?_ ?_ | omega | assumption)); done) | fail) trivial ?_) | (refine CallA.go [] (p2) rfl (by first | ((repeat' (first | exact rfl | exact trivial | (with_reducible assumption) | refine And.intro ?_ ?_ | omega | assumption)); done) | fail) trivial ?_) | (refine Ret.use (hlc) (by first | ((repeat' (first | exact rfl | exact trivial | (with_reducible assumption) | refine And.intro ?_ ?_ | omega | assumption)); done) | fail) ?_) | (refine Ret.useQ (hlc) (by first | ((repeat' (first | exact rfl | exact trivial | (with_reducible assumption) | refine And.intro ?_ ?_ | omega | assumption)); done) | fail) rfl ?_) | (refine Ret.useP (hli) (by first | ((repeat' (first | exact rfl | exact trivial | (with_reducible assumption) | refine And.intro ?_ ?_ | omega | assumption)); done) | fail) ?_) | (refine Ret.useQP (hli) (by first | ((repeat' (first | exact rfl | exact trivial | (with_reducible assumption) | refine And.intro ?_ ?_ | omega | assumption)); done) | fail) ?_) | (refine Ret.use (hsr) (by first | ((repeat' (first | exact rfl | exact trivial | (with_reducible assumption) | refine And.intro ?_ ?_ | omega | assumption)); done) | fail) ?_) | (refine Ret.useQ (hsr) (by first | ((repeat' (first | exact rfl | exact trivial | (with_reducible assumption) | refine And.intro ?_ ?_ | omega | assumption)); done) | fail) rfl ?_)) | ((with_reducible show DrawA _ _ _ _ _ _); first | (refine draw_hard hT mixed (by decide +kernel) ?_))))
        all_goals first | rfl | omega | contradiction | trace_state
  · rw [e1] at h1 h2
    rw [e4] at h3
    rw [e2] at h4
    rw [e3] at h5
    dsimp only at h1 h2 h3 h4 h5
    repeat' ((first | (conv => whnf) | skip); (first | ((with_reducible intro h); first | contradiction | omega | (conv => whnf) | skip) | (with_reducible refine And.intro ?_ ?_) | ((with_reducible show arithK _ _ _); refine arith_ok ⟨by omega, by omega⟩ ?_) | ((with_reducible show quoK _ _ _ _); refine quo_ok ⟨by omega, by omega⟩ (by omega) (by omega) ?_) | ((with_reducible show remK _ _ _ _); refine rem_ok (by omega) (by omega) ?_) | ((first | (with_reducible show CallA _ _ _ _ _ _) | (with_reducible show CallQ _ _ _ _ _ _)); first | (refine Ret.use (h1) (by first | ((repeat' (first | exact rfl | exact trivial | (with_reducible assumption) | refine And.intro ?_ ?_ | omega | assumption)); done) | fail) ?_) | (refine Ret.useQ (h1) (by first | ((repeat' (first | exact rfl | exact trivial | (with_reducible assumption) | refine And.intro ?_ ?_ | omega | assumption)); done) | fail) rfl ?_) | (refine Ret.use (h2) (by first | ((repeat' (first | exact rfl | exact trivial | (with_reducible assumption) | refine And.intro ?_ ?_ | omega | assumption)); done) | fail) ?_) | (refine Ret.useQ (h2) (by first | ((repeat' (first | exact rfl | exact trivial | (with_reducible assumption) | refine And.intro ?_ ?_ | omega | assumption)); done) | fail) rfl ?_) | (refine Ret.use (h3) (by first | ((repeat' (first | exact rfl | exact trivial | (with_reducible assumption) | refine And.intro ?_ ?_ | omega | assumption)); done) | fail) ?_) | (refine Ret.useQ (h3) (by first | ((repeat' (first | exact rfl | exact trivial | (with_reducible assumption) | refine And.intro ?_ ?_ | omega | assumption)); done) | fail) rfl ?_) | (refine Ret.use (h4) (by first | ((repeat' (first | exact rfl | exact trivial | (with_reducible assumption) | refine And.intro ?_ ?_ | omega | assumption)); done) | fail) ?_) | (refine Ret.useQ (h4) (by first | ((repeat' (first | exact rfl | exact trivial | (with_reducible assumption) | refine And.intro ?_ ?_ | omega | assumption)); done) | fail) rfl ?_) | (refine Ret.use (h5) (by first | ((repeat' (first | exact rfl | exact trivial | (with_reducible assumption) | refine And.intro ?_ ?_ | omega | assumption)); done) | fail) ?_) | (refine Ret.useQ (h5) (by first | ((repeat' (first | exact rfl | exact trivial | (with_reducible assumption) | refine And.intro ?_ ?_ | omega | assumption)); done) | fail) rfl ?_) | (refine CallA.goE3 false [] (drawCY_call code hn hb) rfl (by first | ((repeat' (first | exact rfl | exact trivial | (with_reducible assumption) | refine And.intro ?_ ?_ | omega | assumption)); done) | fail) (by first | ((repeat' (first | exact rfl | exact trivial | (with_reducible assumption) | refine And.intro ?_ ?_ | omega | assumption)); done) | fail) ?_; rintro ⟨⟨⟨f2, ls2, r2⟩, hp, ds⟩, fu, ex, it⟩ _ _ ⟨⟨hl2, hh2, hw2, hd2⟩, _⟩; (first | (conv => whnf) | skip); dsimp only at hl2 hh2 hw2 hd2)) | ((with_reducible show DrawA _ _ _ _ _ _); first | (refine draw_hard hT mixed (by decide +kernel) ?_))))
    all_goals first | rfl | omega | skip
    all_goals (clear h1 h2 h3 h4 h5 e1 e2 e3 e4)
    have m1 : ls2.length ≤ 1048576 := Nat.le_trans hl2 (by decide)
    have m2 : hp.length ≤ 1048576 := Nat.le_trans hh2 (by decide)
    have m3 : ds.length ≤ 1048576 := Nat.le_trans hd2 (by decide)
    have c1 := implCY_call f2 ls2 r2 hp ds fu ex it m1 m2 m3
    have c2 := specCY_call f2 ls2 r2 hp ds fu ex it m1 m2 m3
    have hlen := (cyL_row (f := f2) (ls := ls2) (r := r2) (hs := hp) (ds := ds) (fu := fu) (ex := ex) (it := it)).2
    by_cases hq : cyQ f2 ls2 r2 hp ds fu ex it
    · have hy := yr_of hq
      have hyb := yr_bd hy
      have hlo := later_ok (cy_parts hq).1 (cy_parts hq).2.1 (cy_parts hq).2.2
      have hrr : okR r2 := okF_R (cy_parts hq).1
      rw [cyT, yT_yes hq, cyC_zero hq, cyL, yL, whL_yes hq] at c1 c2
      rw [cyL, yL, whL_yes hq] at hlen
      generalize later f2 ls2 hp ds = L at c1 c2 hlo hlen hy hyb
      have hsp := implSurp_ret _ _ _ _ _ _ _ hy
      have hso := sources_call _ _ _ _ _ _ _ r2 hy hrr
      have hss := sumSrc_ret _ _ _ _ _ _ _ r2 hy hrr
      have hto := implTotal_ret f2 ls2 r2 L m1 (by omega) hlo
      have hlk := likeHoldings_ret L (by omega)
      generalize nets f2 ls2 r2 hp = v1 at c1 c2 hyb hsp hso hss
      generalize loads f2 ls2 r2 hp = v2 at c1 c2 hyb hsp hso hss
      generalize clm f2 ls2 hp ds = v3 at c1 c2 hyb hsp hso hss
      generalize tot f2 ls2 r2 L = v4 at c1 c2 hyb hsp hso hss hto
      repeat' ((first | (conv => whnf) | skip); (first | ((with_reducible intro h); first | contradiction | omega | (conv => whnf) | skip) | (with_reducible refine And.intro ?_ ?_) | ((with_reducible show arithK _ _ _); refine arith_ok ⟨by omega, by omega⟩ ?_) | ((with_reducible show quoK _ _ _ _); refine quo_ok ⟨by omega, by omega⟩ (by omega) (by omega) ?_) | ((with_reducible show remK _ _ _ _); refine rem_ok (by omega) (by omega) ?_) | ((first | (with_reducible show CallA _ _ _ _ _ _) | (with_reducible show CallQ _ _ _ _ _ _)); first | (refine CallA.go [] (c1) rfl (by first | ((repeat' (first | exact rfl | exact trivial | (with_reducible assumption) | refine And.intro ?_ ?_ | omega | assumption)); done) | fail) trivial ?_) | (refine CallA.go [] (c2) rfl (by first | ((repeat' (first | exact rfl | exact trivial | (with_reducible assumption) | refine And.intro ?_ ?_ | omega | assumption)); done) | fail) trivial ?_) | (refine Ret.use (hlk) (by first | ((repeat' (first | exact rfl | exact trivial | (with_reducible assumption) | refine And.intro ?_ ?_ | omega | assumption)); done) | fail) ?_) | (refine Ret.useQ (hlk) (by first | ((repeat' (first | exact rfl | exact trivial | (with_reducible assumption) | refine And.intro ?_ ?_ | omega | assumption)); done) | fail) rfl ?_) | (refine Ret.use (hsp) (by first | ((repeat' (first | exact rfl | exact trivial | (with_reducible assumption) | refine And.intro ?_ ?_ | omega | assumption)); done) | fail) ?_) | (refine Ret.useQ (hsp) (by first | ((repeat' (first | exact rfl | exact trivial | (with_reducible assumption) | refine And.intro ?_ ?_ | omega | assumption)); done) | fail) rfl ?_) | (refine CallA.go [] (hso) rfl (by first | ((repeat' (first | exact rfl | exact trivial | (with_reducible assumption) | refine And.intro ?_ ?_ | omega | assumption)); done) | fail) trivial ?_) | (refine Ret.use (hss) (by first | ((repeat' (first | exact rfl | exact trivial | (with_reducible assumption) | refine And.intro ?_ ?_ | omega | assumption)); done) | fail) ?_) | (refine Ret.useQ (hss) (by first | ((repeat' (first | exact rfl | exact trivial | (with_reducible assumption) | refine And.intro ?_ ?_ | omega | assumption)); done) | fail) rfl ?_) | (refine Ret.use (hto) (by first | ((repeat' (first | exact rfl | exact trivial | (with_reducible assumption) | refine And.intro ?_ ?_ | omega | assumption)); done) | fail) ?_) | (refine Ret.useQ (hto) (by first | ((repeat' (first | exact rfl | exact trivial | (with_reducible assumption) | refine And.intro ?_ ?_ | omega | assumption)); done) | fail) rfl ?_) | (refine CallA.goE3 false [] (drawPI_call code hn hb) rfl (by first | ((repeat' (first | exact rfl | exact trivial | (with_reducible assumption) | refine And.intro ?_ ?_ | omega | assumption)); done) | fail) (by first | ((repeat' (first | exact rfl | exact trivial | (with_reducible assumption) | refine And.intro ?_ ?_ | omega | assumption)); done) | fail) ?_; rintro ⟨⟨⟨S, E⟩, C⟩, inc⟩ _ _ ⟨⟨hS, hE⟩, _⟩; (first | (conv => whnf) | skip); dsimp only at hS hE)) | ((with_reducible show DrawA _ _ _ _ _ _); first | (refine draw_hard hT mixed (by decide +kernel) ?_))))
      all_goals first | rfl | omega | contradiction | skip
      rcases pi_cases (S := S) (E := E) (C := C) (y := inc) hS with ⟨e3, he3, hpi⟩ | ⟨P, K, hpi, hPl, hPs, hsum, hC, hI, hK⟩
      · have p1 := implPI_call S E C inc (by omega) (by omega)
        have p2 := specPI_call S E C inc (by omega) (by omega)
        rw [piT, hpi] at p1 p2
        dsimp only at p1 p2
        have q1 : (((S, E), C), inc).1.2 = C := rfl
        have q2 : (((S, E), C), inc).2 = inc := rfl
        repeat' ((first | (conv => whnf) | skip); (first | ((with_reducible intro h); first | contradiction | omega | (conv => whnf) | skip) | (with_reducible refine And.intro ?_ ?_) | ((with_reducible show arithK _ _ _); refine arith_ok ⟨by omega, by omega⟩ ?_) | ((with_reducible show quoK _ _ _ _); refine quo_ok ⟨by omega, by omega⟩ (by omega) (by omega) ?_) | ((with_reducible show remK _ _ _ _); refine rem_ok (by omega) (by omega) ?_) | ((first | (with_reducible show CallA _ _ _ _ _ _) | (with_reducible show CallQ _ _ _ _ _ _)); first | (refine CallA.go [] (p1) rfl (by first | ((repeat' (first | exact rfl | exact trivial | (with_reducible assumption) | refine And.intro ?_ ?_ | omega | assumption)); done) | fail) trivial ?_) | (refine CallA.go [] (p2) rfl (by first | ((repeat' (first | exact rfl | exact trivial | (with_reducible assumption) | refine And.intro ?_ ?_ | omega | assumption)); done) | fail) trivial ?_) | (refine Ret.use (likeClasses_ret [] [] 0 (by decide) (by decide)) (by first | ((repeat' (first | exact rfl | exact trivial | (with_reducible assumption) | refine And.intro ?_ ?_ | omega | assumption)); done) | fail) ?_) | (refine Ret.useQ (likeClasses_ret [] [] 0 (by decide) (by decide)) (by first | ((repeat' (first | exact rfl | exact trivial | (with_reducible assumption) | refine And.intro ?_ ?_ | omega | assumption)); done) | fail) rfl ?_) | (refine Ret.useP (likeInts_ret [] [] (by decide)) (by first | ((repeat' (first | exact rfl | exact trivial | (with_reducible assumption) | refine And.intro ?_ ?_ | omega | assumption)); done) | fail) ?_) | (refine Ret.useQP (likeInts_ret [] [] (by decide)) (by first | ((repeat' (first | exact rfl | exact trivial | (with_reducible assumption) | refine And.intro ?_ ?_ | omega | assumption)); done) | fail) ?_)) | ((with_reducible show DrawA _ _ _ _ _ _); first | (refine draw_hard hT mixed (by decide +kernel) ?_))))
        all_goals first | rfl | omega | contradiction | trace_state
      · have p1 := implPI_call S E C inc (by omega) (by omega)
        have p2 := specPI_call S E C inc (by omega) (by omega)
        rw [piT, hpi] at p1 p2
        dsimp only at p1 p2
        have q1 : (((S, E), C), inc).1.2 = C := rfl
        have q2 : (((S, E), C), inc).2 = inc := rfl
        have hsr := sum_ret P (by omega) hPs
        have hsb := hPs P.length (Nat.le_refl _)
        rw [take_all (Nat.le_refl _)] at hsb
        have hlc := likeClasses_ret S E K (by omega) (by omega)
        have hli := likeInts_ret P P (by omega)
        repeat' ((first | (conv => whnf) | skip); (first | ((with_reducible intro h); first | contradiction | omega | (conv => whnf) | skip) | (with_reducible refine And.intro ?_ ?_) | ((with_reducible show arithK _ _ _); refine arith_ok ⟨by omega, by omega⟩ ?_) | ((with_reducible show quoK _ _ _ _); refine quo_ok ⟨by omega, by omega⟩ (by omega) (by omega) ?_) | ((with_reducible show remK _ _ _ _); refine rem_ok (by omega) (by omega) ?_) | ((first | (with_reducible show CallA _ _ _ _ _ _) | (with_reducible show CallQ _ _ _ _ _ _)); first | (refine CallA.go [] (p1) rfl (by first | ((repeat' (first | exact rfl | exact trivial | (with_reducible assumption) | refine And.intro ?_ ?_ | omega | assumption)); done) | fail) trivial ?_) | (refine CallA.go [] (p2) rfl (by first | ((repeat' (first | exact rfl | exact trivial | (with_reducible assumption) | refine And.intro ?_ ?_ | omega | assumption)); done) | fail) trivial ?_) | (refine Ret.use (hlc) (by first | ((repeat' (first | exact rfl | exact trivial | (with_reducible assumption) | refine And.intro ?_ ?_ | omega | assumption)); done) | fail) ?_) | (refine Ret.useQ (hlc) (by first | ((repeat' (first | exact rfl | exact trivial | (with_reducible assumption) | refine And.intro ?_ ?_ | omega | assumption)); done) | fail) rfl ?_) | (refine Ret.useP (hli) (by first | ((repeat' (first | exact rfl | exact trivial | (with_reducible assumption) | refine And.intro ?_ ?_ | omega | assumption)); done) | fail) ?_) | (refine Ret.useQP (hli) (by first | ((repeat' (first | exact rfl | exact trivial | (with_reducible assumption) | refine And.intro ?_ ?_ | omega | assumption)); done) | fail) ?_) | (refine Ret.use (hsr) (by first | ((repeat' (first | exact rfl | exact trivial | (with_reducible assumption) | refine And.intro ?_ ?_ | omega | assumption)); done) | fail) ?_) | (refine Ret.useQ (hsr) (by first | ((repeat' (first | exact rfl | exact trivial | (with_reducible assumption) | refine And.intro ?_ ?_ | omega | assumption)); done) | fail) rfl ?_)) | ((with_reducible show DrawA _ _ _ _ _ _); first | (refine draw_hard hT mixed (by decide +kernel) ?_))))
        all_goals first | rfl | omega | contradiction | trace_state
    · have hcn := cyC_ne hq
      rw [cyT, yT_no hq, cyL, yL, whL_no hq] at c1 c2
      have hlk := likeHoldings_ret [] (by decide)
      repeat' ((first | (conv => whnf) | skip); (first | ((with_reducible intro h); first | contradiction | omega | (conv => whnf) | skip) | (with_reducible refine And.intro ?_ ?_) | ((with_reducible show arithK _ _ _); refine arith_ok ⟨by omega, by omega⟩ ?_) | ((with_reducible show quoK _ _ _ _); refine quo_ok ⟨by omega, by omega⟩ (by omega) (by omega) ?_) | ((with_reducible show remK _ _ _ _); refine rem_ok (by omega) (by omega) ?_) | ((first | (with_reducible show CallA _ _ _ _ _ _) | (with_reducible show CallQ _ _ _ _ _ _)); first | (refine CallA.go [] (c1) rfl (by first | ((repeat' (first | exact rfl | exact trivial | (with_reducible assumption) | refine And.intro ?_ ?_ | omega | assumption)); done) | fail) trivial ?_) | (refine CallA.go [] (c2) rfl (by first | ((repeat' (first | exact rfl | exact trivial | (with_reducible assumption) | refine And.intro ?_ ?_ | omega | assumption)); done) | fail) trivial ?_) | (refine Ret.use (hlk) (by first | ((repeat' (first | exact rfl | exact trivial | (with_reducible assumption) | refine And.intro ?_ ?_ | omega | assumption)); done) | fail) ?_) | (refine Ret.useQ (hlk) (by first | ((repeat' (first | exact rfl | exact trivial | (with_reducible assumption) | refine And.intro ?_ ?_ | omega | assumption)); done) | fail) rfl ?_) | (refine CallA.goE3 false [] (drawPI_call code hn hb) rfl (by first | ((repeat' (first | exact rfl | exact trivial | (with_reducible assumption) | refine And.intro ?_ ?_ | omega | assumption)); done) | fail) (by first | ((repeat' (first | exact rfl | exact trivial | (with_reducible assumption) | refine And.intro ?_ ?_ | omega | assumption)); done) | fail) ?_; rintro ⟨⟨⟨S, E⟩, C⟩, inc⟩ _ _ ⟨⟨hS, hE⟩, _⟩; (first | (conv => whnf) | skip); dsimp only at hS hE)) | ((with_reducible show DrawA _ _ _ _ _ _); first | (refine draw_hard hT mixed (by decide +kernel) ?_))))
      all_goals first | rfl | omega | contradiction | skip
      rcases pi_cases (S := S) (E := E) (C := C) (y := inc) hS with ⟨e3, he3, hpi⟩ | ⟨P, K, hpi, hPl, hPs, hsum, hC, hI, hK⟩
      · have p1 := implPI_call S E C inc (by omega) (by omega)
        have p2 := specPI_call S E C inc (by omega) (by omega)
        rw [piT, hpi] at p1 p2
        dsimp only at p1 p2
        have q1 : (((S, E), C), inc).1.2 = C := rfl
        have q2 : (((S, E), C), inc).2 = inc := rfl
        repeat' ((first | (conv => whnf) | skip); (first | ((with_reducible intro h); first | contradiction | omega | (conv => whnf) | skip) | (with_reducible refine And.intro ?_ ?_) | ((with_reducible show arithK _ _ _); refine arith_ok ⟨by omega, by omega⟩ ?_) | ((with_reducible show quoK _ _ _ _); refine quo_ok ⟨by omega, by omega⟩ (by omega) (by omega) ?_) | ((with_reducible show remK _ _ _ _); refine rem_ok (by omega) (by omega) ?_) | ((first | (with_reducible show CallA _ _ _ _ _ _) | (with_reducible show CallQ _ _ _ _ _ _)); first | (refine CallA.go [] (p1) rfl (by first | ((repeat' (first | exact rfl | exact trivial | (with_reducible assumption) | refine And.intro ?_ ?_ | omega | assumption)); done) | fail) trivial ?_) | (refine CallA.go [] (p2) rfl (by first | ((repeat' (first | exact rfl | exact trivial | (with_reducible assumption) | refine And.intro ?_ ?_ | omega | assumption)); done) | fail) trivial ?_) | (refine Ret.use (likeClasses_ret [] [] 0 (by decide) (by decide)) (by first | ((repeat' (first | exact rfl | exact trivial | (with_reducible assumption) | refine And.intro ?_ ?_ | omega | assumption)); done) | fail) ?_) | (refine Ret.useQ (likeClasses_ret [] [] 0 (by decide) (by decide)) (by first | ((repeat' (first | exact rfl | exact trivial | (with_reducible assumption) | refine And.intro ?_ ?_ | omega | assumption)); done) | fail) rfl ?_) | (refine Ret.useP (likeInts_ret [] [] (by decide)) (by first | ((repeat' (first | exact rfl | exact trivial | (with_reducible assumption) | refine And.intro ?_ ?_ | omega | assumption)); done) | fail) ?_) | (refine Ret.useQP (likeInts_ret [] [] (by decide)) (by first | ((repeat' (first | exact rfl | exact trivial | (with_reducible assumption) | refine And.intro ?_ ?_ | omega | assumption)); done) | fail) ?_)) | ((with_reducible show DrawA _ _ _ _ _ _); first | (refine draw_hard hT mixed (by decide +kernel) ?_))))
        all_goals first | rfl | omega | contradiction | trace_state
      · have p1 := implPI_call S E C inc (by omega) (by omega)
        have p2 := specPI_call S E C inc (by omega) (by omega)
        rw [piT, hpi] at p1 p2
        dsimp only at p1 p2
        have q1 : (((S, E), C), inc).1.2 = C := rfl
        have q2 : (((S, E), C), inc).2 = inc := rfl
        have hsr := sum_ret P (by omega) hPs
        have hsb := hPs P.length (Nat.le_refl _)
        rw [take_all (Nat.le_refl _)] at hsb
        have hlc := likeClasses_ret S E K (by omega) (by omega)
        have hli := likeInts_ret P P (by omega)
        repeat' ((first | (conv => whnf) | skip); (first | ((with_reducible intro h); first | contradiction | omega | (conv => whnf) | skip) | (with_reducible refine And.intro ?_ ?_) | ((with_reducible show arithK _ _ _); refine arith_ok ⟨by omega, by omega⟩ ?_) | ((with_reducible show quoK _ _ _ _); refine quo_ok ⟨by omega, by omega⟩ (by omega) (by omega) ?_) | ((with_reducible show remK _ _ _ _); refine rem_ok (by omega) (by omega) ?_) | ((first | (with_reducible show CallA _ _ _ _ _ _) | (with_reducible show CallQ _ _ _ _ _ _)); first | (refine CallA.go [] (p1) rfl (by first | ((repeat' (first | exact rfl | exact trivial | (with_reducible assumption) | refine And.intro ?_ ?_ | omega | assumption)); done) | fail) trivial ?_) | (refine CallA.go [] (p2) rfl (by first | ((repeat' (first | exact rfl | exact trivial | (with_reducible assumption) | refine And.intro ?_ ?_ | omega | assumption)); done) | fail) trivial ?_) | (refine Ret.use (hlc) (by first | ((repeat' (first | exact rfl | exact trivial | (with_reducible assumption) | refine And.intro ?_ ?_ | omega | assumption)); done) | fail) ?_) | (refine Ret.useQ (hlc) (by first | ((repeat' (first | exact rfl | exact trivial | (with_reducible assumption) | refine And.intro ?_ ?_ | omega | assumption)); done) | fail) rfl ?_) | (refine Ret.useP (hli) (by first | ((repeat' (first | exact rfl | exact trivial | (with_reducible assumption) | refine And.intro ?_ ?_ | omega | assumption)); done) | fail) ?_) | (refine Ret.useQP (hli) (by first | ((repeat' (first | exact rfl | exact trivial | (with_reducible assumption) | refine And.intro ?_ ?_ | omega | assumption)); done) | fail) ?_) | (refine Ret.use (hsr) (by first | ((repeat' (first | exact rfl | exact trivial | (with_reducible assumption) | refine And.intro ?_ ?_ | omega | assumption)); done) | fail) ?_) | (refine Ret.useQ (hsr) (by first | ((repeat' (first | exact rfl | exact trivial | (with_reducible assumption) | refine And.intro ?_ ?_ | omega | assumption)); done) | fail) rfl ?_)) | ((with_reducible show DrawA _ _ _ _ _ _); first | (refine draw_hard hT mixed (by decide +kernel) ?_))))
        all_goals first | rfl | omega | contradiction | trace_state
end Go.Proofs.YtenofbabiacacaaGreat
