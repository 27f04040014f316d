/-
  Reserves: what the functions return. No conditions but those in the statements.
-/
import Derived.Test.YtenofbabiacacaaGreatMi
set_option linter.unusedVariables false
set_option linter.unusedSimpArgs false
namespace Go.Proofs.YtenofbabiacacaaGreat
open Go.AE

attribute [local irreducible] CallA LoopA DrawA CallQ arithK quoK remK eqK
attribute [local irreducible] cols cN cM cD cC netP top base
/-! Forward reserves -/
def fwX (f : Int) (ls : List Int) (r k a y s q : Int) : Int := s * pTop f ls r k a y q - netP f ls r k a y s * pBase f ls r k a y q
def rnd (f : Int) (ls : List Int) (r k a y s q : Int) : Int := max 0 (fwX f ls r k a y s q / cD f ls r (a + q) + if fwX f ls r k a y s q % cD f ls r (a + q) = 0 then 0 else 1)
theorem fw_facts {f : Int} {ls : List Int} {r k a y s l q : Int} (h : hOk f ls r k a y s l q) :
    MD s (pTop f ls r k a y q) (cD f ls r (a + q)) ∧ MD (netP f ls r k a y s) (pBase f ls r k a y q) (cD f ls r (a + q)) ∧ MM s (pTop f ls r k a y q) (netP f ls r k a y s) (pBase f ls r k a y q) (cD f ls r (a + q)) ∧
    (-(879609302220803) ≤ fwX f ls r k a y s q / cD f ls r (a + q) ∧ fwX f ls r k a y s q / cD f ls r (a + q) ≤ s) ∧ 0 ≤ fwX f ls r k a y s q % cD f ls r (a + q) ∧ fwX f ls r k a y s q % cD f ls r (a + q) < cD f ls r (a + q) ∧ 1 ≤ cD f ls r (a + q) ∧ (1 ≤ s ∧ s ≤ 100000000) ∧ 0 ≤ netP f ls r k a y s ∧ netP f ls r k a y s ≤ s := by
  obtain ⟨ho, hq, hd⟩ := h
  have hdb := cD_bd ho.1.1 ho.1.2 (a + q)
  have hb := pt_bd ho (q := q) ⟨hq.1, by omega⟩
  have hm := net_MD ho
  have mm : MM s (pTop f ls r k a y q) (netP f ls r k a y s) (pBase f ls r k a y q) (cD f ls r (a + q)) := ⟨by omega, by omega, by omega, by omega, by omega, by omega, by omega⟩
  have hx := dif_bd (A := s) (b := pTop f ls r k a y q) (S := netP f ls r k a y s) (c := pBase f ls r k a y q) (d := cD f ls r (a + q)) (by omega) (by omega) (by omega) (by omega) (by omega)
  have hf := floor_spec (x := fwX f ls r k a y s q) (d := cD f ls r (a + q)) (by omega)
  have hqb := quot_bd (by omega) hf.1 ⟨by omega, by omega⟩ hx
  refine ⟨⟨by omega, by omega, by omega, by omega⟩, ⟨by omega, by omega, by omega, by omega⟩, mm, ⟨by omega, ?_⟩, hf.2.1, hf.2.2, by omega, hm.2.2, hm.2.1⟩
  refine Int.ediv_le_of_le_mul (by omega) ?_
  have h1 : s * pTop f ls r k a y q ≤ s * cD f ls r (a + q) := Int.mul_le_mul_of_nonneg_left hb.1.2 (by omega)
  have h2 : 0 ≤ netP f ls r k a y s * pBase f ls r k a y q := Int.mul_nonneg hm.2.1.1 (by omega)
  unfold fwX
  omega
set_option maxRecDepth 100000 in
theorem forward_ret (T B d s p : Int) (h1 : MD s T d) (h2 : MD p B d) : Ret Tryz.prog G 109 [.agg [I T, I B, I d], I s, I p] (.tup [I ((s * T - p * B) / d), I ((s * T - p * B) % d)]) := by
  refine ret_of_body hT Tryz.func109 rfl ?_ rfl
  obtain ⟨a1, a2, a3⟩ := h1.q
  obtain ⟨b1, b2, b3⟩ := h2.q
  have hd := h1.hc
  obtain ⟨e1, e2⟩ := floor_sub (x := s * T) (y := p * B) (d := d) (by omega)
  rw [e1, e2]
  by_cases hlt : s * T % d < p * B % d
  · rw [if_pos hlt, if_pos hlt]
    repeat' (first | (intro h; first | contradiction | omega | (conv => whnf) | skip) | (refine And.intro ?_ ?_) | (refine arith_ok ⟨by omega, by omega⟩ ?_) | (first | (refine draw_quiet hT mixed (by decide +kernel) ?_) | (refine draw_hard hT mixed (by decide +kernel) ?_)) | (refine Ret.go (mulDiv_ret s T d h1) rfl rfl ?_) | (refine Ret.goQ (mulDiv_ret s T d h1) rfl rfl ?_) | (refine Ret.go (mulDiv_ret p B d h2) rfl rfl ?_) | (refine Ret.goQ (mulDiv_ret p B d h2) rfl rfl ?_))
    all_goals first | rfl | omega | trace_state
  · rw [if_neg hlt, if_neg hlt]
    repeat' (first | (intro h; first | contradiction | omega | (conv => whnf) | skip) | (refine And.intro ?_ ?_) | (refine arith_ok ⟨by omega, by omega⟩ ?_) | (first | (refine draw_quiet hT mixed (by decide +kernel) ?_) | (refine draw_hard hT mixed (by decide +kernel) ?_)) | (refine Ret.go (mulDiv_ret s T d h1) rfl rfl ?_) | (refine Ret.goQ (mulDiv_ret s T d h1) rfl rfl ?_) | (refine Ret.go (mulDiv_ret p B d h2) rfl rfl ?_) | (refine Ret.goQ (mulDiv_ret p B d h2) rfl rfl ?_))
    all_goals first | rfl | omega | trace_state
attribute [local irreducible] pTop pBase fwX
set_option maxRecDepth 100000 in
theorem rounded_ret (f : Int) (ls : List Int) (r k a y s l q : Int) (h : hOk f ls r k a y s l q) : Ret Tryz.prog G 168 [.agg [I (pTop f ls r k a y q), I (pBase f ls r k a y q), I (cD f ls r (a + q))], I s, I (netP f ls r k a y s)] (I (rnd f ls r k a y s q)) := by
  refine ret_of_body hT Tryz.func168 rfl ?_ rfl
  obtain ⟨m1, m2, m3, x1, x2, x3, x4, x5, x6⟩ := fw_facts h
  have hf := forward_ret (pTop f ls r k a y q) (pBase f ls r k a y q) (cD f ls r (a + q)) s (netP f ls r k a y s) m1 m2
  have he : s * pTop f ls r k a y q - netP f ls r k a y s * pBase f ls r k a y q = fwX f ls r k a y s q := by unfold fwX; rfl
  rw [he] at hf
  unfold rnd
  by_cases hz : fwX f ls r k a y s q % cD f ls r (a + q) = 0
  · rw [if_pos hz, Int.add_zero]
    repeat' (first | (intro h; first | contradiction | omega | (conv => whnf) | skip) | (refine And.intro ?_ ?_) | (refine arith_ok ⟨by omega, by omega⟩ ?_) | (first | (refine draw_quiet hT mixed (by decide +kernel) ?_) | (refine draw_hard hT mixed (by decide +kernel) ?_)) | (refine Ret.go (hf) rfl rfl ?_) | (refine Ret.goQ (hf) rfl rfl ?_))
    all_goals first | rfl | omega | trace_state
  · rw [if_neg hz]
    repeat' (first | (intro h; first | contradiction | omega | (conv => whnf) | skip) | (refine And.intro ?_ ?_) | (refine arith_ok ⟨by omega, by omega⟩ ?_) | (first | (refine draw_quiet hT mixed (by decide +kernel) ?_) | (refine draw_hard hT mixed (by decide +kernel) ?_)) | (refine Ret.go (hf) rfl rfl ?_) | (refine Ret.goQ (hf) rfl rfl ?_))
    all_goals first | rfl | omega | trace_state
theorem rnd_bd {f : Int} {ls : List Int} {r k a y s l q : Int} (h : hOk f ls r k a y s l q) : 0 ≤ rnd f ls r k a y s q ∧ rnd f ls r k a y s q ≤ 100000001 := by
  obtain ⟨m1, m2, m3, x1, x2, x3, x4, x5, x6⟩ := fw_facts h
  unfold rnd
  split <;> omega
attribute [local irreducible] rnd
/-! Reserves of holdings -/
abbrev hNet (f : Int) (ls : List Int) (r : Int) (h : List Int) : Int := netP f ls r (h.getD 0 0) (h.getD 1 0) (h.getD 2 0) (h.getD 3 0)
abbrev hOff (f : Int) (ls : List Int) (r : Int) (h : List Int) : Int := offP f ls r (h.getD 0 0) (h.getD 1 0) (h.getD 2 0) (h.getD 3 0) (h.getD 4 0)
abbrev hRnd (f : Int) (ls : List Int) (r : Int) (h : List Int) : Int := rnd f ls r (h.getD 0 0) (h.getD 1 0) (h.getD 2 0) (h.getD 3 0) (h.getD 5 0)
abbrev hpT (f : Int) (ls : List Int) (r : Int) (h : List Int) (q : Int) : Int := pTop f ls r (h.getD 0 0) (h.getD 1 0) (h.getD 2 0) q
abbrev hpB (f : Int) (ls : List Int) (r : Int) (h : List Int) (q : Int) : Int := pBase f ls r (h.getD 0 0) (h.getD 1 0) (h.getD 2 0) q
def hRes (f : Int) (ls : List Int) (r : Int) (h : List Int) : Int := h.getD 6 0 * hRnd f ls r h
theorem hRes_bd {f : Int} {ls : List Int} {r : Int} {h : List Int} (ho : okH f ls r h) : 0 ≤ hRes f ls r h ∧ hRes f ls r h ≤ 100000001000000 := by
  have := rnd_bd ho.1
  have := mul_in (a := h.getD 6 0) (A := 1000000) (b := hRnd f ls r h) (B := 100000001) ho.2.1 ho.2.2 this.1 this.2
  unfold hRes
  omega
set_option maxRecDepth 100000 in
theorem parts_ret (f : Int) (ls : List Int) (r : Int) (h : List Int) (ho : okP f ls r (h.getD 0 0) (h.getD 1 0) (h.getD 2 0) (h.getD 3 0) (h.getD 4 0)) (hq : 0 ≤ h.getD 5 0 ∧ h.getD 5 0 ≤ dur f ls (h.getD 0 0) (h.getD 1 0) (h.getD 2 0)) :
    Ret Tryz.prog G 128 [WH h, Bs f ls r] (.agg [I (hpT f ls r h (h.getD 5 0)), I (hpB f ls r h (h.getD 5 0)), I (cD f ls r (h.getD 1 0 + h.getD 5 0))]) := by
  refine ret_of_body hT Tryz.func128 rfl ?_ rfl
  have hp := partsAt_ret f ls r (h.getD 0 0) (h.getD 1 0) (h.getD 2 0) (h.getD 3 0) (h.getD 4 0) (h.getD 5 0) ho hq
  repeat' (first | (intro h; first | contradiction | omega | (conv => whnf) | skip) | (refine And.intro ?_ ?_) | (refine arith_ok ⟨by omega, by omega⟩ ?_) | (refine draw_hard hT mixed (by decide +kernel) ?_) | (refine Ret.go (hp) rfl rfl ?_) | (refine Ret.goQ (hp) rfl rfl ?_) | (refine CallA.go0 [] (columns_ro f ls r ho.1.1 ho.1.2) rfl (by first | ((repeat' (first | exact rfl | exact trivial | (with_reducible assumption) | refine And.intro ?_ ?_ | omega | assumption)); done) | fail) trivial ?_))
  all_goals first | rfl | omega | trace_state
set_option maxRecDepth 100000 in
theorem reserve_ret (f : Int) (ls : List Int) (r : Int) (h : List Int) (ho : okH f ls r h) : Ret Tryz.prog G 131 [WH h, Bs f ls r] (I (hRes f ls r h)) := by
  refine ret_of_body hT Tryz.func131 rfl ?_ rfl
  have hq := ho.1.2.1
  have hp := parts_ret f ls r h ho.1.1 (by omega)
  have hr := rounded_ret f ls r (h.getD 0 0) (h.getD 1 0) (h.getD 2 0) (h.getD 3 0) (h.getD 4 0) (h.getD 5 0) ho.1
  have hn := net_ret f ls r (h.getD 0 0) (h.getD 1 0) (h.getD 2 0) (h.getD 3 0) (h.getD 4 0) ho.1.1
  have hb := hRes_bd ho
  unfold hRes hRnd at hb ⊢
  repeat' (first | (intro h; first | contradiction | omega | (conv => whnf) | skip) | (refine And.intro ?_ ?_) | (refine arith_ok ⟨by omega, by omega⟩ ?_) | (first | (refine draw_quiet hT mixed (by decide +kernel) ?_) | (refine draw_hard hT mixed (by decide +kernel) ?_)) | (refine Ret.go (hp) rfl rfl ?_) | (refine Ret.goQ (hp) rfl rfl ?_) | (refine Ret.go (hr) rfl rfl ?_) | (refine Ret.goQ (hr) rfl rfl ?_) | (refine Ret.go (hn) rfl rfl ?_) | (refine Ret.goQ (hn) rfl rfl ?_))
  all_goals first | rfl | omega | trace_state
/-! The reference -/
set_option maxRecDepth 100000 in
theorem specLeft_ret (k a y s l q : Int) (hk : k ≠ 0 → -1000000 ≤ y - q ∧ y - q ≤ 1000000) : Ret Tryz.prog G 190 [Po k a y s l, I q] (I (if k = 0 then 0 else y - q)) := by
  refine ret_of_body hT Tryz.func190 rfl ?_ rfl
  by_cases hz : k = 0
  · rw [if_pos hz]
    repeat' (first | (intro h; first | contradiction | omega | (conv => whnf) | skip) | (refine And.intro ?_ ?_) | (refine arith_ok ⟨by omega, by omega⟩ ?_) | (first | (refine draw_quiet hT mixed (by decide +kernel) ?_) | (refine draw_hard hT mixed (by decide +kernel) ?_)) | fail)
    all_goals first | rfl | omega | trace_state
  · have := hk hz
    rw [if_neg hz]
    repeat' (first | (intro h; first | contradiction | omega | (conv => whnf) | skip) | (refine And.intro ?_ ?_) | (refine arith_ok ⟨by omega, by omega⟩ ?_) | (first | (refine draw_quiet hT mixed (by decide +kernel) ?_) | (refine draw_hard hT mixed (by decide +kernel) ?_)) | fail)
    all_goals first | rfl | omega | trace_state
theorem top_zero {k m m2 d2 m3 d3 : Int} (h : k = 0) : top k m m2 d2 = top k m m3 d3 := by unfold top; rw [if_pos h, if_pos h]
theorem base_zero {k n n2 n3 : Int} (h : k = 0) : base k n n2 = base k n n3 := by unfold base; rw [if_pos h, if_pos h]
theorem left_top (f : Int) (ls : List Int) (r k a y q : Int) : top k (cM f ls r (a + q)) (cM f ls r (a + q + if k = 0 then 0 else y - q)) (cD f ls r (a + q + if k = 0 then 0 else y - q)) = pTop f ls r k a y q := by
  unfold pTop
  by_cases hk : k = 0
  · exact top_zero hk
  · rw [if_neg hk, show a + q + (y - q) = a + y by omega]
theorem left_base (f : Int) (ls : List Int) (r k a y q : Int) : base k (cN f ls r (a + q)) (cN f ls r (a + q + if k = 0 then 0 else y - q)) = pBase f ls r k a y q := by
  unfold pBase
  by_cases hk : k = 0
  · exact base_zero hk
  · rw [if_neg hk, show a + q + (y - q) = a + y by omega]
set_option maxRecDepth 100000 in
theorem specParts_ret (f : Int) (ls : List Int) (r k a y s l q : Int) (h : hOk f ls r k a y s l q) : Ret Tryz.prog G 155 [Bs f ls r, Po k a y s l, I q] (.tup [I (pTop f ls r k a y q), I (pBase f ls r k a y q), I (cD f ls r (a + q))]) := by
  refine ret_of_body hT Tryz.func155 rfl ?_ rfl
  obtain ⟨ho, hq, hd⟩ := h
  have hdb := dur_bd ho
  have h1 := ho.2.1
  unfold okA at h1
  have hy : k ≠ 0 → q ≤ y - 1 := fun hk => by
    have := hq.2
    unfold dur at this
    rw [if_neg hk] at this
    exact this
  have hn : 0 ≤ (if k = 0 then 0 else y - q) ∧ (k ≠ 0 → a + q + (if k = 0 then 0 else y - q) ≤ 151) := by
    by_cases hk : k = 0
    · rw [if_pos hk]; exact ⟨Int.le_refl _, fun h => absurd hk h⟩
    · have := hy hk
      rw [if_neg hk]; exact ⟨by omega, fun _ => by omega⟩
  have hl := specLeft_ret k a y s l q (fun hk => by have := hy hk; omega)
  have ht := specTop_ret f ls r k (a + q) (if k = 0 then 0 else y - q) ho.1 (by omega) hn.1 hn.2
  have hb := specBase_ret f ls r k (a + q) (if k = 0 then 0 else y - q) ho.1 (by omega) hn.1 hn.2
  rw [left_top] at ht
  rw [left_base] at hb
  repeat' (first | (intro h; first | contradiction | omega | (conv => whnf) | skip) | (refine And.intro ?_ ?_) | (refine arith_ok ⟨by omega, by omega⟩ ?_) | (first | (refine draw_quiet hT mixed (by decide +kernel) ?_) | (refine draw_hard hT mixed (by decide +kernel) ?_)) | (refine Ret.go (hl) rfl rfl ?_) | (refine Ret.goQ (hl) rfl rfl ?_) | (refine Ret.go (ht) rfl rfl ?_) | (refine Ret.goQ (ht) rfl rfl ?_) | (refine Ret.go (hb) rfl rfl ?_) | (refine Ret.goQ (hb) rfl rfl ?_) | (refine Ret.go (specD_ret f ls r _ ho.1.1 ho.1.2 (by omega)) rfl rfl ?_) | (refine Ret.goQ (specD_ret f ls r _ ho.1.1 ho.1.2 (by omega)) rfl rfl ?_))
  all_goals first | rfl | omega | trace_state
set_option maxRecDepth 100000 in
theorem specForward_ret (f : Int) (ls : List Int) (r k a y s l q : Int) (h : hOk f ls r k a y s l q) : Ret Tryz.prog G 112 [Bs f ls r, Po k a y s l, I q] (.tup [I (fwX f ls r k a y s q / cD f ls r (a + q)), I (fwX f ls r k a y s q % cD f ls r (a + q))]) := by
  refine ret_of_body hT Tryz.func112 rfl ?_ rfl
  obtain ⟨m1, m2, m3, x1, x2, x3, x4, x5, x6⟩ := fw_facts h
  have hm := specMinus_ret s (pTop f ls r k a y q) (netP f ls r k a y s) (pBase f ls r k a y q) (cD f ls r (a + q)) m3
  have he : s * pTop f ls r k a y q - netP f ls r k a y s * pBase f ls r k a y q = fwX f ls r k a y s q := by unfold fwX; rfl
  rw [he] at hm
  repeat' (first | (intro h; first | contradiction | omega | (conv => whnf) | skip) | (refine And.intro ?_ ?_) | (refine arith_ok ⟨by omega, by omega⟩ ?_) | (first | (refine draw_quiet hT mixed (by decide +kernel) ?_) | (refine draw_hard hT mixed (by decide +kernel) ?_)) | (refine Ret.go (specParts_ret f ls r k a y s l q h) rfl rfl ?_) | (refine Ret.goQ (specParts_ret f ls r k a y s l q h) rfl rfl ?_) | (refine Ret.go (specNet_ret f ls r k a y s l h.1) rfl rfl ?_) | (refine Ret.goQ (specNet_ret f ls r k a y s l h.1) rfl rfl ?_) | (refine Ret.go (hm) rfl rfl ?_) | (refine Ret.goQ (hm) rfl rfl ?_))
  all_goals first | rfl | omega | trace_state
set_option maxRecDepth 100000 in
theorem specAt_ret (f : Int) (ls : List Int) (r k a y s l q : Int) (h : hOk f ls r k a y s l q) : Ret Tryz.prog G 196 [Bs f ls r, Po k a y s l, I q] (I (rnd f ls r k a y s q)) := by
  refine ret_of_body hT Tryz.func196 rfl ?_ rfl
  obtain ⟨m1, m2, m3, x1, x2, x3, x4, x5, x6⟩ := fw_facts h
  unfold rnd
  by_cases hz : fwX f ls r k a y s q % cD f ls r (a + q) = 0
  · rw [if_pos hz, Int.add_zero]
    repeat' (first | (intro h; first | contradiction | omega | (conv => whnf) | skip) | (refine And.intro ?_ ?_) | (refine arith_ok ⟨by omega, by omega⟩ ?_) | (first | (refine draw_quiet hT mixed (by decide +kernel) ?_) | (refine draw_hard hT mixed (by decide +kernel) ?_)) | (refine Ret.go (specForward_ret f ls r k a y s l q h) rfl rfl ?_) | (refine Ret.goQ (specForward_ret f ls r k a y s l q h) rfl rfl ?_))
    all_goals first | rfl | omega | (refine iv ?_; omega) | trace_state
  · rw [if_neg hz]
    repeat' (first | (intro h; first | contradiction | omega | (conv => whnf) | skip) | (refine And.intro ?_ ?_) | (refine arith_ok ⟨by omega, by omega⟩ ?_) | (first | (refine draw_quiet hT mixed (by decide +kernel) ?_) | (refine draw_hard hT mixed (by decide +kernel) ?_)) | (refine Ret.go (specForward_ret f ls r k a y s l q h) rfl rfl ?_) | (refine Ret.goQ (specForward_ret f ls r k a y s l q h) rfl rfl ?_))
    all_goals first | rfl | omega | (refine iv ?_; omega) | trace_state
set_option maxRecDepth 100000 in
theorem specRes_ret (f : Int) (ls : List Int) (r : Int) (h : List Int) (ho : okH f ls r h) : Ret Tryz.prog G 165 [Bs f ls r, WH h] (I (hRes f ls r h)) := by
  refine ret_of_body hT Tryz.func165 rfl ?_ rfl
  have ha := specAt_ret f ls r (h.getD 0 0) (h.getD 1 0) (h.getD 2 0) (h.getD 3 0) (h.getD 4 0) (h.getD 5 0) ho.1
  have hb := hRes_bd ho
  unfold hRes hRnd at hb ⊢
  repeat' (first | (intro h; first | contradiction | omega | (conv => whnf) | skip) | (refine And.intro ?_ ?_) | (refine arith_ok ⟨by omega, by omega⟩ ?_) | (first | (refine draw_quiet hT mixed (by decide +kernel) ?_) | (refine draw_hard hT mixed (by decide +kernel) ?_)) | (refine Ret.go (ha) rfl rfl ?_) | (refine Ret.goQ (ha) rfl rfl ?_))
  all_goals first | rfl | omega | trace_state
end Go.Proofs.YtenofbabiacacaaGreat
