/-
  Premiums by the program: what the functions return. No conditions but those in the statements.
-/
import Derived.Test.YtenofbabiacacaaGreatMh
set_option linter.unusedVariables false
set_option linter.unusedSimpArgs false
namespace Go.Proofs.YtenofbabiacacaaGreat
open Go.AE

attribute [local irreducible] CallA LoopA DrawA CallQ arithK quoK remK eqK
attribute [local irreducible] cols cN cM cD cC pTop pBase netP top base
set_option maxHeartbeats 4000000 in
set_option maxRecDepth 100000 in
theorem checkAss_ret (f : Int) (ls : List Int) (r k a y s l : Int) (ho : okP f ls r k a y s l) : Ret Tryz.prog G 157 [Tb f ls, I r, I k, I a, I y, I s] (.tup [.agg [I (pTop f ls r k a y 0), I (cD f ls r a), I (pBase f ls r k a y 0)], I 0]) := by
  refine ret_of_body hT Tryz.func157 rfl ?_ rfl
  have h0 := ho.1.1.1
  have h1 := ho.2.1
  have hp := dur_pos ho
  have hT1 := ho.1.1
  have hA := ho.2.1
  unfold hdT at h0
  unfold okA at h1
  have c1 := inC_all ho.1 (x := a) (by omega)
  have c2 := inC_all ho.1 (x := a + y) (by omega)
  have hl := cols_len f ls r
  have hca := cols_at (ls := ls) (r := r) (f := f) (x := a) (by omega) (by omega)
  have hcb := cols_at (ls := ls) (r := r) (f := f) (x := a + y) (by omega) (by omega)
  have n0 : ((cols f ls r).getD (a - f).toNat []).getD 0 0 = cD f ls r a := by rw [hca]; rfl
  have n1 : ((cols f ls r).getD (a - f).toNat []).getD 1 0 = cN f ls r a := by rw [hca]; rfl
  have n2 : ((cols f ls r).getD (a - f).toNat []).getD 2 0 = cC f ls r a := by rw [hca]; rfl
  have n3 : ((cols f ls r).getD (a - f).toNat []).getD 3 0 = cM f ls r a := by rw [hca]; rfl
  have m0 : ((cols f ls r).getD (a + y - f).toNat []).getD 0 0 = cD f ls r (a + y) := by rw [hcb]; rfl
  have m1 : ((cols f ls r).getD (a + y - f).toNat []).getD 1 0 = cN f ls r (a + y) := by rw [hcb]; rfl
  have m2 : ((cols f ls r).getD (a + y - f).toNat []).getD 2 0 = cC f ls r (a + y) := by rw [hcb]; rfl
  have m3 : ((cols f ls r).getD (a + y - f).toNat []).getD 3 0 = cM f ls r (a + y) := by rw [hcb]; rfl
  rw [pTop_zero, pBase_zero]
  have b1 := c1.1
  have b2 := c1.2.1
  rw [← n1] at b1
  rw [← n3] at b2
  have b3 := c2.1
  have b4 := c2.2.1
  have b5 := c2.2.2
  rw [← m1] at b3
  rw [← m3] at b4
  rw [← m0] at b5
  have hbn := benefits_ret k (((cols f ls r).getD (a - f).toNat []).getD 0 0) (((cols f ls r).getD (a - f).toNat []).getD 1 0) (((cols f ls r).getD (a - f).toNat []).getD 2 0) (((cols f ls r).getD (a - f).toNat []).getD 3 0) (((cols f ls r).getD (a + y - f).toNat []).getD 0 0) (((cols f ls r).getD (a + y - f).toNat []).getD 1 0) (((cols f ls r).getD (a + y - f).toNat []).getD 2 0) (((cols f ls r).getD (a + y - f).toNat []).getD 3 0) ⟨b1, b2⟩ ⟨b3, b4, b5⟩
  repeat' (first | (intro h; first | contradiction | omega | (conv => whnf) | skip) | (refine And.intro ?_ ?_) | (refine arith_ok ⟨by omega, by omega⟩ ?_) | (first | (refine draw_quiet hT mixed (by decide +kernel) ?_) | (refine draw_hard hT mixed (by decide +kernel) ?_)) | (refine Ret.goP (implTable_ret f ls (by omega)) rfl ?_) | (refine Ret.goQP (implTable_ret f ls (by omega)) rfl ?_) | (refine Ret.goP (implAssurance_ret f ls r k a y s (by omega)) rfl ?_) | (refine Ret.goQP (implAssurance_ret f ls r k a y s (by omega)) rfl ?_) | (refine CallA.go0 [] (columns_ro f ls r ho.1.1 ho.1.2) rfl (by first | ((repeat' (first | exact rfl | exact trivial | (with_reducible assumption) | refine And.intro ?_ ?_ | omega | assumption)); done) | fail) trivial ?_) | (refine Ret.go (hbn) rfl rfl ?_) | (refine Ret.goQ (hbn) rfl rfl ?_))
  all_goals first | omega | (show _ < _; omega) | exact absurd hT1 (by assumption) | exact absurd (And.intro ho.1.2 hA : okR r ∧ okA f k a y s) (by assumption) | skip
  all_goals first | ((conv => whnf); rw [n0, n1, n3, m0, m1, m3]; rfl) | ((conv => whnf); rw [n0, n1, n3, m0, m1, m3]; done) | trace_state
set_option maxRecDepth 100000 in
theorem level_ret (f : Int) (ls : List Int) (r k a y s l : Int) (ho : okP f ls r k a y s l) : Ret Tryz.prog G 153 [Tb f ls, I r, I k, I a, I y, I s] (.tup [I (netP f ls r k a y s), I 0]) := by
  refine ret_of_body hT Tryz.func153 rfl ?_ rfl
  have hm := net_MD ho
  have hp := priced_ret s (pTop f ls r k a y 0) (pBase f ls r k a y 0) hm.1
  have he : cdiv (s * pTop f ls r k a y 0) (pBase f ls r k a y 0) = netP f ls r k a y s := by unfold netP; rfl
  rw [he] at hp
  repeat' (first | (intro h; first | contradiction | omega | (conv => whnf) | skip) | (refine And.intro ?_ ?_) | (refine arith_ok ⟨by omega, by omega⟩ ?_) | (first | (refine draw_quiet hT mixed (by decide +kernel) ?_) | (refine draw_hard hT mixed (by decide +kernel) ?_)) | (refine Ret.go (checkAss_ret f ls r k a y s l ho) rfl rfl ?_) | (refine Ret.goQ (checkAss_ret f ls r k a y s l ho) rfl rfl ?_) | (refine Ret.go (hp) rfl rfl ?_) | (refine Ret.goQ (hp) rfl rfl ?_))
  all_goals first | rfl | omega | trace_state
set_option maxRecDepth 100000 in
theorem net_ret (f : Int) (ls : List Int) (r k a y s l : Int) (ho : okP f ls r k a y s l) : Ret Tryz.prog G 110 [Bs f ls r, Po k a y s l] (I (netP f ls r k a y s)) := by
  refine ret_of_body hT Tryz.func110 rfl ?_ rfl
  repeat' (first | (intro h; first | contradiction | omega | (conv => whnf) | skip) | (refine And.intro ?_ ?_) | (refine arith_ok ⟨by omega, by omega⟩ ?_) | (first | (refine draw_quiet hT mixed (by decide +kernel) ?_) | (refine draw_hard hT mixed (by decide +kernel) ?_)) | (refine Ret.go (level_ret f ls r k a y s l ho) rfl rfl ?_) | (refine Ret.goQ (level_ret f ls r k a y s l ho) rfl rfl ?_))
  all_goals first | rfl | omega | trace_state
theorem tdiv_neg' {a b : Int} (ha : 0 ≤ a) : (0 - a).tdiv b = -(a / b) := by
  rw [Int.zero_sub, Int.neg_tdiv, Int.tdiv_eq_ediv_of_nonneg ha]
theorem tmod_neg' {a b : Int} (ha : 0 ≤ a) : (0 - a).tmod b = -(a % b) := by
  rw [Int.zero_sub, Int.neg_tmod, Int.tmod_eq_emod_of_nonneg ha]
theorem quov {k : IntKind} {a b v : Int} {K : Value → Prop} (hb : b ≠ 0) (h : k.wrap (a.tdiv b) = v) (hk : K (.int k v)) : quoK k a b K := quo_any hb fun n _ h2 => by rw [h2, h]; exact hk
theorem remv {k : IntKind} {a b v : Int} {K : Value → Prop} (hb : b ≠ 0) (h : a.tmod b = v) (hk : K (.int k v)) : remK k a b K := rem_any hb fun n _ h2 => by rw [h2, h]; exact hk
set_option maxRecDepth 100000 in
theorem down_ret (a b : Int) (ha : 0 ≤ a ∧ a ≤ 1000000000000000000) (hb : 1 ≤ b ∧ b ≤ 1000000000000000000) : Ret Tryz.prog G 197 [I (0 - a), I b] (I (-(cdiv a b))) := by
  refine ret_of_body hT Tryz.func197 rfl ?_ rfl
  have hf := floor_spec (x := a) (d := b) (by omega)
  have hq0 : 0 ≤ a / b := Int.ediv_nonneg ha.1 (by omega)
  have hq1 : a / b ≤ a := Int.ediv_le_self _ ha.1
  have h1 : IntKind.i64.wrap ((0 - a).tdiv b) = -(a / b) := by rw [tdiv_neg' ha.1, IntKind.wrap_i64]; omega
  have h2 := tmod_neg' (b := b) ha.1
  unfold cdiv
  by_cases hz : a % b = 0
  · rw [if_pos hz]
    repeat' (first | (intro h; first | contradiction | omega | (conv => whnf) | skip) | (refine And.intro ?_ ?_) | (refine arith_ok ⟨by omega, by omega⟩ ?_) | (first | (refine draw_quiet hT mixed (by decide +kernel) ?_) | (refine draw_hard hT mixed (by decide +kernel) ?_)) | (refine quov (by omega) h1 ?_) | (refine remv (by omega) h2 ?_))
    all_goals first | rfl | omega | (refine iv ?_; omega) | trace_state
  · rw [if_neg hz]
    repeat' (first | (intro h; first | contradiction | omega | (conv => whnf) | skip) | (refine And.intro ?_ ?_) | (refine arith_ok ⟨by omega, by omega⟩ ?_) | (first | (refine draw_quiet hT mixed (by decide +kernel) ?_) | (refine draw_hard hT mixed (by decide +kernel) ?_)) | (refine quov (by omega) h1 ?_) | (refine remv (by omega) h2 ?_))
    all_goals first | rfl | omega | (refine iv ?_; omega) | trace_state
set_option maxRecDepth 100000 in
theorem up_ret (a b : Int) (ha : 0 ≤ a ∧ a ≤ 1000000000000000000) (hb : 1 ≤ b ∧ b ≤ 1000000000000000000) : Ret Tryz.prog G 167 [I a, I b] (I (cdiv a b)) := by
  refine ret_of_body hT Tryz.func167 rfl ?_ rfl
  have hf := floor_spec (x := a) (d := b) (by omega)
  have hq0 : 0 ≤ a / b := Int.ediv_nonneg ha.1 (by omega)
  have hq1 : a / b ≤ a := Int.ediv_le_self _ ha.1
  have hc : 0 ≤ cdiv a b ∧ cdiv a b ≤ a / b + 1 := by unfold cdiv; split <;> omega
  repeat' (first | (intro h; first | contradiction | omega | (conv => whnf) | skip) | (refine And.intro ?_ ?_) | (refine arith_ok ⟨by omega, by omega⟩ ?_) | (first | (refine draw_quiet hT mixed (by decide +kernel) ?_) | (refine draw_hard hT mixed (by decide +kernel) ?_)) | (refine Ret.go (down_ret a b ha hb) rfl rfl ?_) | (refine Ret.goQ (down_ret a b ha hb) rfl rfl ?_))
  all_goals first | rfl | omega | (refine iv ?_; omega) | trace_state
set_option maxRecDepth 100000 in
theorem sdown_ret (a b : Int) (ha : 0 ≤ a ∧ a ≤ 1000000000000000000) (hb : 1 ≤ b ∧ b ≤ 1000000000000000000) : Ret Tryz.prog G 200 [I (0 - a), I b] (I (-(cdiv a b))) := by
  refine ret_of_body hT Tryz.func200 rfl ?_ rfl
  have hf := floor_spec (x := a) (d := b) (by omega)
  have hq0 : 0 ≤ a / b := Int.ediv_nonneg ha.1 (by omega)
  have hq1 : a / b ≤ a := Int.ediv_le_self _ ha.1
  have h1 : IntKind.i64.wrap ((0 - a).tdiv b) = -(a / b) := by rw [tdiv_neg' ha.1, IntKind.wrap_i64]; omega
  have h2 := tmod_neg' (b := b) ha.1
  unfold cdiv
  by_cases hz : a % b = 0
  · rw [if_pos hz]
    repeat' (first | (intro h; first | contradiction | omega | (conv => whnf) | skip) | (refine And.intro ?_ ?_) | (refine arith_ok ⟨by omega, by omega⟩ ?_) | (first | (refine draw_quiet hT mixed (by decide +kernel) ?_) | (refine draw_hard hT mixed (by decide +kernel) ?_)) | (refine quov (by omega) h1 ?_) | (refine remv (by omega) h2 ?_))
    all_goals first | rfl | omega | (refine iv ?_; omega) | trace_state
  · rw [if_neg hz]
    repeat' (first | (intro h; first | contradiction | omega | (conv => whnf) | skip) | (refine And.intro ?_ ?_) | (refine arith_ok ⟨by omega, by omega⟩ ?_) | (first | (refine draw_quiet hT mixed (by decide +kernel) ?_) | (refine draw_hard hT mixed (by decide +kernel) ?_)) | (refine quov (by omega) h1 ?_) | (refine remv (by omega) h2 ?_))
    all_goals first | rfl | omega | (refine iv ?_; omega) | trace_state
set_option maxRecDepth 100000 in
theorem sup_ret (a b : Int) (ha : 0 ≤ a ∧ a ≤ 1000000000000000000) (hb : 1 ≤ b ∧ b ≤ 1000000000000000000) : Ret Tryz.prog G 173 [I a, I b] (I (cdiv a b)) := by
  refine ret_of_body hT Tryz.func173 rfl ?_ rfl
  have hf := floor_spec (x := a) (d := b) (by omega)
  have hq0 : 0 ≤ a / b := Int.ediv_nonneg ha.1 (by omega)
  have hq1 : a / b ≤ a := Int.ediv_le_self _ ha.1
  have hc : 0 ≤ cdiv a b ∧ cdiv a b ≤ a / b + 1 := by unfold cdiv; split <;> omega
  repeat' (first | (intro h; first | contradiction | omega | (conv => whnf) | skip) | (refine And.intro ?_ ?_) | (refine arith_ok ⟨by omega, by omega⟩ ?_) | (first | (refine draw_quiet hT mixed (by decide +kernel) ?_) | (refine draw_hard hT mixed (by decide +kernel) ?_)) | (refine Ret.go (sdown_ret a b ha hb) rfl rfl ?_) | (refine Ret.goQ (sdown_ret a b ha hb) rfl rfl ?_))
  all_goals first | rfl | omega | (refine iv ?_; omega) | trace_state
/-- What a loading adds. -/
theorem off_bd {n l : Int} (hn : 0 ≤ n ∧ n ≤ 100000000) (hl : 0 ≤ l ∧ l ≤ 1000) : (0 ≤ n * l ∧ n * l ≤ 100000000000) ∧ 0 ≤ cdiv (n * l) 1000 ∧ cdiv (n * l) 1000 ≤ n := ⟨mul_in hn.1 hn.2 hl.1 hl.2, cdiv_le hn.1 hl.1 hl.2 (by decide)⟩
set_option maxRecDepth 100000 in
theorem office_ret (f : Int) (ls : List Int) (r k a y s l : Int) (ho : okP f ls r k a y s l) : Ret Tryz.prog G 129 [Bs f ls r, Po k a y s l] (I (offP f ls r k a y s l)) := by
  refine ret_of_body hT Tryz.func129 rfl ?_ rfl
  have hm := net_MD ho
  have hl := ho.2.2.1
  have hb := off_bd (n := netP f ls r k a y s) (l := l) (by omega) hl
  have hu := up_ret (netP f ls r k a y s * l) 1000 (by omega) (by omega)
  repeat' (first | (intro h; first | contradiction | omega | (conv => whnf) | skip) | (refine And.intro ?_ ?_) | (refine arith_ok ⟨by omega, by omega⟩ ?_) | (first | (refine draw_quiet hT mixed (by decide +kernel) ?_) | (refine draw_hard hT mixed (by decide +kernel) ?_)) | (refine Ret.go (net_ret f ls r k a y s l ho) rfl rfl ?_) | (refine Ret.goQ (net_ret f ls r k a y s l ho) rfl rfl ?_) | (refine Ret.go (hu) rfl rfl ?_) | (refine Ret.goQ (hu) rfl rfl ?_))
  all_goals first | rfl | omega | (unfold offP; rfl) | trace_state
/-! Premiums by the reference -/
set_option maxRecDepth 100000 in
theorem specLevel_ret (f : Int) (ls : List Int) (r k a y s l : Int) (ho : okP f ls r k a y s l) : Ret Tryz.prog G 172 [Tb f ls, I r, I k, I a, I y, I s] (I (netP f ls r k a y s)) := by
  refine ret_of_body hT Tryz.func172 rfl ?_ rfl
  have h1 := ho.2.1
  unfold okA at h1
  have hm := net_MD ho
  have ht := specTop_ret f ls r k a y ho.1 (by omega) (by omega) (by omega)
  have hb := specBase_ret f ls r k a y ho.1 (by omega) (by omega) (by omega)
  rw [← pTop_zero] at ht
  rw [← pBase_zero] at hb
  have hp := specUp5_ret s (pTop f ls r k a y 0) (pBase f ls r k a y 0) hm.1
  have he : cdiv (s * pTop f ls r k a y 0) (pBase f ls r k a y 0) = netP f ls r k a y s := by unfold netP; rfl
  rw [he] at hp
  repeat' (first | (intro h; first | contradiction | omega | (conv => whnf) | skip) | (refine And.intro ?_ ?_) | (refine arith_ok ⟨by omega, by omega⟩ ?_) | (first | (refine draw_quiet hT mixed (by decide +kernel) ?_) | (refine draw_hard hT mixed (by decide +kernel) ?_)) | (refine Ret.go (ht) rfl rfl ?_) | (refine Ret.goQ (ht) rfl rfl ?_) | (refine Ret.go (hb) rfl rfl ?_) | (refine Ret.goQ (hb) rfl rfl ?_) | (refine Ret.go (hp) rfl rfl ?_) | (refine Ret.goQ (hp) rfl rfl ?_))
  all_goals first | rfl | omega | trace_state
set_option maxRecDepth 100000 in
theorem specNet_ret (f : Int) (ls : List Int) (r k a y s l : Int) (ho : okP f ls r k a y s l) : Ret Tryz.prog G 134 [Bs f ls r, Po k a y s l] (I (netP f ls r k a y s)) := by
  refine ret_of_body hT Tryz.func134 rfl ?_ rfl
  repeat' (first | (intro h; first | contradiction | omega | (conv => whnf) | skip) | (refine And.intro ?_ ?_) | (refine arith_ok ⟨by omega, by omega⟩ ?_) | (first | (refine draw_quiet hT mixed (by decide +kernel) ?_) | (refine draw_hard hT mixed (by decide +kernel) ?_)) | (refine Ret.go (specLevel_ret f ls r k a y s l ho) rfl rfl ?_) | (refine Ret.goQ (specLevel_ret f ls r k a y s l ho) rfl rfl ?_))
  all_goals first | rfl | omega | trace_state
set_option maxRecDepth 100000 in
theorem specOffice_ret (f : Int) (ls : List Int) (r k a y s l : Int) (ho : okP f ls r k a y s l) : Ret Tryz.prog G 135 [Bs f ls r, Po k a y s l] (I (offP f ls r k a y s l)) := by
  refine ret_of_body hT Tryz.func135 rfl ?_ rfl
  have hm := net_MD ho
  have hl := ho.2.2.1
  have hb := off_bd (n := netP f ls r k a y s) (l := l) (by omega) hl
  have hu := sup_ret (netP f ls r k a y s * l) 1000 (by omega) (by omega)
  repeat' (first | (intro h; first | contradiction | omega | (conv => whnf) | skip) | (refine And.intro ?_ ?_) | (refine arith_ok ⟨by omega, by omega⟩ ?_) | (first | (refine draw_quiet hT mixed (by decide +kernel) ?_) | (refine draw_hard hT mixed (by decide +kernel) ?_)) | (refine Ret.go (specNet_ret f ls r k a y s l ho) rfl rfl ?_) | (refine Ret.goQ (specNet_ret f ls r k a y s l ho) rfl rfl ?_) | (refine Ret.go (hu) rfl rfl ?_) | (refine Ret.goQ (hu) rfl rfl ?_))
  all_goals first | rfl | omega | (unfold offP; rfl) | trace_state
end Go.Proofs.YtenofbabiacacaaGreat
