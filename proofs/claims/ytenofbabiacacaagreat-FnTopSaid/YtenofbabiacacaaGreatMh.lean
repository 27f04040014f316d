/-
  Premiums and reserves: what the functions return. No conditions but those in the statements.
-/
import Derived.Test.YtenofbabiacacaaGreatMa
import Derived.Test.YtenofbabiacacaaGreatMg
set_option linter.unusedVariables false
set_option linter.unusedSimpArgs false
namespace Go.Proofs.YtenofbabiacacaaGreat
open Go.AE

attribute [local irreducible] CallA LoopA DrawA CallQ arithK quoK remK eqK
/-! Columns of the reference -/
theorem dn_zero {g : Int → Int} {m : Nat} (h : ∀ j : Nat, j < m → g (150 - j) = 0) : dn g m = 0 := by
  induction m with
  | zero => rfl
  | succ m ih => rw [dn_next, ih fun j hj => h j (by omega), h m (by omega)]; rfl
theorem cD_end {f : Int} {ls : List Int} {r x : Int} (ho : okT f ls) (hx : f + ls.length - 1 ≤ x) : cD f ls r x = 0 := by
  unfold cD
  split
  · rw [lv_end ho hx, Int.zero_mul]
  · rfl
theorem cC_end {f : Int} {ls : List Int} {r x : Int} (ho : okT f ls) (hx : f + ls.length - 1 ≤ x) : cC f ls r x = 0 := by
  unfold cC
  split
  · rw [lv_end ho hx, lv_end ho (by omega)]; simp
  · rfl
theorem cN_end {f : Int} {ls : List Int} {r x : Int} (ho : okT f ls) (hx : f + ls.length - 1 ≤ x) : cN f ls r x = 0 := by
  unfold cN
  exact dn_zero fun j hj => cD_end ho (by omega)
theorem cM_end {f : Int} {ls : List Int} {r x : Int} (ho : okT f ls) (hx : f + ls.length - 1 ≤ x) : cM f ls r x = 0 := by
  unfold cM
  exact dn_zero fun j hj => cC_end ho (by omega)
set_option maxRecDepth 100000 in
theorem specC_ret (f : Int) (ls : List Int) (r x : Int) (ho : okT f ls) (hr : okR r) (hx : f ≤ x ∧ x ≤ 900) : Ret Tryz.prog G 214 [Tb f ls, I r, I x] (I (cC f ls r x)) := by
  refine ret_of_body hT Tryz.func214 rfl ?_ rfl
  have h0 := ho.1
  unfold hdT at h0
  have hCb := cC_bd ho hr hx.1
  have hl1 := lv_bd ho x
  have hl2 := lv_bd ho (x + 1)
  by_cases h1 : x - f + 1 ≤ 120
  · have hp : cC f ls r x = (lv f ls x - lv f ls (x + 1)) * disc r (x - f + 1).toNat := if_pos h1
    have hk : ((x - f + 1).toNat : Int) = x - f + 1 := by omega
    have hdc := specDisc_ret r (x - f + 1).toNat hr (by omega)
    rw [hk] at hdc
    by_cases hz : lv f ls x - lv f ls (x + 1) = 0
    · have hz2 : cC f ls r x = 0 := by rw [hp, hz, Int.zero_mul]
      repeat' (first | (intro h; first | contradiction | omega | (conv => whnf) | skip) | (refine And.intro ?_ ?_) | (refine arith_ok ⟨by omega, by omega⟩ ?_) | (first | (refine draw_quiet hT mixed (by decide +kernel) ?_) | (refine draw_hard hT mixed (by decide +kernel) ?_)) | (refine Ret.go (specLives_ret f ls _ ho (by omega)) rfl rfl ?_) | (refine Ret.goQ (specLives_ret f ls _ ho (by omega)) rfl rfl ?_) | (refine Ret.go (hdc) rfl rfl ?_) | (refine Ret.goQ (hdc) rfl rfl ?_))
      all_goals first | omega | exact iv hz2.symm | trace_state
    · repeat' (first | (intro h; first | contradiction | omega | (conv => whnf) | skip) | (refine And.intro ?_ ?_) | (refine arith_ok ⟨by omega, by omega⟩ ?_) | (first | (refine draw_quiet hT mixed (by decide +kernel) ?_) | (refine draw_hard hT mixed (by decide +kernel) ?_)) | (refine Ret.go (specLives_ret f ls _ ho (by omega)) rfl rfl ?_) | (refine Ret.goQ (specLives_ret f ls _ ho (by omega)) rfl rfl ?_) | (refine Ret.go (hdc) rfl rfl ?_) | (refine Ret.goQ (hdc) rfl rfl ?_))
      all_goals first | omega | exact iv hp.symm | trace_state
  · have hp : cC f ls r x = 0 := if_neg h1
    repeat' (first | (intro h; first | contradiction | omega | (conv => whnf) | skip) | (refine And.intro ?_ ?_) | (refine arith_ok ⟨by omega, by omega⟩ ?_) | (first | (refine draw_quiet hT mixed (by decide +kernel) ?_) | (refine draw_hard hT mixed (by decide +kernel) ?_)) | (refine Ret.go (specLives_ret f ls _ ho (by omega)) rfl rfl ?_) | (refine Ret.goQ (specLives_ret f ls _ ho (by omega)) rfl rfl ?_))
    all_goals first | omega | exact iv hp.symm | trace_state
attribute [local irreducible] cols cN cM cD cC
set_option maxRecDepth 100000 in
theorem specN_ret (f : Int) (ls : List Int) (r a : Int) (ho : okT f ls) (hr : okR r) (hx : f ≤ a ∧ a ≤ 151) : Ret Tryz.prog G 208 [Tb f ls, I r, I a] (I (cN f ls r a)) := by
  refine ret_of_body hT Tryz.func208 rfl ?_ rfl
  have h0 := ho.1
  unfold hdT at h0
  have hb := cN_bd ho hr (x := a) (by omega)
  repeat' (first | (intro h; first | contradiction | omega | (conv => whnf) | skip) | (refine And.intro ?_ ?_) | (refine arith_ok ⟨by omega, by omega⟩ ?_) | (first | (refine draw_quiet hT mixed (by decide +kernel) ?_) | (refine draw_hard hT mixed (by decide +kernel) ?_)) | fail)
  refine loop_rule hT (fun x : Int => a ≤ x ∧ x ≤ 151) 23 1 [1, 2, 3, 7, 8] (fun x => [I r, I a, .ptr 0 0, I (cN f ls r a - cN f ls r x), I x]) (fun _ => [.cells [I f, Ri ls]]) (fun x => (151 - x).toNat) (a) (Nat.le_of_ble_eq_true rfl) ?_ ?_ ?_
  · exact ⟨Int.le_refl _, hx.2⟩
  · (first | (refine ⟨rfl, [], ?_, ?_⟩; all_goals (repeat' (first | exact rfl | exact trivial | (with_reducible assumption) | refine And.intro ?_ ?_)); all_goals (first | omega | assumption | ((repeat' (first | omega | exact rfl | exact trivial | (with_reducible assumption) | refine And.intro ?_ ?_ | omega | assumption)); done)); done) | (refine ⟨rfl, [some 1], ?_, ?_⟩; all_goals (repeat' (first | exact rfl | exact trivial | (with_reducible assumption) | refine And.intro ?_ ?_)); all_goals (first | omega | assumption | ((repeat' (first | omega | exact rfl | exact trivial | (with_reducible assumption) | refine And.intro ?_ ?_ | omega | assumption)); done)); done) | (refine ⟨rfl, [some 2], ?_, ?_⟩; all_goals (repeat' (first | exact rfl | exact trivial | (with_reducible assumption) | refine And.intro ?_ ?_)); all_goals (first | omega | assumption | ((repeat' (first | omega | exact rfl | exact trivial | (with_reducible assumption) | refine And.intro ?_ ?_ | omega | assumption)); done)); done) | (refine ⟨rfl, [some 3], ?_, ?_⟩; all_goals (repeat' (first | exact rfl | exact trivial | (with_reducible assumption) | refine And.intro ?_ ?_)); all_goals (first | omega | assumption | ((repeat' (first | omega | exact rfl | exact trivial | (with_reducible assumption) | refine And.intro ?_ ?_ | omega | assumption)); done)); done) | (refine ⟨rfl, [some 0], ?_, ?_⟩; all_goals (repeat' (first | exact rfl | exact trivial | (with_reducible assumption) | refine And.intro ?_ ?_)); all_goals (first | omega | assumption | ((repeat' (first | omega | exact rfl | exact trivial | (with_reducible assumption) | refine And.intro ?_ ?_ | omega | assumption)); done)); done) | (refine ⟨rfl, [some 4], ?_, ?_⟩; all_goals (repeat' (first | exact rfl | exact trivial | (with_reducible assumption) | refine And.intro ?_ ?_)); all_goals (first | omega | assumption | ((repeat' (first | omega | exact rfl | exact trivial | (with_reducible assumption) | refine And.intro ?_ ?_ | omega | assumption)); done)); done) | (refine ⟨rfl, [some 5], ?_, ?_⟩; all_goals (repeat' (first | exact rfl | exact trivial | (with_reducible assumption) | refine And.intro ?_ ?_)); all_goals (first | omega | assumption | ((repeat' (first | omega | exact rfl | exact trivial | (with_reducible assumption) | refine And.intro ?_ ?_ | omega | assumption)); done)); done) | (refine ⟨rfl, [some 6], ?_, ?_⟩; all_goals (repeat' (first | exact rfl | exact trivial | (with_reducible assumption) | refine And.intro ?_ ?_)); all_goals (first | omega | assumption | ((repeat' (first | omega | exact rfl | exact trivial | (with_reducible assumption) | refine And.intro ?_ ?_ | omega | assumption)); done)); done))
  · rintro x ⟨h1, h2⟩
    have hbx := cN_bd ho hr (x := x) (by omega)
    by_cases he : x < f + ls.length - 1
    · have hs := cN_step (f := f) (ls := ls) (r := r) (x := x) (by omega)
      have hb1 := cN_bd ho hr (x := x + 1) (by omega)
      have hd := cD_bd ho hr x
      repeat' (first | (intro h; first | contradiction | omega | (conv => whnf) | skip) | (refine And.intro ?_ ?_) | (refine arith_ok ⟨by omega, by omega⟩ ?_) | (first | (refine draw_quiet hT mixed (by decide +kernel) ?_) | (refine draw_hard hT mixed (by decide +kernel) ?_)) | (refine Ret.go (specEnd_ret f ls ho) rfl rfl ?_) | (refine Ret.goQ (specEnd_ret f ls ho) rfl rfl ?_) | (refine Ret.go (specD_ret f ls r _ ho hr (by omega)) rfl rfl ?_) | (refine Ret.goQ (specD_ret f ls r _ ho hr (by omega)) rfl rfl ?_))
      all_goals first | omega | ((conv => whnf); refine ⟨x + 1, by omega, ?_, by omega⟩; (first | (refine ⟨rfl, [], ?_, ?_⟩; all_goals (repeat' (first | exact rfl | exact trivial | (with_reducible assumption) | refine And.intro ?_ ?_)); all_goals (first | omega | assumption | ((repeat' (first | omega | exact rfl | exact trivial | (with_reducible assumption) | refine And.intro ?_ ?_ | omega | assumption)); done)); done) | (refine ⟨rfl, [some 1], ?_, ?_⟩; all_goals (repeat' (first | exact rfl | exact trivial | (with_reducible assumption) | refine And.intro ?_ ?_)); all_goals (first | omega | assumption | ((repeat' (first | omega | exact rfl | exact trivial | (with_reducible assumption) | refine And.intro ?_ ?_ | omega | assumption)); done)); done) | (refine ⟨rfl, [some 2], ?_, ?_⟩; all_goals (repeat' (first | exact rfl | exact trivial | (with_reducible assumption) | refine And.intro ?_ ?_)); all_goals (first | omega | assumption | ((repeat' (first | omega | exact rfl | exact trivial | (with_reducible assumption) | refine And.intro ?_ ?_ | omega | assumption)); done)); done) | (refine ⟨rfl, [some 3], ?_, ?_⟩; all_goals (repeat' (first | exact rfl | exact trivial | (with_reducible assumption) | refine And.intro ?_ ?_)); all_goals (first | omega | assumption | ((repeat' (first | omega | exact rfl | exact trivial | (with_reducible assumption) | refine And.intro ?_ ?_ | omega | assumption)); done)); done) | (refine ⟨rfl, [some 0], ?_, ?_⟩; all_goals (repeat' (first | exact rfl | exact trivial | (with_reducible assumption) | refine And.intro ?_ ?_)); all_goals (first | omega | assumption | ((repeat' (first | omega | exact rfl | exact trivial | (with_reducible assumption) | refine And.intro ?_ ?_ | omega | assumption)); done)); done) | (refine ⟨rfl, [some 4], ?_, ?_⟩; all_goals (repeat' (first | exact rfl | exact trivial | (with_reducible assumption) | refine And.intro ?_ ?_)); all_goals (first | omega | assumption | ((repeat' (first | omega | exact rfl | exact trivial | (with_reducible assumption) | refine And.intro ?_ ?_ | omega | assumption)); done)); done) | (refine ⟨rfl, [some 5], ?_, ?_⟩; all_goals (repeat' (first | exact rfl | exact trivial | (with_reducible assumption) | refine And.intro ?_ ?_)); all_goals (first | omega | assumption | ((repeat' (first | omega | exact rfl | exact trivial | (with_reducible assumption) | refine And.intro ?_ ?_ | omega | assumption)); done)); done) | (refine ⟨rfl, [some 6], ?_, ?_⟩; all_goals (repeat' (first | exact rfl | exact trivial | (with_reducible assumption) | refine And.intro ?_ ?_)); all_goals (first | omega | assumption | ((repeat' (first | omega | exact rfl | exact trivial | (with_reducible assumption) | refine And.intro ?_ ?_ | omega | assumption)); done)); done))) | trace_state
    · have hz := cN_end (r := r) ho (x := x) (by omega)
      repeat' (first | (intro h; first | contradiction | omega | (conv => whnf) | skip) | (refine And.intro ?_ ?_) | (refine arith_ok ⟨by omega, by omega⟩ ?_) | (first | (refine draw_quiet hT mixed (by decide +kernel) ?_) | (refine draw_hard hT mixed (by decide +kernel) ?_)) | (refine Ret.go (specEnd_ret f ls ho) rfl rfl ?_) | (refine Ret.goQ (specEnd_ret f ls ho) rfl rfl ?_))
      all_goals first | omega | (exact iv (by omega)) | trace_state
set_option maxRecDepth 100000 in
theorem specM_ret (f : Int) (ls : List Int) (r a : Int) (ho : okT f ls) (hr : okR r) (hx : f ≤ a ∧ a ≤ 151) : Ret Tryz.prog G 207 [Tb f ls, I r, I a] (I (cM f ls r a)) := by
  refine ret_of_body hT Tryz.func207 rfl ?_ rfl
  have h0 := ho.1
  unfold hdT at h0
  have hb := cM_bd ho hr (x := a) (by omega) hx.1
  repeat' (first | (intro h; first | contradiction | omega | (conv => whnf) | skip) | (refine And.intro ?_ ?_) | (refine arith_ok ⟨by omega, by omega⟩ ?_) | (first | (refine draw_quiet hT mixed (by decide +kernel) ?_) | (refine draw_hard hT mixed (by decide +kernel) ?_)) | fail)
  refine loop_rule hT (fun x : Int => a ≤ x ∧ x ≤ 151) 23 1 [1, 2, 3, 7, 8] (fun x => [I r, I a, .ptr 0 0, I (cM f ls r a - cM f ls r x), I x]) (fun _ => [.cells [I f, Ri ls]]) (fun x => (151 - x).toNat) (a) (Nat.le_of_ble_eq_true rfl) ?_ ?_ ?_
  · exact ⟨Int.le_refl _, hx.2⟩
  · (first | (refine ⟨rfl, [], ?_, ?_⟩; all_goals (repeat' (first | exact rfl | exact trivial | (with_reducible assumption) | refine And.intro ?_ ?_)); all_goals (first | omega | assumption | ((repeat' (first | omega | exact rfl | exact trivial | (with_reducible assumption) | refine And.intro ?_ ?_ | omega | assumption)); done)); done) | (refine ⟨rfl, [some 1], ?_, ?_⟩; all_goals (repeat' (first | exact rfl | exact trivial | (with_reducible assumption) | refine And.intro ?_ ?_)); all_goals (first | omega | assumption | ((repeat' (first | omega | exact rfl | exact trivial | (with_reducible assumption) | refine And.intro ?_ ?_ | omega | assumption)); done)); done) | (refine ⟨rfl, [some 2], ?_, ?_⟩; all_goals (repeat' (first | exact rfl | exact trivial | (with_reducible assumption) | refine And.intro ?_ ?_)); all_goals (first | omega | assumption | ((repeat' (first | omega | exact rfl | exact trivial | (with_reducible assumption) | refine And.intro ?_ ?_ | omega | assumption)); done)); done) | (refine ⟨rfl, [some 3], ?_, ?_⟩; all_goals (repeat' (first | exact rfl | exact trivial | (with_reducible assumption) | refine And.intro ?_ ?_)); all_goals (first | omega | assumption | ((repeat' (first | omega | exact rfl | exact trivial | (with_reducible assumption) | refine And.intro ?_ ?_ | omega | assumption)); done)); done) | (refine ⟨rfl, [some 0], ?_, ?_⟩; all_goals (repeat' (first | exact rfl | exact trivial | (with_reducible assumption) | refine And.intro ?_ ?_)); all_goals (first | omega | assumption | ((repeat' (first | omega | exact rfl | exact trivial | (with_reducible assumption) | refine And.intro ?_ ?_ | omega | assumption)); done)); done) | (refine ⟨rfl, [some 4], ?_, ?_⟩; all_goals (repeat' (first | exact rfl | exact trivial | (with_reducible assumption) | refine And.intro ?_ ?_)); all_goals (first | omega | assumption | ((repeat' (first | omega | exact rfl | exact trivial | (with_reducible assumption) | refine And.intro ?_ ?_ | omega | assumption)); done)); done) | (refine ⟨rfl, [some 5], ?_, ?_⟩; all_goals (repeat' (first | exact rfl | exact trivial | (with_reducible assumption) | refine And.intro ?_ ?_)); all_goals (first | omega | assumption | ((repeat' (first | omega | exact rfl | exact trivial | (with_reducible assumption) | refine And.intro ?_ ?_ | omega | assumption)); done)); done) | (refine ⟨rfl, [some 6], ?_, ?_⟩; all_goals (repeat' (first | exact rfl | exact trivial | (with_reducible assumption) | refine And.intro ?_ ?_)); all_goals (first | omega | assumption | ((repeat' (first | omega | exact rfl | exact trivial | (with_reducible assumption) | refine And.intro ?_ ?_ | omega | assumption)); done)); done))
  · rintro x ⟨h1, h2⟩
    have hbx := cM_bd ho hr (x := x) (by omega) (by omega)
    by_cases he : x < f + ls.length - 1
    · have hs := cM_step (f := f) (ls := ls) (r := r) (x := x) (by omega)
      have hb1 := cM_bd ho hr (x := x + 1) (by omega) (by omega)
      have hd := cC_bd ho hr (x := x) (by omega)
      repeat' (first | (intro h; first | contradiction | omega | (conv => whnf) | skip) | (refine And.intro ?_ ?_) | (refine arith_ok ⟨by omega, by omega⟩ ?_) | (first | (refine draw_quiet hT mixed (by decide +kernel) ?_) | (refine draw_hard hT mixed (by decide +kernel) ?_)) | (refine Ret.go (specEnd_ret f ls ho) rfl rfl ?_) | (refine Ret.goQ (specEnd_ret f ls ho) rfl rfl ?_) | (refine Ret.go (specC_ret f ls r _ ho hr (by omega)) rfl rfl ?_) | (refine Ret.goQ (specC_ret f ls r _ ho hr (by omega)) rfl rfl ?_))
      all_goals first | omega | ((conv => whnf); refine ⟨x + 1, by omega, ?_, by omega⟩; (first | (refine ⟨rfl, [], ?_, ?_⟩; all_goals (repeat' (first | exact rfl | exact trivial | (with_reducible assumption) | refine And.intro ?_ ?_)); all_goals (first | omega | assumption | ((repeat' (first | omega | exact rfl | exact trivial | (with_reducible assumption) | refine And.intro ?_ ?_ | omega | assumption)); done)); done) | (refine ⟨rfl, [some 1], ?_, ?_⟩; all_goals (repeat' (first | exact rfl | exact trivial | (with_reducible assumption) | refine And.intro ?_ ?_)); all_goals (first | omega | assumption | ((repeat' (first | omega | exact rfl | exact trivial | (with_reducible assumption) | refine And.intro ?_ ?_ | omega | assumption)); done)); done) | (refine ⟨rfl, [some 2], ?_, ?_⟩; all_goals (repeat' (first | exact rfl | exact trivial | (with_reducible assumption) | refine And.intro ?_ ?_)); all_goals (first | omega | assumption | ((repeat' (first | omega | exact rfl | exact trivial | (with_reducible assumption) | refine And.intro ?_ ?_ | omega | assumption)); done)); done) | (refine ⟨rfl, [some 3], ?_, ?_⟩; all_goals (repeat' (first | exact rfl | exact trivial | (with_reducible assumption) | refine And.intro ?_ ?_)); all_goals (first | omega | assumption | ((repeat' (first | omega | exact rfl | exact trivial | (with_reducible assumption) | refine And.intro ?_ ?_ | omega | assumption)); done)); done) | (refine ⟨rfl, [some 0], ?_, ?_⟩; all_goals (repeat' (first | exact rfl | exact trivial | (with_reducible assumption) | refine And.intro ?_ ?_)); all_goals (first | omega | assumption | ((repeat' (first | omega | exact rfl | exact trivial | (with_reducible assumption) | refine And.intro ?_ ?_ | omega | assumption)); done)); done) | (refine ⟨rfl, [some 4], ?_, ?_⟩; all_goals (repeat' (first | exact rfl | exact trivial | (with_reducible assumption) | refine And.intro ?_ ?_)); all_goals (first | omega | assumption | ((repeat' (first | omega | exact rfl | exact trivial | (with_reducible assumption) | refine And.intro ?_ ?_ | omega | assumption)); done)); done) | (refine ⟨rfl, [some 5], ?_, ?_⟩; all_goals (repeat' (first | exact rfl | exact trivial | (with_reducible assumption) | refine And.intro ?_ ?_)); all_goals (first | omega | assumption | ((repeat' (first | omega | exact rfl | exact trivial | (with_reducible assumption) | refine And.intro ?_ ?_ | omega | assumption)); done)); done) | (refine ⟨rfl, [some 6], ?_, ?_⟩; all_goals (repeat' (first | exact rfl | exact trivial | (with_reducible assumption) | refine And.intro ?_ ?_)); all_goals (first | omega | assumption | ((repeat' (first | omega | exact rfl | exact trivial | (with_reducible assumption) | refine And.intro ?_ ?_ | omega | assumption)); done)); done))) | trace_state
    · have hz := cM_end (r := r) ho (x := x) (by omega)
      repeat' (first | (intro h; first | contradiction | omega | (conv => whnf) | skip) | (refine And.intro ?_ ?_) | (refine arith_ok ⟨by omega, by omega⟩ ?_) | (first | (refine draw_quiet hT mixed (by decide +kernel) ?_) | (refine draw_hard hT mixed (by decide +kernel) ?_)) | (refine Ret.go (specEnd_ret f ls ho) rfl rfl ?_) | (refine Ret.goQ (specEnd_ret f ls ho) rfl rfl ?_))
      all_goals first | omega | (exact iv (by omega)) | trace_state
/-! Parts by the reference -/
set_option maxHeartbeats 4000000 in
set_option maxRecDepth 100000 in
theorem specTop_ret (f : Int) (ls : List Int) (r k a n : Int) (hb : okB f ls r) (ha : f ≤ a ∧ a ≤ 151) (hn : 0 ≤ n) (hn2 : k ≠ 0 → a + n ≤ 151) : Ret Tryz.prog G 191 [Tb f ls, I r, I k, I a, I n] (I (top k (cM f ls r a) (cM f ls r (a + n)) (cD f ls r (a + n)))) := by
  refine ret_of_body hT Tryz.func191 rfl ?_ rfl
  have h0 := hb.1.1
  unfold hdT at h0
  have c1 := inC_all hb (x := a) ha.1
  have c2 := inC_all hb (x := a + n) (by omega)
  obtain ⟨c11, c12, c13⟩ := c1
  obtain ⟨c21, c22, c23⟩ := c2
  unfold top
  by_cases hk : k = 0
  · rw [if_pos hk]
    repeat' (first | (intro h; first | contradiction | omega | (conv => whnf) | skip) | (refine And.intro ?_ ?_) | (refine arith_ok ⟨by omega, by omega⟩ ?_) | (first | (refine draw_quiet hT mixed (by decide +kernel) ?_) | (refine draw_hard hT mixed (by decide +kernel) ?_)) | (refine Ret.go (specM_ret f ls r _ hb.1 hb.2 (by omega)) rfl rfl ?_) | (refine Ret.goQ (specM_ret f ls r _ hb.1 hb.2 (by omega)) rfl rfl ?_) | (refine Ret.go (specD_ret f ls r _ hb.1 hb.2 (by omega)) rfl rfl ?_) | (refine Ret.goQ (specD_ret f ls r _ hb.1 hb.2 (by omega)) rfl rfl ?_))
    all_goals first | rfl | omega | trace_state
  · have hn3 := hn2 hk
    rw [if_neg hk]
    by_cases hk1 : k = 1
    · rw [if_pos hk1]
      repeat' (first | (intro h; first | contradiction | omega | (conv => whnf) | skip) | (refine And.intro ?_ ?_) | (refine arith_ok ⟨by omega, by omega⟩ ?_) | (first | (refine draw_quiet hT mixed (by decide +kernel) ?_) | (refine draw_hard hT mixed (by decide +kernel) ?_)) | (refine Ret.go (specM_ret f ls r _ hb.1 hb.2 (by omega)) rfl rfl ?_) | (refine Ret.goQ (specM_ret f ls r _ hb.1 hb.2 (by omega)) rfl rfl ?_) | (refine Ret.go (specD_ret f ls r _ hb.1 hb.2 (by omega)) rfl rfl ?_) | (refine Ret.goQ (specD_ret f ls r _ hb.1 hb.2 (by omega)) rfl rfl ?_))
      all_goals first | rfl | omega | trace_state
    · rw [if_neg hk1]
      by_cases hk2 : k = 2
      · rw [if_pos hk2]
        repeat' (first | (intro h; first | contradiction | omega | (conv => whnf) | skip) | (refine And.intro ?_ ?_) | (refine arith_ok ⟨by omega, by omega⟩ ?_) | (first | (refine draw_quiet hT mixed (by decide +kernel) ?_) | (refine draw_hard hT mixed (by decide +kernel) ?_)) | (refine Ret.go (specM_ret f ls r _ hb.1 hb.2 (by omega)) rfl rfl ?_) | (refine Ret.goQ (specM_ret f ls r _ hb.1 hb.2 (by omega)) rfl rfl ?_) | (refine Ret.go (specD_ret f ls r _ hb.1 hb.2 (by omega)) rfl rfl ?_) | (refine Ret.goQ (specD_ret f ls r _ hb.1 hb.2 (by omega)) rfl rfl ?_))
        all_goals first | rfl | omega | trace_state
      · rw [if_neg hk2]
        repeat' (first | (intro h; first | contradiction | omega | (conv => whnf) | skip) | (refine And.intro ?_ ?_) | (refine arith_ok ⟨by omega, by omega⟩ ?_) | (first | (refine draw_quiet hT mixed (by decide +kernel) ?_) | (refine draw_hard hT mixed (by decide +kernel) ?_)) | (refine Ret.go (specM_ret f ls r _ hb.1 hb.2 (by omega)) rfl rfl ?_) | (refine Ret.goQ (specM_ret f ls r _ hb.1 hb.2 (by omega)) rfl rfl ?_) | (refine Ret.go (specD_ret f ls r _ hb.1 hb.2 (by omega)) rfl rfl ?_) | (refine Ret.goQ (specD_ret f ls r _ hb.1 hb.2 (by omega)) rfl rfl ?_))
        all_goals first | rfl | omega | trace_state
set_option maxRecDepth 100000 in
theorem specBase_ret (f : Int) (ls : List Int) (r k a n : Int) (hb : okB f ls r) (ha : f ≤ a ∧ a ≤ 151) (hn : 0 ≤ n) (hn2 : k ≠ 0 → a + n ≤ 151) : Ret Tryz.prog G 192 [Tb f ls, I r, I k, I a, I n] (I (base k (cN f ls r a) (cN f ls r (a + n)))) := by
  refine ret_of_body hT Tryz.func192 rfl ?_ rfl
  have h0 := hb.1.1
  unfold hdT at h0
  have c1 := inC_all hb (x := a) ha.1
  have c2 := inC_all hb (x := a + n) (by omega)
  obtain ⟨c11, c12, c13⟩ := c1
  obtain ⟨c21, c22, c23⟩ := c2
  unfold base
  by_cases hk : k = 0
  · rw [if_pos hk]
    repeat' (first | (intro h; first | contradiction | omega | (conv => whnf) | skip) | (refine And.intro ?_ ?_) | (refine arith_ok ⟨by omega, by omega⟩ ?_) | (first | (refine draw_quiet hT mixed (by decide +kernel) ?_) | (refine draw_hard hT mixed (by decide +kernel) ?_)) | (refine Ret.go (specN_ret f ls r _ hb.1 hb.2 (by omega)) rfl rfl ?_) | (refine Ret.goQ (specN_ret f ls r _ hb.1 hb.2 (by omega)) rfl rfl ?_))
    all_goals first | rfl | omega | trace_state
  · have hn3 := hn2 hk
    rw [if_neg hk]
    repeat' (first | (intro h; first | contradiction | omega | (conv => whnf) | skip) | (refine And.intro ?_ ?_) | (refine arith_ok ⟨by omega, by omega⟩ ?_) | (first | (refine draw_quiet hT mixed (by decide +kernel) ?_) | (refine draw_hard hT mixed (by decide +kernel) ?_)) | (refine Ret.go (specN_ret f ls r _ hb.1 hb.2 (by omega)) rfl rfl ?_) | (refine Ret.goQ (specN_ret f ls r _ hb.1 hb.2 (by omega)) rfl rfl ?_))
    all_goals first | rfl | omega | trace_state
/-! Premiums -/
theorem pTop_zero (f : Int) (ls : List Int) (r k a y : Int) : pTop f ls r k a y 0 = top k (cM f ls r a) (cM f ls r (a + y)) (cD f ls r (a + y)) := by unfold pTop; rw [Int.add_zero]
theorem pBase_zero (f : Int) (ls : List Int) (r k a y : Int) : pBase f ls r k a y 0 = base k (cN f ls r a) (cN f ls r (a + y)) := by unfold pBase; rw [Int.add_zero]
def netP (f : Int) (ls : List Int) (r k a y s : Int) : Int := cdiv (s * pTop f ls r k a y 0) (pBase f ls r k a y 0)
def offP (f : Int) (ls : List Int) (r k a y s l : Int) : Int := netP f ls r k a y s + cdiv (netP f ls r k a y s * l) 1000
theorem dur_pos {f : Int} {ls : List Int} {r k a y s l : Int} (ho : okP f ls r k a y s l) : 0 < dur f ls k a y ∧ 1 ≤ cD f ls r a := by
  have hd := ho.2.2.2 0 (by omega)
  rw [show a + ((0 : Nat) : Int) = a by omega] at hd
  have hd0 := cD_bd ho.1.1 ho.1.2 a
  have h1 := ho.2.1
  unfold okA at h1
  refine ⟨?_, by omega⟩
  unfold dur
  split
  · by_cases he : f + ls.length - 1 ≤ a
    · exact absurd (cD_end ho.1.1 he) hd
    · omega
  · omega
theorem net_MD {f : Int} {ls : List Int} {r k a y s l : Int} (ho : okP f ls r k a y s l) : MD s (pTop f ls r k a y 0) (pBase f ls r k a y 0) ∧ (0 ≤ netP f ls r k a y s ∧ netP f ls r k a y s ≤ s) ∧ 1 ≤ s ∧ s ≤ 100000000 := by
  have hp := dur_pos ho
  have hb := pt_bd ho (q := 0) ⟨Int.le_refl _, hp.1⟩
  rw [Int.add_zero] at hb
  have hd := cD_bd ho.1.1 ho.1.2 a
  have h1 := ho.2.1
  unfold okA at h1
  exact ⟨⟨by omega, by omega, by omega, by omega⟩, cdiv_le (by omega) (by omega) (by omega) (by omega), by omega, by omega⟩
attribute [local irreducible] pTop pBase netP
end Go.Proofs.YtenofbabiacacaaGreat
