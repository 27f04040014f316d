/-
  Discounts and commutation columns: what the functions return. No conditions but those in the statements.
-/
import Derived.Test.YtenofbabiacacaaGreatSa
set_option linter.unusedVariables false
set_option linter.unusedSimpArgs false
namespace Go.Proofs.YtenofbabiacacaaGreat
open Go.AE

attribute [local irreducible] CallA LoopA DrawA CallQ arithK quoK remK eqK
/-! Tables -/
def tg {α : Type} (n : Nat) (f : Nat → α) : List α := (List.range n).map f
theorem tg_len {α : Type} (n : Nat) (f : Nat → α) : (tg n f).length = n := by simp [tg]
theorem tg_get {α : Type} {n : Nat} {f : Nat → α} {c : Nat} {d : α} (h : c < n) : (tg n f).getD c d = f c := by
  rw [tg, List.getD_eq_getElem?_getD, List.getElem?_map, List.getElem?_range h]; rfl
theorem tg_ext {α : Type} {n : Nat} {f g : Nat → α} (h : ∀ c, c < n → f c = g c) : tg n f = tg n g := List.map_congr_left fun c hc => h c (List.mem_range.1 hc)
theorem tg_set {α : Type} (d : α) {n : Nat} {f : Nat → α} {k : Nat} {v : α} : (tg n f).set k v = tg n fun c => if c = k then v else f c := by
  refine ext_getD d (by rw [List.length_set, tg_len, tg_len]) fun i hi => ?_
  rw [List.length_set, tg_len] at hi
  rw [getD_set, tg_len, tg_get hi, tg_get hi]
  by_cases h : i = k
  · rw [if_pos h, if_pos ⟨h.symm, by omega⟩]
  · rw [if_neg h, if_neg fun e => h e.1.symm]
theorem tg_rep {α : Type} (d : α) (n : Nat) : List.replicate n d = tg n fun _ => d := by
  refine ext_getD d (by rw [List.length_replicate, tg_len]) fun i hi => ?_
  rw [List.length_replicate] at hi
  rw [tg_get hi, List.getD_eq_getElem?_getD, List.getElem?_replicate, if_pos hi]; rfl
theorem tg_snoc {α : Type} (n : Nat) (f : Nat → α) : tg n f ++ [f n] = tg (n + 1) f := by simp [tg, List.range_succ]
/-! Discounts -/
def disc (r : Int) : Nat → Int
  | 0 => 1000000000
  | k + 1 => disc r k * 1000 / (1000 + r)
theorem disc_bd {r : Int} (hr : 0 ≤ r ∧ r ≤ 200) : ∀ k, 0 ≤ disc r k ∧ disc r k ≤ 1000000000
  | 0 => by simp [disc]
  | k + 1 => by
    have ih := disc_bd hr k
    simp only [disc]
    refine ⟨Int.ediv_nonneg (by omega) (by omega), ?_⟩
    have h1 : disc r k * 1000 / (1000 + r) ≤ disc r k := by
      refine Int.ediv_le_of_le_mul (by omega) ?_
      exact Int.mul_le_mul_of_nonneg_left (by omega) ih.1
    omega
theorem disc_next (r : Int) (k : Nat) : disc r (k + 1) = disc r k * 1000 / (1000 + r) := rfl
abbrev okR (r : Int) : Prop := 0 ≤ r ∧ r ≤ 200
attribute [local irreducible] disc
set_option maxRecDepth 100000 in
theorem discounts_call (r : Int) (hr : okR r) : CallA Tryz.prog G 184 [I r] [] (fun v J => v = .sl 0 1 121 ∧ J = [Di (tg 121 (disc r))]) := by
  refine CallA.ends (callA_of_body hT Tryz.func184 rfl ?_)
  have h0 : (1000000000 : Int) = disc r 0 := by unfold disc; rfl
  repeat' (first | (intro h; first | contradiction | omega | (conv => whnf) | skip) | (refine And.intro ?_ ?_) | (refine arith_ok ⟨by omega, by omega⟩ ?_) | (first | (refine draw_quiet hT mixed (by decide +kernel) ?_) | (refine draw_hard hT mixed (by decide +kernel) ?_)) | fail)
  refine loop_rule hT (fun k : Nat => k ≤ 121) 19 1 [0, 3, 4, 6] (fun k => [I r, .sl 1 1 k, I (disc r k), I k]) (fun k => [.dead, Di (tg k (disc r))]) (fun k => 121 - k) (0) (Nat.le_of_ble_eq_true rfl) ?_ ?_ ?_
  · exact Nat.zero_le _
  · (refine ⟨rfl, [some 0], ?_, ?_⟩; all_goals (repeat' (first | exact rfl | exact trivial | (with_reducible assumption) | refine And.intro ?_ ?_)); all_goals (first | omega | assumption | ((repeat' (first | exact h0 | exact rfl | exact trivial | (with_reducible assumption) | refine And.intro ?_ ?_ | omega | assumption)); done)); done)
  · rintro k hk
    have hb := disc_bd hr k
    have hl := tg_len k (disc r)
    have hl1 := tg_len (k + 1) (disc r)
    have hsn := tg_snoc k (disc r)
    have hl2 : (tg k (disc r) ++ [disc r k]).length = k + 1 := by rw [hsn, hl1]
    by_cases hkk : k < 121
    · repeat' (first | (intro h; first | contradiction | omega | (conv => whnf) | skip) | (refine And.intro ?_ ?_) | (refine arith_ok ⟨by omega, by omega⟩ ?_) | (first | (refine draw_quiet hT mixed (by decide +kernel) ?_) | (refine draw_hard hT mixed (by decide +kernel) ?_)) | (refine quo_ok ⟨by omega, by omega⟩ (by omega) (by omega) ?_) | (refine rem_ok (by omega) (by omega) ?_))
      all_goals first | omega | (rw [hl]; show (k + 1) * 8 ≤ _; omega) | rfl | skip
      all_goals first | exact hl.symm | ((conv => whnf); refine ⟨k + 1, by omega, ?_, by omega⟩; (refine ⟨rfl, [some 3], ?_, ?_⟩; all_goals (repeat' (first | exact rfl | exact trivial | (with_reducible assumption) | refine And.intro ?_ ?_)); all_goals (first | omega | assumption | ((repeat' (first | first | exact hl2 | exact congrArg (D.ints .i64) hsn | exact (disc_next r k).symm | rfl | exact rfl | exact trivial | (with_reducible assumption) | refine And.intro ?_ ?_ | omega | assumption)); done)); done)) | trace_state
    · obtain rfl : k = 121 := by omega
      repeat' (first | (intro h; first | contradiction | omega | (conv => whnf) | skip) | (refine And.intro ?_ ?_) | (refine arith_ok ⟨by omega, by omega⟩ ?_) | (first | (refine draw_quiet hT mixed (by decide +kernel) ?_) | (refine draw_hard hT mixed (by decide +kernel) ?_)) | fail)
      all_goals first | omega | skip
      refine ⟨[some 1], .sl 0 1 121, [Di (tg 121 (disc r))], ?_, ?_, ⟨rfl, rfl⟩⟩ <;> (repeat' (first | exact rfl | exact trivial | omega | refine And.intro ?_ ?_))
set_option maxRecDepth 100000 in
theorem specDisc_ret (r : Int) (k : Nat) (hr : okR r) (hk : k ≤ 1000) : Ret Tryz.prog G 189 [I r, I k] (I (disc r k)) := by
  refine ret_of_body hT Tryz.func189 rfl ?_ rfl
  have h0 : (1000000000 : Int) = disc r 0 := by unfold disc; rfl
  repeat' (first | (intro h; first | contradiction | omega | (conv => whnf) | skip) | (refine And.intro ?_ ?_) | (refine arith_ok ⟨by omega, by omega⟩ ?_) | (first | (refine draw_quiet hT mixed (by decide +kernel) ?_) | (refine draw_hard hT mixed (by decide +kernel) ?_)) | fail)
  refine loop_rule hT (fun i : Nat => i ≤ k) 18 0 [0, 1, 5, 6] (fun i => [I r, I k, I (disc r i), I i]) (fun _ => []) (fun i => k - i) (0) (Nat.le_of_ble_eq_true rfl) ?_ ?_ ?_
  · exact Nat.zero_le _
  · (first | (refine ⟨rfl, [], ?_, ?_⟩; all_goals (repeat' (first | exact rfl | exact trivial | (with_reducible assumption) | refine And.intro ?_ ?_)); all_goals (first | omega | assumption | ((repeat' (first | exact h0 | exact rfl | exact trivial | (with_reducible assumption) | refine And.intro ?_ ?_ | omega | assumption)); done)); done) | (refine ⟨rfl, [some 1], ?_, ?_⟩; all_goals (repeat' (first | exact rfl | exact trivial | (with_reducible assumption) | refine And.intro ?_ ?_)); all_goals (first | omega | assumption | ((repeat' (first | exact h0 | exact rfl | exact trivial | (with_reducible assumption) | refine And.intro ?_ ?_ | omega | assumption)); done)); done) | (refine ⟨rfl, [some 2], ?_, ?_⟩; all_goals (repeat' (first | exact rfl | exact trivial | (with_reducible assumption) | refine And.intro ?_ ?_)); all_goals (first | omega | assumption | ((repeat' (first | exact h0 | exact rfl | exact trivial | (with_reducible assumption) | refine And.intro ?_ ?_ | omega | assumption)); done)); done) | (refine ⟨rfl, [some 3], ?_, ?_⟩; all_goals (repeat' (first | exact rfl | exact trivial | (with_reducible assumption) | refine And.intro ?_ ?_)); all_goals (first | omega | assumption | ((repeat' (first | exact h0 | exact rfl | exact trivial | (with_reducible assumption) | refine And.intro ?_ ?_ | omega | assumption)); done)); done) | (refine ⟨rfl, [some 0], ?_, ?_⟩; all_goals (repeat' (first | exact rfl | exact trivial | (with_reducible assumption) | refine And.intro ?_ ?_)); all_goals (first | omega | assumption | ((repeat' (first | exact h0 | exact rfl | exact trivial | (with_reducible assumption) | refine And.intro ?_ ?_ | omega | assumption)); done)); done) | (refine ⟨rfl, [some 4], ?_, ?_⟩; all_goals (repeat' (first | exact rfl | exact trivial | (with_reducible assumption) | refine And.intro ?_ ?_)); all_goals (first | omega | assumption | ((repeat' (first | exact h0 | exact rfl | exact trivial | (with_reducible assumption) | refine And.intro ?_ ?_ | omega | assumption)); done)); done) | (refine ⟨rfl, [some 5], ?_, ?_⟩; all_goals (repeat' (first | exact rfl | exact trivial | (with_reducible assumption) | refine And.intro ?_ ?_)); all_goals (first | omega | assumption | ((repeat' (first | exact h0 | exact rfl | exact trivial | (with_reducible assumption) | refine And.intro ?_ ?_ | omega | assumption)); done)); done) | (refine ⟨rfl, [some 6], ?_, ?_⟩; all_goals (repeat' (first | exact rfl | exact trivial | (with_reducible assumption) | refine And.intro ?_ ?_)); all_goals (first | omega | assumption | ((repeat' (first | exact h0 | exact rfl | exact trivial | (with_reducible assumption) | refine And.intro ?_ ?_ | omega | assumption)); done)); done))
  · rintro i hi
    have hb := disc_bd hr i
    by_cases hik : i < k
    · repeat' (first | (intro h; first | contradiction | omega | (conv => whnf) | skip) | (refine And.intro ?_ ?_) | (refine arith_ok ⟨by omega, by omega⟩ ?_) | (first | (refine draw_quiet hT mixed (by decide +kernel) ?_) | (refine draw_hard hT mixed (by decide +kernel) ?_)) | (refine quo_ok ⟨by omega, by omega⟩ (by omega) (by omega) ?_) | (refine rem_ok (by omega) (by omega) ?_))
      all_goals first | omega | skip
      all_goals first | (refine ⟨i + 1, by omega, ?_, by omega⟩; (first | (refine ⟨rfl, [], ?_, ?_⟩; all_goals (repeat' (first | exact rfl | exact trivial | (with_reducible assumption) | refine And.intro ?_ ?_)); all_goals (first | omega | assumption | ((repeat' (first | exact (disc_next r i).symm | exact rfl | exact trivial | (with_reducible assumption) | refine And.intro ?_ ?_ | omega | assumption)); done)); done) | (refine ⟨rfl, [some 1], ?_, ?_⟩; all_goals (repeat' (first | exact rfl | exact trivial | (with_reducible assumption) | refine And.intro ?_ ?_)); all_goals (first | omega | assumption | ((repeat' (first | exact (disc_next r i).symm | exact rfl | exact trivial | (with_reducible assumption) | refine And.intro ?_ ?_ | omega | assumption)); done)); done) | (refine ⟨rfl, [some 2], ?_, ?_⟩; all_goals (repeat' (first | exact rfl | exact trivial | (with_reducible assumption) | refine And.intro ?_ ?_)); all_goals (first | omega | assumption | ((repeat' (first | exact (disc_next r i).symm | exact rfl | exact trivial | (with_reducible assumption) | refine And.intro ?_ ?_ | omega | assumption)); done)); done) | (refine ⟨rfl, [some 3], ?_, ?_⟩; all_goals (repeat' (first | exact rfl | exact trivial | (with_reducible assumption) | refine And.intro ?_ ?_)); all_goals (first | omega | assumption | ((repeat' (first | exact (disc_next r i).symm | exact rfl | exact trivial | (with_reducible assumption) | refine And.intro ?_ ?_ | omega | assumption)); done)); done) | (refine ⟨rfl, [some 0], ?_, ?_⟩; all_goals (repeat' (first | exact rfl | exact trivial | (with_reducible assumption) | refine And.intro ?_ ?_)); all_goals (first | omega | assumption | ((repeat' (first | exact (disc_next r i).symm | exact rfl | exact trivial | (with_reducible assumption) | refine And.intro ?_ ?_ | omega | assumption)); done)); done) | (refine ⟨rfl, [some 4], ?_, ?_⟩; all_goals (repeat' (first | exact rfl | exact trivial | (with_reducible assumption) | refine And.intro ?_ ?_)); all_goals (first | omega | assumption | ((repeat' (first | exact (disc_next r i).symm | exact rfl | exact trivial | (with_reducible assumption) | refine And.intro ?_ ?_ | omega | assumption)); done)); done) | (refine ⟨rfl, [some 5], ?_, ?_⟩; all_goals (repeat' (first | exact rfl | exact trivial | (with_reducible assumption) | refine And.intro ?_ ?_)); all_goals (first | omega | assumption | ((repeat' (first | exact (disc_next r i).symm | exact rfl | exact trivial | (with_reducible assumption) | refine And.intro ?_ ?_ | omega | assumption)); done)); done) | (refine ⟨rfl, [some 6], ?_, ?_⟩; all_goals (repeat' (first | exact rfl | exact trivial | (with_reducible assumption) | refine And.intro ?_ ?_)); all_goals (first | omega | assumption | ((repeat' (first | exact (disc_next r i).symm | exact rfl | exact trivial | (with_reducible assumption) | refine And.intro ?_ ?_ | omega | assumption)); done)); done))) | trace_state
    · obtain rfl : i = k := by omega
      repeat' (first | (intro h; first | contradiction | omega | (conv => whnf) | skip) | (refine And.intro ?_ ?_) | (refine arith_ok ⟨by omega, by omega⟩ ?_) | (first | (refine draw_quiet hT mixed (by decide +kernel) ?_) | (refine draw_hard hT mixed (by decide +kernel) ?_)) | (refine quo_ok ⟨by omega, by omega⟩ (by omega) (by omega) ?_) | (refine rem_ok (by omega) (by omega) ?_))
      all_goals first | omega | rfl | trace_state
/-! Columns -/
def cD (f : Int) (ls : List Int) (r x : Int) : Int := if x - f ≤ 120 then lv f ls x * disc r (x - f).toNat else 0
def cC (f : Int) (ls : List Int) (r x : Int) : Int := if x - f + 1 ≤ 120 then (lv f ls x - lv f ls (x + 1)) * disc r (x - f + 1).toNat else 0
theorem cD_bd {f : Int} {ls : List Int} {r : Int} (ho : okT f ls) (hr : okR r) (x : Int) : 0 ≤ cD f ls r x ∧ cD f ls r x ≤ 1000000000000000 := by
  unfold cD
  split
  · have h1 := lv_bd ho x
    have h2 := disc_bd hr (x - f).toNat
    have := mul_in h1.1 h1.2 h2.1 h2.2
    omega
  · omega
theorem cC_bd {f : Int} {ls : List Int} {r : Int} (ho : okT f ls) (hr : okR r) {x : Int} (hx : f ≤ x) : 0 ≤ cC f ls r x ∧ cC f ls r x ≤ 1000000000000000 := by
  unfold cC
  split
  · have h1 := lv_bd ho x
    have h3 := lv_bd ho (x + 1)
    have h4 := lv_mono ho hx
    have h2 := disc_bd hr (x - f + 1).toNat
    have := mul_in (a := lv f ls x - lv f ls (x + 1)) (A := 1000000) (by omega) (by omega) h2.1 h2.2
    omega
  · omega
/-- The sum over m ages down from 150. -/
def dn (g : Int → Int) : Nat → Int
  | 0 => 0
  | m + 1 => dn g m + g (150 - m)
theorem dn_bd {g : Int → Int} {B : Int} {m : Nat} (h : ∀ j : Nat, j < m → 0 ≤ g (150 - j) ∧ g (150 - j) ≤ B) : 0 ≤ dn g m ∧ dn g m ≤ m * B := by
  induction m with
  | zero => simp [dn]
  | succ m ih =>
    have h1 := ih fun j hj => h j (by omega)
    have h2 := h m (by omega)
    simp only [dn]
    have h3 : ((m + 1 : Nat) : Int) * B = m * B + B := by rw [Int.natCast_add, Int.add_mul]; simp
    omega
theorem dn_next (g : Int → Int) (m : Nat) : dn g (m + 1) = dn g m + g (150 - m) := rfl
def cN (f : Int) (ls : List Int) (r x : Int) : Int := dn (cD f ls r) (151 - x).toNat
def cM (f : Int) (ls : List Int) (r x : Int) : Int := dn (cC f ls r) (151 - x).toNat
theorem cN_bd {f : Int} {ls : List Int} {r : Int} (ho : okT f ls) (hr : okR r) {x : Int} (hx : 0 ≤ x) : 0 ≤ cN f ls r x ∧ cN f ls r x ≤ 151000000000000000 := by
  have := dn_bd (g := cD f ls r) (B := 1000000000000000) (m := (151 - x).toNat) fun j _ => cD_bd ho hr _
  unfold cN
  omega
theorem cM_bd {f : Int} {ls : List Int} {r : Int} (ho : okT f ls) (hr : okR r) {x : Int} (hf : 0 ≤ f) (hx : f ≤ x) : 0 ≤ cM f ls r x ∧ cM f ls r x ≤ 151000000000000000 := by
  have := dn_bd (g := cC f ls r) (B := 1000000000000000) (m := (151 - x).toNat) fun j hj => cC_bd ho hr (by omega)
  unfold cM
  omega
theorem cN_step {f : Int} {ls : List Int} {r x : Int} (hx : x ≤ 150) : cN f ls r x = cN f ls r (x + 1) + cD f ls r x := by
  unfold cN
  rw [show (151 - x).toNat = (151 - (x + 1)).toNat + 1 by omega, dn_next, show (150 : Int) - ((151 - (x + 1)).toNat : Nat) = x by omega]
theorem cM_step {f : Int} {ls : List Int} {r x : Int} (hx : x ≤ 150) : cM f ls r x = cM f ls r (x + 1) + cC f ls r x := by
  unfold cM
  rw [show (151 - x).toNat = (151 - (x + 1)).toNat + 1 by omega, dn_next, show (150 : Int) - ((151 - (x + 1)).toNat : Nat) = x by omega]
theorem cN_top (f : Int) (ls : List Int) (r : Int) : cN f ls r 151 = 0 := rfl
theorem cM_top (f : Int) (ls : List Int) (r : Int) : cM f ls r 151 = 0 := rfl
def colRow (f : Int) (ls : List Int) (r x : Int) : List Int := [cD f ls r x, cN f ls r x, cC f ls r x, cM f ls r x]
/-- The columns from age x on are there. -/
def colsP (f : Int) (ls : List Int) (r : Int) (x : Int) : List (List Int) := tg (151 - f).toNat fun k => if x ≤ f + k then colRow f ls r (f + k) else [0, 0, 0, 0]
def cols (f : Int) (ls : List Int) (r : Int) : List (List Int) := tg (151 - f).toNat fun k => colRow f ls r (f + k)
theorem cols_len (f : Int) (ls : List Int) (r : Int) : (cols f ls r).length = (151 - f).toNat := tg_len _ _
theorem cols_at {f : Int} {ls : List Int} {r x : Int} (hf : f ≤ x) (hx : x ≤ 150) : (cols f ls r).getD (x - f).toNat [] = colRow f ls r x := by
  unfold cols
  rw [tg_get (by omega), show f + ((x - f).toNat : Nat) = x by omega]
theorem colsP_len (f : Int) (ls : List Int) (r x : Int) : (colsP f ls r x).length = (151 - f).toNat := tg_len _ _
theorem colsP_top {f : Int} (hf : f ≤ 100) (ls : List Int) (r : Int) : List.replicate (151 - f).toNat (List.replicate 4 (0 : Int)) = colsP f ls r 151 := by
  rw [tg_rep]
  exact tg_ext fun c hc => (if_neg (by omega)).symm
theorem colsP_all (f : Int) (ls : List Int) (r : Int) : colsP f ls r f = cols f ls r := tg_ext fun c _ => if_pos (by omega)
theorem colsP_row {f : Int} {ls : List Int} {r x : Int} {k : Nat} (h : k < (151 - f).toNat) : ((colsP f ls r x).getD k []).length = 4 := by
  unfold colsP
  rw [tg_get h]
  split <;> rfl
theorem colsP_step {f : Int} {ls : List Int} {r x : Int} (hf : f ≤ x) : (colsP f ls r (x + 1)).set (x - f).toNat (colRow f ls r x) = colsP f ls r x := by
  unfold colsP
  rw [tg_set []]
  refine tg_ext fun c hc => ?_
  by_cases h : c = (x - f).toNat
  · rw [if_pos h, if_pos (by omega), show f + (c : Int) = x by omega]
  · rw [if_neg h]
    by_cases h2 : x + 1 ≤ f + c
    · rw [if_pos h2, if_pos (by omega)]
    · rw [if_neg h2, if_neg (by omega)]
theorem setInts4 {l : List Int} (h : l.length = 4) (a b c d : Int) : setInts l 0 [a, b, c, d] = [a, b, c, d] := by
  match l, h with
  | [_, _, _, _], _ => rfl
theorem colStep {f : Int} {ls : List Int} {r x a b c d : Int} (h1 : f ≤ x - 1) (h2 : x - 1 ≤ 150) (ha : a = cD f ls r (x - 1)) (hb : b = cN f ls r (x - 1)) (hc : c = cC f ls r (x - 1)) (hd : d = cM f ls r (x - 1)) :
    (colsP f ls r x).set (x - 1 - f).toNat (setInts ((colsP f ls r x).getD (x - 1 - f).toNat []) 0 [a, b, c, d]) = colsP f ls r (x - 1) := by
  rw [setInts4 (colsP_row (by omega)), ha, hb, hc, hd]
  have := colsP_step (ls := ls) (r := r) h1
  rwa [show x - 1 + 1 = x by omega] at this
abbrev Rc (xss : List (List Int)) : AV := .ro (.recs 4 xss)
abbrev Dc (xss : List (List Int)) : Blk := .data (.recs 4 xss)
set_option maxRecDepth 100000 in
theorem lenC_ret (n : Nat) (xss : List (List Int)) (hn : xss.length = n) : Ret Tryz.prog G 185 [Rc xss] (I n) := by
  refine ret_of_body hT Tryz.func185 rfl ?_ rfl
  subst hn
  repeat' (first | (intro h; first | contradiction | omega | (conv => whnf) | skip) | (refine And.intro ?_ ?_) | (refine arith_ok ⟨by omega, by omega⟩ ?_) | (first | (refine draw_quiet hT mixed (by decide +kernel) ?_) | (refine draw_hard hT mixed (by decide +kernel) ?_)) | fail)
  all_goals first | rfl | omega
attribute [local irreducible] cols colsP cN cM
set_option maxHeartbeats 4000000 in
set_option maxRecDepth 100000 in
theorem columns_call (f : Int) (ls : List Int) (r : Int) (ho : okT f ls) (hr : okR r) : CallA Tryz.prog G 151 [Tb f ls, I r] [] (fun v J => v = .sl 0 4 (151 - f).toNat ∧ J = [Dc (cols f ls r)]) := by
  refine CallA.ends (callA_of_body hT Tryz.func151 rfl ?_)
  have h0 := ho.1
  unfold hdT at h0
  have hcl := colsP_len f ls r
  have htop := colsP_top (f := f) (by omega) ls r
  have e1 : (150 : Int) - f + 1 = 151 - f := by omega
  have hdl := tg_len 121 (disc r)
  have hlr : (150 - f + 1).toNat = (List.replicate (150 - f + 1).toNat (List.replicate 4 (0 : Int))).length := by simp
  repeat' (first | (intro h; first | contradiction | omega | (conv => whnf) | skip) | (refine And.intro ?_ ?_) | (refine arith_ok ⟨by omega, by omega⟩ ?_) | (first | (refine draw_quiet hT mixed (by decide +kernel) ?_) | (refine draw_hard hT mixed (by decide +kernel) ?_)) | (refine CallA.go [] (discounts_call r hr) rfl (by first | ((repeat' (first | exact rfl | exact trivial | (with_reducible assumption) | refine And.intro ?_ ?_ | omega | assumption)); done) | fail) trivial ?_) | (refine Ret.use (lenC_ret (150 - f + 1).toNat (List.replicate (150 - f + 1).toNat (List.replicate 4 0)) (by simp)) (by first | ((repeat' (first | exact rfl | exact trivial | (with_reducible assumption) | refine And.intro ?_ ?_ | omega | assumption)); done) | fail) ?_) | (refine Ret.useQ (lenC_ret (150 - f + 1).toNat (List.replicate (150 - f + 1).toNat (List.replicate 4 0)) (by simp)) (by first | ((repeat' (first | exact rfl | exact trivial | (with_reducible assumption) | refine And.intro ?_ ?_ | omega | assumption)); done) | fail) rfl ?_))
  all_goals first | rfl | omega | skip
  have htop' : D.recs 4 (List.replicate (150 - f + 1).toNat (List.replicate 4 0)) = .recs 4 (colsP f ls r 151) := by rw [e1, htop]
  refine loop_rule hT (fun x : Int => f ≤ x ∧ x ≤ 151) 79 4 [2, 5, 6, 7, 8] (fun x => [.ptr 0 0, .sl 1 1 121, .sl 2 4 (150 - f + 1).toNat, .ptr 3 0, I (x - 1 - f)]) (fun x => [.cells [I f, Ri ls], Di (tg 121 (disc r)), Dc (colsP f ls r x), .cells [I 0, I (cN f ls r x), I 0, I (cM f ls r x)]]) (fun x => (x - f).toNat) (151) (Nat.le_of_ble_eq_true rfl) ?_ ?_ ?_
  · exact ⟨by omega, by omega⟩
  · (refine ⟨rfl, [], ?_, ?_⟩; all_goals (repeat' (first | exact rfl | exact trivial | (with_reducible assumption) | refine And.intro ?_ ?_)); all_goals (first | omega | assumption | ((repeat' (first | exact htop' | exact (cN_top f ls r).symm | exact (cM_top f ls r).symm | exact rfl | exact trivial | (with_reducible assumption) | refine And.intro ?_ ?_ | omega | assumption)); done)); done)
  · rintro x ⟨hx1, hx2⟩
    have hclx := hcl x
    by_cases hx : f < x
    · have ea : f + (x - 1 - f) = x - 1 := by omega
      have hNb := cN_bd ho hr (x := x) (by omega)
      have hMb := cM_bd ho hr (x := x) (by omega) hx1
      have hDb := cD_bd ho hr (x - 1)
      have hCb := cC_bd ho hr (x := x - 1) (by omega)
      have hN := cN_step (f := f) (ls := ls) (r := r) (x := x - 1) (by omega)
      have hM := cM_step (f := f) (ls := ls) (r := r) (x := x - 1) (by omega)
      rw [show x - 1 + 1 = x by omega] at hN hM
      have hrow : ((colsP f ls r x).getD (x - 1 - f).toNat []).length = 4 := colsP_row (by omega)
      by_cases h1 : x - 1 - f ≤ 120
      · have hd : (tg 121 (disc r)).getD (x - 1 - f).toNat 0 = disc r (x - 1 - f).toNat := tg_get (by omega)
        have hp : lv f ls (f + (x - 1 - f)) * (tg 121 (disc r)).getD (x - 1 - f).toNat 0 = cD f ls r (x - 1) := by rw [ea, hd]; exact (if_pos h1).symm
        by_cases h2 : x - 1 - f + 1 ≤ 120
        · have hd2 : (tg 121 (disc r)).getD (x - 1 - f + 1).toNat 0 = disc r (x - 1 - f + 1).toNat := tg_get (by omega)
          have hq : (lv f ls (f + (x - 1 - f)) - lv f ls (f + (x - 1 - f) + 1)) * (tg 121 (disc r)).getD (x - 1 - f + 1).toNat 0 = cC f ls r (x - 1) := by rw [ea, hd2]; exact (if_pos h2).symm
          repeat' (first | (intro h; first | contradiction | omega | (conv => whnf) | skip) | (refine And.intro ?_ ?_) | (refine arith_ok ⟨by omega, by omega⟩ ?_) | (first | (refine draw_quiet hT mixed (by decide +kernel) ?_) | (refine draw_hard hT mixed (by decide +kernel) ?_)) | (refine Ret.go (implLives_ret f ls _ ho (by omega)) rfl rfl ?_) | (refine Ret.goQ (implLives_ret f ls _ ho (by omega)) rfl rfl ?_) | (refine Ret.go (implDeaths_ret f ls _ ho (by omega)) rfl rfl ?_) | (refine Ret.goQ (implDeaths_ret f ls _ ho (by omega)) rfl rfl ?_))
          all_goals first | omega | (show _ < _; omega) | exact hrow | skip
          all_goals first | ((conv => whnf); refine ⟨x - 1, by omega, ?_, by omega⟩; (refine ⟨rfl, [], ?_, ?_⟩; all_goals (repeat' (first | exact rfl | exact trivial | (with_reducible assumption) | refine And.intro ?_ ?_)); all_goals (first | omega | assumption | ((repeat' (first | exact congrArg (D.recs 4) (colStep (by omega) (by omega) (by omega) (by omega) (by omega) (by omega)) | exact rfl | exact trivial | (with_reducible assumption) | refine And.intro ?_ ?_ | omega | assumption)); done)); done)) | trace_state
        · have hq : cC f ls r (x - 1) = 0 := if_neg h2
          repeat' (first | (intro h; first | contradiction | omega | (conv => whnf) | skip) | (refine And.intro ?_ ?_) | (refine arith_ok ⟨by omega, by omega⟩ ?_) | (first | (refine draw_quiet hT mixed (by decide +kernel) ?_) | (refine draw_hard hT mixed (by decide +kernel) ?_)) | (refine Ret.go (implLives_ret f ls _ ho (by omega)) rfl rfl ?_) | (refine Ret.goQ (implLives_ret f ls _ ho (by omega)) rfl rfl ?_) | (refine Ret.go (implDeaths_ret f ls _ ho (by omega)) rfl rfl ?_) | (refine Ret.goQ (implDeaths_ret f ls _ ho (by omega)) rfl rfl ?_))
          all_goals first | omega | (show _ < _; omega) | exact hrow | skip
          all_goals first | ((conv => whnf); refine ⟨x - 1, by omega, ?_, by omega⟩; (refine ⟨rfl, [], ?_, ?_⟩; all_goals (repeat' (first | exact rfl | exact trivial | (with_reducible assumption) | refine And.intro ?_ ?_)); all_goals (first | omega | assumption | ((repeat' (first | exact congrArg (D.recs 4) (colStep (by omega) (by omega) (by omega) (by omega) (by omega) (by omega)) | exact rfl | exact trivial | (with_reducible assumption) | refine And.intro ?_ ?_ | omega | assumption)); done)); done)) | trace_state
      · have hp : cD f ls r (x - 1) = 0 := if_neg h1
        have hq : cC f ls r (x - 1) = 0 := if_neg (by omega)
        repeat' (first | (intro h; first | contradiction | omega | (conv => whnf) | skip) | (refine And.intro ?_ ?_) | (refine arith_ok ⟨by omega, by omega⟩ ?_) | (first | (refine draw_quiet hT mixed (by decide +kernel) ?_) | (refine draw_hard hT mixed (by decide +kernel) ?_)) | (refine Ret.go (implLives_ret f ls _ ho (by omega)) rfl rfl ?_) | (refine Ret.goQ (implLives_ret f ls _ ho (by omega)) rfl rfl ?_) | (refine Ret.go (implDeaths_ret f ls _ ho (by omega)) rfl rfl ?_) | (refine Ret.goQ (implDeaths_ret f ls _ ho (by omega)) rfl rfl ?_))
        all_goals first | omega | (show _ < _; omega) | exact hrow | skip
        all_goals first | ((conv => whnf); refine ⟨x - 1, by omega, ?_, by omega⟩; (refine ⟨rfl, [], ?_, ?_⟩; all_goals (repeat' (first | exact rfl | exact trivial | (with_reducible assumption) | refine And.intro ?_ ?_)); all_goals (first | omega | assumption | ((repeat' (first | exact congrArg (D.recs 4) (colStep (by omega) (by omega) (by omega) (by omega) (by omega) (by omega)) | exact rfl | exact trivial | (with_reducible assumption) | refine And.intro ?_ ?_ | omega | assumption)); done)); done)) | trace_state
    · obtain rfl : x = f := by omega
      rw [colsP_all]
      repeat' (first | (intro h; first | contradiction | omega | (conv => whnf) | skip) | (refine And.intro ?_ ?_) | (refine arith_ok ⟨by omega, by omega⟩ ?_) | (first | (refine draw_quiet hT mixed (by decide +kernel) ?_) | (refine draw_hard hT mixed (by decide +kernel) ?_)) | fail)
      all_goals first | omega | skip
      (first | (refine ⟨[], .sl 0 4 (151 - x).toNat, [Dc (cols x ls r)], ?_, ?_, ?_⟩; all_goals (repeat' (first | exact rfl | exact trivial | (with_reducible assumption) | refine And.intro ?_ ?_)); all_goals (first | omega | assumption); done) | (refine ⟨[some 1], .sl 0 4 (151 - x).toNat, [Dc (cols x ls r)], ?_, ?_, ?_⟩; all_goals (repeat' (first | exact rfl | exact trivial | (with_reducible assumption) | refine And.intro ?_ ?_)); all_goals (first | omega | assumption); done) | (refine ⟨[some 0], .sl 0 4 (151 - x).toNat, [Dc (cols x ls r)], ?_, ?_, ?_⟩; all_goals (repeat' (first | exact rfl | exact trivial | (with_reducible assumption) | refine And.intro ?_ ?_)); all_goals (first | omega | assumption); done) | (refine ⟨[some 2], .sl 0 4 (151 - x).toNat, [Dc (cols x ls r)], ?_, ?_, ?_⟩; all_goals (repeat' (first | exact rfl | exact trivial | (with_reducible assumption) | refine And.intro ?_ ?_)); all_goals (first | omega | assumption); done) | (refine ⟨[some 3], .sl 0 4 (151 - x).toNat, [Dc (cols x ls r)], ?_, ?_, ?_⟩; all_goals (repeat' (first | exact rfl | exact trivial | (with_reducible assumption) | refine And.intro ?_ ?_)); all_goals (first | omega | assumption); done) | (refine ⟨[some 4], .sl 0 4 (151 - x).toNat, [Dc (cols x ls r)], ?_, ?_, ?_⟩; all_goals (repeat' (first | exact rfl | exact trivial | (with_reducible assumption) | refine And.intro ?_ ?_)); all_goals (first | omega | assumption); done) | (refine ⟨[some 5], .sl 0 4 (151 - x).toNat, [Dc (cols x ls r)], ?_, ?_, ?_⟩; all_goals (repeat' (first | exact rfl | exact trivial | (with_reducible assumption) | refine And.intro ?_ ?_)); all_goals (first | omega | assumption); done))
theorem columns_ro (f : Int) (ls : List Int) (r : Int) (ho : okT f ls) (hr : okR r) : CallA Tryz.prog G 151 [Tb f ls, I r] [] (fun v J => v = Rc (cols f ls r) ∧ J = []) :=
  CallA.frozen ((columns_call f ls r ho hr).mono fun v J ⟨h1, h2⟩ => by subst h1 h2; exact ⟨Rc (cols f ls r), ⟨rfl, rfl, rfl, (cols_len f ls r).symm, rfl⟩, rfl, rfl⟩)
set_option maxRecDepth 100000 in
theorem specD_ret (f : Int) (ls : List Int) (r x : Int) (ho : okT f ls) (hr : okR r) (hx : f ≤ x ∧ x ≤ 900) : Ret Tryz.prog G 154 [Tb f ls, I r, I x] (I (cD f ls r x)) := by
  refine ret_of_body hT Tryz.func154 rfl ?_ rfl
  have h0 := ho.1
  unfold hdT at h0
  have hDb := cD_bd ho hr x
  by_cases h1 : x - f ≤ 120
  · have hp : cD f ls r x = lv f ls x * disc r (x - f).toNat := if_pos h1
    have hk : ((x - f).toNat : Int) = x - f := by omega
    have hdc := specDisc_ret r (x - f).toNat hr (by omega)
    rw [hk] at hdc
    by_cases hz : lv f ls x = 0
    · have hz2 : cD f ls r x = 0 := by rw [hp, hz, Int.zero_mul]
      repeat' (first | (intro h; first | contradiction | omega | (conv => whnf) | skip) | (refine And.intro ?_ ?_) | (refine arith_ok ⟨by omega, by omega⟩ ?_) | (first | (refine draw_quiet hT mixed (by decide +kernel) ?_) | (refine draw_hard hT mixed (by decide +kernel) ?_)) | (refine Ret.go (specLives_ret f ls _ ho (by omega)) rfl rfl ?_) | (refine Ret.goQ (specLives_ret f ls _ ho (by omega)) rfl rfl ?_) | (refine Ret.go (hdc) rfl rfl ?_) | (refine Ret.goQ (hdc) rfl rfl ?_))
      all_goals first | omega | exact iv hz2.symm | trace_state
    · repeat' (first | (intro h; first | contradiction | omega | (conv => whnf) | skip) | (refine And.intro ?_ ?_) | (refine arith_ok ⟨by omega, by omega⟩ ?_) | (first | (refine draw_quiet hT mixed (by decide +kernel) ?_) | (refine draw_hard hT mixed (by decide +kernel) ?_)) | (refine Ret.go (specLives_ret f ls _ ho (by omega)) rfl rfl ?_) | (refine Ret.goQ (specLives_ret f ls _ ho (by omega)) rfl rfl ?_) | (refine Ret.go (hdc) rfl rfl ?_) | (refine Ret.goQ (hdc) rfl rfl ?_))
      all_goals first | omega | exact iv hp.symm | trace_state
  · have hp : cD f ls r x = 0 := if_neg h1
    repeat' (first | (intro h; first | contradiction | omega | (conv => whnf) | skip) | (refine And.intro ?_ ?_) | (refine arith_ok ⟨by omega, by omega⟩ ?_) | (first | (refine draw_quiet hT mixed (by decide +kernel) ?_) | (refine draw_hard hT mixed (by decide +kernel) ?_)) | (refine Ret.go (specLives_ret f ls _ ho (by omega)) rfl rfl ?_) | (refine Ret.goQ (specLives_ret f ls _ ho (by omega)) rfl rfl ?_))
    all_goals first | omega | exact iv hp.symm | trace_state
end Go.Proofs.YtenofbabiacacaaGreat
