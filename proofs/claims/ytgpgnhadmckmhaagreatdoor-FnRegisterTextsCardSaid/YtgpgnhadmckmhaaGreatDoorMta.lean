/-
  Months as texts: plain facts, and what the functions that write them return. No conditions but those in the statements.
-/
import Derived.Test.YtgpgnhadmckmhaaGreatDoorStq
import Derived.Test.YtgpgnhadmckmhaaGreatDoorMonth
set_option linter.unusedVariables false
set_option linter.unusedSimpArgs false
namespace Go.Proofs.YtgpgnhadmckmhaaGreatDoor
open Go.AE Go.Lib

attribute [local irreducible] CallA LoopA DrawA CallQ arithK quoK remK eqK
def dg1 (k : Nat) : UInt8 := UInt8.ofNat (48 + k)
theorem dg1_dgt {k : Nat} (h : k < 10) : dgt (dg1 k) := by unfold dgt dg1; rw [ofNat_dgt h]; omega
theorem dg1_val {k : Nat} (h : k < 10) : (dg1 k).toNat - 48 = k := by unfold dg1; rw [ofNat_dgt h]; omega
def mt4 (y : Nat) : List UInt8 := [dg1 (y / 1000), dg1 (y / 100 % 10), dg1 (y / 10 % 10), dg1 (y % 10)]
def mt2 (m : Nat) : List UInt8 := [dg1 (m / 10), dg1 (m % 10)]
/-- The text of a month. -/
def mt (n : Int) : List UInt8 := mt4 (n.toNat / 12) ++ 45 :: mt2 (n.toNat % 12 + 1)
def mon (n : Int) : Prop := 0 ≤ n ∧ n ≤ 35999
instance (n : Int) : Decidable (mon n) := by unfold mon; infer_instance
theorem mt_len (n : Int) : (mt n).length = 7 := rfl
theorem mt4_dgt {y : Nat} (h : y < 10000) : ∀ b ∈ mt4 y, dgt b := by
  intro b hb
  simp only [mt4, List.mem_cons, List.not_mem_nil, or_false] at hb
  rcases hb with rfl | rfl | rfl | rfl <;> exact dg1_dgt (by omega)
theorem mt2_dgt {m : Nat} (h : m < 100) : ∀ b ∈ mt2 m, dgt b := by
  intro b hb
  simp only [mt2, List.mem_cons, List.not_mem_nil, or_false] at hb
  rcases hb with rfl | rfl <;> exact dg1_dgt (by omega)
theorem val_mt4 {y : Nat} (h : y < 10000) : val (mt4 y) = y := by
  simp only [val, valF, mt4, List.foldl_cons, List.foldl_nil]
  rw [dg1_val (by omega), dg1_val (by omega), dg1_val (by omega), dg1_val (by omega)]
  omega
theorem val_mt2 {m : Nat} (h : m < 100) : val (mt2 m) = m := by
  simp only [val, valF, mt2, List.foldl_cons, List.foldl_nil]
  rw [dg1_val (by omega), dg1_val (by omega)]
  omega
theorem val_mt6 {y m : Nat} (h : y < 10000) (h2 : m < 100) : val (mt4 y ++ mt2 m) = y * 100 + m := by
  simp only [val, valF, mt4, mt2, List.foldl_cons, List.foldl_nil, List.cons_append, List.nil_append]
  rw [dg1_val (by omega), dg1_val (by omega), dg1_val (by omega), dg1_val (by omega), dg1_val (by omega), dg1_val (by omega)]
  omega
theorem dec_pad4 {y : Nat} (h : y < 10000) : repeatL [48] (4 - (decDigits y).length) ++ decDigits y = mt4 y := by
  have one : ∀ k, k < 10 → decDigits k = [dg1 k] := fun k hk => decDigits_one hk
  by_cases h1 : y < 10
  · rw [one y h1]
    simp only [List.length_cons, List.length_nil, repeatL, mt4, List.cons_append, List.nil_append]
    rw [show y / 1000 = 0 by omega, show y / 100 % 10 = 0 by omega, show y / 10 % 10 = 0 by omega, show y % 10 = y by omega]
    rfl
  · rw [dec_big h1]
    by_cases h2 : y < 100
    · rw [one (y / 10) (by omega)]
      simp only [List.length_cons, List.length_nil, repeatL, mt4, List.cons_append, List.nil_append]
      rw [show y / 1000 = 0 by omega, show y / 100 % 10 = 0 by omega, show y / 10 % 10 = y / 10 by omega]
      rfl
    · rw [dec_big (u := y / 10) (by omega)]
      by_cases h3 : y < 1000
      · rw [one (y / 10 / 10) (by omega)]
        simp only [List.length_cons, List.length_nil, repeatL, mt4, List.cons_append, List.nil_append]
        rw [show y / 1000 = 0 by omega, show y / 100 % 10 = y / 10 / 10 by omega]
        rfl
      · rw [dec_big (u := y / 10 / 10) (by omega), one (y / 10 / 10 / 10) (by omega)]
        simp only [List.length_cons, List.length_nil, mt4, List.cons_append, List.nil_append]
        rw [show y / 1000 = y / 10 / 10 / 10 by omega, show y / 100 % 10 = y / 10 / 10 % 10 by omega]
        rfl
theorem dec_pad2 {y : Nat} (h : y < 100) : repeatL [48] (2 - (decDigits y).length) ++ decDigits y = mt2 y := by
  have one : ∀ k, k < 10 → decDigits k = [dg1 k] := fun k hk => decDigits_one hk
  by_cases h1 : y < 10
  · rw [one y h1]
    simp only [List.length_cons, List.length_nil, repeatL, mt2, List.cons_append, List.nil_append]
    rw [show y / 10 = 0 by omega, show y % 10 = y by omega]
    rfl
  · rw [dec_big h1, one (y / 10) (by omega)]
    simp only [List.length_cons, List.length_nil, mt2, List.cons_append, List.nil_append]
    rfl
theorem parse_digits {l : List UInt8} (h0 : l ≠ []) (hd : ∀ b ∈ l, dgt b) (hv : val l < 9223372036854775808) : parseIntB 64 l = .ok (val l) := by
  rw [parseIntB_64]
  cases l with
  | nil => exact absurd rfl h0
  | cons c r =>
    have hc := hd c (by simp)
    unfold dgt at hc
    have hm : parseMag (c :: r) = .ok (val (c :: r)) := by
      unfold parseMag
      rw [if_neg (by simp), parse_dgts _ _ hd (by unfold val at hv; omega)]
      rfl
    rw [atoiAll_plain c r (by omega) (by omega), hm]
    simp only [signless]
    rw [if_neg (by omega)]
theorem mt_take (n : Int) : (mt n).take 4 = mt4 (n.toNat / 12) := rfl
theorem mt_drop (n : Int) : (mt n).drop 5 = mt2 (n.toNat % 12 + 1) := rfl
theorem mt_parse4 {n : Int} (h : mon n) : parseIntB 64 ((mt n).take 4) = .ok (n / 12) := by
  unfold mon at h
  rw [mt_take, parse_digits (by simp [mt4]) (mt4_dgt (by omega)) (by rw [val_mt4 (by omega)]; omega), val_mt4 (by omega)]
  congr 1; omega
theorem mt_parse2 {n : Int} (h : mon n) : parseIntB 64 ((mt n).drop 5) = .ok (n % 12 + 1) := by
  unfold mon at h
  rw [mt_drop, parse_digits (by simp [mt2]) (mt2_dgt (by omega)) (by rw [val_mt2 (by omega)]; omega), val_mt2 (by omega)]
  congr 1; omega
theorem mt_inj {n m : Int} (hn : mon n) (hm : mon m) (h : mt n = mt m) : n = m := by
  have h1 := mt_parse4 hn
  have h2 := mt_parse2 hn
  rw [h] at h1 h2
  rw [mt_parse4 hm] at h1
  rw [mt_parse2 hm] at h2
  injection h1 with h1
  injection h2 with h2
  omega
/-! ### What writes them -/
theorem l01d_ret (x : Int) (h0 : 0 ≤ x) (h9 : x ≤ 9) : Ret Tryz.prog G 92 [I x] (Sv [dg1 x.toNat]) := by
  have h := l01Dec_ret x.toNat (by omega)
  rw [show ((x.toNat : Nat) : Int) = x by omega, decDigits_one (by omega)] at h
  exact h
theorem mt_spec {n : Int} (h : mon n) : mt n = [dg1 (n / 12 / 1000).toNat] ++ [dg1 (n / 12 / 100 % 10).toNat] ++ [dg1 (n / 12 / 10 % 10).toNat] ++ [dg1 (n / 12 % 10).toNat] ++ [45] ++ [dg1 ((n % 12 + 1) / 10).toNat] ++ [dg1 ((n % 12 + 1) % 10).toNat] := by
  unfold mon at h
  rw [show (n / 12 / 1000).toNat = n.toNat / 12 / 1000 by omega, show (n / 12 / 100 % 10).toNat = n.toNat / 12 / 100 % 10 by omega, show (n / 12 / 10 % 10).toNat = n.toNat / 12 / 10 % 10 by omega,
    show (n / 12 % 10).toNat = n.toNat / 12 % 10 by omega, show ((n % 12 + 1) / 10).toNat = (n.toNat % 12 + 1) / 10 by omega, show ((n % 12 + 1) % 10).toNat = (n.toNat % 12 + 1) % 10 by omega]
  rfl
set_option maxRecDepth 100000 in
theorem l02Text_ret (n : Int) (h : mon n) : Ret Tryz.prog G 91 [I n] (Sv (mt n)) := by
  have hs := mt_spec h
  unfold mon at h
  refine ret_of_body hT Tryz.func91 rfl ?_ rfl
  repeat' ((first | (conv => whnf) | skip); (first | ((with_reducible intro h); first | contradiction | omega | (conv => whnf) | skip) | (with_reducible refine And.intro ?_ ?_) | ((with_reducible show arithK _ _ _); refine arith_ok ⟨by omega, by omega⟩ ?_) | ((with_reducible show quoK _ _ _ _); refine quo_ok ⟨by omega, by omega⟩ (by omega) (by omega) ?_) | ((with_reducible show remK _ _ _ _); refine rem_ok (by omega) (by omega) ?_) | ((first | (with_reducible show CallA _ _ _ _ _ _) | (with_reducible show CallQ _ _ _ _ _ _)); first | (refine Ret.go (l01d_ret _ (by omega) (by omega)) rfl rfl ?_) | (refine Ret.goQ (l01d_ret _ (by omega) (by omega)) rfl rfl ?_)) | ((with_reducible show DrawA _ _ _ _ _ _); first | (refine draw_hard hT mixed (by decide +kernel) ?_))))
  all_goals first | rfl | omega | (simp only [B_app, B_size, List.length_append, List.length_cons, List.length_nil]; omega) | ((conv => whnf); refine sv ?_; rw [hs]; simp only [← B_app]; first | done | rfl) | trace_state
set_option maxRecDepth 100000 in
theorem specMonthText_ret (n : Int) : Ret Tryz.prog G 94 [I n] (Sv (if mon n then mt n else [])) := by
  refine ret_of_body hT Tryz.func94 rfl ?_ rfl
  by_cases h : mon n
  · rw [if_pos h]
    have ht := l02Text_ret n h
    unfold mon at h
    repeat' ((first | (conv => whnf) | skip); (first | ((with_reducible intro h); first | contradiction | omega | (conv => whnf) | skip) | (with_reducible refine And.intro ?_ ?_) | ((with_reducible show arithK _ _ _); refine arith_ok ⟨by omega, by omega⟩ ?_) | ((with_reducible show quoK _ _ _ _); refine quo_ok ⟨by omega, by omega⟩ (by omega) (by omega) ?_) | ((with_reducible show remK _ _ _ _); refine rem_ok (by omega) (by omega) ?_) | ((first | (with_reducible show CallA _ _ _ _ _ _) | (with_reducible show CallQ _ _ _ _ _ _)); first | (refine Ret.goP (l02Month_ret _) rfl ?_) | (refine Ret.goQP (l02Month_ret _) rfl ?_) | (refine Ret.go (ht) rfl rfl ?_) | (refine Ret.goQ (ht) rfl rfl ?_)) | ((with_reducible show DrawA _ _ _ _ _ _); first | (refine draw_hard hT mixed (by decide +kernel) ?_))))
    all_goals first | rfl | omega | trace_state
  · rw [if_neg h]
    unfold mon at h
    repeat' ((first | (conv => whnf) | skip); (first | ((with_reducible intro h); first | contradiction | omega | (conv => whnf) | skip) | (with_reducible refine And.intro ?_ ?_) | ((with_reducible show arithK _ _ _); refine arith_ok ⟨by omega, by omega⟩ ?_) | ((with_reducible show quoK _ _ _ _); refine quo_ok ⟨by omega, by omega⟩ (by omega) (by omega) ?_) | ((with_reducible show remK _ _ _ _); refine rem_ok (by omega) (by omega) ?_) | ((first | (with_reducible show CallA _ _ _ _ _ _) | (with_reducible show CallQ _ _ _ _ _ _)); first | (refine Ret.goP (l02Month_ret _) rfl ?_) | (refine Ret.goQP (l02Month_ret _) rfl ?_)) | ((with_reducible show DrawA _ _ _ _ _ _); first | (refine draw_hard hT mixed (by decide +kernel) ?_))))
    all_goals first | rfl | omega | trace_state
set_option maxRecDepth 100000 in
theorem digits_ret (n : Int) (L : Nat) (h0 : 0 ≤ n) (h1 : n ≤ 1000000) (hL : L ≤ 8) : Ret Tryz.prog G 106 [I n, I (L : Int)] (Sv (repeatL [48] (L - (itoa n).length) ++ itoa n)) := by
  have hl := itoa_len (n := n) ⟨by omega, by omega⟩
  have hz := B_size (itoa n)
  have hd := decimal_ret n ⟨by omega, by omega⟩
  have hrl : (repeatL [48] (L - (itoa n).length)).length ≤ 8 := by rw [repeatL_length]; show (L - (itoa n).length) * 1 ≤ 8; omega
  have hrz := B_size (repeatL [48] (L - (itoa n).length))
  have hr := repeat_ret [48] (L - (itoa n).length) (by show 1 * _ ≤ _; omega) (by omega)
  rw [show ((L - (itoa n).length : Nat) : Int) = max 0 ((L : Int) - ((B (itoa n)).size : Int)) by rw [hz]; omega] at hr
  refine ret_of_body hT Tryz.func106 rfl ?_ rfl
  repeat' ((first | (conv => whnf) | skip); (first | ((with_reducible intro h); first | contradiction | omega | (conv => whnf) | skip) | (with_reducible refine And.intro ?_ ?_) | ((with_reducible show arithK _ _ _); refine arith_ok ⟨by omega, by omega⟩ ?_) | ((with_reducible show quoK _ _ _ _); refine quo_ok ⟨by omega, by omega⟩ (by omega) (by omega) ?_) | ((with_reducible show remK _ _ _ _); refine rem_ok (by omega) (by omega) ?_) | ((first | (with_reducible show CallA _ _ _ _ _ _) | (with_reducible show CallQ _ _ _ _ _ _)); first | (refine Ret.go (hd) rfl rfl ?_) | (refine Ret.goQ (hd) rfl rfl ?_) | (refine Ret.go (hr) rfl rfl ?_) | (refine Ret.goQ (hr) rfl rfl ?_)) | ((with_reducible show DrawA _ _ _ _ _ _); first | (refine draw_hard hT mixed (by decide +kernel) ?_))))
  all_goals first | rfl | omega | (show (B (repeatL [48] (L - (itoa n).length))).size + (B (itoa n)).size ≤ _; omega) | ((conv => whnf); refine sv ?_; rw [← B_app]; rfl) | trace_state
set_option maxRecDepth 100000 in
theorem monthText_ret (n : Int) (h : mon n) : Ret Tryz.prog G 87 [I n] (Sv (mt n)) := by
  unfold mon at h
  have h4 := digits_ret (n / 12) 4 (by omega) (by omega) (by omega)
  rw [itoa_nat (by omega), dec_pad4 (by omega)] at h4
  have h2 := digits_ret (n % 12 + 1) 2 (by omega) (by omega) (by omega)
  rw [itoa_nat (by omega), dec_pad2 (by omega)] at h2
  refine ret_of_body hT Tryz.func87 rfl ?_ rfl
  repeat' ((first | (conv => whnf) | skip); (first | ((with_reducible intro h); first | contradiction | omega | (conv => whnf) | skip) | (with_reducible refine And.intro ?_ ?_) | ((with_reducible show arithK _ _ _); refine arith_ok ⟨by omega, by omega⟩ ?_) | ((with_reducible show quoK _ _ _ _); refine quo_ok ⟨by omega, by omega⟩ (by omega) (by omega) ?_) | ((with_reducible show remK _ _ _ _); refine rem_ok (by omega) (by omega) ?_) | ((first | (with_reducible show CallA _ _ _ _ _ _) | (with_reducible show CallQ _ _ _ _ _ _)); first | (refine Ret.goP (isMonth_ret _) rfl ?_) | (refine Ret.goQP (isMonth_ret _) rfl ?_) | (refine Ret.go (h4) rfl rfl ?_) | (refine Ret.goQ (h4) rfl rfl ?_) | (refine Ret.go (h2) rfl rfl ?_) | (refine Ret.goQ (h2) rfl rfl ?_)) | ((with_reducible show DrawA _ _ _ _ _ _); first | (refine draw_hard hT mixed (by decide +kernel) ?_))))
  all_goals first | rfl | omega | (show 4 + 1 ≤ _; omega) | (show (B (mt4 (n / 12).toNat) ++ B [45]).size + 2 ≤ _; rw [B_app]; show 5 + 2 ≤ _; omega) | ((conv => whnf); refine sv ?_; show B _ ++ B [45] ++ B _ = _; rw [B_app, B_app]; unfold mt; rw [show (n / 12).toNat = n.toNat / 12 by omega, show (n % 12 + 1).toNat = n.toNat % 12 + 1 by omega]; simp) | trace_state
end Go.Proofs.YtgpgnhadmckmhaaGreatDoor
