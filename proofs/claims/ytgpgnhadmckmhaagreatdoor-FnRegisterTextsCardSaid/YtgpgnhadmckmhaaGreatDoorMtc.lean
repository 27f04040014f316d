/-
  Months as texts: plain facts, and what the functions that write them return. No conditions but those in the statements. Months read from texts by the program: what the functions return. No conditions but those in the statements. Which texts are texts of registers: plain facts, no program in sight.
-/
import Derived.Test.YtgpgnhadmckmhaaGreatDoorStr
import Derived.Test.YtgpgnhadmckmhaaGreatDoorMfb
import Derived.Test.YtgpgnhadmckmhaaGreatDoorSto
namespace Go.Proofs.YtgpgnhadmckmhaaGreatDoor
open Go.AE Go.Lib

attribute [local irreducible] CallA LoopA DrawA CallQ arithK quoK remK eqK
def dg1 (k : Nat) : UInt8 := UInt8.ofNat (48 + k)
theorem dg1_dgt {k : Nat} (h : k < 10) : dgt (dg1 k) := by unfold dgt dg1; rw [ofNat_dgt h]; omega
theorem dg1_val {k : Nat} (h : k < 10) : (dg1 k).toNat - 48 = k := by unfold dg1; rw [ofNat_dgt h]; omega
def mt4 (y : Nat) : List UInt8 := [dg1 (y / 1000), dg1 (y / 100 % 10), dg1 (y / 10 % 10), dg1 (y % 10)]
def mt2 (m : Nat) : List UInt8 := [dg1 (m / 10), dg1 (m % 10)]
/-- The text of a month. -/
def mt (n : Int) : List UInt8 := mt4 (n.toNat / 12) ++ 45 :: mt2 (n.toNat % 12 + 1)
def mon (n : Int) : Prop := 0 ≤ n ∧ n ≤ 35999
instance (n : Int) : Decidable (mon n) := by unfold mon; infer_instance
theorem mt_len (n : Int) : (mt n).length = 7 := rfl
theorem mt4_dgt {y : Nat} (h : y < 10000) : ∀ b ∈ mt4 y, dgt b := by
  intro b hb
  simp only [mt4, List.mem_cons, List.not_mem_nil, or_false] at hb
  rcases hb with rfl | rfl | rfl | rfl <;> exact dg1_dgt (by omega)
theorem mt2_dgt {m : Nat} (h : m < 100) : ∀ b ∈ mt2 m, dgt b := by
  intro b hb
  simp only [mt2, List.mem_cons, List.not_mem_nil, or_false] at hb
  rcases hb with rfl | rfl <;> exact dg1_dgt (by omega)
theorem val_mt4 {y : Nat} (h : y < 10000) : val (mt4 y) = y := by
  simp only [val, valF, mt4, List.foldl_cons, List.foldl_nil]
  rw [dg1_val (by omega), dg1_val (by omega), dg1_val (by omega), dg1_val (by omega)]
  omega
theorem val_mt2 {m : Nat} (h : m < 100) : val (mt2 m) = m := by
  simp only [val, valF, mt2, List.foldl_cons, List.foldl_nil]
  rw [dg1_val (by omega), dg1_val (by omega)]
  omega
theorem val_mt6 {y m : Nat} (h : y < 10000) (h2 : m < 100) : val (mt4 y ++ mt2 m) = y * 100 + m := by
  simp only [val, valF, mt4, mt2, List.foldl_cons, List.foldl_nil, List.cons_append, List.nil_append]
  rw [dg1_val (by omega), dg1_val (by omega), dg1_val (by omega), dg1_val (by omega), dg1_val (by omega), dg1_val (by omega)]
  omega
theorem dec_pad4 {y : Nat} (h : y < 10000) : repeatL [48] (4 - (decDigits y).length) ++ decDigits y = mt4 y := by
  have one : ∀ k, k < 10 → decDigits k = [dg1 k] := fun k hk => decDigits_one hk
  by_cases h1 : y < 10
  · rw [one y h1]
    simp only [List.length_cons, List.length_nil, repeatL, mt4, List.cons_append, List.nil_append]
    rw [show y / 1000 = 0 by omega, show y / 100 % 10 = 0 by omega, show y / 10 % 10 = 0 by omega, show y % 10 = y by omega]
    rfl
  · rw [dec_big h1]
    by_cases h2 : y < 100
    · rw [one (y / 10) (by omega)]
      simp only [List.length_cons, List.length_nil, repeatL, mt4, List.cons_append, List.nil_append]
      rw [show y / 1000 = 0 by omega, show y / 100 % 10 = 0 by omega, show y / 10 % 10 = y / 10 by omega]
      rfl
    · rw [dec_big (u := y / 10) (by omega)]
      by_cases h3 : y < 1000
      · rw [one (y / 10 / 10) (by omega)]
        simp only [List.length_cons, List.length_nil, repeatL, mt4, List.cons_append, List.nil_append]
        rw [show y / 1000 = 0 by omega, show y / 100 % 10 = y / 10 / 10 by omega]
        rfl
      · rw [dec_big (u := y / 10 / 10) (by omega), one (y / 10 / 10 / 10) (by omega)]
        simp only [List.length_cons, List.length_nil, mt4, List.cons_append, List.nil_append]
        rw [show y / 1000 = y / 10 / 10 / 10 by omega, show y / 100 % 10 = y / 10 / 10 % 10 by omega]
        rfl
theorem dec_pad2 {y : Nat} (h : y < 100) : repeatL [48] (2 - (decDigits y).length) ++ decDigits y = mt2 y := by
  have one : ∀ k, k < 10 → decDigits k = [dg1 k] := fun k hk => decDigits_one hk
  by_cases h1 : y < 10
  · rw [one y h1]
    simp only [List.length_cons, List.length_nil, repeatL, mt2, List.cons_append, List.nil_append]
    rw [show y / 10 = 0 by omega, show y % 10 = y by omega]
    rfl
  · rw [dec_big h1, one (y / 10) (by omega)]
    simp only [List.length_cons, List.length_nil, mt2, List.cons_append, List.nil_append]
    rfl
theorem parse_digits {l : List UInt8} (h0 : l ≠ []) (hd : ∀ b ∈ l, dgt b) (hv : val l < 9223372036854775808) : parseIntB 64 l = .ok (val l) := by
  rw [parseIntB_64]
  cases l with
  | nil => exact absurd rfl h0
  | cons c r =>
    have hc := hd c (by simp)
    unfold dgt at hc
    have hm : parseMag (c :: r) = .ok (val (c :: r)) := by
      unfold parseMag
      rw [if_neg (by simp), parse_dgts _ _ hd (by unfold val at hv; omega)]
      rfl
    rw [atoiAll_plain c r (by omega) (by omega), hm]
    simp only [signless]
    rw [if_neg (by omega)]
theorem mt_take (n : Int) : (mt n).take 4 = mt4 (n.toNat / 12) := rfl
theorem mt_drop (n : Int) : (mt n).drop 5 = mt2 (n.toNat % 12 + 1) := rfl
theorem mt_parse4 {n : Int} (h : mon n) : parseIntB 64 ((mt n).take 4) = .ok (n / 12) := by
  unfold mon at h
  rw [mt_take, parse_digits (by simp [mt4]) (mt4_dgt (by omega)) (by rw [val_mt4 (by omega)]; omega), val_mt4 (by omega)]
  congr 1; omega
theorem mt_parse2 {n : Int} (h : mon n) : parseIntB 64 ((mt n).drop 5) = .ok (n % 12 + 1) := by
  unfold mon at h
  rw [mt_drop, parse_digits (by simp [mt2]) (mt2_dgt (by omega)) (by rw [val_mt2 (by omega)]; omega), val_mt2 (by omega)]
  congr 1; omega
theorem mt_inj {n m : Int} (hn : mon n) (hm : mon m) (h : mt n = mt m) : n = m := by
  have h1 := mt_parse4 hn
  have h2 := mt_parse2 hn
  rw [h] at h1 h2
  rw [mt_parse4 hm] at h1
  rw [mt_parse2 hm] at h2
  injection h1 with h1
  injection h2 with h2
  omega
/-! ### What writes them -/
theorem l01d_ret (x : Int) (h0 : 0 ≤ x) (h9 : x ≤ 9) : Ret Tryz.prog G 92 [I x] (Sv [dg1 x.toNat]) := by
  have h := l01Dec_ret x.toNat (by omega)
  rw [show ((x.toNat : Nat) : Int) = x by omega, decDigits_one (by omega)] at h
  exact h
theorem mt_spec {n : Int} (h : mon n) : mt n = [dg1 (n / 12 / 1000).toNat] ++ [dg1 (n / 12 / 100 % 10).toNat] ++ [dg1 (n / 12 / 10 % 10).toNat] ++ [dg1 (n / 12 % 10).toNat] ++ [45] ++ [dg1 ((n % 12 + 1) / 10).toNat] ++ [dg1 ((n % 12 + 1) % 10).toNat] := by
  unfold mon at h
  rw [show (n / 12 / 1000).toNat = n.toNat / 12 / 1000 by omega, show (n / 12 / 100 % 10).toNat = n.toNat / 12 / 100 % 10 by omega, show (n / 12 / 10 % 10).toNat = n.toNat / 12 / 10 % 10 by omega,
    show (n / 12 % 10).toNat = n.toNat / 12 % 10 by omega, show ((n % 12 + 1) / 10).toNat = (n.toNat % 12 + 1) / 10 by omega, show ((n % 12 + 1) % 10).toNat = (n.toNat % 12 + 1) % 10 by omega]
  rfl
set_option maxRecDepth 100000 in
theorem l02Text_ret (n : Int) (h : mon n) : Ret Tryz.prog G 91 [I n] (Sv (mt n)) := by
  have hs := mt_spec h
  unfold mon at h
  refine ret_of_body hT Tryz.func91 rfl ?_ rfl
  repeat' ((first | (conv => whnf) | skip); (first | ((with_reducible intro h); first | contradiction | omega | (conv => whnf) | skip) | (with_reducible refine And.intro ?_ ?_) | ((with_reducible show arithK _ _ _); refine arith_ok ⟨by omega, by omega⟩ ?_) | ((with_reducible show quoK _ _ _ _); refine quo_ok ⟨by omega, by omega⟩ (by omega) (by omega) ?_) | ((with_reducible show remK _ _ _ _); refine rem_ok (by omega) (by omega) ?_) | ((first | (with_reducible show CallA _ _ _ _ _ _) | (with_reducible show CallQ _ _ _ _ _ _)); first | (refine Ret.go (l01d_ret _ (by omega) (by omega)) rfl rfl ?_) | (refine Ret.goQ (l01d_ret _ (by omega) (by omega)) rfl rfl ?_)) | ((with_reducible show DrawA _ _ _ _ _ _); first | (refine draw_hard hT mixed (by decide +kernel) ?_))))
  all_goals first | rfl | omega | (simp only [B_app, B_size, List.length_append, List.length_cons, List.length_nil]; omega) | ((conv => whnf); refine sv ?_; rw [hs]; simp only [← B_app]; first | done | rfl) | trace_state
set_option maxRecDepth 100000 in
theorem specMonthText_ret (n : Int) : Ret Tryz.prog G 94 [I n] (Sv (if mon n then mt n else [])) := by
  refine ret_of_body hT Tryz.func94 rfl ?_ rfl
  by_cases h : mon n
  · rw [if_pos h]
    have ht := l02Text_ret n h
    unfold mon at h
    repeat' ((first | (conv => whnf) | skip); (first | ((with_reducible intro h); first | contradiction | omega | (conv => whnf) | skip) | (with_reducible refine And.intro ?_ ?_) | ((with_reducible show arithK _ _ _); refine arith_ok ⟨by omega, by omega⟩ ?_) | ((with_reducible show quoK _ _ _ _); refine quo_ok ⟨by omega, by omega⟩ (by omega) (by omega) ?_) | ((with_reducible show remK _ _ _ _); refine rem_ok (by omega) (by omega) ?_) | ((first | (with_reducible show CallA _ _ _ _ _ _) | (with_reducible show CallQ _ _ _ _ _ _)); first | (refine Ret.goP (l02Month_ret _) rfl ?_) | (refine Ret.goQP (l02Month_ret _) rfl ?_) | (refine Ret.go (ht) rfl rfl ?_) | (refine Ret.goQ (ht) rfl rfl ?_)) | ((with_reducible show DrawA _ _ _ _ _ _); first | (refine draw_hard hT mixed (by decide +kernel) ?_))))
    all_goals first | rfl | omega | trace_state
  · rw [if_neg h]
    unfold mon at h
    repeat' ((first | (conv => whnf) | skip); (first | ((with_reducible intro h); first | contradiction | omega | (conv => whnf) | skip) | (with_reducible refine And.intro ?_ ?_) | ((with_reducible show arithK _ _ _); refine arith_ok ⟨by omega, by omega⟩ ?_) | ((with_reducible show quoK _ _ _ _); refine quo_ok ⟨by omega, by omega⟩ (by omega) (by omega) ?_) | ((with_reducible show remK _ _ _ _); refine rem_ok (by omega) (by omega) ?_) | ((first | (with_reducible show CallA _ _ _ _ _ _) | (with_reducible show CallQ _ _ _ _ _ _)); first | (refine Ret.goP (l02Month_ret _) rfl ?_) | (refine Ret.goQP (l02Month_ret _) rfl ?_)) | ((with_reducible show DrawA _ _ _ _ _ _); first | (refine draw_hard hT mixed (by decide +kernel) ?_))))
    all_goals first | rfl | omega | trace_state
set_option maxRecDepth 100000 in
theorem digits_ret (n : Int) (L : Nat) (h0 : 0 ≤ n) (h1 : n ≤ 1000000) (hL : L ≤ 8) : Ret Tryz.prog G 106 [I n, I (L : Int)] (Sv (repeatL [48] (L - (itoa n).length) ++ itoa n)) := by
  have hl := itoa_len (n := n) ⟨by omega, by omega⟩
  have hz := B_size (itoa n)
  have hd := decimal_ret n ⟨by omega, by omega⟩
  have hrl : (repeatL [48] (L - (itoa n).length)).length ≤ 8 := by rw [repeatL_length]; show (L - (itoa n).length) * 1 ≤ 8; omega
  have hrz := B_size (repeatL [48] (L - (itoa n).length))
  have hr := repeat_ret [48] (L - (itoa n).length) (by show 1 * _ ≤ _; omega) (by omega)
  rw [show ((L - (itoa n).length : Nat) : Int) = max 0 ((L : Int) - ((B (itoa n)).size : Int)) by rw [hz]; omega] at hr
  refine ret_of_body hT Tryz.func106 rfl ?_ rfl
  repeat' ((first | (conv => whnf) | skip); (first | ((with_reducible intro h); first | contradiction | omega | (conv => whnf) | skip) | (with_reducible refine And.intro ?_ ?_) | ((with_reducible show arithK _ _ _); refine arith_ok ⟨by omega, by omega⟩ ?_) | ((with_reducible show quoK _ _ _ _); refine quo_ok ⟨by omega, by omega⟩ (by omega) (by omega) ?_) | ((with_reducible show remK _ _ _ _); refine rem_ok (by omega) (by omega) ?_) | ((first | (with_reducible show CallA _ _ _ _ _ _) | (with_reducible show CallQ _ _ _ _ _ _)); first | (refine Ret.go (hd) rfl rfl ?_) | (refine Ret.goQ (hd) rfl rfl ?_) | (refine Ret.go (hr) rfl rfl ?_) | (refine Ret.goQ (hr) rfl rfl ?_)) | ((with_reducible show DrawA _ _ _ _ _ _); first | (refine draw_hard hT mixed (by decide +kernel) ?_))))
  all_goals first | rfl | omega | (show (B (repeatL [48] (L - (itoa n).length))).size + (B (itoa n)).size ≤ _; omega) | ((conv => whnf); refine sv ?_; rw [← B_app]; rfl) | trace_state
set_option maxRecDepth 100000 in
theorem monthText_ret (n : Int) (h : mon n) : Ret Tryz.prog G 87 [I n] (Sv (mt n)) := by
  unfold mon at h
  have h4 := digits_ret (n / 12) 4 (by omega) (by omega) (by omega)
  rw [itoa_nat (by omega), dec_pad4 (by omega)] at h4
  have h2 := digits_ret (n % 12 + 1) 2 (by omega) (by omega) (by omega)
  rw [itoa_nat (by omega), dec_pad2 (by omega)] at h2
  refine ret_of_body hT Tryz.func87 rfl ?_ rfl
  repeat' ((first | (conv => whnf) | skip); (first | ((with_reducible intro h); first | contradiction | omega | (conv => whnf) | skip) | (with_reducible refine And.intro ?_ ?_) | ((with_reducible show arithK _ _ _); refine arith_ok ⟨by omega, by omega⟩ ?_) | ((with_reducible show quoK _ _ _ _); refine quo_ok ⟨by omega, by omega⟩ (by omega) (by omega) ?_) | ((with_reducible show remK _ _ _ _); refine rem_ok (by omega) (by omega) ?_) | ((first | (with_reducible show CallA _ _ _ _ _ _) | (with_reducible show CallQ _ _ _ _ _ _)); first | (refine Ret.goP (isMonth_ret _) rfl ?_) | (refine Ret.goQP (isMonth_ret _) rfl ?_) | (refine Ret.go (h4) rfl rfl ?_) | (refine Ret.goQ (h4) rfl rfl ?_) | (refine Ret.go (h2) rfl rfl ?_) | (refine Ret.goQ (h2) rfl rfl ?_)) | ((with_reducible show DrawA _ _ _ _ _ _); first | (refine draw_hard hT mixed (by decide +kernel) ?_))))
  all_goals first | rfl | omega | (show 4 + 1 ≤ _; omega) | (show (B (mt4 (n / 12).toNat) ++ B [45]).size + 2 ≤ _; rw [B_app]; show 5 + 2 ≤ _; omega) | ((conv => whnf); refine sv ?_; show B _ ++ B [45] ++ B _ = _; rw [B_app, B_app]; unfold mt; rw [show (n / 12).toNat = n.toNat / 12 by omega, show (n % 12 + 1).toNat = n.toNat % 12 + 1 by omega]; simp) | trace_state
end Go.Proofs.YtgpgnhadmckmhaaGreatDoor
namespace Go.Proofs.YtgpgnhadmckmhaaGreatDoor
open Go.AE Go.Lib

attribute [local irreducible] CallA LoopA DrawA CallQ arithK quoK remK eqK
open Classical in
noncomputable def rmN (l : List UInt8) : Int := if h : ∃ n, mon n ∧ l = mt n then h.choose else 0
open Classical in
noncomputable def rmB (l : List UInt8) : Bool := if ∃ n, mon n ∧ l = mt n then true else false
theorem rm_yes {l : List UInt8} {n : Int} (h : mon n) (e : l = mt n) : rmN l = n ∧ rmB l = true := by
  have he : ∃ n, mon n ∧ l = mt n := ⟨n, h, e⟩
  refine ⟨?_, if_pos he⟩
  unfold rmN
  rw [dif_pos he]
  exact mt_inj he.choose_spec.1 h (he.choose_spec.2.symm.trans e)
theorem rm_no {l : List UInt8} (h : ∀ n, mon n → l ≠ mt n) : rmN l = 0 ∧ rmB l = false := by
  have he : ¬ ∃ n, mon n ∧ l = mt n := fun ⟨n, h1, h2⟩ => h n h1 h2
  exact ⟨dif_neg he, if_neg he⟩
theorem rmB_inv {l : List UInt8} (h : rmB l = true) : ∃ n, mon n ∧ l = mt n ∧ rmN l = n := by
  by_cases he : ∃ n, mon n ∧ l = mt n
  · obtain ⟨n, h1, h2⟩ := he
    exact ⟨n, h1, h2, (rm_yes h1 h2).1⟩
  · rw [(rm_no fun n h1 h2 => he ⟨n, h1, h2⟩).2] at h
    cases h
theorem rmN_in (l : List UInt8) : mon (rmN l) := by
  by_cases he : ∃ n, mon n ∧ l = mt n
  · obtain ⟨n, h1, h2⟩ := he
    rw [(rm_yes h1 h2).1]; exact h1
  · rw [(rm_no fun n h1 h2 => he ⟨n, h1, h2⟩).1]; unfold mon; omega
attribute [local irreducible] rmN rmB
theorem ifc_tupI {β : Nat → Option Nat} {n : Nat} {S : Nat → Prop} {w : World} (x : Int) (te : TypeId) (p : Value) : VR β n S w (.tup [I x, .ifc]) (.tuple #[.int .i64 x, .iface te p]) :=
  .tup _ _ rfl fun i c hc => by
    match i, hc with
    | 0, hc => cases hc; exact .v _ rfl
    | 1, hc => cases hc; exact .ifc te p
theorem parse_err (l : List UInt8) (hn : l.length ≤ 281474976710656) (h : ∀ v, parseIntB 64 l ≠ .ok v) : ∃ x : Int, Ret Tryz.prog G2 104 [Sv l, I 10, I 64] (.tup [I x, .ifc]) := by
  cases hp : parseIntB 64 l with
  | ok v => exact absurd hp (h v)
  | «syntax» =>
    refine ⟨0, ret_of_calls (xs := [.string (B l), .int .i64 10, .int .i64 64]) ⟨_, Tryz.func104, by kernel_rfl, by kernel_rfl⟩ fun S w hw => ?_⟩
    obtain ⟨u, hu, hi⟩ := hw.cell (g := 3) rfl
    exact (Tryz.strconv_ParseInt_10_at64_syntax (B l) hn hp u w hu (err_of hi)).mono fun e w' ⟨N, h1, _, _, h2⟩ => ⟨⟨_, h1, fun _ _ _ _ => ifc_tupI _ _ _⟩, Cl.of_below h2⟩
  | range =>
    refine ⟨intSat 64 l, ret_of_calls (xs := [.string (B l), .int .i64 10, .int .i64 64]) ⟨_, Tryz.func104, by kernel_rfl, by kernel_rfl⟩ fun S w hw => ?_⟩
    obtain ⟨u, hu, hi⟩ := hw.cell (g := 4) rfl
    exact (Tryz.strconv_ParseInt_10_at64_range (B l) hn hp u w hu (err_of hi)).mono fun e w' ⟨N, h1, _, _, h2⟩ => ⟨⟨_, h1, fun _ _ _ _ => ifc_tupI _ _ _⟩, Cl.of_below h2⟩
def moOk (y m : Int) : Prop := (0 ≤ y ∧ y ≤ 2999) ∧ 1 ≤ m ∧ m ≤ 12
set_option maxRecDepth 100000 in
theorem monthOf_yes (y m : Int) (h : moOk y m) : Ret Tryz.prog G 109 [I y, I m] (.tup [I (12 * y + m - 1), I 0]) := by
  unfold moOk at h
  refine ret_of_body hT Tryz.func109 rfl ?_ rfl
  repeat' ((first | (conv => whnf) | skip); (first | ((with_reducible intro h); first | contradiction | omega | (conv => whnf) | skip) | (with_reducible refine And.intro ?_ ?_) | ((with_reducible show arithK _ _ _); refine arith_ok ⟨by omega, by omega⟩ ?_) | ((with_reducible show quoK _ _ _ _); refine quo_ok ⟨by omega, by omega⟩ (by omega) (by omega) ?_) | ((with_reducible show remK _ _ _ _); refine rem_ok (by omega) (by omega) ?_) | ((first | (with_reducible show CallA _ _ _ _ _ _) | (with_reducible show CallQ _ _ _ _ _ _)); first | (refine Ret.goP (inRange_ret _ _ _) rfl ?_) | (refine Ret.goQP (inRange_ret _ _ _) rfl ?_)) | ((with_reducible show DrawA _ _ _ _ _ _); first | (refine draw_hard hT mixed (by decide +kernel) ?_))))
  all_goals first | rfl | omega | trace_state
set_option maxRecDepth 100000 in
theorem monthOf_no (y m : Int) (h : ¬ moOk y m) : Ret Tryz.prog G 109 [I y, I m] (.tup [I 0, I 2]) := by
  unfold moOk at h
  refine ret_of_body hT Tryz.func109 rfl ?_ rfl
  repeat' ((first | (conv => whnf) | skip); (first | ((with_reducible intro h); first | contradiction | omega | (conv => whnf) | skip) | (with_reducible refine And.intro ?_ ?_) | ((with_reducible show arithK _ _ _); refine arith_ok ⟨by omega, by omega⟩ ?_) | ((with_reducible show quoK _ _ _ _); refine quo_ok ⟨by omega, by omega⟩ (by omega) (by omega) ?_) | ((with_reducible show remK _ _ _ _); refine rem_ok (by omega) (by omega) ?_) | ((first | (with_reducible show CallA _ _ _ _ _ _) | (with_reducible show CallQ _ _ _ _ _ _)); first | (refine Ret.goP (inRange_ret _ _ _) rfl ?_) | (refine Ret.goQP (inRange_ret _ _ _) rfl ?_)) | ((with_reducible show DrawA _ _ _ _ _ _); first | (refine draw_hard hT mixed (by decide +kernel) ?_))))
  all_goals first | rfl | omega | trace_state
/-- What a part of a text is read as. -/
theorem parse_any (l : List UInt8) (hn : l.length ≤ 281474976710656) : ∃ (x : Int) (a : AV), (a = .v .nilIface ∨ a = .ifc) ∧ Ret Tryz.prog G2 104 [Sv l, I 10, I 64] (.tup [I x, a]) := by
  by_cases hv : ∃ v, parseIntB 64 l = .ok v
  · obtain ⟨v, hv⟩ := hv
    exact ⟨v, _, .inl rfl, parse_ok l hn v hv⟩
  · obtain ⟨x, hx⟩ := parse_err l hn fun v h => hv ⟨v, h⟩
    exact ⟨x, _, .inr rfl, hx⟩
set_option maxHeartbeats 1000000 in
set_option maxRecDepth 100000 in
theorem readMonth_ret (l : List UInt8) (hn : l.length ≤ 1048576) : Ret Tryz.prog G2 93 [Sv l] (.tup [I (rmN l), Bo (rmB l)]) := by
  have hz := B_size l
  have x4 : (B l).extract 0 4 = B (l.take 4) := by rw [B_extract]; rfl
  have x5 : (B l).extract 5 l.length = B (l.drop 5) := by rw [B_extract, take_all (Nat.le_refl _)]
  have l4 : (l.take 4).length ≤ 4 := by rw [List.length_take]; omega
  have l5 : (l.drop 5).length ≤ 1048576 := by rw [List.length_drop]; omega
  refine ret_of_body hT Tryz.func93 rfl ?_ rfl
  by_cases hx : ∃ n, mon n ∧ l = mt n
  · obtain ⟨n, hm, he⟩ := hx
    obtain ⟨e1, e2⟩ := rm_yes hm he
    have h7 : l.length = 7 := by rw [he]; rfl
    rw [e1, e2]
    have p4 := parse_ok (l.take 4) (by omega) (n / 12) (by rw [he]; exact mt_parse4 hm)
    have p5 := parse_ok (l.drop 5) (by omega) (n % 12 + 1) (by rw [he]; exact mt_parse2 hm)
    rw [show Sv (l.take 4) = .v (.string ((B l).extract 0 4)) from by rw [x4]] at p4
    rw [show Sv (l.drop 5) = .v (.string ((B l).extract 5 l.length)) from by rw [x5]] at p5
    have ho := (monthOf_yes (n / 12) (n % 12 + 1) (by unfold mon at hm; unfold moOk; omega)).weak G_G2
    rw [show 12 * (n / 12) + (n % 12 + 1) - 1 = n by omega] at ho
    have ht := (monthText_ret n hm).weak G_G2
    rw [← he] at ht
    repeat' ((first | (conv => whnf) | skip); (first | ((with_reducible intro h); first | contradiction | omega | (conv => whnf) | skip) | (with_reducible refine And.intro ?_ ?_) | ((with_reducible show arithK _ _ _); refine arith_ok ⟨by omega, by omega⟩ ?_) | ((with_reducible show quoK _ _ _ _); refine quo_ok ⟨by omega, by omega⟩ (by omega) (by omega) ?_) | ((with_reducible show remK _ _ _ _); refine rem_ok (by omega) (by omega) ?_) | ((first | (with_reducible show CallA _ _ _ _ _ _) | (with_reducible show CallQ _ _ _ _ _ _)); first | (refine Ret.go (p4) rfl rfl ?_) | (refine Ret.goQ (p4) rfl rfl ?_) | (refine Ret.go (p5) rfl rfl ?_) | (refine Ret.goQ (p5) rfl rfl ?_) | (refine Ret.go (ho) rfl rfl ?_) | (refine Ret.goQ (ho) rfl rfl ?_) | (refine Ret.go (ht) rfl rfl ?_) | (refine Ret.goQ (ht) rfl rfl ?_)) | ((with_reducible show DrawA _ _ _ _ _ _); first | (refine draw_hard hT mixed (by decide +kernel) ?_))))
    all_goals first | rfl | omega | contradiction | (exfalso; (try simp at *); omega) | trace_state
  · obtain ⟨e1, e2⟩ := rm_no fun n h1 h2 => hx ⟨n, h1, h2⟩
    rw [e1, e2]
    by_cases h7 : l.length = 7
    · obtain ⟨x, a, ha, p4⟩ := parse_any (l.take 4) (by omega)
      obtain ⟨y, b, hb, p5⟩ := parse_any (l.drop 5) (by omega)
      rw [show Sv (l.take 4) = .v (.string ((B l).extract 0 4)) from by rw [x4]] at p4
      rw [show Sv (l.drop 5) = .v (.string ((B l).extract 5 l.length)) from by rw [x5]] at p5
      by_cases ho : moOk x y
      · have hm : mon (12 * x + y - 1) := by unfold moOk at ho; unfold mon; omega
        have hne : ¬ B (mt (12 * x + y - 1)) = B l := fun e => hx ⟨_, hm, (B_inj.1 e).symm⟩
        have ht := (monthText_ret _ hm).weak G_G2
        have ho := (monthOf_yes x y ho).weak G_G2
        rcases ha with rfl | rfl
        · rcases hb with rfl | rfl
          · repeat' ((first | (conv => whnf) | skip); (first | ((with_reducible intro h); first | contradiction | omega | (conv => whnf) | skip) | (with_reducible refine And.intro ?_ ?_) | ((with_reducible show arithK _ _ _); refine arith_ok ⟨by omega, by omega⟩ ?_) | ((with_reducible show quoK _ _ _ _); refine quo_ok ⟨by omega, by omega⟩ (by omega) (by omega) ?_) | ((with_reducible show remK _ _ _ _); refine rem_ok (by omega) (by omega) ?_) | ((first | (with_reducible show CallA _ _ _ _ _ _) | (with_reducible show CallQ _ _ _ _ _ _)); first | (refine Ret.use (p4) (by first | ((repeat' (first | exact rfl | exact trivial | (with_reducible assumption) | refine And.intro ?_ ?_ | omega | assumption)); done) | fail) ?_) | (refine Ret.useQ (p4) (by first | ((repeat' (first | exact rfl | exact trivial | (with_reducible assumption) | refine And.intro ?_ ?_ | omega | assumption)); done) | fail) rfl ?_) | (refine Ret.use (p5) (by first | ((repeat' (first | exact rfl | exact trivial | (with_reducible assumption) | refine And.intro ?_ ?_ | omega | assumption)); done) | fail) ?_) | (refine Ret.useQ (p5) (by first | ((repeat' (first | exact rfl | exact trivial | (with_reducible assumption) | refine And.intro ?_ ?_ | omega | assumption)); done) | fail) rfl ?_) | (refine Ret.go (ho) rfl rfl ?_) | (refine Ret.goQ (ho) rfl rfl ?_) | (refine Ret.go (ht) rfl rfl ?_) | (refine Ret.goQ (ht) rfl rfl ?_)) | ((with_reducible show DrawA _ _ _ _ _ _); first | (refine draw_hard hT mixed (by decide +kernel) ?_))))
            all_goals first | rfl | omega | contradiction | trace_state
          · repeat' ((first | (conv => whnf) | skip); (first | ((with_reducible intro h); first | contradiction | omega | (conv => whnf) | skip) | (with_reducible refine And.intro ?_ ?_) | ((with_reducible show arithK _ _ _); refine arith_ok ⟨by omega, by omega⟩ ?_) | ((with_reducible show quoK _ _ _ _); refine quo_ok ⟨by omega, by omega⟩ (by omega) (by omega) ?_) | ((with_reducible show remK _ _ _ _); refine rem_ok (by omega) (by omega) ?_) | ((first | (with_reducible show CallA _ _ _ _ _ _) | (with_reducible show CallQ _ _ _ _ _ _)); first | (refine Ret.use (p4) (by first | ((repeat' (first | exact rfl | exact trivial | (with_reducible assumption) | refine And.intro ?_ ?_ | omega | assumption)); done) | fail) ?_) | (refine Ret.useQ (p4) (by first | ((repeat' (first | exact rfl | exact trivial | (with_reducible assumption) | refine And.intro ?_ ?_ | omega | assumption)); done) | fail) rfl ?_) | (refine Ret.use (p5) (by first | ((repeat' (first | exact rfl | exact trivial | (with_reducible assumption) | refine And.intro ?_ ?_ | omega | assumption)); done) | fail) ?_) | (refine Ret.useQ (p5) (by first | ((repeat' (first | exact rfl | exact trivial | (with_reducible assumption) | refine And.intro ?_ ?_ | omega | assumption)); done) | fail) rfl ?_) | (refine Ret.go (ho) rfl rfl ?_) | (refine Ret.goQ (ho) rfl rfl ?_) | (refine Ret.go (ht) rfl rfl ?_) | (refine Ret.goQ (ht) rfl rfl ?_)) | ((with_reducible show DrawA _ _ _ _ _ _); first | (refine draw_hard hT mixed (by decide +kernel) ?_))))
            all_goals first | rfl | omega | contradiction | trace_state
        · rcases hb with rfl | rfl
          · repeat' ((first | (conv => whnf) | skip); (first | ((with_reducible intro h); first | contradiction | omega | (conv => whnf) | skip) | (with_reducible refine And.intro ?_ ?_) | ((with_reducible show arithK _ _ _); refine arith_ok ⟨by omega, by omega⟩ ?_) | ((with_reducible show quoK _ _ _ _); refine quo_ok ⟨by omega, by omega⟩ (by omega) (by omega) ?_) | ((with_reducible show remK _ _ _ _); refine rem_ok (by omega) (by omega) ?_) | ((first | (with_reducible show CallA _ _ _ _ _ _) | (with_reducible show CallQ _ _ _ _ _ _)); first | (refine Ret.use (p4) (by first | ((repeat' (first | exact rfl | exact trivial | (with_reducible assumption) | refine And.intro ?_ ?_ | omega | assumption)); done) | fail) ?_) | (refine Ret.useQ (p4) (by first | ((repeat' (first | exact rfl | exact trivial | (with_reducible assumption) | refine And.intro ?_ ?_ | omega | assumption)); done) | fail) rfl ?_) | (refine Ret.use (p5) (by first | ((repeat' (first | exact rfl | exact trivial | (with_reducible assumption) | refine And.intro ?_ ?_ | omega | assumption)); done) | fail) ?_) | (refine Ret.useQ (p5) (by first | ((repeat' (first | exact rfl | exact trivial | (with_reducible assumption) | refine And.intro ?_ ?_ | omega | assumption)); done) | fail) rfl ?_) | (refine Ret.go (ho) rfl rfl ?_) | (refine Ret.goQ (ho) rfl rfl ?_) | (refine Ret.go (ht) rfl rfl ?_) | (refine Ret.goQ (ht) rfl rfl ?_)) | ((with_reducible show DrawA _ _ _ _ _ _); first | (refine draw_hard hT mixed (by decide +kernel) ?_))))
            all_goals first | rfl | omega | contradiction | trace_state
          · repeat' ((first | (conv => whnf) | skip); (first | ((with_reducible intro h); first | contradiction | omega | (conv => whnf) | skip) | (with_reducible refine And.intro ?_ ?_) | ((with_reducible show arithK _ _ _); refine arith_ok ⟨by omega, by omega⟩ ?_) | ((with_reducible show quoK _ _ _ _); refine quo_ok ⟨by omega, by omega⟩ (by omega) (by omega) ?_) | ((with_reducible show remK _ _ _ _); refine rem_ok (by omega) (by omega) ?_) | ((first | (with_reducible show CallA _ _ _ _ _ _) | (with_reducible show CallQ _ _ _ _ _ _)); first | (refine Ret.use (p4) (by first | ((repeat' (first | exact rfl | exact trivial | (with_reducible assumption) | refine And.intro ?_ ?_ | omega | assumption)); done) | fail) ?_) | (refine Ret.useQ (p4) (by first | ((repeat' (first | exact rfl | exact trivial | (with_reducible assumption) | refine And.intro ?_ ?_ | omega | assumption)); done) | fail) rfl ?_) | (refine Ret.use (p5) (by first | ((repeat' (first | exact rfl | exact trivial | (with_reducible assumption) | refine And.intro ?_ ?_ | omega | assumption)); done) | fail) ?_) | (refine Ret.useQ (p5) (by first | ((repeat' (first | exact rfl | exact trivial | (with_reducible assumption) | refine And.intro ?_ ?_ | omega | assumption)); done) | fail) rfl ?_) | (refine Ret.go (ho) rfl rfl ?_) | (refine Ret.goQ (ho) rfl rfl ?_) | (refine Ret.go (ht) rfl rfl ?_) | (refine Ret.goQ (ht) rfl rfl ?_)) | ((with_reducible show DrawA _ _ _ _ _ _); first | (refine draw_hard hT mixed (by decide +kernel) ?_))))
            all_goals first | rfl | omega | contradiction | trace_state
      · have ho := (monthOf_no x y ho).weak G_G2
        rcases ha with rfl | rfl
        · rcases hb with rfl | rfl
          · repeat' ((first | (conv => whnf) | skip); (first | ((with_reducible intro h); first | contradiction | omega | (conv => whnf) | skip) | (with_reducible refine And.intro ?_ ?_) | ((with_reducible show arithK _ _ _); refine arith_ok ⟨by omega, by omega⟩ ?_) | ((with_reducible show quoK _ _ _ _); refine quo_ok ⟨by omega, by omega⟩ (by omega) (by omega) ?_) | ((with_reducible show remK _ _ _ _); refine rem_ok (by omega) (by omega) ?_) | ((first | (with_reducible show CallA _ _ _ _ _ _) | (with_reducible show CallQ _ _ _ _ _ _)); first | (refine Ret.use (p4) (by first | ((repeat' (first | exact rfl | exact trivial | (with_reducible assumption) | refine And.intro ?_ ?_ | omega | assumption)); done) | fail) ?_) | (refine Ret.useQ (p4) (by first | ((repeat' (first | exact rfl | exact trivial | (with_reducible assumption) | refine And.intro ?_ ?_ | omega | assumption)); done) | fail) rfl ?_) | (refine Ret.use (p5) (by first | ((repeat' (first | exact rfl | exact trivial | (with_reducible assumption) | refine And.intro ?_ ?_ | omega | assumption)); done) | fail) ?_) | (refine Ret.useQ (p5) (by first | ((repeat' (first | exact rfl | exact trivial | (with_reducible assumption) | refine And.intro ?_ ?_ | omega | assumption)); done) | fail) rfl ?_) | (refine Ret.go (ho) rfl rfl ?_) | (refine Ret.goQ (ho) rfl rfl ?_)) | ((with_reducible show DrawA _ _ _ _ _ _); first | (refine draw_hard hT mixed (by decide +kernel) ?_))))
            all_goals first | rfl | omega | contradiction | trace_state
          · repeat' ((first | (conv => whnf) | skip); (first | ((with_reducible intro h); first | contradiction | omega | (conv => whnf) | skip) | (with_reducible refine And.intro ?_ ?_) | ((with_reducible show arithK _ _ _); refine arith_ok ⟨by omega, by omega⟩ ?_) | ((with_reducible show quoK _ _ _ _); refine quo_ok ⟨by omega, by omega⟩ (by omega) (by omega) ?_) | ((with_reducible show remK _ _ _ _); refine rem_ok (by omega) (by omega) ?_) | ((first | (with_reducible show CallA _ _ _ _ _ _) | (with_reducible show CallQ _ _ _ _ _ _)); first | (refine Ret.use (p4) (by first | ((repeat' (first | exact rfl | exact trivial | (with_reducible assumption) | refine And.intro ?_ ?_ | omega | assumption)); done) | fail) ?_) | (refine Ret.useQ (p4) (by first | ((repeat' (first | exact rfl | exact trivial | (with_reducible assumption) | refine And.intro ?_ ?_ | omega | assumption)); done) | fail) rfl ?_) | (refine Ret.use (p5) (by first | ((repeat' (first | exact rfl | exact trivial | (with_reducible assumption) | refine And.intro ?_ ?_ | omega | assumption)); done) | fail) ?_) | (refine Ret.useQ (p5) (by first | ((repeat' (first | exact rfl | exact trivial | (with_reducible assumption) | refine And.intro ?_ ?_ | omega | assumption)); done) | fail) rfl ?_) | (refine Ret.go (ho) rfl rfl ?_) | (refine Ret.goQ (ho) rfl rfl ?_)) | ((with_reducible show DrawA _ _ _ _ _ _); first | (refine draw_hard hT mixed (by decide +kernel) ?_))))
            all_goals first | rfl | omega | contradiction | trace_state
        · rcases hb with rfl | rfl
          · repeat' ((first | (conv => whnf) | skip); (first | ((with_reducible intro h); first | contradiction | omega | (conv => whnf) | skip) | (with_reducible refine And.intro ?_ ?_) | ((with_reducible show arithK _ _ _); refine arith_ok ⟨by omega, by omega⟩ ?_) | ((with_reducible show quoK _ _ _ _); refine quo_ok ⟨by omega, by omega⟩ (by omega) (by omega) ?_) | ((with_reducible show remK _ _ _ _); refine rem_ok (by omega) (by omega) ?_) | ((first | (with_reducible show CallA _ _ _ _ _ _) | (with_reducible show CallQ _ _ _ _ _ _)); first | (refine Ret.use (p4) (by first | ((repeat' (first | exact rfl | exact trivial | (with_reducible assumption) | refine And.intro ?_ ?_ | omega | assumption)); done) | fail) ?_) | (refine Ret.useQ (p4) (by first | ((repeat' (first | exact rfl | exact trivial | (with_reducible assumption) | refine And.intro ?_ ?_ | omega | assumption)); done) | fail) rfl ?_) | (refine Ret.use (p5) (by first | ((repeat' (first | exact rfl | exact trivial | (with_reducible assumption) | refine And.intro ?_ ?_ | omega | assumption)); done) | fail) ?_) | (refine Ret.useQ (p5) (by first | ((repeat' (first | exact rfl | exact trivial | (with_reducible assumption) | refine And.intro ?_ ?_ | omega | assumption)); done) | fail) rfl ?_) | (refine Ret.go (ho) rfl rfl ?_) | (refine Ret.goQ (ho) rfl rfl ?_)) | ((with_reducible show DrawA _ _ _ _ _ _); first | (refine draw_hard hT mixed (by decide +kernel) ?_))))
            all_goals first | rfl | omega | contradiction | trace_state
          · repeat' ((first | (conv => whnf) | skip); (first | ((with_reducible intro h); first | contradiction | omega | (conv => whnf) | skip) | (with_reducible refine And.intro ?_ ?_) | ((with_reducible show arithK _ _ _); refine arith_ok ⟨by omega, by omega⟩ ?_) | ((with_reducible show quoK _ _ _ _); refine quo_ok ⟨by omega, by omega⟩ (by omega) (by omega) ?_) | ((with_reducible show remK _ _ _ _); refine rem_ok (by omega) (by omega) ?_) | ((first | (with_reducible show CallA _ _ _ _ _ _) | (with_reducible show CallQ _ _ _ _ _ _)); first | (refine Ret.use (p4) (by first | ((repeat' (first | exact rfl | exact trivial | (with_reducible assumption) | refine And.intro ?_ ?_ | omega | assumption)); done) | fail) ?_) | (refine Ret.useQ (p4) (by first | ((repeat' (first | exact rfl | exact trivial | (with_reducible assumption) | refine And.intro ?_ ?_ | omega | assumption)); done) | fail) rfl ?_) | (refine Ret.use (p5) (by first | ((repeat' (first | exact rfl | exact trivial | (with_reducible assumption) | refine And.intro ?_ ?_ | omega | assumption)); done) | fail) ?_) | (refine Ret.useQ (p5) (by first | ((repeat' (first | exact rfl | exact trivial | (with_reducible assumption) | refine And.intro ?_ ?_ | omega | assumption)); done) | fail) rfl ?_) | (refine Ret.go (ho) rfl rfl ?_) | (refine Ret.goQ (ho) rfl rfl ?_)) | ((with_reducible show DrawA _ _ _ _ _ _); first | (refine draw_hard hT mixed (by decide +kernel) ?_))))
            all_goals first | rfl | omega | contradiction | trace_state
    · repeat' ((first | (conv => whnf) | skip); (first | ((with_reducible intro h); first | contradiction | omega | (conv => whnf) | skip) | (with_reducible refine And.intro ?_ ?_) | ((with_reducible show arithK _ _ _); refine arith_ok ⟨by omega, by omega⟩ ?_) | ((with_reducible show quoK _ _ _ _); refine quo_ok ⟨by omega, by omega⟩ (by omega) (by omega) ?_) | ((with_reducible show remK _ _ _ _); refine rem_ok (by omega) (by omega) ?_) | ((first | (with_reducible show CallA _ _ _ _ _ _) | (with_reducible show CallQ _ _ _ _ _ _)); first | fail) | ((with_reducible show DrawA _ _ _ _ _ _); first | (refine draw_hard hT mixed (by decide +kernel) ?_))))
      all_goals first | rfl | omega | contradiction | (exfalso; (try simp at *); omega) | trace_state
end Go.Proofs.YtgpgnhadmckmhaaGreatDoor
namespace Go.Proofs.YtgpgnhadmckmhaaGreatDoor
open Go.AE Go.Lib

def lft (d : Int) : List UInt8 := if d = -1 then [45] else mt d
/-- The words of a member's line. -/
def mws (r : List Int) : List (List UInt8) := [itoa (r.getD 0 0), mt (r.getD 1 0), mt (r.getD 2 0), mt (r.getD 4 0), lft (r.getD 3 0)]
def mtx (r : List Int) : List UInt8 := join (mws r) [32]
def mln (r : List Int) : List UInt8 := mtx r ++ [10]
/-- The text of a register. -/
def rgx (xss : List (List Int)) : List UInt8 := (xss.map mln).flatten
theorem mtx_eq (r : List Int) : mtx r = itoa (r.getD 0 0) ++ ([32] ++ (mt (r.getD 1 0) ++ ([32] ++ (mt (r.getD 2 0) ++ ([32] ++ (mt (r.getD 4 0) ++ ([32] ++ lft (r.getD 3 0)))))))) := by
  unfold mtx mws
  rw [join_cons2, join_cons2, join_cons2, join_cons2, join_one]
theorem lft_len (d : Int) : (lft d).length ≤ 7 := by
  unfold lft
  split
  · decide
  · exact Nat.le_of_eq (mt_len d)
theorem mtx_len {r : List Int} (h : okI (r.getD 0 0)) : (mtx r).length ≤ 53 := by
  rw [mtx_eq]
  have := itoa_len h
  have := lft_len (r.getD 3 0)
  simp only [List.length_append, List.length_cons, List.length_nil, mt_len]
  omega
theorem rgx_nil : rgx [] = [] := rfl
theorem rgx_cons (r : List Int) (q : List (List Int)) : rgx (r :: q) = mtx r ++ 10 :: rgx q := by
  show mln r ++ (q.map mln).flatten = _
  unfold mln rgx
  rw [List.append_assoc]; rfl
theorem rgx_snoc {xss : List (List Int)} {i : Nat} (h : i < xss.length) : rgx (xss.take (i + 1)) = rgx (xss.take i) ++ mtx (xss.getD i []) ++ [10] := by
  rw [take_snoc [] h]
  unfold rgx
  rw [List.map_append, List.flatten_append, List.append_assoc]
  simp [mln]
theorem rgx_len {xss : List (List Int)} (h : ∀ r ∈ xss, okI (r.getD 0 0)) : ∀ i, i ≤ xss.length → (rgx (xss.take i)).length ≤ 54 * i
  | 0, _ => by simp [rgx]
  | i + 1, hi => by
    rw [rgx_snoc (by omega), List.length_append, List.length_append]
    have := rgx_len h i (by omega)
    have := mtx_len (h _ (getD_mem (d := ([] : List Int)) (show i < xss.length by omega)))
    show _ + 1 ≤ _
    omega
theorem rowR_of {xss : List (List Int)} (h : isReg xss) {r : List Int} (hr : r ∈ xss) : rowR r := by
  obtain ⟨i, hi, rfl⟩ := List.getElem_of_mem hr
  have := (h.1 i hi).1
  rw [show xss.getD ((i : Int)).toNat [] = xss[i] from by rw [Int.toNat_natCast, List.getD_eq_getElem?_getD, List.getElem?_eq_getElem hi]; rfl] at this
  exact this
theorem rowR_ok {r : List Int} (h : rowR r) : okI (r.getD 0 0) := by
  unfold rowR rowM at h
  unfold okI
  omega
theorem rowR_mon {r : List Int} (h : rowR r) : mon (r.getD 1 0) ∧ mon (r.getD 2 0) ∧ mon (r.getD 4 0) ∧ (r.getD 3 0 = -1 ∨ mon (r.getD 3 0)) := by
  unfold rowR rowM at h
  unfold mon
  omega
theorem mt_free {n : Int} {c : UInt8} (h : mon n) (h1 : c ≠ 45) (h2 : ¬ dgt c) : c ∉ mt n := fun hm => by
  unfold mon at h
  unfold mt at hm
  rcases List.mem_append.1 hm with hm | hm
  · exact h2 (mt4_dgt (by omega) c hm)
  · rcases List.mem_cons.1 hm with hm | hm
    · exact h1 hm
    · exact h2 (mt2_dgt (by omega) c hm)
theorem lft_free {n : Int} {c : UInt8} (h : n = -1 ∨ mon n) (h1 : c ≠ 45) (h2 : ¬ dgt c) : c ∉ lft n := fun hm => by
  unfold lft at hm
  split at hm
  · simp at hm; exact h1 hm
  · exact mt_free (by rcases h with h | h; exact absurd h (by assumption); exact h) h1 h2 hm
theorem mws_free {r : List Int} {c : UInt8} (h : rowR r) (h1 : c ≠ 45) (h2 : ¬ dgt c) : ∀ w ∈ mws r, c ∉ w := by
  obtain ⟨m1, m2, m3, m4⟩ := rowR_mon h
  intro w hw
  simp only [mws, List.mem_cons, List.not_mem_nil, or_false] at hw
  rcases hw with rfl | rfl | rfl | rfl | rfl
  · exact itoa_free h1 h2
  · exact mt_free m1 h1 h2
  · exact mt_free m2 h1 h2
  · exact mt_free m3 h1 h2
  · exact lft_free m4 h1 h2
theorem sp_mtx {r : List Int} (h : rowR r) : sp 32 (mtx r) = mws r := sp_join (by simp [mws]) (mws_free h (by decide) (by decide))
theorem mtx_free {r : List Int} (h : rowR r) : (10 : UInt8) ∉ mtx r := fun hm => by
  rcases join_mem hm with hm | ⟨w, hw, hm⟩
  · exact absurd hm (by decide)
  · exact mws_free h (by decide) (by decide) w hw hm
theorem sp_rgx : ∀ {xss : List (List Int)}, (∀ r ∈ xss, rowR r) → sp 10 (rgx xss) = xss.map mtx ++ [[]]
  | [], _ => rfl
  | r :: q, h => by
    rw [rgx_cons, sp_hit (mtx_free (h r (by simp))), sp_rgx fun x hx => h x (by simp [hx])]
    rfl
/-- The text of lines that end. -/
theorem join_lines : ∀ (ls : List (List UInt8)), join (ls ++ [[]]) [10] = (ls.map fun l => l ++ [10]).flatten
  | [] => by simp [join_one]
  | [x] => by
    show join [x, []] [10] = _
    rw [join_cons2, join_one]; simp
  | x :: y :: r => by
    rw [List.cons_append, List.cons_append, join_cons2, ← List.cons_append, join_lines (y :: r)]
    simp
theorem rgx_lines (xss : List (List Int)) : rgx xss = join (xss.map mtx ++ [[]]) [10] := by
  rw [join_lines, List.map_map]
  rfl
/-- A text of a valid register. -/
def AccM (s : List UInt8) (xss : List (List Int)) : Prop := (∀ r ∈ xss, r.length = 5) ∧ isReg xss ∧ s = rgx xss
theorem AccM.sp {s : List UInt8} {xss : List (List Int)} (h : AccM s xss) : Go.AE.sp 10 s = xss.map mtx ++ [[]] := by
  rw [h.2.2]
  exact sp_rgx fun r hr => rowR_of h.2.1 hr
/-! ### What a line is read as -/
open Classical in
noncomputable def dcV (w : List UInt8) : Int := if h : ∃ n, rg n ∧ w = itoa n then h.choose else 0
open Classical in
noncomputable def dcB (w : List UInt8) : Bool := if ∃ n, rg n ∧ w = itoa n then true else false
theorem dc_yes {w : List UInt8} {n : Int} (h : rg n) (e : w = itoa n) : dcV w = n ∧ dcB w = true := by
  have he : ∃ n, rg n ∧ w = itoa n := ⟨n, h, e⟩
  refine ⟨?_, if_pos he⟩
  unfold dcV
  rw [dif_pos he]
  exact itoa_inj (he.choose_spec.2.symm.trans e)
theorem dc_no {w : List UInt8} (h : ∀ n, rg n → w ≠ itoa n) : dcV w = 0 ∧ dcB w = false := by
  have he : ¬ ∃ n, rg n ∧ w = itoa n := fun ⟨n, h1, h2⟩ => h n h1 h2
  exact ⟨dif_neg he, if_neg he⟩
attribute [local irreducible] dcV dcB
noncomputable def lfV (w : List UInt8) : Int := if w = [45] then -1 else rmN w
noncomputable def lfB (w : List UInt8) : Bool := if w = [45] then true else rmB w
theorem lf_of {d : Int} (h : d = -1 ∨ mon d) : lfV (lft d) = d ∧ lfB (lft d) = true := by
  unfold lft
  by_cases hd : d = -1
  · rw [if_pos hd]; exact ⟨hd.symm, rfl⟩
  · rw [if_neg hd]
    have hm : mon d := by rcases h with h | h; exact absurd h hd; exact h
    have hne : mt d ≠ [45] := fun e => by have := congrArg List.length e; rw [mt_len] at this; cases this
    obtain ⟨e1, e2⟩ := rm_yes hm rfl
    unfold lfV lfB
    rw [if_neg hne, if_neg hne]
    exact ⟨e1, e2⟩
/-- The program's reading of a line. -/
noncomputable def rowP (l : List UInt8) : List Int := if (sp 32 l).length = 5 then [dcV ((sp 32 l).getD 0 []), rmN ((sp 32 l).getD 1 []), rmN ((sp 32 l).getD 2 []), lfV ((sp 32 l).getD 4 []), rmN ((sp 32 l).getD 3 [])] else [0, 0, 0, 0, 0]
noncomputable def okP (l : List UInt8) : Bool := decide ((sp 32 l).length = 5) && (dcB ((sp 32 l).getD 0 []) && (rmB ((sp 32 l).getD 1 []) && (rmB ((sp 32 l).getD 2 []) && (rmB ((sp 32 l).getD 3 []) && lfB ((sp 32 l).getD 4 [])))))
/-- The reference's. -/
noncomputable def rowS (l : List UInt8) : List Int := [digN ((sp 32 l).getD 0 []), rmN ((sp 32 l).getD 1 []), rmN ((sp 32 l).getD 2 []), lfV ((sp 32 l).getD 4 []), rmN ((sp 32 l).getD 3 [])]
theorem rowP_len (l : List UInt8) : (rowP l).length = 5 := by unfold rowP; split <;> rfl
theorem rowS_len (l : List UInt8) : (rowS l).length = 5 := rfl
theorem row_mtx {r : List Int} (hl : r.length = 5) (h : rowR r) : rowP (mtx r) = r ∧ okP (mtx r) = true ∧ rowS (mtx r) = r ∧ (sp 32 (mtx r)).length = 5 := by
  obtain ⟨m1, m2, m3, m4⟩ := rowR_mon h
  have ha : 0 ≤ r.getD 0 0 ∧ r.getD 0 0 ≤ 1000000 := by unfold rowR rowM at h; omega
  have hs := sp_mtx h
  have e0 : (mws r).getD 0 [] = itoa (r.getD 0 0) := rfl
  have e1 : (mws r).getD 1 [] = mt (r.getD 1 0) := rfl
  have e2 : (mws r).getD 2 [] = mt (r.getD 2 0) := rfl
  have e3 : (mws r).getD 3 [] = mt (r.getD 4 0) := rfl
  have e4 : (mws r).getD 4 [] = lft (r.getD 3 0) := rfl
  have e5 : (mws r).length = 5 := rfl
  obtain ⟨d1, d2⟩ := dc_yes (w := itoa (r.getD 0 0)) ⟨ha.1, by omega⟩ rfl
  have d3 : digN (itoa (r.getD 0 0)) = r.getD 0 0 := by
    rw [itoa_nat ha.1, (digB_dec (by omega)).2]; omega
  obtain ⟨a1, b1⟩ := rm_yes m1 rfl
  obtain ⟨a2, b2⟩ := rm_yes m2 rfl
  obtain ⟨a3, b3⟩ := rm_yes m3 rfl
  obtain ⟨a4, b4⟩ := lf_of m4
  refine ⟨?_, ?_, ?_, by rw [hs]; rfl⟩
  · unfold rowP
    rw [hs, if_pos e5, e0, e1, e2, e3, e4, d1, a1, a2, a3, a4]
    exact etaMember hl
  · unfold okP
    rw [hs, e0, e1, e2, e3, e4, d2, b1, b2, b3, b4]
    rfl
  · unfold rowS
    rw [hs, e0, e1, e2, e3, e4, d3, a1, a2, a3, a4]
    exact etaMember hl
theorem AccM.lines {s : List UInt8} {x : List (List Int)} (h : AccM s x) {ps : List (List UInt8)} {l : List UInt8} (e : Go.AE.sp 10 s = ps ++ [l]) : ps = x.map mtx ∧ l = [] := by
  rw [h.sp] at e
  obtain ⟨e1, e2⟩ := List.append_inj' e rfl
  exact ⟨e1.symm, by injection e2 with e3 _; exact e3.symm⟩
theorem map_row {f : List UInt8 → List Int} : ∀ {x : List (List Int)}, (∀ r ∈ x, f (mtx r) = r) → (x.map mtx).map f = x
  | [], _ => rfl
  | r :: q, h => by
    rw [List.map_cons, List.map_cons, h r (by simp), map_row fun y hy => h y (by simp [hy])]
theorem AccM.rows {s : List UInt8} {x : List (List Int)} (h : AccM s x) {ps : List (List UInt8)} {l : List UInt8} (e : Go.AE.sp 10 s = ps ++ [l]) : ps.map rowP = x ∧ ps.map rowS = x := by
  rw [(h.lines e).1]
  exact ⟨map_row fun r hr => (row_mtx (h.1 r hr) (rowR_of h.2.1 hr)).1, map_row fun r hr => (row_mtx (h.1 r hr) (rowR_of h.2.1 hr)).2.2.1⟩
theorem AccM.line {s : List UInt8} {x : List (List Int)} (h : AccM s x) {ps : List (List UInt8)} {l : List UInt8} (e : Go.AE.sp 10 s = ps ++ [l]) {i : Nat} (hi : i < ps.length) : ∃ r, r.length = 5 ∧ rowR r ∧ ps.getD i [] = mtx r := by
  obtain ⟨e1, _⟩ := h.lines e
  have hl : i < x.length := by have := congrArg List.length e1; rw [List.length_map] at this; omega
  refine ⟨x.getD i [], h.1 _ (getD_mem hl), rowR_of h.2.1 (getD_mem hl), ?_⟩
  rw [e1, List.getD_eq_getElem?_getD, List.getElem?_map, List.getD_eq_getElem?_getD, List.getElem?_eq_getElem hl]
  rfl
theorem sp_lastE (s : List UInt8) : ∃ ps l, sp 10 s = ps ++ [l] := ⟨_, _, (List.dropLast_concat_getLast (sp_ne 10 s)).symm⟩
theorem AccM.uniq {s : List UInt8} {x y : List (List Int)} (h : AccM s x) (h' : AccM s y) : x = y := by
  obtain ⟨ps, l, e⟩ := sp_lastE s
  rw [← (h.rows e).1, (h'.rows e).1]
open Classical in
noncomputable def RM (s : List UInt8) : List (List Int) := if h : ∃ x, AccM s x then h.choose else []
open Classical in
noncomputable def CM (s : List UInt8) : Int := if ∃ x, AccM s x then 0 else 6
theorem RM_yes {s : List UInt8} {x : List (List Int)} (h : AccM s x) : RM s = x ∧ CM s = 0 := by
  have he : ∃ x, AccM s x := ⟨x, h⟩
  refine ⟨?_, if_pos he⟩
  unfold RM
  rw [dif_pos he]
  exact he.choose_spec.uniq h
theorem RM_no {s : List UInt8} (h : ∀ x, ¬ AccM s x) : RM s = [] ∧ CM s = 6 := by
  have he : ¬ ∃ x, AccM s x := fun ⟨x, hx⟩ => h x hx
  exact ⟨dif_neg he, if_neg he⟩
theorem RM_row (s : List UInt8) : (∀ r ∈ RM s, r.length = 5) ∧ (RM s).length ≤ 60 := by
  by_cases he : ∃ x, AccM s x
  · obtain ⟨x, hx⟩ := he
    rw [(RM_yes hx).1]
    exact ⟨hx.1, hx.2.1.2⟩
  · rw [(RM_no fun x hx => he ⟨x, hx⟩).1]
    exact ⟨fun r hr => (by cases hr), Nat.zero_le _⟩
/-! ### The program's way -/
structure RdP (ps : List (List UInt8)) (i : Nat) (out : List (List Int)) : Prop where
  le : i ≤ ps.length
  eq : out = (ps.take i).map rowP
  ok : ∀ l ∈ ps.take i, okP l = true
theorem RdP.start (ps : List (List UInt8)) : RdP ps 0 [] := ⟨Nat.zero_le _, rfl, fun l h => by simp at h⟩
theorem RdP.len {ps : List (List UInt8)} {i : Nat} {out : List (List Int)} (h : RdP ps i out) : out.length = i := by rw [h.eq, List.length_map, List.length_take]; have := h.le; omega
theorem RdP.next {ps : List (List UInt8)} {i : Nat} {out : List (List Int)} (h : RdP ps i out) (hi : i < ps.length) (ho : okP (ps.getD i []) = true) : RdP ps (i + 1) (out ++ [rowP (ps.getD i [])]) :=
  ⟨hi, by rw [take_snoc [] hi, List.map_append, h.eq]; rfl, fun l hl => by
    rw [take_snoc [] hi] at hl
    rcases List.mem_append.1 hl with hl | hl
    · exact h.ok l hl
    · obtain rfl := List.mem_singleton.1 hl
      exact ho⟩
theorem RdP.row {ps : List (List UInt8)} {i : Nat} {out : List (List Int)} (h : RdP ps i out) : ∀ r ∈ out, r.length = 5 := by
  intro r hr
  rw [h.eq] at hr
  obtain ⟨l, _, rfl⟩ := List.mem_map.1 hr
  exact rowP_len l
theorem RdP.all {ps : List (List UInt8)} {out : List (List Int)} (h : RdP ps ps.length out) : out = ps.map rowP := by have := h.eq; rwa [take_all (Nat.le_refl _)] at this
theorem nacc_ok {s : List UInt8} {ps : List (List UInt8)} {l : List UInt8} (e : sp 10 s = ps ++ [l]) {i : Nat} (hi : i < ps.length) (h : okP (ps.getD i []) = false) (x : List (List Int)) : ¬ AccM s x := fun hx => by
  obtain ⟨r, h1, h2, h3⟩ := hx.line e hi
  rw [h3, (row_mtx h1 h2).2.1] at h
  cases h
theorem nacc_60 {s : List UInt8} {ps : List (List UInt8)} {l : List UInt8} (e : sp 10 s = ps ++ [l]) (h : 60 < ps.length) (x : List (List Int)) : ¬ AccM s x := fun hx => by
  have h1 := congrArg List.length (hx.lines e).1
  rw [List.length_map] at h1
  have := hx.2.1.2
  omega
theorem RdP.acc {s : List UInt8} {ps : List (List UInt8)} {out : List (List Int)} (h : RdP ps ps.length out) (h1 : isReg out) (h2 : rgx out = s) : AccM s out := ⟨h.row, h1, h2.symm⟩
theorem RdP.nacc {s : List UInt8} {ps : List (List UInt8)} {l : List UInt8} (e : sp 10 s = ps ++ [l]) {out : List (List Int)} (h : RdP ps ps.length out) (hn : ¬ (isReg out ∧ rgx out = s)) (x : List (List Int)) : ¬ AccM s x := fun hx => by
  have e1 : out = x := by rw [h.all]; exact (hx.rows e).1
  subst e1
  exact hn ⟨hx.2.1, hx.2.2.symm⟩
/-! ### The reference's way -/
structure RdS (ps : List (List UInt8)) (i : Nat) (out : List (List Int)) : Prop where
  le : i ≤ ps.length
  eq : out = (ps.take i).map rowS
  ok : ∀ l ∈ ps.take i, rowR (rowS l) ∧ mtx (rowS l) = l
theorem RdS.start (ps : List (List UInt8)) : RdS ps 0 [] := ⟨Nat.zero_le _, rfl, fun l h => by simp at h⟩
theorem RdS.len {ps : List (List UInt8)} {i : Nat} {out : List (List Int)} (h : RdS ps i out) : out.length = i := by rw [h.eq, List.length_map, List.length_take]; have := h.le; omega
theorem RdS.next {ps : List (List UInt8)} {i : Nat} {out : List (List Int)} (h : RdS ps i out) (hi : i < ps.length) (h1 : rowR (rowS (ps.getD i []))) (h2 : mtx (rowS (ps.getD i [])) = ps.getD i []) : RdS ps (i + 1) (out ++ [rowS (ps.getD i [])]) :=
  ⟨hi, by rw [take_snoc [] hi, List.map_append, h.eq]; rfl, fun l hl => by
    rw [take_snoc [] hi] at hl
    rcases List.mem_append.1 hl with hl | hl
    · exact h.ok l hl
    · obtain rfl := List.mem_singleton.1 hl
      exact ⟨h1, h2⟩⟩
theorem RdS.row {ps : List (List UInt8)} {i : Nat} {out : List (List Int)} (h : RdS ps i out) : ∀ r ∈ out, r.length = 5 := by
  intro r hr
  rw [h.eq] at hr
  obtain ⟨l, _, rfl⟩ := List.mem_map.1 hr
  exact rowS_len l
theorem RdS.all {ps : List (List UInt8)} {out : List (List Int)} (h : RdS ps ps.length out) : out = ps.map rowS := by have := h.eq; rwa [take_all (Nat.le_refl _)] at this
theorem nacc_row {s : List UInt8} {ps : List (List UInt8)} {l : List UInt8} (e : sp 10 s = ps ++ [l]) {i : Nat} (hi : i < ps.length) (h : ¬ ((sp 32 (ps.getD i [])).length = 5 ∧ rowR (rowS (ps.getD i [])) ∧ mtx (rowS (ps.getD i [])) = ps.getD i [])) (x : List (List Int)) : ¬ AccM s x := fun hx => by
  obtain ⟨r, h1, h2, h3⟩ := hx.line e hi
  obtain ⟨_, _, k1, k2⟩ := row_mtx h1 h2
  rw [h3] at h
  exact h ⟨k2, by rw [k1]; exact h2, by rw [k1]⟩
theorem nacc_last {s : List UInt8} {ps : List (List UInt8)} {l : List UInt8} (e : sp 10 s = ps ++ [l]) (h : l ≠ []) (x : List (List Int)) : ¬ AccM s x := fun hx => h (hx.lines e).2
theorem RdS.acc {s : List UInt8} {ps : List (List UInt8)} (e : sp 10 s = ps ++ [[]]) {out : List (List Int)} (h : RdS ps ps.length out) (h1 : isReg out) : AccM s out := ⟨h.row, h1, by
  have e2 : ps = out.map mtx := by
    rw [h.all, List.map_map]
    conv => lhs; rw [← List.map_id ps]
    exact List.map_congr_left fun l hl => (h.ok l (by rwa [take_all (Nat.le_refl _)])).2.symm
  rw [rgx_lines, ← e2, ← e, join_sp]⟩
theorem RdS.nacc {s : List UInt8} {ps : List (List UInt8)} {l : List UInt8} (e : sp 10 s = ps ++ [l]) {out : List (List Int)} (h : RdS ps ps.length out) (hn : ¬ isReg out) (x : List (List Int)) : ¬ AccM s x := fun hx => by
  have e1 : out = x := by rw [h.all]; exact (hx.rows e).2
  subst e1
  exact hn hx.2.1
end Go.Proofs.YtgpgnhadmckmhaaGreatDoor
