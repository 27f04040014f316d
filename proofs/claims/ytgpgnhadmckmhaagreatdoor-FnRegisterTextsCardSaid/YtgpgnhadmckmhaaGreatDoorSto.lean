/-
  Signed numerals and lists of them, read by the reference: what the functions return. No conditions but those in the statements.
-/
import Derived.Test.YtgpgnhadmckmhaaGreatDoorStn
import Derived.Test.YtgpgnhadmckmhaaGreatDoorStb
import Derived.Test.YtgpgnhadmckmhaaGreatDoorAcc
set_option linter.unusedVariables false
set_option linter.unusedSimpArgs false
namespace Go.Proofs.YtgpgnhadmckmhaaGreatDoor
open Go.AE Go.Lib

attribute [local irreducible] CallA LoopA DrawA CallQ arithK quoK remK eqK
theorem nDigits_le : ∀ (k u : Nat), u < 10 ^ (k + 1) → nDigits u ≤ k + 1
  | 0, u, h => by rw [nDigits_small (by simpa using h)]; omega
  | k + 1, u, h => by
    by_cases hu : u < 10
    · rw [nDigits_small hu]; omega
    · rw [nDigits_big hu]
      have := nDigits_le k (u / 10) (Nat.div_lt_of_lt_mul (by rw [Nat.pow_succ] at h; omega))
      omega
theorem nDigits_le13 {u : Nat} (h : u ≤ 9999999999999) : nDigits u ≤ 13 := nDigits_le 12 u (by omega)
theorem digs_dec {u : Nat} (h : u ≤ 9999999999999) : dgOk (decDigits u) ∧ val (decDigits u) = u := by
  refine ⟨⟨⟨?_, ?_⟩, dec_dgt u⟩, val_dec u⟩
  · have := dec_ne u
    have : (decDigits u).length ≠ 0 := fun e => this (List.eq_nil_of_length_eq_zero e)
    omega
  · rw [decDigits_length]; exact nDigits_le13 h
theorem digB_dec {u : Nat} (h : u ≤ 9999999999999) : digB (decDigits u) ∧ digN (decDigits u) = u := by
  obtain ⟨h1, h2⟩ := digs_dec h
  refine ⟨⟨h1, by rw [h2]⟩, ?_⟩
  unfold digN
  rw [if_pos h1, h2]
theorem digB_inv {l : List UInt8} (h : digB l) : ∃ u, u ≤ 9999999999999 ∧ l = decDigits u := ⟨val l, val_13 h.1.2 h.1.1.2, h.2.symm⟩
theorem dec_head (u : Nat) : (decDigits u).getD 0 0 ≠ 45 := by
  cases hd : decDigits u with
  | nil => exact absurd hd (dec_ne u)
  | cons b r =>
    have := dec_dgt u b (by rw [hd]; simp)
    intro e
    have e : b = 45 := e
    rw [e] at this
    exact absurd this.1 (by decide)
def sgnN (l : List UInt8) : Int := if l.getD 0 0 = 45 then - digN (l.drop 1) else digN l
def sgnB (l : List UInt8) : Prop := if l.getD 0 0 = 45 then digB (l.drop 1) ∧ 0 < digN (l.drop 1) else digB l
instance (l : List UInt8) : Decidable (sgnB l) := by unfold sgnB; infer_instance
theorem sgn_itoa {n : Int} (h : sm n) : sgnB (itoa n) ∧ sgnN (itoa n) = n := by
  unfold sm at h
  by_cases hn : n < 0
  · rw [itoa_minus hn]
    obtain ⟨h1, h2⟩ := digB_dec (u := n.natAbs) (by omega)
    have e : (45 :: decDigits n.natAbs).drop 1 = decDigits n.natAbs := rfl
    unfold sgnB sgnN
    have e45 : (45 :: decDigits n.natAbs).getD 0 0 = 45 := rfl
    rw [if_pos e45, if_pos e45, e, h2]
    exact ⟨⟨h1, by omega⟩, by omega⟩
  · rw [itoa_nat (by omega)]
    obtain ⟨h1, h2⟩ := digB_dec (u := n.toNat) (by omega)
    unfold sgnB sgnN
    rw [if_neg (dec_head _), if_neg (dec_head _), h2]
    exact ⟨h1, by omega⟩
theorem sgn_inv {l : List UInt8} (h : sgnB l) : ∃ n, sm n ∧ l = itoa n := by
  unfold sgnB at h
  split at h
  · rename_i h0
    obtain ⟨⟨u, hu, he⟩, hp⟩ := And.intro (digB_inv h.1) h.2
    rw [he, (digB_dec hu).2] at hp
    refine ⟨-(u : Int), ⟨by omega, by omega⟩, ?_⟩
    rw [itoa_minus (by omega), show (-(u : Int)).natAbs = u by omega, ← he]
    cases l with
    | nil => exact absurd h0 (by decide)
    | cons b r =>
      have h0 : b = 45 := h0
      rw [h0]; rfl
  · obtain ⟨u, hu, rfl⟩ := digB_inv h
    refine ⟨(u : Int), ⟨by omega, by omega⟩, ?_⟩
    rw [itoa_nat (by omega)]
    rfl
theorem sgnN_in (l : List UInt8) : sm (sgnN l) := by
  unfold sgnN sm
  have h1 := digN_in l
  have h2 := digN_in (l.drop 1)
  split <;> omega
attribute [local irreducible] digN digB
set_option maxRecDepth 100000 in
theorem l01Signed_ret (l : List UInt8) (hn : l.length ≤ 1048576) : Ret Tryz.prog G 85 [Sv l] (.tup [I (sgnN l), Bo (decide (sgnB l))]) := by
  refine ret_of_body hT Tryz.func85 rfl ?_ rfl
  have hsz := B_size l
  have hby := byteAt_B l 0
  have h1 := digN_in (l.drop 1)
  have hd := l01Digits_ret l hn
  have hx := B_extract l 1 l.length
  have hdr := l01Digits_ret (l.drop 1) (by rw [List.length_drop]; omega)
  rw [take_all (Nat.le_refl _)] at hx
  have hdr' : Ret Tryz.prog G 64 [.v (.string ((B l).extract 1 l.length))] (.tup [I (digN (l.drop 1)), Bo (decide (digB (l.drop 1)))]) := by rw [hx]; exact hdr
  by_cases h0 : l.length = 0
  · have e0 : ¬ l.getD 0 0 = 45 := by
      rw [List.eq_nil_of_length_eq_zero h0]; decide
    rw [show sgnN l = digN l from if_neg e0, show decide (sgnB l) = decide (digB l) from by unfold sgnB; simp only [if_neg e0]]
    repeat' ((first | (conv => whnf) | skip); (first | ((with_reducible intro h); first | contradiction | omega | (conv => whnf) | skip) | (with_reducible refine And.intro ?_ ?_) | ((with_reducible show arithK _ _ _); refine arith_ok ⟨by omega, by omega⟩ ?_) | ((with_reducible show quoK _ _ _ _); refine quo_ok ⟨by omega, by omega⟩ (by omega) (by omega) ?_) | ((with_reducible show remK _ _ _ _); refine rem_ok (by omega) (by omega) ?_) | ((first | (with_reducible show CallA _ _ _ _ _ _) | (with_reducible show CallQ _ _ _ _ _ _)); first | (refine Ret.go (hd) rfl rfl ?_) | (refine Ret.goQ (hd) rfl rfl ?_)) | ((with_reducible show DrawA _ _ _ _ _ _); first | (refine draw_hard hT mixed (by decide +kernel) ?_))))
    all_goals first | rfl | omega | trace_state
  · by_cases h45 : l.getD 0 0 = 45
    · have hbc : byteAt (B l) 0 = 45 := by rw [hby, h45]; rfl
      rw [show sgnN l = - digN (l.drop 1) from if_pos h45, show decide (sgnB l) = decide (digB (l.drop 1) ∧ 0 < digN (l.drop 1)) from by unfold sgnB; simp only [if_pos h45]]
      rw [show - digN (l.drop 1) = 0 - digN (l.drop 1) by omega]
      by_cases hB : digB (l.drop 1)
      · rw [decide_eq_true hB] at hdr'
        by_cases hp : 0 < digN (l.drop 1)
        · rw [decide_eq_true (And.intro hB hp)]
          repeat' ((first | (conv => whnf) | skip); (first | ((with_reducible intro h); first | contradiction | omega | (conv => whnf) | skip) | (with_reducible refine And.intro ?_ ?_) | ((with_reducible show arithK _ _ _); refine arith_ok ⟨by omega, by omega⟩ ?_) | ((with_reducible show quoK _ _ _ _); refine quo_ok ⟨by omega, by omega⟩ (by omega) (by omega) ?_) | ((with_reducible show remK _ _ _ _); refine rem_ok (by omega) (by omega) ?_) | ((first | (with_reducible show CallA _ _ _ _ _ _) | (with_reducible show CallQ _ _ _ _ _ _)); first | (refine Ret.go (hdr') rfl rfl ?_) | (refine Ret.goQ (hdr') rfl rfl ?_)) | ((with_reducible show DrawA _ _ _ _ _ _); first | (refine draw_hard hT mixed (by decide +kernel) ?_))))
          all_goals first | rfl | omega | trace_state
        · rw [show decide (digB (l.drop 1) ∧ 0 < digN (l.drop 1)) = false from decide_eq_false fun hh => hp hh.2]
          repeat' ((first | (conv => whnf) | skip); (first | ((with_reducible intro h); first | contradiction | omega | (conv => whnf) | skip) | (with_reducible refine And.intro ?_ ?_) | ((with_reducible show arithK _ _ _); refine arith_ok ⟨by omega, by omega⟩ ?_) | ((with_reducible show quoK _ _ _ _); refine quo_ok ⟨by omega, by omega⟩ (by omega) (by omega) ?_) | ((with_reducible show remK _ _ _ _); refine rem_ok (by omega) (by omega) ?_) | ((first | (with_reducible show CallA _ _ _ _ _ _) | (with_reducible show CallQ _ _ _ _ _ _)); first | (refine Ret.go (hdr') rfl rfl ?_) | (refine Ret.goQ (hdr') rfl rfl ?_)) | ((with_reducible show DrawA _ _ _ _ _ _); first | (refine draw_hard hT mixed (by decide +kernel) ?_))))
          all_goals first | rfl | omega | trace_state
      · rw [decide_eq_false hB] at hdr'
        rw [show decide (digB (l.drop 1) ∧ 0 < digN (l.drop 1)) = false from decide_eq_false fun hh => hB hh.1]
        repeat' ((first | (conv => whnf) | skip); (first | ((with_reducible intro h); first | contradiction | omega | (conv => whnf) | skip) | (with_reducible refine And.intro ?_ ?_) | ((with_reducible show arithK _ _ _); refine arith_ok ⟨by omega, by omega⟩ ?_) | ((with_reducible show quoK _ _ _ _); refine quo_ok ⟨by omega, by omega⟩ (by omega) (by omega) ?_) | ((with_reducible show remK _ _ _ _); refine rem_ok (by omega) (by omega) ?_) | ((first | (with_reducible show CallA _ _ _ _ _ _) | (with_reducible show CallQ _ _ _ _ _ _)); first | (refine Ret.go (hdr') rfl rfl ?_) | (refine Ret.goQ (hdr') rfl rfl ?_)) | ((with_reducible show DrawA _ _ _ _ _ _); first | (refine draw_hard hT mixed (by decide +kernel) ?_))))
        all_goals first | rfl | omega | trace_state
    · have hbc : byteAt (B l) 0 ≠ 45 := fun e => h45 (u8_eq (hby.symm.trans e))
      rw [show sgnN l = digN l from if_neg h45, show decide (sgnB l) = decide (digB l) from by unfold sgnB; simp only [if_neg h45]]
      repeat' ((first | (conv => whnf) | skip); (first | ((with_reducible intro h); first | contradiction | omega | (conv => whnf) | skip) | (with_reducible refine And.intro ?_ ?_) | ((with_reducible show arithK _ _ _); refine arith_ok ⟨by omega, by omega⟩ ?_) | ((with_reducible show quoK _ _ _ _); refine quo_ok ⟨by omega, by omega⟩ (by omega) (by omega) ?_) | ((with_reducible show remK _ _ _ _); refine rem_ok (by omega) (by omega) ?_) | ((first | (with_reducible show CallA _ _ _ _ _ _) | (with_reducible show CallQ _ _ _ _ _ _)); first | (refine Ret.go (hd) rfl rfl ?_) | (refine Ret.goQ (hd) rfl rfl ?_)) | ((with_reducible show DrawA _ _ _ _ _ _); first | (refine draw_hard hT mixed (by decide +kernel) ?_))))
      all_goals first | rfl | omega | trace_state
/-! ### Lists of words -/
def allN (ws : List (List UInt8)) : Prop := ∀ w ∈ ws, sgnB w
instance (ws : List (List UInt8)) : Decidable (allN ws) := by unfold allN; infer_instance
def numX (ws : List (List UInt8)) : List Int := if allN ws then ws.map sgnN else []
theorem allN_itoa {xs : List Int} (h : ∀ x ∈ xs, sm x) : allN (xs.map itoa) ∧ numX (xs.map itoa) = xs := by
  have ha : allN (xs.map itoa) := fun w hw => by
    obtain ⟨x, hx, rfl⟩ := List.mem_map.1 hw
    exact (sgn_itoa (h x hx)).1
  refine ⟨ha, ?_⟩
  unfold numX
  rw [if_pos ha, List.map_map]
  conv => rhs; rw [← List.map_id xs]
  exact List.map_congr_left fun x hx => (sgn_itoa (h x hx)).2
theorem allN_inv {ws : List (List UInt8)} (h : allN ws) : ∃ xs : List Int, (∀ x ∈ xs, sm x) ∧ ws = xs.map itoa ∧ numX ws = xs := by
  have e : ws = (ws.map sgnN).map itoa := by
    rw [List.map_map]
    conv => lhs; rw [← List.map_id ws]
    exact List.map_congr_left fun w hw => by
      obtain ⟨n, hn, rfl⟩ := sgn_inv (h w hw)
      show itoa n = itoa (sgnN (itoa n))
      rw [(sgn_itoa hn).2]
  exact ⟨ws.map sgnN, fun x hx => by
    obtain ⟨w, _, rfl⟩ := List.mem_map.1 hx
    exact sgnN_in w, e, if_pos h⟩
theorem nums_snoc {ws : List (List UInt8)} {i : Nat} (h : i < ws.length) : (ws.take (i + 1)).map sgnN = (ws.take i).map sgnN ++ [sgnN (ws.getD i [])] := by
  rw [take_snoc [] h, List.map_append]; rfl
attribute [local irreducible] sgnN sgnB
set_option maxHeartbeats 1000000 in
set_option maxRecDepth 100000 in
theorem l01Numbers_call (ws : List (List UInt8)) (hn : ws.length ≤ 1048577) (hw : ∀ w ∈ ws, w.length ≤ 1048576) : CallA Tryz.prog G 55 [Rstr ws] [] (fun v J => v = .tup [.sl 0 1 (numX ws).length, Bo (decide (allN ws))] ∧ J = [.data (.ints .i64 (numX ws))]) := by
  refine CallA.ends (callA_of_body hT Tryz.func55 rfl ?_)
  repeat' ((first | (conv => whnf) | skip); (first | ((with_reducible intro h); first | contradiction | omega | (conv => whnf) | skip) | (with_reducible refine And.intro ?_ ?_) | ((with_reducible show arithK _ _ _); refine arith_ok ⟨by omega, by omega⟩ ?_) | ((with_reducible show quoK _ _ _ _); refine quo_ok ⟨by omega, by omega⟩ (by omega) (by omega) ?_) | ((with_reducible show remK _ _ _ _); refine rem_ok (by omega) (by omega) ?_) | ((first | (with_reducible show CallA _ _ _ _ _ _) | (with_reducible show CallQ _ _ _ _ _ _)); first | fail) | ((with_reducible show DrawA _ _ _ _ _ _); first | (refine draw_hard hT mixed (by decide +kernel) ?_))))
  all_goals first | rfl | omega | skip
  (conv => whnf)
  have hml : (ws.map B).length = ws.length := List.length_map _
  refine loop_rule hT (fun i : Nat => i ≤ ws.length ∧ ∀ w ∈ ws.take i, sgnB w) 30 1 [0, 4, 5] (fun i => [Rstr ws, .sl 1 1 ((ws.take i).map sgnN).length, I i]) (fun i => [.dead, .data (.ints .i64 ((ws.take i).map sgnN))]) (fun i => ws.length - i) (0) (Nat.le_of_ble_eq_true rfl) ?_ ?_ ?_
  · exact ⟨Nat.zero_le _, by simp⟩
  · first | (refine ⟨rfl, [some 0], ?_, ?_⟩; all_goals (repeat' (first | exact rfl | exact trivial | (with_reducible assumption) | refine And.intro ?_ ?_)); all_goals (first | omega | assumption); done) | trace_state
  · rintro i ⟨h1, h2⟩
    have hlen : ((ws.take i).map sgnN).length = i := by simp; omega
    by_cases hi : i < ws.length
    · have hsn := nums_snoc hi
      have hs := l01Signed_ret (ws.getD i []) (hw _ (getD_mem hi))
      rw [show Sv (ws.getD i []) = .v (.string ((ws.map B).getD ((i : Int)).toNat ByteArray.empty)) from (congrArg (fun b => AV.v (.string b)) (strs_getD ws i)).symm] at hs
      by_cases hg : sgnB (ws.getD i [])
      · rw [decide_eq_true hg] at hs
        repeat' ((first | (conv => whnf) | skip); (first | ((with_reducible intro h); first | contradiction | omega | (conv => whnf) | skip) | (with_reducible refine And.intro ?_ ?_) | ((with_reducible show arithK _ _ _); refine arith_ok ⟨by omega, by omega⟩ ?_) | ((with_reducible show quoK _ _ _ _); refine quo_ok ⟨by omega, by omega⟩ (by omega) (by omega) ?_) | ((with_reducible show remK _ _ _ _); refine rem_ok (by omega) (by omega) ?_) | ((first | (with_reducible show CallA _ _ _ _ _ _) | (with_reducible show CallQ _ _ _ _ _ _)); first | (refine Ret.go (hs) rfl rfl ?_) | (refine Ret.goQ (hs) rfl rfl ?_)) | ((with_reducible show DrawA _ _ _ _ _ _); first | (refine draw_hard hT mixed (by decide +kernel) ?_))))
        all_goals first | rfl | omega | (show _ < (ws.map B).length; omega) | (show (_ : Int) < ((ws.map B).length : Int); omega) | (show (_ : Nat) ≤ _; simp; omega) | (exfalso; simp at *; omega) | skip
        all_goals ((conv => whnf); first | (refine ⟨i + 1, ⟨by omega, all_snoc [] hi h2 hg⟩, ?_, by omega⟩; first | (refine ⟨rfl, [some 2], ?_, ?_⟩; all_goals (repeat' (first | exact rfl | exact trivial | (with_reducible assumption) | refine And.intro ?_ ?_)); all_goals (first | omega | assumption | ((repeat' (first | (rw [hsn]; exact rfl) | exact rfl | exact trivial | (with_reducible assumption) | refine And.intro ?_ ?_ | omega | assumption)); done)); done) | (refine ⟨rfl, [some 3], ?_, ?_⟩; all_goals (repeat' (first | exact rfl | exact trivial | (with_reducible assumption) | refine And.intro ?_ ?_)); all_goals (first | omega | assumption | ((repeat' (first | (rw [hsn]; exact rfl) | exact rfl | exact trivial | (with_reducible assumption) | refine And.intro ?_ ?_ | omega | assumption)); done)); done)) | trace_state)
      · rw [decide_eq_false hg] at hs
        have hno : ¬ allN ws := fun hh => hg (hh _ (getD_mem hi))
        rw [show numX ws = [] from if_neg hno, decide_eq_false hno]
        repeat' ((first | (conv => whnf) | skip); (first | ((with_reducible intro h); first | contradiction | omega | (conv => whnf) | skip) | (with_reducible refine And.intro ?_ ?_) | ((with_reducible show arithK _ _ _); refine arith_ok ⟨by omega, by omega⟩ ?_) | ((with_reducible show quoK _ _ _ _); refine quo_ok ⟨by omega, by omega⟩ (by omega) (by omega) ?_) | ((with_reducible show remK _ _ _ _); refine rem_ok (by omega) (by omega) ?_) | ((first | (with_reducible show CallA _ _ _ _ _ _) | (with_reducible show CallQ _ _ _ _ _ _)); first | (refine Ret.go (hs) rfl rfl ?_) | (refine Ret.goQ (hs) rfl rfl ?_)) | ((with_reducible show DrawA _ _ _ _ _ _); first | (refine draw_hard hT mixed (by decide +kernel) ?_))))
        all_goals first | rfl | omega | (show _ < (ws.map B).length; omega) | (show (_ : Int) < ((ws.map B).length : Int); omega) | (exfalso; simp at *; omega) | skip
        all_goals ((conv => whnf); first | (refine ⟨[none], .tup [.sl 0 1 ([] : List Int).length, Bo false], [.data (.ints .i64 [])], ?_, ?_, ?_⟩; all_goals (repeat' (first | exact rfl | exact trivial | (with_reducible assumption) | refine And.intro ?_ ?_)); all_goals (first | omega | assumption); done) | trace_state)
    · obtain rfl : i = ws.length := by omega
      have hal : ws.take ws.length = ws := take_all (Nat.le_refl _)
      rw [hal] at h2 hlen ⊢
      have hyes : allN ws := h2
      rw [show numX ws = ws.map sgnN from if_pos hyes, decide_eq_true hyes]
      repeat' ((first | (conv => whnf) | skip); (first | ((with_reducible intro h); first | contradiction | omega | (conv => whnf) | skip) | (with_reducible refine And.intro ?_ ?_) | ((with_reducible show arithK _ _ _); refine arith_ok ⟨by omega, by omega⟩ ?_) | ((with_reducible show quoK _ _ _ _); refine quo_ok ⟨by omega, by omega⟩ (by omega) (by omega) ?_) | ((with_reducible show remK _ _ _ _); refine rem_ok (by omega) (by omega) ?_) | ((first | (with_reducible show CallA _ _ _ _ _ _) | (with_reducible show CallQ _ _ _ _ _ _)); first | fail) | ((with_reducible show DrawA _ _ _ _ _ _); first | (refine draw_hard hT mixed (by decide +kernel) ?_))))
      all_goals first | rfl | omega | (exfalso; simp at *; done) | skip
      all_goals ((conv => whnf); first | (refine ⟨[some 1], .tup [.sl 0 1 (ws.map sgnN).length, Bo true], [.data (.ints .i64 (ws.map sgnN))], ?_, ?_, ?_⟩; all_goals (repeat' (first | exact rfl | exact trivial | (with_reducible assumption) | refine And.intro ?_ ?_)); all_goals (first | omega | assumption); done) | trace_state)
end Go.Proofs.YtgpgnhadmckmhaaGreatDoor
