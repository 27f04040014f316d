/-
  Numerals read by the reference: what the functions return. No conditions but those in the statements.
-/
import Derived.Test.YtgpgnhadmckmhaaGreatDoorSta
set_option linter.unusedVariables false
set_option linter.unusedSimpArgs false
namespace Go.Proofs.YtgpgnhadmckmhaaGreatDoor
open Go.AE Go.Lib

attribute [local irreducible] CallA LoopA DrawA CallQ arithK quoK remK eqK
theorem val_lt : ∀ (l : List UInt8) (a : Nat), (∀ b ∈ l, dgt b) → valF a l < (a + 1) * 10 ^ l.length
  | [], a, _ => by simp [valF]
  | b :: r, a, h => by
    have hb := h b (by simp)
    have ih := val_lt r (a * 10 + (b.toNat - 48)) fun x hx => h x (by simp [hx])
    have e : valF a (b :: r) = valF (a * 10 + (b.toNat - 48)) r := rfl
    rw [e, List.length_cons, Nat.pow_succ]
    have hm : (a * 10 + (b.toNat - 48) + 1) * 10 ^ r.length ≤ ((a + 1) * 10) * 10 ^ r.length := Nat.mul_le_mul_right _ (by unfold dgt at hb; omega)
    have e2 : (a + 1) * (10 ^ r.length * 10) = ((a + 1) * 10) * 10 ^ r.length := by
      rw [Nat.mul_comm (10 ^ r.length) 10, Nat.mul_assoc]
    omega
theorem val_13 {l : List UInt8} (h : ∀ b ∈ l, dgt b) (hl : l.length ≤ 13) : val l ≤ 9999999999999 := by
  have h1 := val_lt l 0 h
  have h2 : 10 ^ l.length ≤ 10 ^ 13 := Nat.pow_le_pow_right (by decide) hl
  unfold val
  omega
theorem val_take {l : List UInt8} {i : Nat} (h : i < l.length) : val (l.take (i + 1)) = val (l.take i) * 10 + ((l.getD i 0).toNat - 48) := by
  rw [take_snoc 0 h]
  exact valF_snoc _ _ _
/-- At most thirteen digits. -/
def dgOk (l : List UInt8) : Prop := (1 ≤ l.length ∧ l.length ≤ 13) ∧ ∀ b ∈ l, dgt b
instance (b : UInt8) : Decidable (dgt b) := by unfold dgt; infer_instance
instance (l : List UInt8) : Decidable (dgOk l) := by unfold dgOk; infer_instance
def digN (l : List UInt8) : Int := if dgOk l then (val l : Int) else 0
def digB (l : List UInt8) : Prop := dgOk l ∧ decDigits (val l) = l
instance (l : List UInt8) : Decidable (digB l) := by unfold digB; infer_instance
theorem getD_dgt {l : List UInt8} {i : Nat} (h : i < l.length) (hall : ∀ b ∈ l.take i, dgt b) (hd : dgt (l.getD i 0)) : ∀ b ∈ l.take (i + 1), dgt b := all_snoc (0 : UInt8) h hall hd
theorem digN_in (l : List UInt8) : 0 ≤ digN l ∧ digN l ≤ 9999999999999 := by
  unfold digN
  split
  · rename_i h; have := val_13 h.2 h.1.2; omega
  · omega
set_option maxHeartbeats 1000000 in
set_option maxRecDepth 100000 in
theorem l01Digits_ret (l : List UInt8) (hn : l.length ≤ 1048576) : Ret Tryz.prog G 64 [Sv l] (.tup [I (digN l), Bo (decide (digB l))]) := by
  refine ret_of_body hT Tryz.func64 rfl ?_ rfl
  have hsz := B_size l
  by_cases hl : 1 ≤ l.length ∧ l.length ≤ 13
  · repeat' ((first | (conv => whnf) | skip); (first | ((with_reducible intro h); first | contradiction | omega | (conv => whnf) | skip) | (with_reducible refine And.intro ?_ ?_) | ((with_reducible show arithK _ _ _); refine arith_ok ⟨by omega, by omega⟩ ?_) | ((with_reducible show quoK _ _ _ _); refine quo_ok ⟨by omega, by omega⟩ (by omega) (by omega) ?_) | ((with_reducible show remK _ _ _ _); refine rem_ok (by omega) (by omega) ?_) | ((first | (with_reducible show CallA _ _ _ _ _ _) | (with_reducible show CallQ _ _ _ _ _ _)); first | fail) | ((with_reducible show DrawA _ _ _ _ _ _); first | (refine draw_hard hT mixed (by decide +kernel) ?_))))
    all_goals first | rfl | omega | (exfalso; have h2 := h; rw [hsz] at h2; omega) | skip
    (conv => whnf)
    refine loop_rule hT (fun i : Nat => i ≤ l.length ∧ ∀ b ∈ l.take i, dgt b) 43 0 [0, 4, 5] (fun i => [Sv l, I (val (l.take i) : Int), I i]) (fun _ => []) (fun i => l.length - i) (0) (Nat.le_of_ble_eq_true rfl) ?_ ?_ ?_
    · exact ⟨Nat.zero_le _, by simp⟩
    · first | (refine ⟨rfl, [], ?_, ?_⟩; all_goals (repeat' (first | exact rfl | exact trivial | (with_reducible assumption) | refine And.intro ?_ ?_)); all_goals (first | omega | assumption); done) | trace_state
    · rintro i ⟨h1, h2⟩
      have hv := val_13 h2 (by rw [List.length_take]; omega)
      have hby := byteAt_B l i
      by_cases hi : i < l.length
      · have hc0 : 0 ≤ ((l.getD i 0).toNat : Int) ∧ ((l.getD i 0).toNat : Int) ≤ 255 := by have := (l.getD i 0).toNat_lt; omega
        have hbc : byteAt (B l) ((i : Int)).toNat = ((l.getD i 0).toNat : Int) := hby
        have hvt := val_take hi
        by_cases hd : dgt (l.getD i 0)
        · have h3 := getD_dgt hi h2 hd
          have hv3 := val_13 h3 (by rw [List.length_take]; omega)
          unfold dgt at hd
          repeat' ((first | (conv => whnf) | skip); (first | ((with_reducible intro h); first | contradiction | omega | (conv => whnf) | skip) | (with_reducible refine And.intro ?_ ?_) | ((with_reducible show arithK _ _ _); refine arith_ok ⟨by omega, by omega⟩ ?_) | ((with_reducible show quoK _ _ _ _); refine quo_ok ⟨by omega, by omega⟩ (by omega) (by omega) ?_) | ((with_reducible show remK _ _ _ _); refine rem_ok (by omega) (by omega) ?_) | ((first | (with_reducible show CallA _ _ _ _ _ _) | (with_reducible show CallQ _ _ _ _ _ _)); first | fail) | ((with_reducible show DrawA _ _ _ _ _ _); first | (refine draw_hard hT mixed (by decide +kernel) ?_))))
          all_goals first | rfl | omega | (show (i : Int) < ((B l).size : Int); omega) | (exfalso; have h5 := h; rw [hbc] at h5; omega) | skip
          all_goals ((conv => whnf); first | (refine ⟨i + 1, ⟨by omega, h3⟩, ?_, by omega⟩; (refine ⟨rfl, [], ?_, ?_⟩; all_goals (repeat' (first | exact rfl | exact trivial | (with_reducible assumption) | refine And.intro ?_ ?_)); all_goals (first | omega | assumption); done)) | trace_state)
        · have hno : ¬ dgOk l := fun hh => hd (hh.2 _ (getD_mem hi))
          have e1 : digN l = 0 := if_neg hno
          have e2 : decide (digB l) = false := decide_eq_false fun hh => hno hh.1
          rw [e1, e2]
          unfold dgt at hd
          repeat' ((first | (conv => whnf) | skip); (first | ((with_reducible intro h); first | contradiction | omega | (conv => whnf) | skip) | (with_reducible refine And.intro ?_ ?_) | ((with_reducible show arithK _ _ _); refine arith_ok ⟨by omega, by omega⟩ ?_) | ((with_reducible show quoK _ _ _ _); refine quo_ok ⟨by omega, by omega⟩ (by omega) (by omega) ?_) | ((with_reducible show remK _ _ _ _); refine rem_ok (by omega) (by omega) ?_) | ((first | (with_reducible show CallA _ _ _ _ _ _) | (with_reducible show CallQ _ _ _ _ _ _)); first | fail) | ((with_reducible show DrawA _ _ _ _ _ _); first | (refine draw_hard hT mixed (by decide +kernel) ?_))))
          all_goals first | rfl | omega | (show (i : Int) < ((B l).size : Int); omega) | (exfalso; omega) | trace_state
      · obtain rfl : i = l.length := by omega
        have hall : l.take l.length = l := take_all (Nat.le_refl _)
        rw [hall] at h2 hv ⊢
        have hok : dgOk l := ⟨hl, h2⟩
        have e1 : digN l = (val l : Int) := if_pos hok
        rw [e1]
        have hdc := l01Dec_ret (val l) (by omega)
        repeat' ((first | (conv => whnf) | skip); (first | ((with_reducible intro h); first | contradiction | omega | (conv => whnf) | skip) | (with_reducible refine And.intro ?_ ?_) | ((with_reducible show arithK _ _ _); refine arith_ok ⟨by omega, by omega⟩ ?_) | ((with_reducible show quoK _ _ _ _); refine quo_ok ⟨by omega, by omega⟩ (by omega) (by omega) ?_) | ((with_reducible show remK _ _ _ _); refine rem_ok (by omega) (by omega) ?_) | ((first | (with_reducible show CallA _ _ _ _ _ _) | (with_reducible show CallQ _ _ _ _ _ _)); first | (refine Ret.go (hdc) rfl rfl ?_) | (refine Ret.goQ (hdc) rfl rfl ?_)) | ((with_reducible show DrawA _ _ _ _ _ _); first | (refine draw_hard hT mixed (by decide +kernel) ?_))))
        all_goals first | rfl | omega | exact congrArg (fun b => AV.tup [I (val l), Bo b]) (decide_eq_true ⟨hok, B_inj.1 (by assumption)⟩).symm | exact congrArg (fun b => AV.tup [I (val l), Bo b]) (decide_eq_false fun hh : digB l => h (B_inj.2 hh.2)).symm | trace_state
  · have hno : ¬ dgOk l := fun hh => hl hh.1
    have e1 : digN l = 0 := if_neg hno
    have e2 : decide (digB l) = false := decide_eq_false fun hh => hno hh.1
    rw [e1, e2]
    repeat' ((first | (conv => whnf) | skip); (first | ((with_reducible intro h); first | contradiction | omega | (conv => whnf) | skip) | (with_reducible refine And.intro ?_ ?_) | ((with_reducible show arithK _ _ _); refine arith_ok ⟨by omega, by omega⟩ ?_) | ((with_reducible show quoK _ _ _ _); refine quo_ok ⟨by omega, by omega⟩ (by omega) (by omega) ?_) | ((with_reducible show remK _ _ _ _); refine rem_ok (by omega) (by omega) ?_) | ((first | (with_reducible show CallA _ _ _ _ _ _) | (with_reducible show CallQ _ _ _ _ _ _)); first | fail) | ((with_reducible show DrawA _ _ _ _ _ _); first | (refine draw_hard hT mixed (by decide +kernel) ?_))))
    all_goals first | rfl | omega | (exfalso; omega) | trace_state
end Go.Proofs.YtgpgnhadmckmhaaGreatDoor
