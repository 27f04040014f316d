/-
  Numerals read by the reference: what the functions return. Texts split and numerals read as the reference does: what the functions return. Signed numerals and lists of them, read by the reference: what the functions return. Texts cut apart. No conditions but those in the statements.
-/
import Derived.Test.YtglbamncajileaaGreatDoorAcc
set_option linter.unusedVariables false
set_option linter.unusedSimpArgs false
set_option maxRecDepth 100000
set_option maxHeartbeats 1000000
namespace Go.Proofs.YtglbamncajileaaGreatDoor
open Go.AE Go.Lib
section
attribute [local irreducible] CallA LoopA DrawA CallQ arithK quoK remK eqK
theorem val_lt : ∀ (l : List UInt8) (a : Nat), (∀ b ∈ l, dgt b) → valF a l < (a + 1) * 10 ^ l.length
 | [], a, _ => by simp [valF]
 | b :: r, a, h => by
   have hb := h b (by simp)
   have ih := val_lt r (a * 10 + (b.toNat - 48)) fun x hx => h x (by simp [hx])
   have e : valF a (b :: r) = valF (a * 10 + (b.toNat - 48)) r := rfl
   rw [e, List.length_cons, Nat.pow_succ]
   have hm : (a * 10 + (b.toNat - 48) + 1) * 10 ^ r.length ≤ ((a + 1) * 10) * 10 ^ r.length := Nat.mul_le_mul_right _ (by unfold dgt at hb; omega)
   have e2 : (a + 1) * (10 ^ r.length * 10) = ((a + 1) * 10) * 10 ^ r.length := by
     rw [Nat.mul_comm (10 ^ r.length) 10, Nat.mul_assoc]
   omega
theorem val_13 {l : List UInt8} (h : ∀ b ∈ l, dgt b) (hl : l.length ≤ 13) : val l ≤ 9999999999999 := by
 have h1 := val_lt l 0 h
 have h2 : 10 ^ l.length ≤ 10 ^ 13 := Nat.pow_le_pow_right (by decide) hl
 unfold val
 omega
theorem val_take {l : List UInt8} {i : Nat} (h : i < l.length) : val (l.take (i + 1)) = val (l.take i) * 10 + ((l.getD i 0).toNat - 48) := by
 rw [take_snoc 0 h]
 exact valF_snoc _ _ _
def dgOk (l : List UInt8) : Prop := (1 ≤ l.length ∧ l.length ≤ 13) ∧ ∀ b ∈ l, dgt b
instance (b : UInt8) : Decidable (dgt b) := by unfold dgt; infer_instance
instance (l : List UInt8) : Decidable (dgOk l) := by unfold dgOk; infer_instance
def digN (l : List UInt8) : Int := if dgOk l then (val l : Int) else 0
def digB (l : List UInt8) : Prop := dgOk l ∧ decDigits (val l) = l
instance (l : List UInt8) : Decidable (digB l) := by unfold digB; infer_instance
theorem getD_dgt {l : List UInt8} {i : Nat} (h : i < l.length) (hall : ∀ b ∈ l.take i, dgt b) (hd : dgt (l.getD i 0)) : ∀ b ∈ l.take (i + 1), dgt b := all_snoc (0 : UInt8) h hall hd
theorem digN_in (l : List UInt8) : 0 ≤ digN l ∧ digN l ≤ 9999999999999 := by
 unfold digN
 split
 · rename_i h; have := val_13 h.2 h.1.2; omega
 · omega
theorem l01Digits_ret (l : List UInt8) (hn : l.length ≤ 1048576) : Rt 157 [Sv l] (.tup [I (digN l), Bo (decide (digB l))]) := by
 refine bZ Tryz.func157 ?_
 have hsz := B_size l
 by_cases hl : 1 ≤ l.length ∧ l.length ≤ 13
 · repeat' (conv => whnf); first | (intro h; try exact nZ) | apply And.intro | refine sZ ?_ | fail
   all_goals first | exact rZ | (exfalso; have h2 := h; rw [hsz] at h2; omega) | skip
   (conv => whnf)
   refine loop_rule hT (fun i : Nat => i ≤ l.length ∧ ∀ b ∈ l.take i, dgt b) 43 0 [0, 4, 5] (fun i => [Sv l, I (val (l.take i) : Int), I i]) (fun _ => []) (fun i => l.length - i) (0) (Nat.le_of_ble_eq_true rfl) ?_ ?_ ?_
   · exact ⟨Nat.zero_le _, by simp⟩
   · first | (exact endH1 [])
   · rintro i ⟨h1, h2⟩
     have hv := val_13 h2 (by rw [List.length_take]; omega)
     have hby := byteAt_B l i
     by_cases hi : i < l.length
     · have hc0 : 0 ≤ ((l.getD i 0).toNat : Int) ∧ ((l.getD i 0).toNat : Int) ≤ 255 := by have := (l.getD i 0).toNat_lt; omega
       have hbc : byteAt (B l) ((i : Int)).toNat = ((l.getD i 0).toNat : Int) := hby
       have hvt := val_take hi
       by_cases hd : dgt (l.getD i 0)
       · have h3 := getD_dgt hi h2 hd
         have hv3 := val_13 h3 (by rw [List.length_take]; omega)
         unfold dgt at hd
         repeat' (conv => whnf); first | (intro h; try exact nZ) | apply And.intro | refine sZ ?_ | fail
         all_goals first | exact rZ | (show (i : Int) < ((B l).size : Int); omega) | (exfalso; have h5 := h; rw [hbc] at h5; omega) | skip
         all_goals ((conv => whnf); first | (refine ⟨i + 1, ⟨by omega, h3⟩, ?_, by omega⟩; (exact endH1 [])))
       · have hno : ¬ dgOk l := fun hh => hd (hh.2 _ (getD_mem hi))
         have e1 : digN l = 0 := if_neg hno
         have e2 : decide (digB l) = false := decide_eq_false fun hh => hno hh.1
         rw [e1, e2]
         unfold dgt at hd
         repeat' (conv => whnf); first | (intro h; try exact nZ) | apply And.intro | refine sZ ?_ | fail
         all_goals first | exact rZ | (show (i : Int) < ((B l).size : Int); omega) | (exfalso; omega)
     · obtain rfl : i = l.length := by omega
       have hall : l.take l.length = l := take_all (Nat.le_refl _)
       rw [hall] at h2 hv ⊢
       have hok : dgOk l := ⟨hl, h2⟩
       have e1 : digN l = (val l : Int) := if_pos hok
       rw [e1]
       have hdc := l01Dec_ret (val l) (by omega)
       repeat' (conv => whnf); first | (intro h; try exact nZ) | apply And.intro | refine sZ ?_ | (refine Ret.go (hdc) rfl rfl ?_) | fail
       all_goals first | exact rZ | exact congrArg (fun b => AV.tup [I (val l), Bo b]) (decide_eq_true ⟨hok, B_inj.1 ‹_›⟩).symm | exact congrArg (fun b => AV.tup [I (val l), Bo b]) (decide_eq_false fun hh : digB l => h (B_inj.2 hh.2)).symm
 · have hno : ¬ dgOk l := fun hh => hl hh.1
   have e1 : digN l = 0 := if_neg hno
   have e2 : decide (digB l) = false := decide_eq_false fun hh => hno hh.1
   rw [e1, e2]
   repeat' (conv => whnf); first | (intro h; try exact nZ) | apply And.intro | refine sZ ?_ | fail
   all_goals first | exact rZ | (exfalso; omega)
end
section
attribute [local irreducible] CallA LoopA DrawA CallQ arithK quoK remK eqK
structure SpAt (c : UInt8) (l : List UInt8) (i f : Nat) (out : List (List UInt8)) : Prop where
 le : out.length ≤ i
 st : (i ≤ l.length ∧ f ≤ i ∧ out ++ sp c (l.drop f) = sp c l ∧ ∀ j, f ≤ j → j < i → l.getD j 0 ≠ c) ∨ (i = l.length + 1 ∧ out = sp c l)
theorem sp_cut {c : UInt8} {l : List UInt8} {i f : Nat} (h1 : f ≤ i) (h2 : i < l.length) (h3 : ∀ j, f ≤ j → j < i → l.getD j 0 ≠ c) (h4 : l.getD i 0 = c) : sp c (l.drop f) = (l.take i).drop f :: sp c (l.drop (i + 1)) := by
 have e : l.drop f = (l.take i).drop f ++ c :: l.drop (i + 1) := by
   have : l = l.take i ++ c :: l.drop (i + 1) := by
     conv => lhs; rw [← List.take_append_drop i l, List.drop_eq_getElem_cons h2, ← getD_lt (d := (0 : UInt8)) h2, h4]
   conv => lhs; rw [this, List.drop_append_of_le_length (by rw [List.length_take]; omega)]
 rw [e, sp_hit]
 intro hm
 obtain ⟨k, hk, hx⟩ := mem_getD (0 : UInt8) hm
 rw [List.length_drop, List.length_take] at hk
 refine h3 (f + k) (by omega) (by omega) ?_
 rw [← hx, List.getD_eq_getElem?_getD, List.getD_eq_getElem?_getD, List.getElem?_drop, List.getElem?_take, if_pos (by omega)]
theorem sp_last {c : UInt8} {l : List UInt8} {f : Nat} (h1 : f ≤ l.length) (h3 : ∀ j, f ≤ j → j < l.length → l.getD j 0 ≠ c) : sp c (l.drop f) = [l.drop f] := by
 refine sp_miss fun hm => ?_
 obtain ⟨k, hk, hx⟩ := mem_getD (0 : UInt8) hm
 rw [List.length_drop] at hk
 refine h3 (f + k) (by omega) (by omega) ?_
 rw [← hx, List.getD_eq_getElem?_getD, List.getD_eq_getElem?_getD, List.getElem?_drop]
theorem SpAt.cut {c : UInt8} {l : List UInt8} {i f : Nat} {out : List (List UInt8)} (h : SpAt c l i f out) (h2 : i < l.length) (h4 : l.getD i 0 = c) : SpAt c l (i + 1) (i + 1) (out ++ [(l.take i).drop f]) := by
 obtain ⟨hl, ⟨a1, a2, a3, a4⟩ | ⟨a1, a2⟩⟩ := h
 · refine ⟨by simp; omega, .inl ⟨by omega, Nat.le_refl _, ?_, fun j h5 h6 => by omega⟩⟩
   rw [sp_cut a2 h2 a4 h4] at a3
   rw [List.append_assoc]
   exact a3
 · omega
theorem SpAt.last {c : UInt8} {l : List UInt8} {f : Nat} {out : List (List UInt8)} (h : SpAt c l l.length f out) : SpAt c l (l.length + 1) (l.length + 1) (out ++ [(l.take l.length).drop f]) := by
 obtain ⟨hl, ⟨a1, a2, a3, a4⟩ | ⟨a1, a2⟩⟩ := h
 · refine ⟨by simp; omega, .inr ⟨rfl, ?_⟩⟩
   rw [sp_last a2 a4] at a3
   rw [take_all (Nat.le_refl _)]
   exact a3
 · omega
theorem SpAt.on {c : UInt8} {l : List UInt8} {i f : Nat} {out : List (List UInt8)} (h : SpAt c l i f out) (h2 : i < l.length) (h4 : l.getD i 0 ≠ c) : SpAt c l (i + 1) f out := by
 obtain ⟨hl, ⟨a1, a2, a3, a4⟩ | ⟨a1, a2⟩⟩ := h
 · refine ⟨by omega, .inl ⟨by omega, by omega, a3, fun j h5 h6 => ?_⟩⟩
   by_cases e : j = i
   · subst e; exact h4
   · exact a4 j h5 (by omega)
 · omega
theorem SpAt.f_le {c : UInt8} {l : List UInt8} {i f : Nat} {out : List (List UInt8)} (h : SpAt c l i f out) (h2 : i ≤ l.length) : f ≤ i := by
 obtain ⟨hl, ⟨a1, a2, a3, a4⟩ | ⟨a1, a2⟩⟩ := h
 · exact a2
 · omega
theorem SpAt.fin {c : UInt8} {l : List UInt8} {i f : Nat} {out : List (List UInt8)} (h : SpAt c l i f out) (h2 : l.length < i) : i = l.length + 1 ∧ out = sp c l := by
 obtain ⟨hl, ⟨a1, a2, a3, a4⟩ | ⟨a1, a2⟩⟩ := h
 · omega
 · exact ⟨a1, a2⟩
theorem SpAt.start (c : UInt8) (l : List UInt8) : SpAt c l 0 0 [] := ⟨Nat.le_refl _, .inl ⟨Nat.zero_le _, Nat.le_refl _, by simp, fun j _ h => by omega⟩⟩
theorem u8_eq {a b : UInt8} (h : (a.toNat : Int) = (b.toNat : Int)) : a = b := UInt8.toNat_inj.1 (by omega)
theorem l01Split_call (l : List UInt8) (c : UInt8) (hn : l.length ≤ 1048576) : Ca 57 [Sv l, .v (.int .u8 (c.toNat : Int))] [] (fun v J => v = .sl 0 1 ((sp c l).map B).length ∧ J = [Dstr (sp c l)]) := by
 refine cZ Tryz.func57 ?_
 repeat' (conv => whnf); first | (intro h; try exact nZ) | apply And.intro | refine sZ ?_ | fail
 all_goals try exact rZ
 (conv => whnf)
 refine loop_rule hT (fun q : Nat × Nat × List (List UInt8) => SpAt c l q.1 q.2.1 q.2.2) 36 1 [0, 1, 5, 6, 7] (fun q => [Sv l, .v (.int .u8 (c.toNat : Int)), .sl 1 1 (q.2.2.map B).length, I q.2.1, I q.1]) (fun q => [.dead, .data (.strs (q.2.2.map B))]) (fun q => l.length + 1 - q.1) ((0, 0, [])) (Nat.le_of_ble_eq_true rfl) ?_ ?_ ?_
 · exact SpAt.start c l
 · first | (exact endH1 [some 0])
 · rintro ⟨i, f, out⟩ hS
   dsimp only at hS ⊢
   have hsz := B_size l
   have hby := byteAt_B l i
   have hle := hS.le
   have hc0 : 0 ≤ (c.toNat : Int) ∧ (c.toNat : Int) ≤ 255 := by have := c.toNat_lt; omega
   by_cases hi : i < l.length
   · have hf := hS.f_le (by omega)
     by_cases hc : l.getD i 0 = c
     · have hbc : byteAt (B l) ((i : Int)).toNat = (c.toNat : Int) := by rw [← hc]; exact hby
       have hx := B_extract l f i
       have hsn : (out ++ [(l.take i).drop f]).map B = out.map B ++ [(B l).extract f i] := by rw [List.map_append, hx]; rfl
       repeat' (conv => whnf); first | (intro h; try exact nZ) | apply And.intro | refine sZ ?_ | fail
       all_goals first | exact rZ | (show (_ : Nat) ≤ _; simp; omega) | (show (i : Int) < ((B l).size : Int); omega) | skip
       all_goals ((conv => whnf); first | (refine ⟨(i + 1, i + 1, out ++ [(l.take i).drop f]), hS.cut hi hc, ?_, by dsimp only; omega⟩; (refine ⟨rfl, [some 3], ?_, ?_⟩; (repeat' first | apply And.intro | exact xZ | ((try dsimp only); rw [hsn]; exact rfl) | fail); done)) | (show (f : Int) ≤ _; omega))
     · have hbc : byteAt (B l) ((i : Int)).toNat ≠ (c.toNat : Int) := fun e => hc (u8_eq (hby.symm.trans e))
       repeat' (conv => whnf); first | (intro h; try exact nZ) | apply And.intro | refine sZ ?_ | fail
       all_goals first | exact rZ | (show (i : Int) < ((B l).size : Int); omega) | skip
       all_goals ((conv => whnf); first | (refine ⟨(i + 1, f, out), hS.on hi hc, ?_, by dsimp only; omega⟩; (exact endH1 [some 1])))
   · by_cases he : i = l.length
     · subst he
       have hf := hS.f_le (Nat.le_refl _)
       have hx := B_extract l f l.length
       have hsn : (out ++ [(l.take l.length).drop f]).map B = out.map B ++ [(B l).extract f l.length] := by rw [List.map_append, hx]; rfl
       repeat' (conv => whnf); first | (intro h; try exact nZ) | apply And.intro | refine sZ ?_ | fail
       all_goals first | exact rZ | (show (_ : Nat) ≤ _; simp; omega) | skip
       all_goals ((conv => whnf); first | (refine ⟨(l.length + 1, l.length + 1, out ++ [(l.take l.length).drop f]), hS.last, ?_, by dsimp only; omega⟩; (refine ⟨rfl, [some 3], ?_, ?_⟩; (repeat' first | apply And.intro | exact xZ | ((try dsimp only); rw [hsn]; exact rfl) | fail); done)) | (show (f : Int) ≤ _; omega))
     · obtain ⟨e1, e2⟩ := hS.fin (by omega)
       subst e1 e2
       repeat' (conv => whnf); first | (intro h; try exact nZ) | apply And.intro | refine sZ ?_ | fail
       all_goals try exact rZ
       all_goals (conv => whnf); exact endE1 [some 1] (.sl 0 1 ((sp c l).map B).length) [Dstr (sp c l)]
end
section
attribute [local irreducible] CallA LoopA DrawA CallQ arithK quoK remK eqK
theorem nDigits_le : ∀ (k u : Nat), u < 10 ^ (k + 1) → nDigits u ≤ k + 1
 | 0, u, h => by rw [nDigits_small (by simpa using h)]; omega
 | k + 1, u, h => by
   by_cases hu : u < 10
   · rw [nDigits_small hu]; omega
   · rw [nDigits_big hu]
     have := nDigits_le k (u / 10) (Nat.div_lt_of_lt_mul (by rw [Nat.pow_succ] at h; omega))
     omega
theorem nDigits_le13 {u : Nat} (h : u ≤ 9999999999999) : nDigits u ≤ 13 := nDigits_le 12 u (by omega)
theorem digs_dec {u : Nat} (h : u ≤ 9999999999999) : dgOk (decDigits u) ∧ val (decDigits u) = u := by
 refine ⟨⟨⟨?_, ?_⟩, dec_dgt u⟩, val_dec u⟩
 · have := dec_ne u
   have : (decDigits u).length ≠ 0 := fun e => this (List.eq_nil_of_length_eq_zero e)
   omega
 · rw [decDigits_length]; exact nDigits_le13 h
theorem digB_dec {u : Nat} (h : u ≤ 9999999999999) : digB (decDigits u) ∧ digN (decDigits u) = u := by
 obtain ⟨h1, h2⟩ := digs_dec h
 refine ⟨⟨h1, by rw [h2]⟩, ?_⟩
 unfold digN
 rw [if_pos h1, h2]
theorem digB_inv {l : List UInt8} (h : digB l) : ∃ u, u ≤ 9999999999999 ∧ l = decDigits u := ⟨val l, val_13 h.1.2 h.1.1.2, h.2.symm⟩
theorem dec_head (u : Nat) : (decDigits u).getD 0 0 ≠ 45 := by
 cases hd : decDigits u with
 | nil => exact absurd hd (dec_ne u)
 | cons b r =>
   have := dec_dgt u b (by rw [hd]; simp)
   intro e
   have e : b = 45 := e
   rw [e] at this
   exact absurd this.1 (by decide)
def sgnN (l : List UInt8) : Int := if l.getD 0 0 = 45 then - digN (l.drop 1) else digN l
def sgnB (l : List UInt8) : Prop := if l.getD 0 0 = 45 then digB (l.drop 1) ∧ 0 < digN (l.drop 1) else digB l
instance (l : List UInt8) : Decidable (sgnB l) := by unfold sgnB; infer_instance
theorem sgn_itoa {n : Int} (h : sm n) : sgnB (itoa n) ∧ sgnN (itoa n) = n := by
 unfold sm at h
 by_cases hn : n < 0
 · rw [itoa_minus hn]
   obtain ⟨h1, h2⟩ := digB_dec (u := n.natAbs) (by omega)
   have e : (45 :: decDigits n.natAbs).drop 1 = decDigits n.natAbs := rfl
   unfold sgnB sgnN
   have e45 : (45 :: decDigits n.natAbs).getD 0 0 = 45 := rfl
   rw [if_pos e45, if_pos e45, e, h2]
   exact ⟨⟨h1, by omega⟩, by omega⟩
 · rw [itoa_nat (by omega)]
   obtain ⟨h1, h2⟩ := digB_dec (u := n.toNat) (by omega)
   unfold sgnB sgnN
   rw [if_neg (dec_head _), if_neg (dec_head _), h2]
   exact ⟨h1, by omega⟩
theorem sgn_inv {l : List UInt8} (h : sgnB l) : ∃ n, sm n ∧ l = itoa n := by
 unfold sgnB at h
 split at h
 · rename_i h0
   obtain ⟨⟨u, hu, he⟩, hp⟩ := And.intro (digB_inv h.1) h.2
   rw [he, (digB_dec hu).2] at hp
   refine ⟨-(u : Int), ⟨by omega, by omega⟩, ?_⟩
   rw [itoa_minus (by omega), show (-(u : Int)).natAbs = u by omega, ← he]
   cases l with
   | nil => exact absurd h0 (by decide)
   | cons b r =>
     have h0 : b = 45 := h0
     rw [h0]; rfl
 · obtain ⟨u, hu, rfl⟩ := digB_inv h
   refine ⟨(u : Int), ⟨by omega, by omega⟩, ?_⟩
   rw [itoa_nat (by omega)]
   rfl
theorem sgnN_in (l : List UInt8) : sm (sgnN l) := by
 unfold sgnN sm
 have h1 := digN_in l
 have h2 := digN_in (l.drop 1)
 split <;> omega
attribute [local irreducible] digN digB
theorem l01Signed_ret (l : List UInt8) (hn : l.length ≤ 1048576) : Rt 94 [Sv l] (.tup [I (sgnN l), Bo (decide (sgnB l))]) := by
 refine bZ Tryz.func94 ?_
 have hsz := B_size l
 have hby := byteAt_B l 0
 have h1 := digN_in (l.drop 1)
 have hd := l01Digits_ret l hn
 have hx := B_extract l 1 l.length
 have hdr := l01Digits_ret (l.drop 1) (by rw [List.length_drop]; omega)
 rw [take_all (Nat.le_refl _)] at hx
 have hdr' : Rt 157 [.v (.string ((B l).extract 1 l.length))] (.tup [I (digN (l.drop 1)), Bo (decide (digB (l.drop 1)))]) := by rw [hx]; exact hdr
 by_cases h0 : l.length = 0
 · have e0 : ¬ l.getD 0 0 = 45 := by
     rw [List.eq_nil_of_length_eq_zero h0]; decide
   rw [show sgnN l = digN l from if_neg e0, show decide (sgnB l) = decide (digB l) from by unfold sgnB; simp only [if_neg e0]]
   repeat' (conv => whnf); first | (intro h; try exact nZ) | apply And.intro | refine sZ ?_ | (refine Ret.go (hd) rfl rfl ?_) | fail
   all_goals first | exact rZ
 · by_cases h45 : l.getD 0 0 = 45
   · have hbc : byteAt (B l) 0 = 45 := by rw [hby, h45]; rfl
     rw [show sgnN l = - digN (l.drop 1) from if_pos h45, show decide (sgnB l) = decide (digB (l.drop 1) ∧ 0 < digN (l.drop 1)) from by unfold sgnB; simp only [if_pos h45]]
     rw [show - digN (l.drop 1) = 0 - digN (l.drop 1) by omega]
     by_cases hB : digB (l.drop 1)
     · rw [decide_eq_true hB] at hdr'
       by_cases hp : 0 < digN (l.drop 1)
       · rw [decide_eq_true (And.intro hB hp)]
         repeat' (conv => whnf); first | (intro h; try exact nZ) | apply And.intro | refine sZ ?_ | (refine Ret.go (hdr') rfl rfl ?_) | fail
         all_goals first | exact rZ
       · rw [show decide (digB (l.drop 1) ∧ 0 < digN (l.drop 1)) = false from decide_eq_false fun hh => hp hh.2]
         repeat' (conv => whnf); first | (intro h; try exact nZ) | apply And.intro | refine sZ ?_ | (refine Ret.go (hdr') rfl rfl ?_) | fail
         all_goals first | exact rZ
     · rw [decide_eq_false hB] at hdr'
       rw [show decide (digB (l.drop 1) ∧ 0 < digN (l.drop 1)) = false from decide_eq_false fun hh => hB hh.1]
       repeat' (conv => whnf); first | (intro h; try exact nZ) | apply And.intro | refine sZ ?_ | (refine Ret.go (hdr') rfl rfl ?_) | fail
       all_goals first | exact rZ
   · have hbc : byteAt (B l) 0 ≠ 45 := fun e => h45 (u8_eq (hby.symm.trans e))
     rw [show sgnN l = digN l from if_neg h45, show decide (sgnB l) = decide (digB l) from by unfold sgnB; simp only [if_neg h45]]
     repeat' (conv => whnf); first | (intro h; try exact nZ) | apply And.intro | refine sZ ?_ | (refine Ret.go (hd) rfl rfl ?_) | fail
     all_goals first | exact rZ
def allN (ws : List (List UInt8)) : Prop := ∀ w ∈ ws, sgnB w
instance (ws : List (List UInt8)) : Decidable (allN ws) := by unfold allN; infer_instance
def numX (ws : List (List UInt8)) : List Int := if allN ws then ws.map sgnN else []
theorem allN_itoa {xs : List Int} (h : ∀ x ∈ xs, sm x) : allN (xs.map itoa) ∧ numX (xs.map itoa) = xs := by
 have ha : allN (xs.map itoa) := fun w hw => by
   obtain ⟨x, hx, rfl⟩ := List.mem_map.1 hw
   exact (sgn_itoa (h x hx)).1
 refine ⟨ha, ?_⟩
 unfold numX
 rw [if_pos ha, List.map_map]
 conv => rhs; rw [← List.map_id xs]
 exact List.map_congr_left fun x hx => (sgn_itoa (h x hx)).2
theorem allN_inv {ws : List (List UInt8)} (h : allN ws) : ∃ xs : List Int, (∀ x ∈ xs, sm x) ∧ ws = xs.map itoa ∧ numX ws = xs := by
 have e : ws = (ws.map sgnN).map itoa := by
   rw [List.map_map]
   conv => lhs; rw [← List.map_id ws]
   exact List.map_congr_left fun w hw => by
     obtain ⟨n, hn, rfl⟩ := sgn_inv (h w hw)
     show itoa n = itoa (sgnN (itoa n))
     rw [(sgn_itoa hn).2]
 exact ⟨ws.map sgnN, fun x hx => by
   obtain ⟨w, _, rfl⟩ := List.mem_map.1 hx
   exact sgnN_in w, e, if_pos h⟩
theorem nums_snoc {ws : List (List UInt8)} {i : Nat} (h : i < ws.length) : (ws.take (i + 1)).map sgnN = (ws.take i).map sgnN ++ [sgnN (ws.getD i [])] := by
 rw [take_snoc [] h, List.map_append]; rfl
attribute [local irreducible] sgnN sgnB
theorem l01Numbers_call (ws : List (List UInt8)) (hn : ws.length ≤ 1048577) (hw : ∀ w ∈ ws, w.length ≤ 1048576) : Ca 67 [Rstr ws] [] (fun v J => v = .tup [.sl 0 1 (numX ws).length, Bo (decide (allN ws))] ∧ J = [.data (.ints .i64 (numX ws))]) := by
 refine cZ Tryz.func67 ?_
 repeat' (conv => whnf); first | (intro h; try exact nZ) | apply And.intro | refine sZ ?_ | fail
 all_goals try exact rZ
 (conv => whnf)
 have hml : (ws.map B).length = ws.length := List.length_map _
 refine loop_rule hT (fun i : Nat => i ≤ ws.length ∧ ∀ w ∈ ws.take i, sgnB w) 30 1 [0, 4, 5] (fun i => [Rstr ws, .sl 1 1 ((ws.take i).map sgnN).length, I i]) (fun i => [.dead, .data (.ints .i64 ((ws.take i).map sgnN))]) (fun i => ws.length - i) (0) (Nat.le_of_ble_eq_true rfl) ?_ ?_ ?_
 · exact ⟨Nat.zero_le _, by simp⟩
 · first | (exact endH1 [some 0])
 · rintro i ⟨h1, h2⟩
   have hlen : ((ws.take i).map sgnN).length = i := by simp; omega
   by_cases hi : i < ws.length
   · have hsn := nums_snoc hi
     have hs := l01Signed_ret (ws.getD i []) (hw _ (getD_mem hi))
     rw [show Sv (ws.getD i []) = .v (.string ((ws.map B).getD ((i : Int)).toNat ByteArray.empty)) from (congrArg (fun b => AV.v (.string b)) (strs_getD ws i)).symm] at hs
     by_cases hg : sgnB (ws.getD i [])
     · rw [decide_eq_true hg] at hs
       repeat' (conv => whnf); first | (intro h; try exact nZ) | apply And.intro | refine sZ ?_ | (refine Ret.go (hs) rfl rfl ?_) | fail
       all_goals first | exact rZ | (show _ < (ws.map B).length; omega) | (show (_ : Int) < ((ws.map B).length : Int); omega) | (show (_ : Nat) ≤ _; simp; omega) | (exfalso; simp at *; omega) | skip
       all_goals ((conv => whnf); first | (refine ⟨i + 1, ⟨by omega, all_snoc [] hi h2 hg⟩, ?_, by omega⟩; first | (refine ⟨rfl, [some 2], ?_, ?_⟩; (repeat' first | apply And.intro | exact xZ | (rw [hsn]; exact rfl) | fail); done) | (refine ⟨rfl, [some 3], ?_, ?_⟩; (repeat' first | apply And.intro | exact xZ | (rw [hsn]; exact rfl) | fail); done)))
     · rw [decide_eq_false hg] at hs
       have hno : ¬ allN ws := fun hh => hg (hh _ (getD_mem hi))
       rw [show numX ws = [] from if_neg hno, decide_eq_false hno]
       repeat' (conv => whnf); first | (intro h; try exact nZ) | apply And.intro | refine sZ ?_ | (refine Ret.go (hs) rfl rfl ?_) | fail
       all_goals first | exact rZ | (show _ < (ws.map B).length; omega) | (show (_ : Int) < ((ws.map B).length : Int); omega) | (exfalso; simp at *; omega) | skip
       all_goals (conv => whnf); exact endE1 [none] (.tup [.sl 0 1 ([] : List Int).length, Bo false]) [.data (.ints .i64 [])]
   · obtain rfl : i = ws.length := by omega
     have hal : ws.take ws.length = ws := take_all (Nat.le_refl _)
     rw [hal] at h2 hlen ⊢
     have hyes : allN ws := h2
     rw [show numX ws = ws.map sgnN from if_pos hyes, decide_eq_true hyes]
     repeat' (conv => whnf); first | (intro h; try exact nZ) | apply And.intro | refine sZ ?_ | fail
     all_goals first | exact rZ | (exfalso; simp at *; done) | skip
     all_goals (conv => whnf); exact endE1 [some 1] (.tup [.sl 0 1 (ws.map sgnN).length, Bo true]) [.data (.ints .i64 (ws.map sgnN))]
end
section
attribute [local irreducible] CallA LoopA DrawA CallQ arithK quoK remK eqK
attribute [local irreducible] sgnN sgnB numX allN
theorem sp_short {c : UInt8} {l : List UInt8} {n : Nat} (h : l.length ≤ n) : ∀ w ∈ sp c l, w.length ≤ n := by
 refine sp_induct (c := c) (p := fun l => l.length ≤ n → ∀ w ∈ sp c l, w.length ≤ n) (fun l hl h w hw => ?_) (fun pre post hp ih h w hw => ?_) l h
 · rw [sp_miss hl] at hw
   obtain rfl := List.mem_singleton.1 hw
   exact h
 · rw [sp_hit hp] at hw
   rw [List.length_append, List.length_cons] at h
   rcases List.mem_cons.1 hw with rfl | hw
   · omega
   · exact ih (by omega) w hw
theorem sp_many {c : UInt8} {l : List UInt8} : (sp c l).length ≤ l.length + 1 := by
 rw [sp_len]
 have := List.count_le_length (a := c) (l := l)
 omega
end
end Go.Proofs.YtglbamncajileaaGreatDoor
