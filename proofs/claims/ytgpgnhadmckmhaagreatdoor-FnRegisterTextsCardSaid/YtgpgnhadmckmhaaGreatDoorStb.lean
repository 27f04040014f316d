/-
  Texts split and numerals read as the reference does: what the functions return. No conditions but those in the statements.
-/
import Derived.Test.YtgpgnhadmckmhaaGreatDoorSta
set_option linter.unusedVariables false
set_option linter.unusedSimpArgs false
namespace Go.Proofs.YtgpgnhadmckmhaaGreatDoor
open Go.AE Go.Lib

attribute [local irreducible] CallA LoopA DrawA CallQ arithK quoK remK eqK
/-- Where a split stands. -/
structure SpAt (c : UInt8) (l : List UInt8) (i f : Nat) (out : List (List UInt8)) : Prop where
  le : out.length ≤ i
  st : (i ≤ l.length ∧ f ≤ i ∧ out ++ sp c (l.drop f) = sp c l ∧ ∀ j, f ≤ j → j < i → l.getD j 0 ≠ c) ∨ (i = l.length + 1 ∧ out = sp c l)
theorem sp_cut {c : UInt8} {l : List UInt8} {i f : Nat} (h1 : f ≤ i) (h2 : i < l.length) (h3 : ∀ j, f ≤ j → j < i → l.getD j 0 ≠ c) (h4 : l.getD i 0 = c) : sp c (l.drop f) = (l.take i).drop f :: sp c (l.drop (i + 1)) := by
  have e : l.drop f = (l.take i).drop f ++ c :: l.drop (i + 1) := by
    have : l = l.take i ++ c :: l.drop (i + 1) := by
      conv => lhs; rw [← List.take_append_drop i l, List.drop_eq_getElem_cons h2, ← getD_lt (d := (0 : UInt8)) h2, h4]
    conv => lhs; rw [this, List.drop_append_of_le_length (by rw [List.length_take]; omega)]
  rw [e, sp_hit]
  intro hm
  obtain ⟨k, hk, hx⟩ := mem_getD (0 : UInt8) hm
  rw [List.length_drop, List.length_take] at hk
  refine h3 (f + k) (by omega) (by omega) ?_
  rw [← hx, List.getD_eq_getElem?_getD, List.getD_eq_getElem?_getD, List.getElem?_drop, List.getElem?_take, if_pos (by omega)]
theorem sp_last {c : UInt8} {l : List UInt8} {f : Nat} (h1 : f ≤ l.length) (h3 : ∀ j, f ≤ j → j < l.length → l.getD j 0 ≠ c) : sp c (l.drop f) = [l.drop f] := by
  refine sp_miss fun hm => ?_
  obtain ⟨k, hk, hx⟩ := mem_getD (0 : UInt8) hm
  rw [List.length_drop] at hk
  refine h3 (f + k) (by omega) (by omega) ?_
  rw [← hx, List.getD_eq_getElem?_getD, List.getD_eq_getElem?_getD, List.getElem?_drop]
theorem SpAt.cut {c : UInt8} {l : List UInt8} {i f : Nat} {out : List (List UInt8)} (h : SpAt c l i f out) (h2 : i < l.length) (h4 : l.getD i 0 = c) : SpAt c l (i + 1) (i + 1) (out ++ [(l.take i).drop f]) := by
  obtain ⟨hl, ⟨a1, a2, a3, a4⟩ | ⟨a1, a2⟩⟩ := h
  · refine ⟨by simp; omega, .inl ⟨by omega, Nat.le_refl _, ?_, fun j h5 h6 => by omega⟩⟩
    rw [sp_cut a2 h2 a4 h4] at a3
    rw [List.append_assoc]
    exact a3
  · omega
theorem SpAt.last {c : UInt8} {l : List UInt8} {f : Nat} {out : List (List UInt8)} (h : SpAt c l l.length f out) : SpAt c l (l.length + 1) (l.length + 1) (out ++ [(l.take l.length).drop f]) := by
  obtain ⟨hl, ⟨a1, a2, a3, a4⟩ | ⟨a1, a2⟩⟩ := h
  · refine ⟨by simp; omega, .inr ⟨rfl, ?_⟩⟩
    rw [sp_last a2 a4] at a3
    rw [take_all (Nat.le_refl _)]
    exact a3
  · omega
theorem SpAt.on {c : UInt8} {l : List UInt8} {i f : Nat} {out : List (List UInt8)} (h : SpAt c l i f out) (h2 : i < l.length) (h4 : l.getD i 0 ≠ c) : SpAt c l (i + 1) f out := by
  obtain ⟨hl, ⟨a1, a2, a3, a4⟩ | ⟨a1, a2⟩⟩ := h
  · refine ⟨by omega, .inl ⟨by omega, by omega, a3, fun j h5 h6 => ?_⟩⟩
    by_cases e : j = i
    · subst e; exact h4
    · exact a4 j h5 (by omega)
  · omega
theorem SpAt.f_le {c : UInt8} {l : List UInt8} {i f : Nat} {out : List (List UInt8)} (h : SpAt c l i f out) (h2 : i ≤ l.length) : f ≤ i := by
  obtain ⟨hl, ⟨a1, a2, a3, a4⟩ | ⟨a1, a2⟩⟩ := h
  · exact a2
  · omega
theorem SpAt.fin {c : UInt8} {l : List UInt8} {i f : Nat} {out : List (List UInt8)} (h : SpAt c l i f out) (h2 : l.length < i) : i = l.length + 1 ∧ out = sp c l := by
  obtain ⟨hl, ⟨a1, a2, a3, a4⟩ | ⟨a1, a2⟩⟩ := h
  · omega
  · exact ⟨a1, a2⟩
theorem SpAt.start (c : UInt8) (l : List UInt8) : SpAt c l 0 0 [] := ⟨Nat.le_refl _, .inl ⟨Nat.zero_le _, Nat.le_refl _, by simp, fun j _ h => by omega⟩⟩
theorem u8_eq {a b : UInt8} (h : (a.toNat : Int) = (b.toNat : Int)) : a = b := UInt8.toNat_inj.1 (by omega)
set_option maxHeartbeats 1000000 in
set_option maxRecDepth 100000 in
theorem l01Split_call (l : List UInt8) (c : UInt8) (hn : l.length ≤ 1048576) : CallA Tryz.prog G 54 [Sv l, .v (.int .u8 (c.toNat : Int))] [] (fun v J => v = .sl 0 1 ((sp c l).map B).length ∧ J = [Dstr (sp c l)]) := by
  refine CallA.ends (callA_of_body hT Tryz.func54 rfl ?_)
  repeat' ((first | (conv => whnf) | skip); (first | ((with_reducible intro h); first | contradiction | omega | (conv => whnf) | skip) | (with_reducible refine And.intro ?_ ?_) | ((with_reducible show arithK _ _ _); refine arith_ok ⟨by omega, by omega⟩ ?_) | ((with_reducible show quoK _ _ _ _); refine quo_ok ⟨by omega, by omega⟩ (by omega) (by omega) ?_) | ((with_reducible show remK _ _ _ _); refine rem_ok (by omega) (by omega) ?_) | ((first | (with_reducible show CallA _ _ _ _ _ _) | (with_reducible show CallQ _ _ _ _ _ _)); first | fail) | ((with_reducible show DrawA _ _ _ _ _ _); first | (refine draw_hard hT mixed (by decide +kernel) ?_))))
  all_goals first | rfl | omega | skip
  (conv => whnf)
  refine loop_rule hT (fun q : Nat × Nat × List (List UInt8) => SpAt c l q.1 q.2.1 q.2.2) 36 1 [0, 1, 5, 6, 7] (fun q => [Sv l, .v (.int .u8 (c.toNat : Int)), .sl 1 1 (q.2.2.map B).length, I q.2.1, I q.1]) (fun q => [.dead, .data (.strs (q.2.2.map B))]) (fun q => l.length + 1 - q.1) ((0, 0, [])) (Nat.le_of_ble_eq_true rfl) ?_ ?_ ?_
  · exact SpAt.start c l
  · first | (refine ⟨rfl, [some 0], ?_, ?_⟩; all_goals (repeat' (first | exact rfl | exact trivial | (with_reducible assumption) | refine And.intro ?_ ?_)); all_goals (first | omega | assumption); done) | trace_state
  · rintro ⟨i, f, out⟩ hS
    dsimp only at hS ⊢
    have hsz := B_size l
    have hby := byteAt_B l i
    have hle := hS.le
    have hc0 : 0 ≤ (c.toNat : Int) ∧ (c.toNat : Int) ≤ 255 := by have := c.toNat_lt; omega
    by_cases hi : i < l.length
    · have hf := hS.f_le (by omega)
      by_cases hc : l.getD i 0 = c
      · have hbc : byteAt (B l) ((i : Int)).toNat = (c.toNat : Int) := by rw [← hc]; exact hby
        have hx := B_extract l f i
        have hsn : (out ++ [(l.take i).drop f]).map B = out.map B ++ [(B l).extract f i] := by rw [List.map_append, hx]; rfl
        repeat' ((first | (conv => whnf) | skip); (first | ((with_reducible intro h); first | contradiction | omega | (conv => whnf) | skip) | (with_reducible refine And.intro ?_ ?_) | ((with_reducible show arithK _ _ _); refine arith_ok ⟨by omega, by omega⟩ ?_) | ((with_reducible show quoK _ _ _ _); refine quo_ok ⟨by omega, by omega⟩ (by omega) (by omega) ?_) | ((with_reducible show remK _ _ _ _); refine rem_ok (by omega) (by omega) ?_) | ((first | (with_reducible show CallA _ _ _ _ _ _) | (with_reducible show CallQ _ _ _ _ _ _)); first | fail) | ((with_reducible show DrawA _ _ _ _ _ _); first | (refine draw_hard hT mixed (by decide +kernel) ?_))))
        all_goals first | rfl | omega | (show (_ : Nat) ≤ _; simp; omega) | (show (i : Int) < ((B l).size : Int); omega) | skip
        all_goals ((conv => whnf); first | (refine ⟨(i + 1, i + 1, out ++ [(l.take i).drop f]), hS.cut hi hc, ?_, by dsimp only; omega⟩; (refine ⟨rfl, [some 3], ?_, ?_⟩; all_goals (repeat' (first | exact rfl | exact trivial | (with_reducible assumption) | refine And.intro ?_ ?_)); all_goals (first | omega | assumption | ((repeat' (first | ((try dsimp only); rw [hsn]; exact rfl) | exact rfl | exact trivial | (with_reducible assumption) | refine And.intro ?_ ?_ | omega | assumption)); done)); done)) | (show (f : Int) ≤ _; omega) | trace_state)
      · have hbc : byteAt (B l) ((i : Int)).toNat ≠ (c.toNat : Int) := fun e => hc (u8_eq (hby.symm.trans e))
        repeat' ((first | (conv => whnf) | skip); (first | ((with_reducible intro h); first | contradiction | omega | (conv => whnf) | skip) | (with_reducible refine And.intro ?_ ?_) | ((with_reducible show arithK _ _ _); refine arith_ok ⟨by omega, by omega⟩ ?_) | ((with_reducible show quoK _ _ _ _); refine quo_ok ⟨by omega, by omega⟩ (by omega) (by omega) ?_) | ((with_reducible show remK _ _ _ _); refine rem_ok (by omega) (by omega) ?_) | ((first | (with_reducible show CallA _ _ _ _ _ _) | (with_reducible show CallQ _ _ _ _ _ _)); first | fail) | ((with_reducible show DrawA _ _ _ _ _ _); first | (refine draw_hard hT mixed (by decide +kernel) ?_))))
        all_goals first | rfl | omega | (show (i : Int) < ((B l).size : Int); omega) | skip
        all_goals ((conv => whnf); first | (refine ⟨(i + 1, f, out), hS.on hi hc, ?_, by dsimp only; omega⟩; (refine ⟨rfl, [some 1], ?_, ?_⟩; all_goals (repeat' (first | exact rfl | exact trivial | (with_reducible assumption) | refine And.intro ?_ ?_)); all_goals (first | omega | assumption); done)) | trace_state)
    · by_cases he : i = l.length
      · subst he
        have hf := hS.f_le (Nat.le_refl _)
        have hx := B_extract l f l.length
        have hsn : (out ++ [(l.take l.length).drop f]).map B = out.map B ++ [(B l).extract f l.length] := by rw [List.map_append, hx]; rfl
        repeat' ((first | (conv => whnf) | skip); (first | ((with_reducible intro h); first | contradiction | omega | (conv => whnf) | skip) | (with_reducible refine And.intro ?_ ?_) | ((with_reducible show arithK _ _ _); refine arith_ok ⟨by omega, by omega⟩ ?_) | ((with_reducible show quoK _ _ _ _); refine quo_ok ⟨by omega, by omega⟩ (by omega) (by omega) ?_) | ((with_reducible show remK _ _ _ _); refine rem_ok (by omega) (by omega) ?_) | ((first | (with_reducible show CallA _ _ _ _ _ _) | (with_reducible show CallQ _ _ _ _ _ _)); first | fail) | ((with_reducible show DrawA _ _ _ _ _ _); first | (refine draw_hard hT mixed (by decide +kernel) ?_))))
        all_goals first | rfl | omega | (show (_ : Nat) ≤ _; simp; omega) | skip
        all_goals ((conv => whnf); first | (refine ⟨(l.length + 1, l.length + 1, out ++ [(l.take l.length).drop f]), hS.last, ?_, by dsimp only; omega⟩; (refine ⟨rfl, [some 3], ?_, ?_⟩; all_goals (repeat' (first | exact rfl | exact trivial | (with_reducible assumption) | refine And.intro ?_ ?_)); all_goals (first | omega | assumption | ((repeat' (first | ((try dsimp only); rw [hsn]; exact rfl) | exact rfl | exact trivial | (with_reducible assumption) | refine And.intro ?_ ?_ | omega | assumption)); done)); done)) | (show (f : Int) ≤ _; omega) | trace_state)
      · obtain ⟨e1, e2⟩ := hS.fin (by omega)
        subst e1 e2
        repeat' ((first | (conv => whnf) | skip); (first | ((with_reducible intro h); first | contradiction | omega | (conv => whnf) | skip) | (with_reducible refine And.intro ?_ ?_) | ((with_reducible show arithK _ _ _); refine arith_ok ⟨by omega, by omega⟩ ?_) | ((with_reducible show quoK _ _ _ _); refine quo_ok ⟨by omega, by omega⟩ (by omega) (by omega) ?_) | ((with_reducible show remK _ _ _ _); refine rem_ok (by omega) (by omega) ?_) | ((first | (with_reducible show CallA _ _ _ _ _ _) | (with_reducible show CallQ _ _ _ _ _ _)); first | fail) | ((with_reducible show DrawA _ _ _ _ _ _); first | (refine draw_hard hT mixed (by decide +kernel) ?_))))
        all_goals first | rfl | omega | skip
        all_goals ((conv => whnf); first | (refine ⟨[some 1], .sl 0 1 ((sp c l).map B).length, [Dstr (sp c l)], ?_, ?_, ?_⟩; all_goals (repeat' (first | exact rfl | exact trivial | (with_reducible assumption) | refine And.intro ?_ ?_)); all_goals (first | omega | assumption); done) | trace_state)
end Go.Proofs.YtgpgnhadmckmhaaGreatDoor
