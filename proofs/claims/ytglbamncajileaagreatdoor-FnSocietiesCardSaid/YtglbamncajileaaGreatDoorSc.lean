/-
  Life tables: what the functions return. Discounts and commutation columns: what the functions return. Bases and policies: what the functions return. No conditions but those in the statements.
-/
import Derived.Test.YtglbamncajileaaGreatDoorIn
set_option linter.unusedVariables false
set_option linter.unusedSimpArgs false
set_option maxRecDepth 100000
set_option maxHeartbeats 4000000
namespace Go.Proofs.YtglbamncajileaaGreatDoor
open Go.AE
section
attribute [local irreducible] CallA LoopA DrawA CallQ arithK quoK remK eqK
abbrev Tb (f : Int) (ls : List Int) : AV := .agg [I f, Ri ls]
def hdT (f : Int) (ls : List Int) : Prop := (2 ≤ ls.length ∧ ls.length ≤ 120) ∧ (0 ≤ f ∧ f ≤ 100) ∧ ls.getD 0 0 ≤ 1000000 ∧ ls.getD (ls.length - 1) 0 = 0 ∧ f + ls.length - 1 ≤ 150
def stT (ls : List Int) (i : Nat) : Prop := 1 ≤ ls.getD i 0 ∧ (0 < i → ls.getD i 0 ≤ ls.getD (i - 1) 0)
def okT (f : Int) (ls : List Int) : Prop := hdT f ls ∧ ∀ i, i < ls.length - 1 → stT ls i
noncomputable instance (f : Int) (ls : List Int) : Decidable (okT f ls) := Classical.propDecidable _
theorem st_next {ls : List Int} {i : Nat} (h : ∀ j, j < i → stT ls j) (hi : stT ls i) : ∀ j, j < i + 1 → stT ls j := fun j hj => by
 by_cases he : j = i
 · rw [he]; exact hi
 · exact h j (by omega)
theorem len_ret (ls : List Int) : Rt 163 [Ri ls] (I ls.length) := by
 refine bZ Tryz.func163 ?_
 repeat' (conv => whnf); first | (intro h; try exact nZ) | apply And.intro | refine dZ ?_ | refine sZ ?_ | fail
 all_goals first | exact rZ
theorem sub_getD {ls : List Int} {m i : Nat} (hi : i < m) : ((ls.drop 0).take m).getD i 0 = ls.getD i 0 := by
 rw [List.drop_zero, List.getD_eq_getElem?_getD, List.getD_eq_getElem?_getD, List.getElem?_take, if_pos hi]
theorem last_eq {ls : List Int} (h : 1 ≤ ls.length) : ls.getD ((ls.length : Int) - 1).toNat 0 = ls.getD (ls.length - 1) 0 := by
 rw [show ((ls.length : Int) - 1).toNat = ls.length - 1 by omega]
theorem implTable_ret (f : Int) (ls : List Int) (hn : ls.length ≤ 1048576) : Rt 105 [Tb f ls] (Bo (decide (okT f ls))) := by
 refine bZ Tryz.func105 ?_
 have e0 : ls.getD (Int.toNat 0) 0 = ls.getD 0 0 := rfl
 by_cases hh : hdT f ls
 · have hh' := hh
   unfold hdT at hh'
   have e1 := last_eq (ls := ls) (by omega)
   have e2 : ((ls.drop 0).take (((ls.length : Int) - 1).toNat - 0)).length = ls.length - 1 := by simp
   have e3 : ((ls.length : Int) - 1).toNat - 0 = ls.length - 1 := by omega
   repeat' (conv => whnf); first | (intro h; try exact nZ) | apply And.intro | refine dZ ?_ | refine sZ ?_ | (refine Ret.go (len_ret _) rfl rfl ?_) | (refine Ret.goQ (len_ret _) rfl rfl ?_) | (refine Ret.goP (inRange_ret _ _ _) rfl ?_) | (refine Ret.goQP (inRange_ret _ _ _) rfl ?_) | fail
   all_goals try omega
   refine loop_rule hT (fun i : Nat => i ≤ ls.length - 1 ∧ ∀ j, j < i → stT ls j) 70 1 [1, 3, 46, 47, 48] (fun i => [.ptr 0 0, I ls.length, Ri ((ls.drop 0).take (((ls.length : Int) - 1).toNat - 0)), I ((ls.length - 1 : Nat) : Int), I i]) (fun _ => [.cells [I f, Ri ls]]) (fun i => ls.length - 1 - i) (0) (Nat.le_of_ble_eq_true rfl) ?_ ?_ ?_
   · exact ⟨Nat.zero_le _, fun j hj => absurd hj (Nat.not_lt_zero j)⟩
   · (refine ⟨rfl, [], ?_, ?_⟩; (repeat' first | apply And.intro | exact xZ | exact e2 | fail); done)
   · rintro i ⟨h1, h2⟩
     by_cases hi : i < ls.length - 1
     · have g1 : ((ls.drop 0).take (((ls.length : Int) - 1).toNat - 0)).getD ((i : Int)).toNat 0 = ls.getD i 0 := sub_getD (by omega)
       have g2 : ls.getD ((i : Int) - 1).toNat 0 = ls.getD (i - 1) 0 := by rw [show ((i : Int) - 1).toNat = i - 1 by omega]
       by_cases hs : stT ls i
       · have hs' := hs
         unfold stT at hs'
         repeat' (conv => whnf); first | (intro h; try exact nZ) | apply And.intro | refine dZ ?_ | refine sZ ?_ | fail
         all_goals try omega
         all_goals (refine ⟨i + 1, ⟨by omega, st_next h2 hs⟩, ?_, by omega⟩; (exact endHA))
       · have hs' := hs
         unfold stT at hs'
         repeat' (conv => whnf); first | (intro h; try exact nZ) | apply And.intro | refine dZ ?_ | refine sZ ?_ | fail
         all_goals first | omega | (exact bv_false fun ho => hs (ho.2 i hi)) | skip
     · have hi' : i = ls.length - 1 := by omega
       repeat' (conv => whnf); first | (intro h; try exact nZ) | apply And.intro | refine dZ ?_ | refine sZ ?_ | fail
       all_goals first | omega | (exact bv_true ⟨hh, fun j hj => h2 j (by omega)⟩)
 · have hh' := hh
   unfold hdT at hh'
   by_cases h1 : 1 ≤ ls.length
   · have e1 := last_eq h1
     repeat' (conv => whnf); first | (intro h; try exact nZ) | apply And.intro | refine dZ ?_ | refine sZ ?_ | (refine Ret.go (len_ret _) rfl rfl ?_) | (refine Ret.goQ (len_ret _) rfl rfl ?_) | (refine Ret.goP (inRange_ret _ _ _) rfl ?_) | (refine Ret.goQP (inRange_ret _ _ _) rfl ?_) | fail
     all_goals first | omega | (exact bv_false fun ho => hh ho.1)
   · repeat' (conv => whnf); first | (intro h; try exact nZ) | apply And.intro | refine dZ ?_ | refine sZ ?_ | (refine Ret.go (len_ret _) rfl rfl ?_) | (refine Ret.goQ (len_ret _) rfl rfl ?_) | (refine Ret.goP (inRange_ret _ _ _) rfl ?_) | (refine Ret.goQP (inRange_ret _ _ _) rfl ?_) | fail
     all_goals first | omega | (exact bv_false fun ho => hh ho.1)
theorem st_last {f : Int} {ls : List Int} (h : hdT f ls) (hs : ∀ j, j < ls.length - 1 → stT ls j) : ls.getD (ls.length - 1) 0 ≤ ls.getD (ls.length - 1 - 1) 0 := by
 have h0 := h
 unfold hdT at h0
 have := (hs (ls.length - 1 - 1) (by omega)).1
 omega
theorem specTable_ret (f : Int) (ls : List Int) (hn : ls.length ≤ 1048576) : Rt 109 [Tb f ls] (Bo (decide (okT f ls))) := by
 refine bZ Tryz.func109 ?_
 have e0 : ls.getD (Int.toNat 0) 0 = ls.getD 0 0 := rfl
 by_cases hh : hdT f ls ∧ 1 ≤ ls.getD 0 0
 · have hh' := hh
   unfold hdT at hh'
   have e1 := last_eq (ls := ls) (by omega)
   repeat' (conv => whnf); first | (intro h; try exact nZ) | apply And.intro | refine dZ ?_ | refine sZ ?_ | (refine Ret.goP (l01In_ret _ _ _) rfl ?_) | (refine Ret.goQP (l01In_ret _ _ _) rfl ?_) | fail
   all_goals try omega
   refine loop_rule hT (fun i : Nat => 1 ≤ i ∧ i ≤ ls.length ∧ ∀ j, j < i → j < ls.length - 1 → stT ls j) 76 1 [1, 3, 4] (fun i => [.ptr 0 0, I ls.length, I i]) (fun _ => [.cells [I f, Ri ls]]) (fun i => ls.length - i) (1) (Nat.le_of_ble_eq_true rfl) ?_ ?_ ?_
   · refine ⟨Nat.le_refl _, by omega, fun j hj _ => ?_⟩
     obtain rfl : j = 0 := by omega
     exact ⟨hh.2, fun h => absurd h (Nat.lt_irrefl _)⟩
   · (exact endHA)
   · rintro i ⟨h1, h2, h3⟩
     by_cases hi : i < ls.length
     · have g1 : ls.getD ((i : Int)).toNat 0 = ls.getD i 0 := rfl
       have g2 : ls.getD ((i : Int) - 1).toNat 0 = ls.getD (i - 1) 0 := by rw [show ((i : Int) - 1).toNat = i - 1 by omega]
       by_cases hl : i = ls.length - 1
       · have hla := st_last hh.1 (fun j hj => h3 j (by omega) hj)
         rw [← hl] at hla
         repeat' (conv => whnf); first | (intro h; try exact nZ) | apply And.intro | refine dZ ?_ | refine sZ ?_ | fail
         all_goals try omega
         all_goals (refine ⟨i + 1, ⟨by omega, by omega, fun j hj hj2 => h3 j (by omega) hj2⟩, ?_, by omega⟩; (exact endHA))
       · by_cases hs : stT ls i
         · have hs' := hs
           unfold stT at hs'
           repeat' (conv => whnf); first | (intro h; try exact nZ) | apply And.intro | refine dZ ?_ | refine sZ ?_ | fail
           all_goals try omega
           all_goals (refine ⟨i + 1, ⟨by omega, by omega, fun j hj hj2 => by
             by_cases he : j = i
             · rw [he]; exact hs
             · exact h3 j (by omega) hj2⟩, ?_, by omega⟩; (exact endHA))
         · have hs' := hs
           unfold stT at hs'
           repeat' (conv => whnf); first | (intro h; try exact nZ) | apply And.intro | refine dZ ?_ | refine sZ ?_ | fail
           all_goals first | omega | (exact bv_false fun ho => hs (ho.2 i (by omega))) | skip
     · repeat' (conv => whnf); first | (intro h; try exact nZ) | apply And.intro | refine dZ ?_ | refine sZ ?_ | fail
       all_goals first | omega | (exact bv_true ⟨hh.1, fun j hj => h3 j (by omega) hj⟩)
 · have hf : ¬ okT f ls := fun ho => hh ⟨ho.1, (ho.2 0 (by have := ho.1; unfold hdT at this; omega)).1⟩
   have hh' := hh
   unfold hdT at hh'
   by_cases h1 : 1 ≤ ls.length
   · have e1 := last_eq h1
     repeat' (conv => whnf); first | (intro h; try exact nZ) | apply And.intro | refine dZ ?_ | refine sZ ?_ | (refine Ret.goP (l01In_ret _ _ _) rfl ?_) | (refine Ret.goQP (l01In_ret _ _ _) rfl ?_) | fail
     all_goals first | omega | (exact bv_false hf)
   · repeat' (conv => whnf); first | (intro h; try exact nZ) | apply And.intro | refine dZ ?_ | refine sZ ?_ | (refine Ret.goP (l01In_ret _ _ _) rfl ?_) | (refine Ret.goQP (l01In_ret _ _ _) rfl ?_) | fail
     all_goals first | omega | (exact bv_false hf)
def lv (f : Int) (ls : List Int) (x : Int) : Int := if x - f < ls.length then ls.getD (x - f).toNat 0 else 0
theorem lv_bd {f : Int} {ls : List Int} (h : okT f ls) (x : Int) : 0 ≤ lv f ls x ∧ lv f ls x ≤ 1000000 := by
 have key : ∀ i, i < ls.length → 0 ≤ ls.getD i 0 ∧ ls.getD i 0 ≤ 1000000 := fun i => by
   have h0 := h.1
   unfold hdT at h0
   induction i with
   | zero => intro _; have := (h.2 0 (by omega)).1; omega
   | succ i ih =>
     intro hi
     have h1 := ih (by omega)
     by_cases hl : i + 1 = ls.length - 1
     · rw [hl]; omega
     · have h2 := h.2 (i + 1) (by omega)
       unfold stT at h2
       rw [show i + 1 - 1 = i by omega] at h2
       omega
 unfold lv
 split
 · rename_i hx
   by_cases hl : (x - f).toNat < ls.length
   · exact key _ hl
   · rw [List.getD_eq_getElem?_getD, List.getElem?_eq_none (by omega)]
     exact ⟨Int.le_refl _, by decide⟩
 · exact ⟨Int.le_refl _, by decide⟩
theorem lv_mono {f : Int} {ls : List Int} (h : okT f ls) {x : Int} (hx : f ≤ x) : lv f ls (x + 1) ≤ lv f ls x := by
 have h0 := h.1
 unfold hdT at h0
 unfold lv
 by_cases h1 : x + 1 - f < ls.length
 · rw [if_pos h1, if_pos (by omega), show (x + 1 - f).toNat = (x - f).toNat + 1 by omega]
   by_cases hl : (x - f).toNat + 1 = ls.length - 1
   · have := (h.2 (x - f).toNat (by omega)).1
     rw [hl]; omega
   · have h2 := h.2 ((x - f).toNat + 1) (by omega)
     unfold stT at h2
     rw [show (x - f).toNat + 1 - 1 = (x - f).toNat by omega] at h2
     exact h2.2 (by omega)
 · rw [if_neg h1]
   exact (lv_bd h x).1
theorem lv_end {f : Int} {ls : List Int} (h : okT f ls) {x : Int} (hx : f + ls.length - 1 ≤ x) : lv f ls x = 0 := by
 have h0 := h.1
 unfold hdT at h0
 unfold lv
 split
 · rw [show (x - f).toNat = ls.length - 1 by omega]; omega
 · rfl
theorem lv_pos {f : Int} {ls : List Int} (h : okT f ls) {x : Int} (_ : f ≤ x) (hx : x < f + ls.length - 1) : 1 ≤ lv f ls x := by
 have h0 := h.1
 unfold hdT at h0
 unfold lv
 rw [if_pos (by omega)]
 exact (h.2 (x - f).toNat (by omega)).1
theorem implEnd_ret (f : Int) (ls : List Int) (ho : okT f ls) : Rt 230 [Tb f ls] (I (f + ls.length - 1)) := by
 refine bZ Tryz.func230 ?_
 have h0 := ho.1
 unfold hdT at h0
 repeat' (conv => whnf); first | (intro h; try exact nZ) | apply And.intro | refine dZ ?_ | refine sZ ?_ | (refine Ret.go (len_ret _) rfl rfl ?_) | (refine Ret.goQ (len_ret _) rfl rfl ?_) | fail
 all_goals first | exact rZ
theorem specEnd_ret (f : Int) (ls : List Int) (ho : okT f ls) : Rt 101 [Tb f ls] (I (f + ls.length - 1)) := by
 refine bZ Tryz.func101 ?_
 have h0 := ho.1
 unfold hdT at h0
 repeat' (conv => whnf); first | (intro h; try exact nZ) | apply And.intro | refine dZ ?_ | refine sZ ?_ | fail
 all_goals first | exact rZ
theorem implLives_ret (f : Int) (ls : List Int) (x : Int) (ho : okT f ls) (hx : f ≤ x ∧ x ≤ 1000) : Rt 203 [Tb f ls, I x] (I (lv f ls x)) := by
 refine bZ Tryz.func203 ?_
 have h0 := ho.1
 unfold hdT at h0
 by_cases hb : x - f < ls.length
 · have he : lv f ls x = ls.getD (x - f).toNat 0 := if_pos hb
   rw [he]
   repeat' (conv => whnf); first | (intro h; try exact nZ) | apply And.intro | refine dZ ?_ | refine sZ ?_ | (refine Ret.go (implEnd_ret f ls ho) rfl rfl ?_) | (refine Ret.goQ (implEnd_ret f ls ho) rfl rfl ?_) | fail
   all_goals first | exact rZ
 · have he : lv f ls x = 0 := if_neg hb
   rw [he]
   repeat' (conv => whnf); first | (intro h; try exact nZ) | apply And.intro | refine dZ ?_ | refine sZ ?_ | (refine Ret.go (implEnd_ret f ls ho) rfl rfl ?_) | (refine Ret.goQ (implEnd_ret f ls ho) rfl rfl ?_) | fail
   all_goals first | exact rZ
theorem specLives_ret (f : Int) (ls : List Int) (x : Int) (ho : okT f ls) (hx : f ≤ x ∧ x ≤ 1000) : Rt 161 [Tb f ls, I x] (I (lv f ls x)) := by
 refine bZ Tryz.func161 ?_
 have h0 := ho.1
 unfold hdT at h0
 by_cases hb : x - f < ls.length
 · have he : lv f ls x = ls.getD (x - f).toNat 0 := if_pos hb
   rw [he]
   repeat' (conv => whnf); first | (intro h; try exact nZ) | apply And.intro | refine dZ ?_ | refine sZ ?_ | fail
   all_goals first | exact rZ
 · have he : lv f ls x = 0 := if_neg hb
   rw [he]
   repeat' (conv => whnf); first | (intro h; try exact nZ) | apply And.intro | refine dZ ?_ | refine sZ ?_ | fail
   all_goals first | exact rZ
theorem implDeaths_ret (f : Int) (ls : List Int) (x : Int) (ho : okT f ls) (hx : f ≤ x ∧ x ≤ 999) : Rt 202 [Tb f ls, I x] (I (lv f ls x - lv f ls (x + 1))) := by
 refine bZ Tryz.func202 ?_
 have h0 := ho.1
 unfold hdT at h0
 have h1 := lv_bd ho x
 have h2 := lv_bd ho (x + 1)
 repeat' (conv => whnf); first | (intro h; try exact nZ) | apply And.intro | refine dZ ?_ | refine sZ ?_ | (refine Ret.go (implLives_ret f ls _ ho (by omega)) rfl rfl ?_) | (refine Ret.goQ (implLives_ret f ls _ ho (by omega)) rfl rfl ?_) | fail
 all_goals first | exact rZ
end
section
attribute [local irreducible] CallA LoopA DrawA CallQ arithK quoK remK eqK
def tg {α : Type} (n : Nat) (f : Nat → α) : List α := (List.range n).map f
theorem tg_len {α : Type} (n : Nat) (f : Nat → α) : (tg n f).length = n := by simp [tg]
theorem tg_get {α : Type} {n : Nat} {f : Nat → α} {c : Nat} {d : α} (h : c < n) : (tg n f).getD c d = f c := by
 rw [tg, List.getD_eq_getElem?_getD, List.getElem?_map, List.getElem?_range h]; rfl
theorem tg_ext {α : Type} {n : Nat} {f g : Nat → α} (h : ∀ c, c < n → f c = g c) : tg n f = tg n g := List.map_congr_left fun c hc => h c (List.mem_range.1 hc)
theorem tg_set {α : Type} (d : α) {n : Nat} {f : Nat → α} {k : Nat} {v : α} : (tg n f).set k v = tg n fun c => if c = k then v else f c := by
 refine ext_getD d (by rw [List.length_set, tg_len, tg_len]) fun i hi => ?_
 rw [List.length_set, tg_len] at hi
 rw [getD_set, tg_len, tg_get hi, tg_get hi]
 by_cases h : i = k
 · rw [if_pos h, if_pos ⟨h.symm, by omega⟩]
 · rw [if_neg h, if_neg fun e => h e.1.symm]
theorem tg_rep {α : Type} (d : α) (n : Nat) : List.replicate n d = tg n fun _ => d := by
 refine ext_getD d (by rw [List.length_replicate, tg_len]) fun i hi => ?_
 rw [List.length_replicate] at hi
 rw [tg_get hi, List.getD_eq_getElem?_getD, List.getElem?_replicate, if_pos hi]; rfl
theorem tg_snoc {α : Type} (n : Nat) (f : Nat → α) : tg n f ++ [f n] = tg (n + 1) f := by simp [tg, List.range_succ]
def disc (r : Int) : Nat → Int
 | 0 => 1000000000
 | k + 1 => disc r k * 1000 / (1000 + r)
theorem disc_bd {r : Int} (hr : 0 ≤ r ∧ r ≤ 200) : ∀ k, 0 ≤ disc r k ∧ disc r k ≤ 1000000000
 | 0 => by simp [disc]
 | k + 1 => by
   have ih := disc_bd hr k
   simp only [disc]
   refine ⟨Int.ediv_nonneg (by omega) (by omega), ?_⟩
   have h1 : disc r k * 1000 / (1000 + r) ≤ disc r k := by
     refine Int.ediv_le_of_le_mul (by omega) ?_
     exact Int.mul_le_mul_of_nonneg_left (by omega) ih.1
   omega
theorem disc_next (r : Int) (k : Nat) : disc r (k + 1) = disc r k * 1000 / (1000 + r) := rfl
abbrev okR (r : Int) : Prop := 0 ≤ r ∧ r ≤ 200
attribute [local irreducible] disc
theorem discounts_call (r : Int) (hr : okR r) : Ca 232 [I r] [] (fun v J => v = .sl 0 1 121 ∧ J = [Di (tg 121 (disc r))]) := by
 refine cZ Tryz.func232 ?_
 have h0 : (1000000000 : Int) = disc r 0 := by unfold disc; rfl
 repeat' (conv => whnf); first | (intro h; try exact nZ) | apply And.intro | refine dZ ?_ | refine sZ ?_ | fail
 refine loop_rule hT (fun k : Nat => k ≤ 121) 19 1 [0, 3, 4, 6] (fun k => [I r, .sl 1 1 k, I (disc r k), I k]) (fun k => [.dead, Di (tg k (disc r))]) (fun k => 121 - k) (0) (Nat.le_of_ble_eq_true rfl) ?_ ?_ ?_
 · exact Nat.zero_le _
 · (refine ⟨rfl, [some 0], ?_, ?_⟩; (repeat' first | apply And.intro | exact xZ | exact h0 | fail); done)
 · rintro k hk
   have hb := disc_bd hr k
   have hl := tg_len k (disc r)
   have hl1 := tg_len (k + 1) (disc r)
   have hsn := tg_snoc k (disc r)
   have hl2 : (tg k (disc r) ++ [disc r k]).length = k + 1 := by rw [hsn, hl1]
   by_cases hkk : k < 121
   · repeat' (conv => whnf); first | (intro h; try exact nZ) | apply And.intro | refine dZ ?_ | refine sZ ?_ | refine qZ ?_ | refine mZ ?_ | fail
     all_goals first | omega | (rw [hl]; show (k + 1) * 8 ≤ _; omega) | rfl | skip
     all_goals first | exact hl.symm | ((conv => whnf); refine ⟨k + 1, by omega, ?_, by omega⟩; (refine ⟨rfl, [some 3], ?_, ?_⟩; (repeat' first | apply And.intro | exact xZ | first | exact hl2 | exact congrArg (D.ints .i64) hsn | exact (disc_next r k).symm | rfl | fail); done))
   · obtain rfl : k = 121 := by omega
     repeat' (conv => whnf); first | (intro h; try exact nZ) | apply And.intro | refine dZ ?_ | refine sZ ?_ | fail
     all_goals try omega
     refine ⟨[some 1], .sl 0 1 121, [Di (tg 121 (disc r))], ?_, ?_, ⟨rfl, rfl⟩⟩ <;> (repeat' (first | exact rfl | exact trivial | omega | refine And.intro ?_ ?_))
theorem specDisc_ret (r : Int) (k : Nat) (hr : okR r) (hk : k ≤ 1000) : Rt 162 [I r, I k] (I (disc r k)) := by
 refine bZ Tryz.func162 ?_
 have h0 : (1000000000 : Int) = disc r 0 := by unfold disc; rfl
 repeat' (conv => whnf); first | (intro h; try exact nZ) | apply And.intro | refine dZ ?_ | refine sZ ?_ | fail
 refine loop_rule hT (fun i : Nat => i ≤ k) 18 0 [0, 1, 5, 6] (fun i => [I r, I k, I (disc r i), I i]) (fun _ => []) (fun i => k - i) (0) (Nat.le_of_ble_eq_true rfl) ?_ ?_ ?_
 · exact Nat.zero_le _
 · (refine ⟨rfl, [], ?_, ?_⟩; (repeat' first | apply And.intro | exact xZ | exact h0 | fail); done)
 · rintro i hi
   have hb := disc_bd hr i
   by_cases hik : i < k
   · repeat' (conv => whnf); first | (intro h; try exact nZ) | apply And.intro | refine dZ ?_ | refine sZ ?_ | refine qZ ?_ | refine mZ ?_ | fail
     all_goals try omega
     all_goals first | (refine ⟨i + 1, by omega, ?_, by omega⟩; (refine ⟨rfl, [], ?_, ?_⟩; (repeat' first | apply And.intro | exact xZ | exact (disc_next r i).symm | fail); done))
   · obtain rfl : i = k := by omega
     repeat' (conv => whnf); first | (intro h; try exact nZ) | apply And.intro | refine dZ ?_ | refine sZ ?_ | refine qZ ?_ | refine mZ ?_ | fail
     all_goals first | omega | rfl
def cD (f : Int) (ls : List Int) (r x : Int) : Int := if x - f ≤ 120 then lv f ls x * disc r (x - f).toNat else 0
def cC (f : Int) (ls : List Int) (r x : Int) : Int := if x - f + 1 ≤ 120 then (lv f ls x - lv f ls (x + 1)) * disc r (x - f + 1).toNat else 0
theorem cD_bd {f : Int} {ls : List Int} {r : Int} (ho : okT f ls) (hr : okR r) (x : Int) : 0 ≤ cD f ls r x ∧ cD f ls r x ≤ 1000000000000000 := by
 unfold cD
 split
 · have h1 := lv_bd ho x
   have h2 := disc_bd hr (x - f).toNat
   have := mul_in h1.1 h1.2 h2.1 h2.2
   omega
 · omega
theorem cC_bd {f : Int} {ls : List Int} {r : Int} (ho : okT f ls) (hr : okR r) {x : Int} (hx : f ≤ x) : 0 ≤ cC f ls r x ∧ cC f ls r x ≤ 1000000000000000 := by
 unfold cC
 split
 · have h1 := lv_bd ho x
   have h3 := lv_bd ho (x + 1)
   have h4 := lv_mono ho hx
   have h2 := disc_bd hr (x - f + 1).toNat
   have := mul_in (a := lv f ls x - lv f ls (x + 1)) (A := 1000000) (by omega) (by omega) h2.1 h2.2
   omega
 · omega
def dn (g : Int → Int) : Nat → Int
 | 0 => 0
 | m + 1 => dn g m + g (150 - m)
theorem dn_bd {g : Int → Int} {B : Int} {m : Nat} (h : ∀ j : Nat, j < m → 0 ≤ g (150 - j) ∧ g (150 - j) ≤ B) : 0 ≤ dn g m ∧ dn g m ≤ m * B := by
 induction m with
 | zero => simp [dn]
 | succ m ih =>
   have h1 := ih fun j hj => h j (by omega)
   have h2 := h m (by omega)
   simp only [dn]
   have h3 : ((m + 1 : Nat) : Int) * B = m * B + B := by rw [Int.natCast_add, Int.add_mul]; simp
   omega
theorem dn_next (g : Int → Int) (m : Nat) : dn g (m + 1) = dn g m + g (150 - m) := rfl
def cN (f : Int) (ls : List Int) (r x : Int) : Int := dn (cD f ls r) (151 - x).toNat
def cM (f : Int) (ls : List Int) (r x : Int) : Int := dn (cC f ls r) (151 - x).toNat
theorem cN_bd {f : Int} {ls : List Int} {r : Int} (ho : okT f ls) (hr : okR r) {x : Int} (hx : 0 ≤ x) : 0 ≤ cN f ls r x ∧ cN f ls r x ≤ 151000000000000000 := by
 have := dn_bd (g := cD f ls r) (B := 1000000000000000) (m := (151 - x).toNat) fun j _ => cD_bd ho hr _
 unfold cN
 omega
theorem cM_bd {f : Int} {ls : List Int} {r : Int} (ho : okT f ls) (hr : okR r) {x : Int} (hf : 0 ≤ f) (hx : f ≤ x) : 0 ≤ cM f ls r x ∧ cM f ls r x ≤ 151000000000000000 := by
 have := dn_bd (g := cC f ls r) (B := 1000000000000000) (m := (151 - x).toNat) fun j hj => cC_bd ho hr (by omega)
 unfold cM
 omega
theorem cN_step {f : Int} {ls : List Int} {r x : Int} (hx : x ≤ 150) : cN f ls r x = cN f ls r (x + 1) + cD f ls r x := by
 unfold cN
 rw [show (151 - x).toNat = (151 - (x + 1)).toNat + 1 by omega, dn_next, show (150 : Int) - ((151 - (x + 1)).toNat : Nat) = x by omega]
theorem cM_step {f : Int} {ls : List Int} {r x : Int} (hx : x ≤ 150) : cM f ls r x = cM f ls r (x + 1) + cC f ls r x := by
 unfold cM
 rw [show (151 - x).toNat = (151 - (x + 1)).toNat + 1 by omega, dn_next, show (150 : Int) - ((151 - (x + 1)).toNat : Nat) = x by omega]
theorem cN_top (f : Int) (ls : List Int) (r : Int) : cN f ls r 151 = 0 := rfl
theorem cM_top (f : Int) (ls : List Int) (r : Int) : cM f ls r 151 = 0 := rfl
def colRow (f : Int) (ls : List Int) (r x : Int) : List Int := [cD f ls r x, cN f ls r x, cC f ls r x, cM f ls r x]
def colsP (f : Int) (ls : List Int) (r : Int) (x : Int) : List (List Int) := tg (151 - f).toNat fun k => if x ≤ f + k then colRow f ls r (f + k) else [0, 0, 0, 0]
def cols (f : Int) (ls : List Int) (r : Int) : List (List Int) := tg (151 - f).toNat fun k => colRow f ls r (f + k)
theorem cols_len (f : Int) (ls : List Int) (r : Int) : (cols f ls r).length = (151 - f).toNat := tg_len _ _
theorem cols_at {f : Int} {ls : List Int} {r x : Int} (hf : f ≤ x) (hx : x ≤ 150) : (cols f ls r).getD (x - f).toNat [] = colRow f ls r x := by
 unfold cols
 rw [tg_get (by omega), show f + ((x - f).toNat : Nat) = x by omega]
theorem colsP_len (f : Int) (ls : List Int) (r x : Int) : (colsP f ls r x).length = (151 - f).toNat := tg_len _ _
theorem colsP_top {f : Int} (hf : f ≤ 100) (ls : List Int) (r : Int) : List.replicate (151 - f).toNat (List.replicate 4 (0 : Int)) = colsP f ls r 151 := by
 rw [tg_rep]
 exact tg_ext fun c hc => (if_neg (by omega)).symm
theorem colsP_all (f : Int) (ls : List Int) (r : Int) : colsP f ls r f = cols f ls r := tg_ext fun c _ => if_pos (by omega)
theorem colsP_row {f : Int} {ls : List Int} {r x : Int} {k : Nat} (h : k < (151 - f).toNat) : ((colsP f ls r x).getD k []).length = 4 := by
 unfold colsP
 rw [tg_get h]
 split <;> rfl
theorem colsP_step {f : Int} {ls : List Int} {r x : Int} (hf : f ≤ x) : (colsP f ls r (x + 1)).set (x - f).toNat (colRow f ls r x) = colsP f ls r x := by
 unfold colsP
 rw [tg_set []]
 refine tg_ext fun c hc => ?_
 by_cases h : c = (x - f).toNat
 · rw [if_pos h, if_pos (by omega), show f + (c : Int) = x by omega]
 · rw [if_neg h]
   by_cases h2 : x + 1 ≤ f + c
   · rw [if_pos h2, if_pos (by omega)]
   · rw [if_neg h2, if_neg (by omega)]
theorem setInts4 {l : List Int} (h : l.length = 4) (a b c d : Int) : setInts l 0 [a, b, c, d] = [a, b, c, d] := by
 match l, h with
 | [_, _, _, _], _ => rfl
theorem colStep {f : Int} {ls : List Int} {r x a b c d : Int} (h1 : f ≤ x - 1) (h2 : x - 1 ≤ 150) (ha : a = cD f ls r (x - 1)) (hb : b = cN f ls r (x - 1)) (hc : c = cC f ls r (x - 1)) (hd : d = cM f ls r (x - 1)) :
   (colsP f ls r x).set (x - 1 - f).toNat (setInts ((colsP f ls r x).getD (x - 1 - f).toNat []) 0 [a, b, c, d]) = colsP f ls r (x - 1) := by
 rw [setInts4 (colsP_row (by omega)), ha, hb, hc, hd]
 have := colsP_step (ls := ls) (r := r) h1
 rwa [show x - 1 + 1 = x by omega] at this
abbrev Rc (xss : List (List Int)) : AV := .ro (.recs 4 xss)
abbrev Dc (xss : List (List Int)) : Blk := .data (.recs 4 xss)
theorem lenC_ret (n : Nat) (xss : List (List Int)) (hn : xss.length = n) : Rt 233 [Rc xss] (I n) := by
 refine bZ Tryz.func233 ?_
 subst hn
 repeat' (conv => whnf); first | (intro h; try exact nZ) | apply And.intro | refine dZ ?_ | refine sZ ?_ | fail
 all_goals first | exact rZ
attribute [local irreducible] cols colsP cN cM
theorem columns_call (f : Int) (ls : List Int) (r : Int) (ho : okT f ls) (hr : okR r) : Ca 167 [Tb f ls, I r] [] (fun v J => v = .sl 0 4 (151 - f).toNat ∧ J = [Dc (cols f ls r)]) := by
 refine cZ Tryz.func167 ?_
 have h0 := ho.1
 unfold hdT at h0
 have hcl := colsP_len f ls r
 have htop := colsP_top (f := f) (by omega) ls r
 have e1 : (150 : Int) - f + 1 = 151 - f := by omega
 have hdl := tg_len 121 (disc r)
 have hlr : (150 - f + 1).toNat = (List.replicate (150 - f + 1).toNat (List.replicate 4 (0 : Int))).length := by simp
 repeat' (conv => whnf); first | (intro h; try exact nZ) | apply And.intro | refine dZ ?_ | refine sZ ?_ | refine CallA.gM [] (discounts_call r hr) ?_ | refine Ret.uA (lenC_ret (150 - f + 1).toNat (List.replicate (150 - f + 1).toNat (List.replicate 4 0)) (by simp)) ?_ | refine Ret.uQ (lenC_ret (150 - f + 1).toNat (List.replicate (150 - f + 1).toNat (List.replicate 4 0)) (by simp)) ?_ | fail
 all_goals try exact rZ
 have htop' : D.recs 4 (List.replicate (150 - f + 1).toNat (List.replicate 4 0)) = .recs 4 (colsP f ls r 151) := by rw [e1, htop]
 refine loop_rule hT (fun x : Int => f ≤ x ∧ x ≤ 151) 79 4 [2, 5, 6, 7, 8] (fun x => [.ptr 0 0, .sl 1 1 121, .sl 2 4 (150 - f + 1).toNat, .ptr 3 0, I (x - 1 - f)]) (fun x => [.cells [I f, Ri ls], Di (tg 121 (disc r)), Dc (colsP f ls r x), .cells [I 0, I (cN f ls r x), I 0, I (cM f ls r x)]]) (fun x => (x - f).toNat) (151) (Nat.le_of_ble_eq_true rfl) ?_ ?_ ?_
 · exact ⟨by omega, by omega⟩
 · (refine ⟨rfl, [], ?_, ?_⟩; (repeat' first | apply And.intro | exact xZ | exact htop' | exact (cN_top f ls r).symm | exact (cM_top f ls r).symm | fail); done)
 · rintro x ⟨hx1, hx2⟩
   have hclx := hcl x
   by_cases hx : f < x
   · have ea : f + (x - 1 - f) = x - 1 := by omega
     have hNb := cN_bd ho hr (x := x) (by omega)
     have hMb := cM_bd ho hr (x := x) (by omega) hx1
     have hDb := cD_bd ho hr (x - 1)
     have hCb := cC_bd ho hr (x := x - 1) (by omega)
     have hN := cN_step (f := f) (ls := ls) (r := r) (x := x - 1) (by omega)
     have hM := cM_step (f := f) (ls := ls) (r := r) (x := x - 1) (by omega)
     rw [show x - 1 + 1 = x by omega] at hN hM
     have hrow : ((colsP f ls r x).getD (x - 1 - f).toNat []).length = 4 := colsP_row (by omega)
     by_cases h1 : x - 1 - f ≤ 120
     · have hd : (tg 121 (disc r)).getD (x - 1 - f).toNat 0 = disc r (x - 1 - f).toNat := tg_get (by omega)
       have hp : lv f ls (f + (x - 1 - f)) * (tg 121 (disc r)).getD (x - 1 - f).toNat 0 = cD f ls r (x - 1) := by rw [ea, hd]; exact (if_pos h1).symm
       by_cases h2 : x - 1 - f + 1 ≤ 120
       · have hd2 : (tg 121 (disc r)).getD (x - 1 - f + 1).toNat 0 = disc r (x - 1 - f + 1).toNat := tg_get (by omega)
         have hq : (lv f ls (f + (x - 1 - f)) - lv f ls (f + (x - 1 - f) + 1)) * (tg 121 (disc r)).getD (x - 1 - f + 1).toNat 0 = cC f ls r (x - 1) := by rw [ea, hd2]; exact (if_pos h2).symm
         repeat' (conv => whnf); first | (intro h; try exact nZ) | apply And.intro | refine dZ ?_ | refine sZ ?_ | (refine Ret.go (implLives_ret f ls _ ho (by omega)) rfl rfl ?_) | (refine Ret.goQ (implLives_ret f ls _ ho (by omega)) rfl rfl ?_) | (refine Ret.go (implDeaths_ret f ls _ ho (by omega)) rfl rfl ?_) | (refine Ret.goQ (implDeaths_ret f ls _ ho (by omega)) rfl rfl ?_) | fail
         all_goals first | omega | (show _ < _; omega) | exact hrow | skip
         all_goals first | ((conv => whnf); refine ⟨x - 1, by omega, ?_, by omega⟩; (refine ⟨rfl, [], ?_, ?_⟩; (repeat' first | apply And.intro | exact xZ | exact congrArg (D.recs 4) (colStep (by omega) (by omega) (by omega) (by omega) (by omega) (by omega)) | fail); done))
       · have hq : cC f ls r (x - 1) = 0 := if_neg h2
         repeat' (conv => whnf); first | (intro h; try exact nZ) | apply And.intro | refine dZ ?_ | refine sZ ?_ | (refine Ret.go (implLives_ret f ls _ ho (by omega)) rfl rfl ?_) | (refine Ret.goQ (implLives_ret f ls _ ho (by omega)) rfl rfl ?_) | (refine Ret.go (implDeaths_ret f ls _ ho (by omega)) rfl rfl ?_) | (refine Ret.goQ (implDeaths_ret f ls _ ho (by omega)) rfl rfl ?_) | fail
         all_goals first | omega | (show _ < _; omega) | exact hrow | skip
         all_goals first | ((conv => whnf); refine ⟨x - 1, by omega, ?_, by omega⟩; (refine ⟨rfl, [], ?_, ?_⟩; (repeat' first | apply And.intro | exact xZ | exact congrArg (D.recs 4) (colStep (by omega) (by omega) (by omega) (by omega) (by omega) (by omega)) | fail); done))
     · have hp : cD f ls r (x - 1) = 0 := if_neg h1
       have hq : cC f ls r (x - 1) = 0 := if_neg (by omega)
       repeat' (conv => whnf); first | (intro h; try exact nZ) | apply And.intro | refine dZ ?_ | refine sZ ?_ | (refine Ret.go (implLives_ret f ls _ ho (by omega)) rfl rfl ?_) | (refine Ret.goQ (implLives_ret f ls _ ho (by omega)) rfl rfl ?_) | (refine Ret.go (implDeaths_ret f ls _ ho (by omega)) rfl rfl ?_) | (refine Ret.goQ (implDeaths_ret f ls _ ho (by omega)) rfl rfl ?_) | fail
       all_goals first | omega | (show _ < _; omega) | exact hrow | skip
       all_goals first | ((conv => whnf); refine ⟨x - 1, by omega, ?_, by omega⟩; (refine ⟨rfl, [], ?_, ?_⟩; (repeat' first | apply And.intro | exact xZ | exact congrArg (D.recs 4) (colStep (by omega) (by omega) (by omega) (by omega) (by omega) (by omega)) | fail); done))
   · obtain rfl : x = f := by omega
     rw [colsP_all]
     repeat' (conv => whnf); first | (intro h; try exact nZ) | apply And.intro | refine dZ ?_ | refine sZ ?_ | fail
     all_goals try omega
     (exact endEA (.sl 0 4 (151 - x).toNat) [Dc (cols x ls r)])
theorem columns_ro (f : Int) (ls : List Int) (r : Int) (ho : okT f ls) (hr : okR r) : Ca 167 [Tb f ls, I r] [] (fun v J => v = Rc (cols f ls r) ∧ J = []) :=
 CallA.frozen ((columns_call f ls r ho hr).mono fun v J ⟨h1, h2⟩ => by subst h1 h2; exact ⟨Rc (cols f ls r), ⟨rfl, rfl, rfl, (cols_len f ls r).symm, rfl⟩, rfl, rfl⟩)
theorem specD_ret (f : Int) (ls : List Int) (r x : Int) (ho : okT f ls) (hr : okR r) (hx : f ≤ x ∧ x ≤ 900) : Rt 104 [Tb f ls, I r, I x] (I (cD f ls r x)) := by
 refine bZ Tryz.func104 ?_
 have h0 := ho.1
 unfold hdT at h0
 have hDb := cD_bd ho hr x
 by_cases h1 : x - f ≤ 120
 · have hp : cD f ls r x = lv f ls x * disc r (x - f).toNat := if_pos h1
   have hk : ((x - f).toNat : Int) = x - f := by omega
   have hdc := specDisc_ret r (x - f).toNat hr (by omega)
   rw [hk] at hdc
   by_cases hz : lv f ls x = 0
   · have hz2 : cD f ls r x = 0 := by rw [hp, hz, Int.zero_mul]
     repeat' (conv => whnf); first | (intro h; try exact nZ) | apply And.intro | refine dZ ?_ | refine sZ ?_ | (refine Ret.go (specLives_ret f ls _ ho (by omega)) rfl rfl ?_) | (refine Ret.goQ (specLives_ret f ls _ ho (by omega)) rfl rfl ?_) | (refine Ret.go (hdc) rfl rfl ?_) | (refine Ret.goQ (hdc) rfl rfl ?_) | fail
     all_goals first | omega | exact iv hz2.symm
   · repeat' (conv => whnf); first | (intro h; try exact nZ) | apply And.intro | refine dZ ?_ | refine sZ ?_ | (refine Ret.go (specLives_ret f ls _ ho (by omega)) rfl rfl ?_) | (refine Ret.goQ (specLives_ret f ls _ ho (by omega)) rfl rfl ?_) | (refine Ret.go (hdc) rfl rfl ?_) | (refine Ret.goQ (hdc) rfl rfl ?_) | fail
     all_goals first | omega | exact iv hp.symm
 · have hp : cD f ls r x = 0 := if_neg h1
   repeat' (conv => whnf); first | (intro h; try exact nZ) | apply And.intro | refine dZ ?_ | refine sZ ?_ | (refine Ret.go (specLives_ret f ls _ ho (by omega)) rfl rfl ?_) | (refine Ret.goQ (specLives_ret f ls _ ho (by omega)) rfl rfl ?_) | fail
   all_goals first | omega | exact iv hp.symm
end
section
attribute [local irreducible] CallA LoopA DrawA CallQ arithK quoK remK eqK
abbrev Bs (f : Int) (ls : List Int) (r : Int) : AV := .agg [I f, Ri ls, I r]
abbrev Po (k a y s l : Int) : AV := .agg [I k, I a, I y, I s, I l]
abbrev okB (f : Int) (ls : List Int) (r : Int) : Prop := okT f ls ∧ okR r
def okA (f k a y s : Int) : Prop := (0 ≤ k ∧ k ≤ 3) ∧ (f ≤ a ∧ a ≤ 150) ∧ (1 ≤ s ∧ s ≤ 100000000) ∧ (0 ≤ y ∧ y ≤ 120) ∧ a + y ≤ 150 ∧ (y = 0 ↔ k = 0)
def okP (f : Int) (ls : List Int) (r k a y s l : Int) : Prop := okB f ls r ∧ okA f k a y s ∧ (0 ≤ l ∧ l ≤ 1000) ∧ ∀ j : Nat, (j : Int) < max 1 y → cD f ls r (a + j) ≠ 0
noncomputable instance (f : Int) (ls : List Int) (r k a y s l : Int) : Decidable (okP f ls r k a y s l) := Classical.propDecidable _
noncomputable instance (f k a y s : Int) : Decidable (okA f k a y s) := Classical.propDecidable _
theorem implRate_ret (r : Int) : Rt 106 [I r] (Bo (decide (okR r))) := by
 refine bZ Tryz.func106 ?_
 repeat' (conv => whnf); first | (intro h; try exact nZ) | apply And.intro | refine dZ ?_ | refine sZ ?_ | (refine Ret.goP (inRange_ret _ _ _) rfl ?_) | (refine Ret.goQP (inRange_ret _ _ _) rfl ?_) | fail
 all_goals first | exact bv_true ‹_› | exact bv_false ‹_›
theorem specRate_ret (r : Int) : Rt 110 [I r] (Bo (decide (okR r))) := by
 refine bZ Tryz.func110 ?_
 repeat' (conv => whnf); first | (intro h; try exact nZ) | apply And.intro | refine dZ ?_ | refine sZ ?_ | (refine Ret.goP (l01In_ret _ _ _) rfl ?_) | (refine Ret.goQP (l01In_ret _ _ _) rfl ?_) | fail
 all_goals first | exact bv_true ‹_› | exact bv_false ‹_›
theorem implYears_ret (y : Int) : Rt 291 [I y] (Bo (decide (0 ≤ y ∧ y ≤ 120))) := by
 refine bZ Tryz.func291 ?_
 repeat' (conv => whnf); first | (intro h; try exact nZ) | apply And.intro | refine dZ ?_ | refine sZ ?_ | (refine Ret.goP (inRange_ret _ _ _) rfl ?_) | (refine Ret.goQP (inRange_ret _ _ _) rfl ?_) | fail
 all_goals first | exact bv_true ‹_› | exact bv_false ‹_›
theorem specSum_ret (n : Int) : Rt 103 [I n] (Bo (decide (1 ≤ n ∧ n ≤ 100000000))) := by
 refine bZ Tryz.func103 ?_
 repeat' (conv => whnf); first | (intro h; try exact nZ) | apply And.intro | refine dZ ?_ | refine sZ ?_ | (refine Ret.goP (l01In_ret _ _ _) rfl ?_) | (refine Ret.goQP (l01In_ret _ _ _) rfl ?_) | fail
 all_goals first | exact bv_true ‹_› | exact bv_false ‹_›
theorem implBasis_ret (f : Int) (ls : List Int) (r : Int) (hn : ls.length ≤ 1048576) : Rt 77 [Bs f ls r] (Bo (decide (okB f ls r))) := by
 refine bZ Tryz.func77 ?_
 repeat' (conv => whnf); first | (intro h; try exact nZ) | apply And.intro | refine dZ ?_ | refine sZ ?_ | (refine Ret.goP (implTable_ret f ls hn) rfl ?_) | (refine Ret.goQP (implTable_ret f ls hn) rfl ?_) | (refine Ret.goP (implRate_ret _) rfl ?_) | (refine Ret.goQP (implRate_ret _) rfl ?_) | fail
 all_goals first | exact bv_true ⟨by assumption, by assumption⟩ | exact bv_false (fun h => absurd h.2 ‹_›) | exact bv_false (fun h => absurd h.1 ‹_›)
theorem specBasis_ret (f : Int) (ls : List Int) (r : Int) (hn : ls.length ≤ 1048576) : Rt 83 [Bs f ls r] (Bo (decide (okB f ls r))) := by
 refine bZ Tryz.func83 ?_
 repeat' (conv => whnf); first | (intro h; try exact nZ) | apply And.intro | refine dZ ?_ | refine sZ ?_ | (refine Ret.goP (specTable_ret f ls hn) rfl ?_) | (refine Ret.goQP (specTable_ret f ls hn) rfl ?_) | (refine Ret.goP (specRate_ret _) rfl ?_) | (refine Ret.goQP (specRate_ret _) rfl ?_) | fail
 all_goals first | exact bv_true ⟨by assumption, by assumption⟩ | exact bv_false (fun h => absurd h.2 ‹_›) | exact bv_false (fun h => absurd h.1 ‹_›)
theorem implAssurance_ret (f : Int) (ls : List Int) (r k a y s : Int) (hf : -9000000000000000000 ≤ f) : Rt 228 [Tb f ls, I r, I k, I a, I y, I s] (Bo (decide (okR r ∧ okA f k a y s))) := by
 refine bZ Tryz.func228 ?_
 by_cases hk : k = 0
 · by_cases hy : y = 0
   · subst hk hy
     repeat' (conv => whnf); first | (intro h; try exact nZ) | apply And.intro | refine dZ ?_ | refine sZ ?_ | (refine Ret.goP (implRate_ret _) rfl ?_) | (refine Ret.goQP (implRate_ret _) rfl ?_) | (refine Ret.goP (implYears_ret _) rfl ?_) | (refine Ret.goQP (implYears_ret _) rfl ?_) | (refine Ret.goP (inRange_ret _ _ _) rfl ?_) | (refine Ret.goQP (inRange_ret _ _ _) rfl ?_) | fail
     all_goals first | omega | (exact bv_true (by unfold okA; omega)) | (exact bv_false (by unfold okA; omega))
   · repeat' (conv => whnf); first | (intro h; try exact nZ) | apply And.intro | refine dZ ?_ | refine sZ ?_ | (refine Ret.goP (implRate_ret _) rfl ?_) | (refine Ret.goQP (implRate_ret _) rfl ?_) | (refine Ret.goP (implYears_ret _) rfl ?_) | (refine Ret.goQP (implYears_ret _) rfl ?_) | (refine Ret.goP (inRange_ret _ _ _) rfl ?_) | (refine Ret.goQP (inRange_ret _ _ _) rfl ?_) | fail
     all_goals first | omega | (exact bv_true (by unfold okA; omega)) | (exact bv_false (by unfold okA; omega))
 · repeat' (conv => whnf); first | (intro h; try exact nZ) | apply And.intro | refine dZ ?_ | refine sZ ?_ | (refine Ret.goP (implRate_ret _) rfl ?_) | (refine Ret.goQP (implRate_ret _) rfl ?_) | (refine Ret.goP (implYears_ret _) rfl ?_) | (refine Ret.goQP (implYears_ret _) rfl ?_) | (refine Ret.goP (inRange_ret _ _ _) rfl ?_) | (refine Ret.goQP (inRange_ret _ _ _) rfl ?_) | fail
   all_goals first | omega | (exact bv_true (by unfold okA; omega)) | (exact bv_false (by unfold okA; omega))
theorem spec05_ret (f : Int) (ls : List Int) (r x : Int) (ho : okB f ls r) : Rt 227 [Tb f ls, I r, I x] (I (if f ≤ x ∧ x ≤ 150 then 0 else 2)) := by
 refine bZ Tryz.func227 ?_
 have h0 := ho.1.1
 unfold hdT at h0
 have hR := ho.2
 by_cases hx : f ≤ x ∧ x ≤ 150
 · rw [if_pos hx]
   repeat' (conv => whnf); first | (intro h; try exact nZ) | apply And.intro | refine dZ ?_ | refine sZ ?_ | (refine Ret.goP (specTable_ret f ls (by omega)) rfl ?_) | (refine Ret.goQP (specTable_ret f ls (by omega)) rfl ?_) | (refine Ret.goP (specRate_ret _) rfl ?_) | (refine Ret.goQP (specRate_ret _) rfl ?_) | (refine Ret.goP (l01In_ret _ _ _) rfl ?_) | (refine Ret.goQP (l01In_ret _ _ _) rfl ?_) | fail
   all_goals first | exact rZ | exact absurd ho.1 ‹_›
 · rw [if_neg hx]
   repeat' (conv => whnf); first | (intro h; try exact nZ) | apply And.intro | refine dZ ?_ | refine sZ ?_ | (refine Ret.goP (specTable_ret f ls (by omega)) rfl ?_) | (refine Ret.goQP (specTable_ret f ls (by omega)) rfl ?_) | (refine Ret.goP (specRate_ret _) rfl ?_) | (refine Ret.goQP (specRate_ret _) rfl ?_) | (refine Ret.goP (l01In_ret _ _ _) rfl ?_) | (refine Ret.goQP (l01In_ret _ _ _) rfl ?_) | fail
   all_goals first | exact rZ | exact absurd ho.1 ‹_›
def c06 (f : Int) (ls : List Int) (r a : Int) (b : Bool) (y : Int) : Int := if (f ≤ a ∧ a ≤ 150) ∧ b = true ∧ (0 ≤ y ∧ y ≤ 120) ∧ a + y ≤ 150 then (if cD f ls r a = 0 then 5 else 0) else 2
theorem spec06_ret (f : Int) (ls : List Int) (r a : Int) (b : Bool) (y : Int) (ho : okB f ls r) : Rt 160 [Tb f ls, I r, I a, Bo b, I y] (I (c06 f ls r a b y)) := by
 refine bZ Tryz.func160 ?_
 have h5 := spec05_ret f ls r a ho
 have h0 := ho.1.1
 unfold hdT at h0
 by_cases hx : f ≤ a ∧ a ≤ 150
 · rw [if_pos hx] at h5
   cases b
   · have hc : c06 f ls r a false y = 2 := if_neg (fun e => by have := e.2.1; cases this)
     rw [hc]
     repeat' (conv => whnf); first | (intro h; try exact nZ) | apply And.intro | refine dZ ?_ | refine sZ ?_ | (refine Ret.go (h5) rfl rfl ?_) | (refine Ret.goQ (h5) rfl rfl ?_) | (refine Ret.goP (l01In_ret _ _ _) rfl ?_) | (refine Ret.goQP (l01In_ret _ _ _) rfl ?_) | fail
     all_goals first | exact rZ
   · by_cases hy : (0 ≤ y ∧ y ≤ 120) ∧ a + y ≤ 150
     · have hc : c06 f ls r a true y = if cD f ls r a = 0 then 5 else 0 := if_pos ⟨hx, rfl, hy⟩
       rw [hc]
       by_cases hd : cD f ls r a = 0
       · rw [if_pos hd]
         repeat' (conv => whnf); first | (intro h; try exact nZ) | apply And.intro | refine dZ ?_ | refine sZ ?_ | (refine Ret.go (h5) rfl rfl ?_) | (refine Ret.goQ (h5) rfl rfl ?_) | (refine Ret.goP (l01In_ret _ _ _) rfl ?_) | (refine Ret.goQP (l01In_ret _ _ _) rfl ?_) | (refine Ret.go (specD_ret f ls r a ho.1 ho.2 (by omega)) rfl rfl ?_) | (refine Ret.goQ (specD_ret f ls r a ho.1 ho.2 (by omega)) rfl rfl ?_) | fail
         all_goals first | exact rZ
       · rw [if_neg hd]
         repeat' (conv => whnf); first | (intro h; try exact nZ) | apply And.intro | refine dZ ?_ | refine sZ ?_ | (refine Ret.go (h5) rfl rfl ?_) | (refine Ret.goQ (h5) rfl rfl ?_) | (refine Ret.goP (l01In_ret _ _ _) rfl ?_) | (refine Ret.goQP (l01In_ret _ _ _) rfl ?_) | (refine Ret.go (specD_ret f ls r a ho.1 ho.2 (by omega)) rfl rfl ?_) | (refine Ret.goQ (specD_ret f ls r a ho.1 ho.2 (by omega)) rfl rfl ?_) | fail
         all_goals first | exact rZ
     · have hc : c06 f ls r a true y = 2 := if_neg (fun e => hy e.2.2)
       rw [hc]
       repeat' (conv => whnf); first | (intro h; try exact nZ) | apply And.intro | refine dZ ?_ | refine sZ ?_ | (refine Ret.go (h5) rfl rfl ?_) | (refine Ret.goQ (h5) rfl rfl ?_) | (refine Ret.goP (l01In_ret _ _ _) rfl ?_) | (refine Ret.goQP (l01In_ret _ _ _) rfl ?_) | fail
       all_goals first | exact rZ
 · rw [if_neg hx] at h5
   have hc : c06 f ls r a b y = 2 := if_neg (fun e => hx e.1)
   rw [hc]
   repeat' (conv => whnf); first | (intro h; try exact nZ) | apply And.intro | refine dZ ?_ | refine sZ ?_ | (refine Ret.go (h5) rfl rfl ?_) | (refine Ret.goQ (h5) rfl rfl ?_) | fail
   all_goals first | exact rZ
theorem spec07_ret (f : Int) (ls : List Int) (r k a y : Int) (b : Bool) (ho : okB f ls r) : Rt 102 [Tb f ls, I r, I k, I a, I y, Bo b] (I (c06 f ls r a (b && decide ((0 ≤ k ∧ k ≤ 3) ∧ (y = 0 ↔ k = 0))) y)) := by
 refine bZ Tryz.func102 ?_
 cases b
 · rw [Bool.false_and]
   by_cases hk : k = 0
   · by_cases hy : y = 0
     · repeat' (conv => whnf); first | (intro h; try exact nZ) | apply And.intro | refine dZ ?_ | refine sZ ?_ | (refine Ret.go (spec06_ret f ls r a _ y ho) rfl rfl ?_) | (refine Ret.goQ (spec06_ret f ls r a _ y ho) rfl rfl ?_) | (refine Ret.goP (l01In_ret _ _ _) rfl ?_) | (refine Ret.goQP (l01In_ret _ _ _) rfl ?_) | fail
       all_goals first | exact rZ
     · repeat' (conv => whnf); first | (intro h; try exact nZ) | apply And.intro | refine dZ ?_ | refine sZ ?_ | (refine Ret.go (spec06_ret f ls r a _ y ho) rfl rfl ?_) | (refine Ret.goQ (spec06_ret f ls r a _ y ho) rfl rfl ?_) | (refine Ret.goP (l01In_ret _ _ _) rfl ?_) | (refine Ret.goQP (l01In_ret _ _ _) rfl ?_) | fail
       all_goals first | exact rZ
   · repeat' (conv => whnf); first | (intro h; try exact nZ) | apply And.intro | refine dZ ?_ | refine sZ ?_ | (refine Ret.go (spec06_ret f ls r a _ y ho) rfl rfl ?_) | (refine Ret.goQ (spec06_ret f ls r a _ y ho) rfl rfl ?_) | (refine Ret.goP (l01In_ret _ _ _) rfl ?_) | (refine Ret.goQP (l01In_ret _ _ _) rfl ?_) | fail
     all_goals first | exact rZ
 · rw [Bool.true_and]
   by_cases hh : (0 ≤ k ∧ k ≤ 3) ∧ (y = 0 ↔ k = 0)
   · rw [decide_eq_true hh]
     by_cases hk : k = 0
     · repeat' (conv => whnf); first | (intro h; try exact nZ) | apply And.intro | refine dZ ?_ | refine sZ ?_ | (refine Ret.go (spec06_ret f ls r a _ y ho) rfl rfl ?_) | (refine Ret.goQ (spec06_ret f ls r a _ y ho) rfl rfl ?_) | (refine Ret.goP (l01In_ret _ _ _) rfl ?_) | (refine Ret.goQP (l01In_ret _ _ _) rfl ?_) | fail
       all_goals first | exact rZ
     · repeat' (conv => whnf); first | (intro h; try exact nZ) | apply And.intro | refine dZ ?_ | refine sZ ?_ | (refine Ret.go (spec06_ret f ls r a _ y ho) rfl rfl ?_) | (refine Ret.goQ (spec06_ret f ls r a _ y ho) rfl rfl ?_) | (refine Ret.goP (l01In_ret _ _ _) rfl ?_) | (refine Ret.goQP (l01In_ret _ _ _) rfl ?_) | fail
       all_goals first | exact rZ
   · rw [decide_eq_false hh]
     by_cases hk : k = 0
     · repeat' (conv => whnf); first | (intro h; try exact nZ) | apply And.intro | refine dZ ?_ | refine sZ ?_ | (refine Ret.go (spec06_ret f ls r a _ y ho) rfl rfl ?_) | (refine Ret.goQ (spec06_ret f ls r a _ y ho) rfl rfl ?_) | (refine Ret.goP (l01In_ret _ _ _) rfl ?_) | (refine Ret.goQP (l01In_ret _ _ _) rfl ?_) | fail
       all_goals first | exact rZ
     · repeat' (conv => whnf); first | (intro h; try exact nZ) | apply And.intro | refine dZ ?_ | refine sZ ?_ | (refine Ret.go (spec06_ret f ls r a _ y ho) rfl rfl ?_) | (refine Ret.goQ (spec06_ret f ls r a _ y ho) rfl rfl ?_) | (refine Ret.goP (l01In_ret _ _ _) rfl ?_) | (refine Ret.goQP (l01In_ret _ _ _) rfl ?_) | fail
       all_goals first | exact rZ
theorem at_ret (f : Int) (ls : List Int) (r x : Int) (ho : okT f ls) (hx : f ≤ x ∧ x ≤ 150) : Rt 229 [Bs f ls r, Rc (cols f ls r), I x] (.agg [I (cD f ls r x), I (cN f ls r x), I (cC f ls r x), I (cM f ls r x)]) := by
 refine bZ Tryz.func229 ?_
 have h0 := ho.1
 unfold hdT at h0
 have hl := cols_len f ls r
 have hc := cols_at (ls := ls) (r := r) hx.1 hx.2
 repeat' (conv => whnf); first | (intro h; try exact nZ) | apply And.intro | refine dZ ?_ | refine sZ ?_ | fail
 all_goals try exact rZ
 all_goals ((conv => whnf); rw [hc]; rfl)
theorem dn_snoc {f : Int} {ls : List Int} {r a : Int} {k : Nat} (h : ∀ j, j < k → cD f ls r (a + (j : Nat)) ≠ 0) (hk : cD f ls r (a + (k : Nat)) ≠ 0) : ∀ j, j < k + 1 → cD f ls r (a + (j : Nat)) ≠ 0 := fun j hj => by
 by_cases he : j = k
 · rw [he]; exact hk
 · exact h j (by omega)
attribute [local irreducible] cols cN cM cD cC
theorem implPolicy_ret (f : Int) (ls : List Int) (r k a y s l : Int) (hn : ls.length ≤ 1048576) : Rt 164 [Bs f ls r, Po k a y s l] (Bo (decide (okP f ls r k a y s l))) := by
 refine bZ Tryz.func164 ?_
 by_cases hb : okB f ls r
 · by_cases ha : (okR r ∧ okA f k a y s) ∧ (0 ≤ l ∧ l ≤ 1000)
   · have h0 := hb.1.1
     unfold hdT at h0
     have ha' := ha.1.2
     unfold okA at ha'
     repeat' (conv => whnf); first | (intro h; try exact nZ) | apply And.intro | refine dZ ?_ | refine sZ ?_ | (refine Ret.goP (implBasis_ret f ls r hn) rfl ?_) | (refine Ret.goQP (implBasis_ret f ls r hn) rfl ?_) | (refine Ret.goP (implAssurance_ret f ls r k a y s (by omega)) rfl ?_) | (refine Ret.goQP (implAssurance_ret f ls r k a y s (by omega)) rfl ?_) | (refine Ret.goP (inRange_ret _ _ _) rfl ?_) | (refine Ret.goQP (inRange_ret _ _ _) rfl ?_) | refine gZ [] (columns_ro f ls r hb.1 hb.2) ?_ | fail
     all_goals first | omega | exact absurd hb ‹_› | exact absurd ha.1 ‹_› | skip
     refine loop_rule hT (fun j : Nat => (j : Int) ≤ max 1 y ∧ ∀ i, i < j → cD f ls r (a + (i : Nat)) ≠ 0) 53 2 [2, 3, 5, 39, 40] (fun j => [.ptr 0 0, .ptr 1 0, Rc (cols f ls r), I (max 1 y), I j]) (fun _ => [.cells [I f, Ri ls, I r], .cells [I k, I a, I y, I s, I l]]) (fun j => (max 1 y).toNat - j) (0) (Nat.le_of_ble_eq_true rfl) ?_ ?_ ?_
     · exact ⟨by omega, fun i hi => absurd hi (Nat.not_lt_zero i)⟩
     · (exact endHA)
     · rintro j ⟨h1, h2⟩
       by_cases hj : (j : Int) < max 1 y
       · by_cases hd : cD f ls r (a + (j : Nat)) = 0
         · repeat' (conv => whnf); first | (intro h; try exact nZ) | apply And.intro | refine dZ ?_ | refine sZ ?_ | (refine Ret.go (at_ret f ls r _ hb.1 (by omega)) rfl rfl ?_) | (refine Ret.goQ (at_ret f ls r _ hb.1 (by omega)) rfl rfl ?_) | fail
           all_goals first | omega | (exact bv_false fun ho => ho.2.2.2 j hj hd) | exact absurd hd ‹_›
         · repeat' (conv => whnf); first | (intro h; try exact nZ) | apply And.intro | refine dZ ?_ | refine sZ ?_ | (refine Ret.go (at_ret f ls r _ hb.1 (by omega)) rfl rfl ?_) | (refine Ret.goQ (at_ret f ls r _ hb.1 (by omega)) rfl rfl ?_) | fail
           all_goals first | omega | exact absurd ‹_› hd | (refine ⟨j + 1, ⟨by omega, dn_snoc h2 hd⟩, ?_, by omega⟩; (exact endHA))
       · repeat' (conv => whnf); first | (intro h; try exact nZ) | apply And.intro | refine dZ ?_ | refine sZ ?_ | fail
         all_goals first | omega | (exact bv_true ⟨hb, ha.1.2, ha.2, fun i hi => h2 i (by omega)⟩)
   · have h0 := hb.1.1
     unfold hdT at h0
     repeat' (conv => whnf); first | (intro h; try exact nZ) | apply And.intro | refine dZ ?_ | refine sZ ?_ | (refine Ret.goP (implBasis_ret f ls r hn) rfl ?_) | (refine Ret.goQP (implBasis_ret f ls r hn) rfl ?_) | (refine Ret.goP (implAssurance_ret f ls r k a y s (by omega)) rfl ?_) | (refine Ret.goQP (implAssurance_ret f ls r k a y s (by omega)) rfl ?_) | (refine Ret.goP (inRange_ret _ _ _) rfl ?_) | (refine Ret.goQP (inRange_ret _ _ _) rfl ?_) | fail
     all_goals first | omega | exact absurd hb ‹_› | (exact bv_false fun ho => ha ⟨⟨hb.2, ho.2.1⟩, ho.2.2.1⟩) | exact absurd ⟨by assumption, by assumption⟩ ha
 · repeat' (conv => whnf); first | (intro h; try exact nZ) | apply And.intro | refine dZ ?_ | refine sZ ?_ | (refine Ret.goP (implBasis_ret f ls r hn) rfl ?_) | (refine Ret.goQP (implBasis_ret f ls r hn) rfl ?_) | fail
   all_goals first | omega | exact absurd ‹_› hb | (exact bv_false fun ho => hb ho.1)
theorem specPolicy_ret (f : Int) (ls : List Int) (r k a y s l : Int) (hn : ls.length ≤ 1048576) : Rt 73 [Bs f ls r, Po k a y s l] (Bo (decide (okP f ls r k a y s l))) := by
 refine bZ Tryz.func73 ?_
 by_cases hb : okB f ls r
 · by_cases hl : 0 ≤ l ∧ l ≤ 1000
   · have h7 := spec07_ret f ls r k a y (decide (1 ≤ s ∧ s ≤ 100000000)) hb
     have h0 := hb.1.1
     unfold hdT at h0
     by_cases hA : okA f k a y s
     · have ha' := hA
       unfold okA at ha'
       rw [decide_eq_true (show 1 ≤ s ∧ s ≤ 100000000 by omega), decide_eq_true (show (0 ≤ k ∧ k ≤ 3) ∧ (y = 0 ↔ k = 0) by omega), Bool.true_and] at h7
       by_cases hd : cD f ls r a = 0
       · have hc : c06 f ls r a true y = 5 := (if_pos ⟨by omega, rfl, by omega⟩).trans (if_pos hd)
         rw [hc] at h7
         have hnp : ¬ okP f ls r k a y s l := fun ho => ho.2.2.2 0 (by omega) (by rw [show a + ((0 : Nat) : Int) = a by omega]; exact hd)
         repeat' (conv => whnf); first | (intro h; try exact nZ) | apply And.intro | refine dZ ?_ | refine sZ ?_ | (refine Ret.goP (specBasis_ret f ls r hn) rfl ?_) | (refine Ret.goQP (specBasis_ret f ls r hn) rfl ?_) | (refine Ret.goP (l01In_ret _ _ _) rfl ?_) | (refine Ret.goQP (l01In_ret _ _ _) rfl ?_) | (refine Ret.goP (specSum_ret _) rfl ?_) | (refine Ret.goQP (specSum_ret _) rfl ?_) | (refine Ret.go (h7) rfl rfl ?_) | (refine Ret.goQ (h7) rfl rfl ?_) | fail
         all_goals first | omega | exact absurd hb ‹_› | exact bv_false hnp
       · have hc : c06 f ls r a true y = 0 := (if_pos ⟨by omega, rfl, by omega⟩).trans (if_neg hd)
         rw [hc] at h7
         repeat' (conv => whnf); first | (intro h; try exact nZ) | apply And.intro | refine dZ ?_ | refine sZ ?_ | (refine Ret.goP (specBasis_ret f ls r hn) rfl ?_) | (refine Ret.goQP (specBasis_ret f ls r hn) rfl ?_) | (refine Ret.goP (l01In_ret _ _ _) rfl ?_) | (refine Ret.goQP (l01In_ret _ _ _) rfl ?_) | (refine Ret.goP (specSum_ret _) rfl ?_) | (refine Ret.goQP (specSum_ret _) rfl ?_) | (refine Ret.go (h7) rfl rfl ?_) | (refine Ret.goQ (h7) rfl rfl ?_) | fail
         all_goals first | omega | exact absurd hb ‹_› | skip
         refine loop_rule hT (fun j : Nat => (j : Int) ≤ y ∧ ∀ i, i < j → cD f ls r (a + (i : Nat)) ≠ 0) 46 2 [2, 3, 5] (fun j => [.ptr 0 0, .ptr 1 0, I j]) (fun _ => [.cells [I f, Ri ls, I r], .cells [I k, I a, I y, I s, I l]]) (fun j => y.toNat - j) (0) (Nat.le_of_ble_eq_true rfl) ?_ ?_ ?_
         · exact ⟨by omega, fun i hi => absurd hi (Nat.not_lt_zero i)⟩
         · (exact endHA)
         · rintro j ⟨h1, h2⟩
           by_cases hj : (j : Int) < y
           · by_cases hd2 : cD f ls r (a + (j : Nat)) = 0
             · repeat' (conv => whnf); first | (intro h; try exact nZ) | apply And.intro | refine dZ ?_ | refine sZ ?_ | (refine Ret.go (specD_ret f ls r _ hb.1 hb.2 (by omega)) rfl rfl ?_) | (refine Ret.goQ (specD_ret f ls r _ hb.1 hb.2 (by omega)) rfl rfl ?_) | fail
               all_goals first | omega | (exact bv_false fun ho => ho.2.2.2 j (by omega) hd2) | exact absurd hd2 ‹_›
             · repeat' (conv => whnf); first | (intro h; try exact nZ) | apply And.intro | refine dZ ?_ | refine sZ ?_ | (refine Ret.go (specD_ret f ls r _ hb.1 hb.2 (by omega)) rfl rfl ?_) | (refine Ret.goQ (specD_ret f ls r _ hb.1 hb.2 (by omega)) rfl rfl ?_) | fail
               all_goals first | omega | exact absurd ‹_› hd2 | (refine ⟨j + 1, ⟨by omega, dn_snoc h2 hd2⟩, ?_, by omega⟩; (exact endHA))
           · have hall : ∀ j : Nat, (j : Int) < max 1 y → cD f ls r (a + j) ≠ 0 := fun i hi => by
               by_cases hz : i = 0
               · subst hz; rw [show a + ((0 : Nat) : Int) = a by omega]; exact hd
               · exact h2 i (by omega)
             repeat' (conv => whnf); first | (intro h; try exact nZ) | apply And.intro | refine dZ ?_ | refine sZ ?_ | fail
             all_goals first | omega | (exact bv_true ⟨hb, hA, hl, hall⟩)
     · have hnp : ¬ okP f ls r k a y s l := fun ho => hA ho.2.1
       have hc : c06 f ls r a (decide (1 ≤ s ∧ s ≤ 100000000) && decide ((0 ≤ k ∧ k ≤ 3) ∧ (y = 0 ↔ k = 0))) y = 2 := if_neg (fun e => hA (by
         obtain ⟨e1, e2, e3⟩ := e
         rw [Bool.and_eq_true, decide_eq_true_eq, decide_eq_true_eq] at e2
         unfold okA
         omega))
       rw [hc] at h7
       by_cases hs : 1 ≤ s ∧ s ≤ 100000000
       · rw [decide_eq_true hs] at h7
         repeat' (conv => whnf); first | (intro h; try exact nZ) | apply And.intro | refine dZ ?_ | refine sZ ?_ | (refine Ret.goP (specBasis_ret f ls r hn) rfl ?_) | (refine Ret.goQP (specBasis_ret f ls r hn) rfl ?_) | (refine Ret.goP (l01In_ret _ _ _) rfl ?_) | (refine Ret.goQP (l01In_ret _ _ _) rfl ?_) | (refine Ret.goP (specSum_ret _) rfl ?_) | (refine Ret.goQP (specSum_ret _) rfl ?_) | (refine Ret.go (h7) rfl rfl ?_) | (refine Ret.goQ (h7) rfl rfl ?_) | fail
         all_goals first | omega | exact absurd hb ‹_› | exact bv_false hnp
       · rw [decide_eq_false hs] at h7
         repeat' (conv => whnf); first | (intro h; try exact nZ) | apply And.intro | refine dZ ?_ | refine sZ ?_ | (refine Ret.goP (specBasis_ret f ls r hn) rfl ?_) | (refine Ret.goQP (specBasis_ret f ls r hn) rfl ?_) | (refine Ret.goP (l01In_ret _ _ _) rfl ?_) | (refine Ret.goQP (l01In_ret _ _ _) rfl ?_) | (refine Ret.goP (specSum_ret _) rfl ?_) | (refine Ret.goQP (specSum_ret _) rfl ?_) | (refine Ret.go (h7) rfl rfl ?_) | (refine Ret.goQ (h7) rfl rfl ?_) | fail
         all_goals first | omega | exact absurd hb ‹_› | exact bv_false hnp
   · repeat' (conv => whnf); first | (intro h; try exact nZ) | apply And.intro | refine dZ ?_ | refine sZ ?_ | (refine Ret.goP (specBasis_ret f ls r hn) rfl ?_) | (refine Ret.goQP (specBasis_ret f ls r hn) rfl ?_) | (refine Ret.goP (l01In_ret _ _ _) rfl ?_) | (refine Ret.goQP (l01In_ret _ _ _) rfl ?_) | fail
     all_goals first | omega | exact absurd hb ‹_› | (exact bv_false fun ho => hl ho.2.2.1)
 · repeat' (conv => whnf); first | (intro h; try exact nZ) | apply And.intro | refine dZ ?_ | refine sZ ?_ | (refine Ret.goP (specBasis_ret f ls r hn) rfl ?_) | (refine Ret.goQP (specBasis_ret f ls r hn) rfl ?_) | fail
   all_goals first | omega | exact absurd ‹_› hb | (exact bv_false fun ho => hb ho.1)
end
end Go.Proofs.YtglbamncajileaaGreatDoor
