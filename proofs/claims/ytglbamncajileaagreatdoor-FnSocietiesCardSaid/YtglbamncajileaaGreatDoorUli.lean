/-
  The texts of all holdings, by the program and by the reference. No conditions but those in the statements.
-/
import Derived.Test.YtglbamncajileaaGreatDoorUtr
set_option linter.unusedVariables false
set_option linter.unusedSimpArgs false
set_option maxRecDepth 100000
set_option maxHeartbeats 4000000
namespace Go.Proofs.YtglbamncajileaaGreatDoor
open Go.AE Go.Lib
attribute [local irreducible] CallA LoopA DrawA CallQ arithK quoK remK eqK
theorem join_le {ws : List (List UInt8)} {s : List UInt8} {m : Nat} (h : ∀ w ∈ ws, w.length ≤ m) : (join ws s).length ≤ (m + s.length) * ws.length := by
 induction ws with
 | nil => simp [join_nil]
 | cons x r ih =>
   have hx := h x (by simp)
   have hr := ih fun w hw => h w (by simp [hw])
   cases r with
   | nil => rw [join_one]; simp; omega
   | cons y r =>
     rw [join_cons2, List.length_append, List.length_append, List.length_cons, Nat.mul_succ]
     omega
def it (h : List Int) : List UInt8 := ptx [h.getD 0 0, h.getD 1 0, h.getD 2 0, h.getD 3 0, h.getD 4 0] ++ [47] ++ itoa (h.getD 5 0) ++ [47] ++ itoa (h.getD 6 0)
theorem it_facts {f : Int} {ls : List Int} {r : Int} {h : List Int} (ho : okH f ls r h) : (ptx [h.getD 0 0, h.getD 1 0, h.getD 2 0, h.getD 3 0, h.getD 4 0]).length ≤ 145 ∧ (0 ≤ h.getD 5 0 ∧ h.getD 5 0 ≤ 1000) ∧ (0 ≤ h.getD 6 0 ∧ h.getD 6 0 ≤ 1000000) ∧ (itoa (h.getD 5 0)).length ≤ 21 ∧ (itoa (h.getD 6 0)).length ≤ 21 ∧ 0 < (it h).length ∧ (it h).length ≤ 200 := by
 obtain ⟨⟨hp, hq, hd⟩, hc⟩ := ho
 have hb := dur_bd hp
 have hl1 := itoa_len (n := h.getD 5 0) (by unfold okI; omega)
 have hl2 := itoa_len (n := h.getD 6 0) (by unfold okI; omega)
 have hpl : (ptx [h.getD 0 0, h.getD 1 0, h.getD 2 0, h.getD 3 0, h.getD 4 0]).length ≤ 145 := by
   unfold ptx
   split
   · rename_i hm; exact rt_le rfl hm
   · exact Nat.zero_le _
 refine ⟨hpl, by omega, hc, hl1, hl2, ?_, ?_⟩
 · unfold it; simp only [List.length_append, List.length_cons, List.length_nil]; omega
 · unfold it; simp only [List.length_append, List.length_cons, List.length_nil]; omega
theorem it_B (h : List Int) (a : ByteArray) : a ++ B (ptx [h.getD 0 0, h.getD 1 0, h.getD 2 0, h.getD 3 0, h.getD 4 0]) ++ ⟨#[47]⟩ ++ B (itoa (h.getD 5 0)) ++ ⟨#[47]⟩ ++ B (itoa (h.getD 6 0)) = a ++ B (it h) := by
 unfold it
 rw [← B_app, ← B_app, ← B_app, ← B_app]
 simp only [ByteArray.append_assoc]
theorem it_B0 (h : List Int) : B (ptx [h.getD 0 0, h.getD 1 0, h.getD 2 0, h.getD 3 0, h.getD 4 0]) ++ ⟨#[47]⟩ ++ B (itoa (h.getD 5 0)) ++ ⟨#[47]⟩ ++ B (itoa (h.getD 6 0)) = B (it h) := by
 unfold it
 rw [← B_app, ← B_app, ← B_app, ← B_app]
theorem its_snoc {hs : List (List Int)} {i : Nat} (h : i < hs.length) : ((hs.take (i + 1)).map it).map B = ((hs.take i).map it).map B ++ [B (it (hs.getD i []))] := by
 rw [take_snoc [] h, List.map_append, List.map_append]; rfl
attribute [local irreducible] okF okT it ptx
theorem implList_ret (F : Fu) (hF : F.ok) : Rt 139 [F.rpc] (Sv (if F.hs = [] then noneT else join (F.hs.map it) [32])) := by
 refine bZ Tryz.func139 ?_
 have h30 := hF.hb
 repeat' (conv => whnf); first | (intro h; try exact nZ) | apply And.intro | refine sZ ?_ | fail
 all_goals try exact rZ
 (conv => whnf)
 refine loop_rule hT (fun i : Nat => i ≤ F.hs.length) 38 1 [3, 10, 11, 12] (fun i => [.sl 1 1 (((F.hs.take i).map it).map B).length, Rh F.hs, I F.hs.length, I i]) (fun i => [.dead, .data (.strs (((F.hs.take i).map it).map B))]) (fun i => F.hs.length - i) (0) (Nat.le_of_ble_eq_true rfl) ?_ ?_ ?_
 · exact Nat.zero_le _
 · first | (exact endH1 [some 0])
 · intro i h1
   have hlen : (((F.hs.take i).map it).map B).length = i := by simp; omega
   by_cases hi : i < F.hs.length
   · have hoh : okH F.f F.ls F.r (F.hs.getD ((i : Int)).toNat []) := okF_H hF.pf (getD_mem (d := ([] : List Int)) hi)
     obtain ⟨e1, e2, e3, e4, e5, e6, e7⟩ := it_facts hoh
     have hp := implPText_ret ((F.hs.getD ((i : Int)).toNat []).getD 0 0) ((F.hs.getD ((i : Int)).toNat []).getD 1 0) ((F.hs.getD ((i : Int)).toNat []).getD 2 0) ((F.hs.getD ((i : Int)).toNat []).getD 3 0) ((F.hs.getD ((i : Int)).toNat []).getD 4 0)
     have hd1 := decimal_ret ((F.hs.getD ((i : Int)).toNat []).getD 5 0) (by omega)
     have hd2 := decimal_ret ((F.hs.getD ((i : Int)).toNat []).getD 6 0) (by omega)
     have hb := it_B0 (F.hs.getD ((i : Int)).toNat [])
     have hsn : (((F.hs.take i).map it).map B) ++ [B (ptx [(F.hs.getD ((i : Int)).toNat []).getD 0 0, (F.hs.getD ((i : Int)).toNat []).getD 1 0, (F.hs.getD ((i : Int)).toNat []).getD 2 0, (F.hs.getD ((i : Int)).toNat []).getD 3 0, (F.hs.getD ((i : Int)).toNat []).getD 4 0]) ++ ⟨#[47]⟩ ++ B (itoa ((F.hs.getD ((i : Int)).toNat []).getD 5 0)) ++ ⟨#[47]⟩ ++ B (itoa ((F.hs.getD ((i : Int)).toNat []).getD 6 0))] = (((F.hs.take (i + 1)).map it).map B) := by rw [hb]; exact (its_snoc hi).symm
     have hsl := congrArg List.length hsn
     have hz1 : (⟨#[47]⟩ : ByteArray).size = 1 := rfl
     have z1 : (B (ptx [(F.hs.getD ((i : Int)).toNat []).getD 0 0, (F.hs.getD ((i : Int)).toNat []).getD 1 0, (F.hs.getD ((i : Int)).toNat []).getD 2 0, (F.hs.getD ((i : Int)).toNat []).getD 3 0, (F.hs.getD ((i : Int)).toNat []).getD 4 0])).size ≤ 145 := e1
     have z2 : (B (itoa ((F.hs.getD ((i : Int)).toNat []).getD 5 0))).size ≤ 21 := e4
     have z3 : (B (itoa ((F.hs.getD ((i : Int)).toNat []).getD 6 0))).size ≤ 21 := e5
     clear hb e1 e4 e5 e6 e7
     repeat' (conv => whnf); first | (intro h; try exact nZ) | apply And.intro | refine sZ ?_ | (refine Ret.go (hp) rfl rfl ?_) | (refine Ret.go (hd1) rfl rfl ?_) | (refine Ret.go (hd2) rfl rfl ?_) | fail
     all_goals first | exact rZ | (show (_ : Nat) ≤ _; omega) | (show (_ : Nat) ≤ _; simp only [ByteArray.size_append]; omega) | (show (_ : Nat) ≤ _; simp; omega) | skip
     all_goals ((conv => whnf); first | (refine ⟨i + 1, by omega, ?_, by omega⟩; first | (refine ⟨rfl, [some 4], ?_, ?_⟩; (repeat' first | apply And.intro | exact xZ | first | exact hsl | exact congrArg D.strs hsn | fail); done) | (refine ⟨rfl, [some 3], ?_, ?_⟩; (repeat' first | apply And.intro | exact xZ | first | exact hsl | exact congrArg D.strs hsn | fail); done)))
   · obtain rfl : i = F.hs.length := by omega
     rw [take_all (Nat.le_refl _)] at hlen ⊢
     by_cases h0 : F.hs = []
     · rw [if_pos h0]
       have h00 : F.hs.length = 0 := by rw [h0]; rfl
       repeat' (conv => whnf); first | (intro h; try exact nZ) | apply And.intro | refine sZ ?_ | fail
       all_goals first | exact rZ
     · rw [if_neg h0]
       have h00 := List.length_pos_iff.2 h0
       have hj := join_ret (F.hs.map it) [32] (by rw [List.length_map]; omega) (by
         have := join_le (ws := F.hs.map it) (s := [32]) (m := 200) (fun w hw => by
           obtain ⟨h, hh, rfl⟩ := List.mem_map.1 hw
           obtain ⟨-, -, -, -, -, -, e7⟩ := it_facts (okF_H hF.pf hh)
           exact e7)
         rw [List.length_map] at this
         have h201 : (200 + [(32 : UInt8)].length) * F.hs.length ≤ 201 * 30 := Nat.mul_le_mul_left _ h30
         omega)
       repeat' (conv => whnf); first | (intro h; try exact nZ) | apply And.intro | refine sZ ?_ | refine Ret.uA (hj) ?_ | fail
       all_goals first | exact rZ
def jt (hs : List (List Int)) (i : Nat) : List UInt8 := join ((hs.take i).map it) [32]
theorem jt_zero (hs : List (List Int)) : jt hs 0 = [] := by simp [jt, join_nil]
theorem jt_one {hs : List (List Int)} (h : 0 < hs.length) : jt hs 1 = it (hs.getD 0 []) := by
 unfold jt
 rw [show (1 : Nat) = 0 + 1 from rfl, take_snoc [] h, List.take_zero, List.nil_append, List.map_cons, List.map_nil, join_one]
theorem jt_next {hs : List (List Int)} {i : Nat} (h0 : 0 < i) (h : i < hs.length) : jt hs (i + 1) = jt hs i ++ [32] ++ it (hs.getD i []) := by
 unfold jt
 rw [take_snoc [] h, List.map_append, List.map_cons, List.map_nil, join_snoc]
 intro e
 have : ((hs.take i).map it).length = 0 := by rw [e]; rfl
 rw [List.length_map, List.length_take] at this
 omega
theorem jt_all (hs : List (List Int)) : jt hs hs.length = join (hs.map it) [32] := by unfold jt; rw [take_all (Nat.le_refl _)]
theorem jt_len {F : Fu} (hF : F.ok) (i : Nat) (hi : i ≤ F.hs.length) : (jt F.hs i).length ≤ 201 * i := by
 have := join_le (ws := (F.hs.take i).map it) (s := [32]) (m := 200) (fun w hw => by
   obtain ⟨h, hh, rfl⟩ := List.mem_map.1 hw
   obtain ⟨-, -, -, -, -, -, e7⟩ := it_facts (okF_H hF.pf (List.mem_of_mem_take hh))
   exact e7)
 rw [List.length_map, List.length_take, Nat.min_eq_left hi] at this
 exact this
attribute [local irreducible] jt
theorem specList_ret (F : Fu) (hF : F.ok) : Rt 119 [Rh F.hs] (Sv (if F.hs = [] then noneT else join (F.hs.map it) [32])) := by
 refine bZ Tryz.func119 ?_
 have h30 := hF.hb
 repeat' (conv => whnf); first | (intro h; try exact nZ) | apply And.intro | refine sZ ?_ | fail
 all_goals try exact rZ
 (conv => whnf)
 refine loop_rule hT (fun i : Nat => i ≤ F.hs.length) 42 0 [0, 3, 4] (fun i => [Rh F.hs, Sv (jt F.hs i), I i]) (fun _ => []) (fun i => F.hs.length - i) (0) (Nat.le_of_ble_eq_true rfl) ?_ ?_ ?_
 · exact Nat.zero_le _
 · first | (refine ⟨rfl, [], ?_, ?_⟩; (repeat' first | apply And.intro | exact xZ | (rw [jt_zero]; rfl) | fail); done)
 · intro i h1
   have hjl := jt_len hF i h1
   by_cases hi : i < F.hs.length
   · have hoh : okH F.f F.ls F.r (F.hs.getD ((i : Int)).toNat []) := okF_H hF.pf (getD_mem (d := ([] : List Int)) hi)
     obtain ⟨e1, e2, e3, e4, e5, e6, e7⟩ := it_facts hoh
     have hp := specPText_ret ((F.hs.getD ((i : Int)).toNat []).getD 0 0) ((F.hs.getD ((i : Int)).toNat []).getD 1 0) ((F.hs.getD ((i : Int)).toNat []).getD 2 0) ((F.hs.getD ((i : Int)).toNat []).getD 3 0) ((F.hs.getD ((i : Int)).toNat []).getD 4 0)
     have hd1 := l01Dec_ret ((F.hs.getD ((i : Int)).toNat []).getD 5 0).toNat (by omega)
     have hd2 := l01Dec_ret ((F.hs.getD ((i : Int)).toNat []).getD 6 0).toNat (by omega)
     rw [show ((((F.hs.getD ((i : Int)).toNat []).getD 5 0).toNat : Nat) : Int) = (F.hs.getD ((i : Int)).toNat []).getD 5 0 by omega, ← itoa_nat (n := (F.hs.getD ((i : Int)).toNat []).getD 5 0) (by omega)] at hd1
     rw [show ((((F.hs.getD ((i : Int)).toNat []).getD 6 0).toNat : Nat) : Int) = (F.hs.getD ((i : Int)).toNat []).getD 6 0 by omega, ← itoa_nat (n := (F.hs.getD ((i : Int)).toNat []).getD 6 0) (by omega)] at hd2
     have hb := it_B (F.hs.getD ((i : Int)).toNat [])
     have hz1 : (⟨#[47]⟩ : ByteArray).size = 1 := rfl
     have hz2 : (⟨#[32]⟩ : ByteArray).size = 1 := rfl
     have z0 : (B (jt F.hs i)).size ≤ 201 * i := hjl
     have z1 : (B (ptx [(F.hs.getD ((i : Int)).toNat []).getD 0 0, (F.hs.getD ((i : Int)).toNat []).getD 1 0, (F.hs.getD ((i : Int)).toNat []).getD 2 0, (F.hs.getD ((i : Int)).toNat []).getD 3 0, (F.hs.getD ((i : Int)).toNat []).getD 4 0])).size ≤ 145 := e1
     have z2 : (B (itoa ((F.hs.getD ((i : Int)).toNat []).getD 5 0))).size ≤ 21 := e4
     have z3 : (B (itoa ((F.hs.getD ((i : Int)).toNat []).getD 6 0))).size ≤ 21 := e5
     clear e1 e4 e5 e6 e7
     by_cases h0 : 0 < i
     · have hj : jt F.hs (i + 1) = jt F.hs i ++ [32] ++ it (F.hs.getD ((i : Int)).toNat []) := jt_next h0 hi
       have hfin : B (jt F.hs i) ++ ⟨#[32]⟩ ++ B (ptx [(F.hs.getD ((i : Int)).toNat []).getD 0 0, (F.hs.getD ((i : Int)).toNat []).getD 1 0, (F.hs.getD ((i : Int)).toNat []).getD 2 0, (F.hs.getD ((i : Int)).toNat []).getD 3 0, (F.hs.getD ((i : Int)).toNat []).getD 4 0]) ++ ⟨#[47]⟩ ++ B (itoa ((F.hs.getD ((i : Int)).toNat []).getD 5 0)) ++ ⟨#[47]⟩ ++ B (itoa ((F.hs.getD ((i : Int)).toNat []).getD 6 0)) = B (jt F.hs (i + 1)) := by
         rw [hb, hj, ← B_app, ← B_app]
       clear hb
       repeat' (conv => whnf); first | (intro h; try exact nZ) | apply And.intro | refine sZ ?_ | (refine Ret.go (hp) rfl rfl ?_) | (refine Ret.go (hd1) rfl rfl ?_) | (refine Ret.go (hd2) rfl rfl ?_) | fail
       all_goals first | exact rZ | (show (_ : Nat) ≤ _; omega) | (show (_ : Nat) ≤ _; simp only [ByteArray.size_append]; omega) | skip
       all_goals ((conv => whnf); first | (refine ⟨i + 1, by omega, ?_, by omega⟩; (refine ⟨rfl, [], ?_, ?_⟩; (repeat' first | apply And.intro | exact xZ | exact hfin | fail); done)))
     · obtain rfl : i = 0 := by omega
       have hj : jt F.hs 1 = it (F.hs.getD (((0 : Nat) : Int)).toNat []) := jt_one hi
       have hfin : B (jt F.hs 0) ++ B (ptx [(F.hs.getD (((0 : Nat) : Int)).toNat []).getD 0 0, (F.hs.getD (((0 : Nat) : Int)).toNat []).getD 1 0, (F.hs.getD (((0 : Nat) : Int)).toNat []).getD 2 0, (F.hs.getD (((0 : Nat) : Int)).toNat []).getD 3 0, (F.hs.getD (((0 : Nat) : Int)).toNat []).getD 4 0]) ++ ⟨#[47]⟩ ++ B (itoa ((F.hs.getD (((0 : Nat) : Int)).toNat []).getD 5 0)) ++ ⟨#[47]⟩ ++ B (itoa ((F.hs.getD (((0 : Nat) : Int)).toNat []).getD 6 0)) = B (jt F.hs (0 + 1)) := by
         rw [hb, show 0 + 1 = 1 from rfl, hj, jt_zero, B_app]; rfl
       clear hb
       repeat' (conv => whnf); first | (intro h; try exact nZ) | apply And.intro | refine sZ ?_ | (refine Ret.go (hp) rfl rfl ?_) | (refine Ret.go (hd1) rfl rfl ?_) | (refine Ret.go (hd2) rfl rfl ?_) | fail
       all_goals first | exact rZ | (show (_ : Nat) ≤ _; omega) | (show (_ : Nat) ≤ _; simp only [ByteArray.size_append]; omega) | skip
       all_goals ((conv => whnf); first | (refine ⟨0 + 1, by omega, ?_, by omega⟩; (refine ⟨rfl, [], ?_, ?_⟩; (repeat' first | apply And.intro | exact xZ | exact hfin | fail); done)))
   · obtain rfl : i = F.hs.length := by omega
     rw [← jt_all]
     by_cases h0 : F.hs = []
     · rw [if_pos h0]
       have h00 : F.hs.length = 0 := by rw [h0]; rfl
       have hem : B (jt F.hs F.hs.length) = ⟨#[]⟩ := by rw [h00, jt_zero]
       repeat' (conv => whnf); first | (intro h; try exact nZ) | apply And.intro | refine sZ ?_ | fail
       all_goals first | exact rZ
     · rw [if_neg h0]
       have hne : ¬ B (jt F.hs F.hs.length) = ⟨#[]⟩ := fun e => by
         have e := B_inj (b := []).1 e
         have hp := List.length_pos_iff.2 h0
         have hl : (jt F.hs F.hs.length).length = 0 := by rw [e]; rfl
         by_cases h1' : F.hs.length = 1
         · rw [h1', jt_one (by omega)] at hl
           obtain ⟨-, -, -, -, -, e6, -⟩ := it_facts (okF_H hF.pf (getD_mem (d := ([] : List Int)) (show 0 < F.hs.length by omega)))
           omega
         · obtain ⟨m, hm⟩ : ∃ m, F.hs.length = m + 1 := ⟨F.hs.length - 1, by omega⟩
           rw [hm, jt_next (by omega) (by omega)] at hl
           simp at hl
       repeat' (conv => whnf); first | (intro h; try exact nZ) | apply And.intro | refine sZ ?_ | fail
       all_goals first | exact rZ
theorem list_step (F : Fu) (hF : F.ok) (b w : ByteArray) (hb : b = w_list) (ns : List Int) : Step F b w ns := by
 obtain ⟨n1, n2, n3, n4, n5, n6, n7, n8, n9, n10, n11, n12, n13, n14, n15⟩ := only_list hb
 have hfit := hF.fit
 have hI := implList_ret F hF
 have hS := specList_ret F hF
 have hlen : (if F.hs = [] then noneT else join (F.hs.map it) [32]).length ≤ 100000 := by
   split
   · decide
   · have := jt_len hF F.hs.length (Nat.le_refl _)
     have := hF.hb
     rw [jt_all] at *
     omega
 obtain ⟨t, ht⟩ : ∃ t, t = if F.hs = [] then noneT else join (F.hs.map it) [32] := ⟨_, rfl⟩
 rw [← ht] at hI hS hlen
 refine step_of (t := t) (t' := t) (c := 0) (chg_none F hF b w ns ‹_› ‹_› ‹_› ‹_› ‹_›) ?_ ?_ (fun _ => ⟨rfl, hlen⟩) ⟨by omega, by omega⟩
 · refine cZ Tryz.func89 ?_
   repeat' (conv => whnf); first | (intro h; try exact nZ) | apply And.intro | refine sZ ?_ | refine Ret.uA (hI) ?_ | fail
   all_goals try exact rZ
   all_goals (conv => whnf); exact endE1 [] (.tup [Sv t, I 0]) [.cells (F.cells 1 2), Di F.xs, Dh F.hs]
 · refine bZ Tryz.func85 ?_
   repeat' (conv => whnf); first | (intro h; try exact nZ) | apply And.intro | refine sZ ?_ | (refine Ret.go (hS) rfl rfl ?_) | fail
   all_goals first | exact rZ
end Go.Proofs.YtglbamncajileaaGreatDoor
