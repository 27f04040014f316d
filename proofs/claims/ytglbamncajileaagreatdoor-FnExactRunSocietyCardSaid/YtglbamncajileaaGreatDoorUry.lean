/-
  The laws' marks of texts. The laws' lists of texts: equality, marks. The law on the run of a text. The law on the run of a text, for every text. No conditions but those in the statements.
-/
import Derived.Test.YtglbamncajileaaGreatDoorAcc
import Derived.Test.YtglbamncajileaaGreatDoorUro
import Derived.Test.YtglbamncajileaaGreatDoorUrz
set_option linter.unusedVariables false
set_option linter.unusedSimpArgs false
set_option maxRecDepth 100000
set_option maxHeartbeats 2000000
namespace Go.Proofs.YtglbamncajileaaGreatDoor
open Go.AE Go.Lib
section
attribute [local irreducible] CallA LoopA DrawA CallQ arithK quoK remK eqK
def dz (m : Nat) : List UInt8 := if m = 0 then [] else decDigits m
theorem dz_step {m : Nat} (h : 0 < m) : dz m = dz (m / 10) ++ [UInt8.ofNat (48 + m % 10)] := by
 unfold dz
 rw [if_neg (by omega)]
 by_cases h10 : m < 10
 · rw [if_pos (by omega), decDigits_one h10, List.nil_append, show m % 10 = m by omega]
 · rw [if_neg (by omega), dec_big h10]
theorem dz_len {m : Nat} (h : m ≤ 100000000) : (dz m).length ≤ 20 := by
 unfold dz
 split
 · exact Nat.zero_le _
 · exact dec_len (by omega)
def mkT (k : Nat) : List UInt8 := 109 :: dz k
attribute [local irreducible] dz
theorem markText_ret (k : Nat) (h1 : 1 ≤ k) (h2 : k ≤ 100000000) : Rt 34 [I (k : Int)] (Sv (mkT k)) := by
 refine bZ Tryz.func34 ?_
 repeat' (conv => whnf); first | (intro h; try exact nZ) | apply And.intro | refine sZ ?_ | fail
 all_goals try exact rZ
 (conv => whnf)
 refine loop_rule hT (fun p : Nat × List UInt8 => p.1 ≤ k ∧ dz p.1 ++ p.2 = dz k) 20 0 [0, 3] (fun p => [I (p.1 : Int), Sv p.2]) (fun _ => []) (fun p => p.1) ((k, [])) (Nat.le_of_ble_eq_true rfl) ?_ ?_ ?_
 · exact ⟨Nat.le_refl _, by simp⟩
 · first | (exact endH1 [])
 · rintro ⟨m, out⟩ ⟨i1, i2⟩
   dsimp only at i1 i2 ⊢
   have hlen := congrArg List.length i2
   rw [List.length_append] at hlen
   have hkl := dz_len h2
   have ho : out.length ≤ 20 := by omega
   have hsz := B_size out
   have hb1 : (bytesOf [48 + (m : Int) % 10]).size = 1 := rfl
   by_cases hm : 0 < m
   · have hfin : bytesOf [48 + (m : Int) % 10] ++ B out = B (UInt8.ofNat (48 + m % 10) :: out) := by
       rw [bytesOf_one, show (48 + (m : Int) % 10).toNat = 48 + m % 10 by omega, B_app]; rfl
     have hq : ((m / 10 : Nat) : Int) = (m : Int) / 10 := by omega
     repeat' (conv => whnf); first | (intro h; try exact nZ) | apply And.intro | refine sZ ?_ | fail
     all_goals first | exact rZ | (show (bytesOf [48 + (m : Int) % 10]).size + (B out).size ≤ _; omega) | skip
     all_goals ((conv => whnf); first | (refine ⟨(m / 10, UInt8.ofNat (48 + m % 10) :: out), ⟨by dsimp only; omega, by dsimp only; rw [← i2, dz_step hm, List.append_assoc]; rfl⟩, ?_, by dsimp only; omega⟩; (refine ⟨rfl, [], ?_, ?_⟩; (repeat' first | apply And.intro | exact xZ | first | exact hfin | exact iv hq.symm | (rw [hq]; rfl) | fail); done)))
   · obtain rfl : m = 0 := by omega
     have ho2 : out = dz k := by rw [← i2]; unfold dz; rfl
     have hfin : (⟨#[109]⟩ : ByteArray) ++ B out = B (mkT k) := by unfold mkT; rw [← ho2]; show B [109] ++ B out = _; rw [B_app]; rfl
     have hz1 : (⟨#[109]⟩ : ByteArray).size = 1 := rfl
     repeat' (conv => whnf); first | (intro h; try exact nZ) | apply And.intro | refine sZ ?_ | fail
     all_goals first | exact rZ | (show (_ : Nat) ≤ _; simp only [ByteArray.size_append]; omega) | skip
     all_goals ((conv => whnf); first | (exact sv hfin) | (exact sv hfin.symm))
end
section
attribute [local irreducible] CallA LoopA DrawA CallQ arithK quoK remK eqK
attribute [local irreducible] mkT
theorem eqStr_self (ws : List (List UInt8)) (hn : ws.length ≤ 1048576) : Rt 9 [Rstr ws, Rstr ws] (Bo true) := by
 refine bZ Tryz.func9 ?_
 have hml : (ws.map B).length = ws.length := List.length_map _
 repeat' (conv => whnf); first | (intro h; try exact nZ) | apply And.intro | refine sZ ?_ | fail
 all_goals try exact rZ
 (conv => whnf)
 refine loop_rule hT (fun i : Nat => i ≤ ws.length) 26 0 [0, 1, 5] (fun i => [Rstr ws, Rstr ws, I i]) (fun _ => []) (fun i => ws.length - i) (0) (Nat.le_of_ble_eq_true rfl) ?_ ?_ ?_
 · exact Nat.zero_le _
 · first | (exact endH1 [])
 · intro i h1
   by_cases hi : i < ws.length
   · repeat' (conv => whnf); first | (intro h; try exact nZ) | apply And.intro | refine sZ ?_ | fail
     all_goals first | exact rZ | (show _ < (ws.map B).length; omega) | (show (_ : Int) < ((ws.map B).length : Int); omega) | skip
     all_goals ((conv => whnf); first | (refine ⟨i + 1, by omega, ?_, by omega⟩; (exact endH1 [])))
   · obtain rfl : i = ws.length := by omega
     repeat' (conv => whnf); first | (intro h; try exact nZ) | apply And.intro | refine sZ ?_ | fail
     all_goals first | exact rZ
def mkS (n k : Nat) : List (List UInt8) := (List.range n).map fun i => mkT (k + i)
theorem mkS_len (n k : Nat) : (mkS n k).length = n := by simp [mkS]
theorem mkS_get {n k i : Nat} (h : i < n) : (mkS n k).getD i [] = mkT (k + i) := by
 rw [mkS, List.getD_eq_getElem?_getD, List.getElem?_map, List.getElem?_range h]; rfl
attribute [local irreducible] mkS
theorem heldStr_ret (n k : Nat) (hn : n ≤ 1000) (hk1 : 1 ≤ k) (hk : k ≤ 1000) : Rt 11 [Rstr (mkS n k), I k] (I ((k + n : Nat) : Int)) := by
 refine bZ Tryz.func11 ?_
 have hl := mkS_len n k
 have hml : ((mkS n k).map B).length = n := by rw [List.length_map, hl]
 repeat' (conv => whnf); first | (intro h; try exact nZ) | apply And.intro | refine sZ ?_ | fail
 all_goals try exact rZ
 (conv => whnf)
 refine loop_rule hT (fun i : Nat => i ≤ n) 22 0 [0, 1, 5] (fun i => [Rstr (mkS n k), I ((k + i : Nat) : Int), I i]) (fun _ => []) (fun i => n - i) (0) (Nat.le_of_ble_eq_true rfl) ?_ ?_ ?_
 · exact Nat.zero_le _
 · first | (exact endH1 [])
 · intro i h1
   by_cases hi : i < n
   · have hm := markText_ret (k + i) (by omega) (by omega)
     have hg : ((mkS n k).map B).getD ((i : Int)).toNat ByteArray.empty = B (mkT (k + i)) := by
       rw [show ((i : Int)).toNat = i from rfl, strs_getD, mkS_get hi]
     repeat' (conv => whnf); first | (intro h; try exact nZ) | apply And.intro | refine sZ ?_ | refine Ret.uA (hm) ?_ | fail
     all_goals first | exact rZ | (show _ < ((mkS n k).map B).length; omega) | (show (_ : Int) < (((mkS n k).map B).length : Int); omega) | skip
     all_goals ((conv => whnf); first | (refine ⟨i + 1, by omega, ?_, by omega⟩; (exact endH1 [])))
   · obtain rfl : i = n := by omega
     repeat' (conv => whnf); first | (intro h; try exact nZ) | apply And.intro | refine sZ ?_ | fail
     all_goals first | exact rZ | (exfalso; simp at *; omega)
theorem markStr_call (xs : List (List UInt8)) (k : Nat) (hn : xs.length ≤ 1000) (hk1 : 1 ≤ k) (hk : k ≤ 1000) : Ca 10 [.sl 0 1 xs.length, I k] [Dstr xs] (fun v J => v = I ((k + xs.length : Nat) : Int) ∧ J = [Dstr (mkS xs.length k)]) := by
 refine cZ Tryz.func10 ?_
 repeat' (conv => whnf); first | (intro h; try exact nZ) | apply And.intro | refine sZ ?_ | fail
 all_goals try exact rZ
 (conv => whnf)
 refine loop_rule hT (fun p : Nat × List (List UInt8) => p.1 ≤ xs.length ∧ p.2.length = xs.length ∧ p.2.take p.1 = (mkS xs.length k).take p.1) 20 1 [0, 1, 5] (fun p => [.sl 0 1 xs.length, I ((k + p.1 : Nat) : Int), I p.1]) (fun p => [Dstr p.2]) (fun p => xs.length - p.1) ((0, xs)) (Nat.le_of_ble_eq_true rfl) ?_ ?_ ?_
 · exact ⟨Nat.zero_le _, rfl, rfl⟩
 · first | (exact endH1 [])
 · rintro ⟨i, ys⟩ ⟨h1, h2, h3⟩
   dsimp only at h1 h2 h3 ⊢
   have hml : (ys.map B).length = xs.length := by rw [List.length_map, h2]
   have hmD : xs.length = (D.strs (ys.map B)).len := hml.symm
   have hl := mkS_len xs.length k
   by_cases hi : i < xs.length
   · have hm := markText_ret (k + i) (by omega) (by omega)
     have hs : (ys.map B).set ((i : Int)).toNat (B (mkT (k + i))) = (ys.set i (mkT (k + i))).map B := by rw [List.map_set]; rfl
     have hsn := set_snoc [] h3 (by omega) (by omega)
     rw [mkS_get hi] at hsn
     repeat' (conv => whnf); first | (intro h; try exact nZ) | apply And.intro | refine sZ ?_ | refine Ret.uA (hm) ?_ | fail
     all_goals first | exact rZ | (show _ < (ys.map B).length; omega) | (show (_ : Int) < ((ys.map B).length : Int); omega) | skip
     all_goals ((conv => whnf); first | (refine ⟨(i + 1, ys.set i (mkT (k + i))), ⟨by dsimp only; omega, by dsimp only; rw [List.length_set]; exact h2, hsn⟩, ?_, by dsimp only; omega⟩; (refine ⟨rfl, [], ?_, ?_⟩; (repeat' first | apply And.intro | exact xZ | first | exact congrArg D.strs hs | fail); done)))
   · obtain rfl : i = xs.length := by omega
     obtain rfl : ys = mkS xs.length k := by rwa [take_all (by omega), take_all (by omega)] at h3
     repeat' (conv => whnf); first | (intro h; try exact nZ) | apply And.intro | refine sZ ?_ | fail
     all_goals try exact rZ
     all_goals (conv => whnf); exact endE1 [] (I ((k + xs.length : Nat) : Int)) [Dstr (mkS xs.length k)]
end
section
attribute [local irreducible] CallA LoopA DrawA CallQ arithK quoK remK eqK
attribute [local irreducible] stN ouN lnS mkS
theorem lawRS_ok (N : Nx) (x : List UInt8) (hf : fitS x) : Rt 3 [Sv x] (Bo true) := by
 refine bZ Tryz.func3 ?_
 have hsz := B_size x
 have hx := hf.1
 have h50 := hf.2
 have hs := specRS_ok N x hf
 have hi := implRS_ok N x hf
 have hol := ouN_len N (lnS x) (lnS x).length
 obtain ⟨O, hO⟩ : ∃ O, O = ouN N (lnS x) (lnS x).length := ⟨_, rfl⟩
 rw [← hO] at hs hi hol
 rw [← hol] at hs hi h50
 have hml : O.length = (D.strs (O.map B)).len := (List.length_map _).symm
 have hmk : O.length = (D.strs ((mkS O.length 1).map B)).len := by show _ = ((mkS O.length 1).map B).length; rw [List.length_map, mkS_len]
 have he := eqStr_self O (by omega)
 have hm := markStr_call O 1 (by omega) (by omega) (by omega)
 have hh := heldStr_ret O.length 1 (by omega) (by omega) (by omega)
 repeat' (conv => whnf); first | (intro h; try exact nZ) | apply And.intro | refine sZ ?_ | refine CallA.gM [] (hs) ?_ | refine CallA.gM [] (hi) ?_ | refine Ret.uA (he) ?_ | refine CallA.gM [1] (hm) ?_ | refine Ret.uA (hh) ?_ | fail
 all_goals first | exact rZ
theorem markStr_nil : Rt 10 [Rstr [], I 1] (I 1) := by
 refine bZ Tryz.func10 ?_
 repeat' (conv => whnf); first | (intro h; try exact nZ) | apply And.intro | refine sZ ?_ | fail
 all_goals try exact rZ
 (conv => whnf)
 refine loop_rule hT (fun i : Nat => i = 0) 20 0 [0, 1, 5] (fun _ => [Rstr [], I 1, I 0]) (fun _ => []) (fun i => i) (0) (Nat.le_of_ble_eq_true rfl) ?_ ?_ ?_
 · rfl
 · first | (exact endH1 [])
 · intro i h1
   repeat' (conv => whnf); first | (intro h; try exact nZ) | apply And.intro | refine sZ ?_ | fail
   all_goals first | exact rZ | (exfalso; simp at *; done)
theorem lawRS_bad (x : List UInt8) (hx : x.length ≤ 1048576) (hf : ¬ fitS x) : Rt 3 [Sv x] (Bo true) := by
 refine bZ Tryz.func3 ?_
 have hsz := B_size x
 have hs := specRS_bad x hx hf
 have hi := implRS_bad x hx hf
 have he := eqStr_self [] (by decide)
 have hm := markStr_nil
 have hh := heldStr_ret 0 1 (by omega) (by omega) (by omega)
 rw [show mkS 0 1 = [] by unfold mkS; rfl] at hh
 repeat' (conv => whnf); first | (intro h; try exact nZ) | apply And.intro | refine sZ ?_ | refine CallA.gM [] (hs) ?_ | refine CallA.gM [] (hi) ?_ | refine Ret.uA (he) ?_ | refine Ret.uA (hm) ?_ | refine Ret.uA (hh) ?_ | fail
 all_goals first | exact rZ
theorem lawRS_big (x : List UInt8) (hx : ¬ x.length ≤ 1048576) : Rt 3 [Sv x] (Bo true) := by
 refine bZ Tryz.func3 ?_
 have hsz := B_size x
 repeat' (conv => whnf); first | (intro h; try exact nZ) | apply And.intro | refine sZ ?_ | fail
 all_goals first | exact rZ
end
section
theorem lawRS_ret (x : List UInt8) : Rt 3 [Sv x] (Bo true) := by
 by_cases hx : x.length ≤ 1048576
 · by_cases hf : fitS x
   · exact lawRS_ok nx x hf
   · exact lawRS_bad x hx hf
 · exact lawRS_big x hx
end
end Go.Proofs.YtglbamncajileaaGreatDoor
