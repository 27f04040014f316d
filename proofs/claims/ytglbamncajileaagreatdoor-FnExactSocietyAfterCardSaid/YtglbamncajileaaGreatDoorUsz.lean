/-
  The laws' marks of societies. The law on the society behind a text. No conditions but those in the statements.
-/
import Derived.Test.YtglbamncajileaaGreatDoorXs
import Derived.Test.YtglbamncajileaaGreatDoorSf
import Derived.Test.YtglbamncajileaaGreatDoorUst
import Derived.Test.YtglbamncajileaaGreatDoorUro
import Derived.Test.YtglbamncajileaaGreatDoorUrz
set_option linter.unusedVariables false
set_option linter.unusedSimpArgs false
set_option maxRecDepth 100000
set_option maxHeartbeats 4000000
namespace Go.Proofs.YtglbamncajileaaGreatDoor
section
open Go.AE
attribute [local irreducible] CallA LoopA DrawA CallQ arithK quoK remK eqK
def sb (xs : List Int) (lo k i : Nat) : List Int := xs.take lo ++ (marks i k ++ xs.drop (lo + i))
theorem sb_zero (xs : List Int) (lo k : Nat) : sb xs lo k 0 = xs := by simp [sb, marks]
theorem marks_succ (i k : Nat) : marks (i + 1) k = marks i k ++ [((k + i : Nat) : Int)] := by simp [marks, List.range_succ]
theorem sb_len {xs : List Int} {lo k i : Nat} (h : lo + i ≤ xs.length) : (sb xs lo k i).length = xs.length := by
 simp only [sb, List.length_append, List.length_take, List.length_drop, marks_len]; omega
theorem sb_next {xs : List Int} {lo k i : Nat} (h : lo + i < xs.length) : (sb xs lo k i).set (lo + i) ((k + i : Nat) : Int) = sb xs lo k (i + 1) := by
 have hl : (xs.take lo).length = lo := by rw [List.length_take]; omega
 have hm := marks_len i k
 unfold sb
 rw [List.set_append_right _ _ (by omega), List.set_append_right _ _ (by omega), marks_succ, List.append_assoc, hl, hm, show lo + i - lo - i = 0 by omega, List.drop_eq_getElem_cons h]
 rfl
theorem sb_part {xs : List Int} {lo k n : Nat} (h : lo + n ≤ xs.length) : ((sb xs lo k n).drop lo).take n = marks n k := by
 have hl : (xs.take lo).length = lo := by rw [List.length_take]; omega
 have hm := marks_len n k
 unfold sb
 rw [List.drop_append_of_le_length (by omega), List.drop_of_length_le (by omega), List.nil_append, List.take_append_of_le_length (by omega), List.take_of_length_le (by omega)]
attribute [local irreducible] sb marks marksHolding
theorem markSub_call (xs : List Int) (lo n k : Nat) (hf : lo + n ≤ xs.length) (hx : xs.length ≤ 1001) (hk : k ≤ 1000) : Ca 97 [.sub 0 1 lo n, I k] [Di xs] (fun v J => v = I ((k + n : Nat) : Int) ∧ J = [Di (sb xs lo k n)]) := by
 refine cZ Tryz.func97 ?_
 repeat' (conv => whnf); first | (intro h; try exact nZ) | apply And.intro | refine sZ ?_ | fail
 all_goals try exact rZ
 (conv => whnf)
 refine loop_rule hT (fun i : Nat => i ≤ n) 19 1 [0, 1, 5] (fun i => [.sub 0 1 lo n, I ((k + i : Nat) : Int), I i]) (fun i => [Di (sb xs lo k i)]) (fun i => n - i) (0) (Nat.le_of_ble_eq_true rfl) ?_ ?_ ?_
 · exact Nat.zero_le _
 · rw [sb_zero]
   (exact endH1 [])
 · intro i h1
   have hl : (sb xs lo k i).length = xs.length := sb_len (by omega)
   by_cases hi : i < n
   · have hs : (sb xs lo k i).set (lo + ((i : Int)).toNat) ((k + i : Nat) : Int) = sb xs lo k (i + 1) := sb_next (by omega)
     repeat' (conv => whnf); first | (intro h; try exact nZ) | apply And.intro | refine sZ ?_ | fail
     all_goals try exact rZ
     all_goals ((conv => whnf); first | (refine ⟨i + 1, by omega, ?_, by omega⟩; (refine ⟨rfl, [], ?_, ?_⟩; (repeat' first | apply And.intro | exact xZ | exact congrArg (D.ints .i64) hs | fail); done)))
   · obtain rfl : i = n := by omega
     repeat' (conv => whnf); first | (intro h; try exact nZ) | apply And.intro | refine sZ ?_ | fail
     all_goals try exact rZ
     all_goals (conv => whnf); exact endE1 [] (I ((k + i : Nat) : Int)) [Di (sb xs lo k i)]
theorem markTab_call (f : Int) (xs : List Int) (lo n k : Nat) (hf : lo + n ≤ xs.length) (hx : xs.length ≤ 1001) (hk : k ≤ 1000) : Ca 70 [.agg [I f, .sub 0 1 lo n], I k] [Di xs] (fun v J => v = I ((k + n : Nat) : Int) ∧ J = [Di (sb xs lo k n)]) := by
 refine cZ Tryz.func70 ?_
 have hm := markSub_call xs lo n k hf hx hk
 repeat' (conv => whnf); first | (intro h; try exact nZ) | apply And.intro | refine sZ ?_ | refine CallA.gM [0] (hm) ?_ | fail
 all_goals try exact rZ
 all_goals (conv => whnf); exact endE1 [] (I ((k + n : Nat) : Int)) [Di (sb xs lo k n)]
theorem markBas_call (f : Int) (xs : List Int) (r : Int) (lo n k : Nat) (hf : lo + n ≤ xs.length) (hx : xs.length ≤ 1001) (hk : k ≤ 1000) : Ca 44 [.agg [I f, .sub 0 1 lo n, I r], I k] [Di xs] (fun v J => v = I ((k + n : Nat) : Int) ∧ J = [Di (sb xs lo k n)]) := by
 refine cZ Tryz.func44 ?_
 have hm := markTab_call f xs lo n k hf hx hk
 repeat' (conv => whnf); first | (intro h; try exact nZ) | apply And.intro | refine sZ ?_ | refine CallA.gM [0] (hm) ?_ | fail
 all_goals try exact rZ
 all_goals (conv => whnf); exact endE1 [] (I ((k + n : Nat) : Int)) [Di (sb xs lo k n)]
theorem markSoc_call (F : Fu) (h : F.ok) : Ca 21 [F.val 0 1, I ((1 : Nat) : Int)] [Di F.xs, Dh F.hs] (fun v J => v = I ((1 + F.n + F.hs.length * 7 : Nat) : Int) ∧ J = [Di (sb F.xs F.lo 1 F.n), Dh (marksHolding F.hs.length (1 + F.n))]) := by
 refine cZ Tryz.func21 ?_
 have hfit := h.fit
 have hbig := h.big
 have hhb := h.hb
 have hm := markBas_call F.f F.xs F.r F.lo F.n 1 hfit hbig (by omega)
 have hh := markHoldingS_call F.hs (1 + F.n) (by omega) (by omega) h.row
 repeat' (conv => whnf); first | (intro h; try exact nZ) | apply And.intro | refine sZ ?_ | refine CallA.gM [0] (hm) ?_ | refine CallA.gM [1] (hh) ?_ | fail
 all_goals try exact rZ
 all_goals (conv => whnf); exact endE1 [] (I ((1 + F.n + F.hs.length * 7 : Nat) : Int)) [Di (sb F.xs F.lo 1 F.n), Dh (marksHolding F.hs.length (1 + F.n))]
theorem heldTab_ret (f : Int) (n k : Nat) (hn : n ≤ 1001) (hk : k ≤ 1001) : Rt 71 [Tb f (marks n k), I k] (I ((k + n : Nat) : Int)) := by
 refine bZ Tryz.func71 ?_
 have hh := heldInt64S_ret n k (by omega) (by omega)
 repeat' (conv => whnf); first | (intro h; try exact nZ) | apply And.intro | refine sZ ?_ | refine Ret.uA (hh) ?_ | fail
 all_goals first | exact rZ
theorem heldBas_ret (f r : Int) (n k : Nat) (hn : n ≤ 1001) (hk : k ≤ 1001) : Rt 46 [Bs f (marks n k) r, I k] (I ((k + n : Nat) : Int)) := by
 refine bZ Tryz.func46 ?_
 have hh := heldTab_ret f n k hn hk
 repeat' (conv => whnf); first | (intro h; try exact nZ) | apply And.intro | refine sZ ?_ | refine Ret.uA (hh) ?_ | fail
 all_goals first | exact rZ
theorem heldSoc_ret (f r d : Int) (n m : Nat) (hn : n ≤ 1001) (hm : m ≤ 30) : Rt 22 [Soc f (Ri (marks n 1)) r (Rh (marksHolding m (1 + n))) d, I ((1 : Nat) : Int)] (I ((1 + n + m * 7 : Nat) : Int)) := by
 refine bZ Tryz.func22 ?_
 have hb := heldBas_ret f r n 1 hn (by omega)
 have hh := heldHoldingS_ret m (1 + n) (by omega) (by omega)
 repeat' (conv => whnf); first | (intro h; try exact nZ) | apply And.intro | refine sZ ?_ | refine Ret.uA (hb) ?_ | refine Ret.uA (hh) ?_ | fail
 all_goals first | exact rZ
theorem markInts_nil : Rt 97 [Ri [], I 1] (I 1) := by
 refine bZ Tryz.func97 ?_
 repeat' (conv => whnf); first | (intro h; try exact nZ) | apply And.intro | refine sZ ?_ | fail
 all_goals try exact rZ
 (conv => whnf)
 refine loop_rule hT (fun i : Nat => i = 0) 19 0 [0, 1, 5] (fun _ => [Ri [], I 1, I 0]) (fun _ => []) (fun i => i) (0) (Nat.le_of_ble_eq_true rfl) ?_ ?_ ?_
 · rfl
 · (exact endH1 [])
 · intro i h1
   repeat' (conv => whnf); first | (intro h; try exact nZ) | apply And.intro | refine sZ ?_ | fail
   all_goals first | exact rZ | (exfalso; simp at *; done)
theorem markHols_nil : Rt 45 [Rh [], I 1] (I 1) := by
 refine bZ Tryz.func45 ?_
 repeat' (conv => whnf); first | (intro h; try exact nZ) | apply And.intro | refine sZ ?_ | fail
 all_goals try exact rZ
 (conv => whnf)
 refine loop_rule hT (fun i : Nat => i = 0) 67 0 [0, 1, 5] (fun _ => [Rh [], I 1, I 0]) (fun _ => []) (fun i => i) (0) (Nat.le_of_ble_eq_true rfl) ?_ ?_ ?_
 · rfl
 · (exact endH1 [])
 · intro i h1
   repeat' (conv => whnf); first | (intro h; try exact nZ) | apply And.intro | refine sZ ?_ | fail
   all_goals first | exact rZ | (exfalso; simp at *; done)
theorem markSoc_nil : Rt 21 [Soc 0 (Ri []) 0 (Rh []) 0, I 1] (I 1) := by
 have h0 : Rt 70 [Tb 0 [], I 1] (I 1) := by
   refine bZ Tryz.func70 ?_
   repeat' (conv => whnf); first | (intro h; try exact nZ) | apply And.intro | refine sZ ?_ | refine Ret.uA (markInts_nil) ?_ | fail
   all_goals first | exact rZ
 have h1 : Rt 44 [Bs 0 [] 0, I 1] (I 1) := by
   refine bZ Tryz.func44 ?_
   repeat' (conv => whnf); first | (intro h; try exact nZ) | apply And.intro | refine sZ ?_ | refine Ret.uA (h0) ?_ | fail
   all_goals first | exact rZ
 refine bZ Tryz.func21 ?_
 repeat' (conv => whnf); first | (intro h; try exact nZ) | apply And.intro | refine sZ ?_ | refine Ret.uA (h1) ?_ | refine Ret.uA (markHols_nil) ?_ | fail
 all_goals first | exact rZ
end
section
open Go.AE Go.Lib
attribute [local irreducible] CallA LoopA DrawA CallQ arithK quoK remK eqK
attribute [local irreducible] stN ouN lnS enN marks marksHolding sb
theorem lawSA_ok (N : Nx) (x : List UInt8) (hf : fitS x) : Rt 5 [Sv x] (Bo true) := by
 refine bZ Tryz.func5 ?_
 have hsz := B_size x
 have hx := hf.1
 have hs := specSA_ok N x hf
 have hi := implSA_ok N x hf
 have hok := enN_ok N x hf
 obtain ⟨F, hF⟩ : ∃ F, F = enN N x := ⟨_, rfl⟩
 rw [← hF] at hs hi hok
 have hfit := hok.fit
 have hbig := hok.big
 have hhb := hok.hb
 have he := eqSoc_ret F.f F.ls F.r F.hs F.d hok.nb (by omega) hok.row
 have hm := markSoc_call F hok
 have hh := heldSoc_ret F.f F.r F.d F.n F.hs.length (by omega) hhb
 rw [← sb_part (k := 1) hfit] at hh
 have hmk : F.hs.length = (D.recs 7 (marksHolding F.hs.length (1 + F.n))).len := (marksHolding_len _ _).symm
 have hsl : F.lo + F.n ≤ (D.ints .i64 (sb F.xs F.lo 1 F.n)).len := by show _ ≤ (sb F.xs F.lo 1 F.n).length; rw [sb_len (k := 1) hfit]; exact hfit
 repeat' (conv => whnf); first | (intro h; try exact nZ) | apply And.intro | refine sZ ?_ | refine gZ [] (hs) ?_ | refine CallA.gM [] (hi) ?_ | refine Ret.uA (he) ?_ | refine CallA.gM [1, 2] (hm) ?_ | refine Ret.uA (hh) ?_ | fail
 all_goals first | exact rZ
theorem lawSA_bad (x : List UInt8) (hx : x.length ≤ 1048576) (hf : ¬ fitS x) : Rt 5 [Sv x] (Bo true) := by
 refine bZ Tryz.func5 ?_
 have hsz := B_size x
 have hs := specSA_bad x hx hf
 have hi := implSA_bad x hx hf
 have he := eqSoc_ret 0 [] 0 [] 0 (by decide) (by decide) (fun h hh => by cases hh)
 have hm := markSoc_nil
 have hh := heldSoc_ret 0 0 0 0 0 (by omega) (by omega)
 rw [show marks 0 1 = [] by unfold marks; rfl, show marksHolding 0 (1 + 0) = [] by unfold marksHolding; rfl] at hh
 repeat' (conv => whnf); first | (intro h; try exact nZ) | apply And.intro | refine sZ ?_ | refine CallA.gM [] (hs) ?_ | refine CallA.gM [] (hi) ?_ | refine Ret.uA (he) ?_ | refine Ret.uA (hm) ?_ | refine Ret.uA (hh) ?_ | fail
 all_goals first | exact rZ
theorem lawSA_big (x : List UInt8) (hx : ¬ x.length ≤ 1048576) : Rt 5 [Sv x] (Bo true) := by
 refine bZ Tryz.func5 ?_
 have hsz := B_size x
 repeat' (conv => whnf); first | (intro h; try exact nZ) | apply And.intro | refine sZ ?_ | fail
 all_goals first | exact rZ
theorem lawSA_ret (x : List UInt8) : Rt 5 [Sv x] (Bo true) := by
 by_cases hx : x.length ≤ 1048576
 · by_cases hf : fitS x
   · exact lawSA_ok nx x hf
   · exact lawSA_bad x hx hf
 · exact lawSA_big x hx
end
end Go.Proofs.YtglbamncajileaaGreatDoor
