/-
  Plain facts on lists for walks over slices. Lists of integers: copies, equality, marks, ranges. Lists of structs (Policy): copies, equality, marks. Lists of structs (Holding): copies, equality, marks. Societies, claims of a year and expected deaths: what the functions return; copies, sizes, marks of bases. No conditions but those in the statements.
-/
import Derived.Test.YtglbamncajileaaGreatDoorAeC
import Derived.Test.YtglbamncajileaaGreatDoorIn
import Derived.Test.YtglbamncajileaaGreatDoorSf
import Derived.Test.YtglbamncajileaaGreatDoorSe
set_option linter.unusedVariables false
set_option linter.unusedSimpArgs false
set_option maxRecDepth 100000
set_option maxHeartbeats 400000
namespace Go.AE
section
variable {α : Type}
end
theorem setInts_len : ∀ (vs l : List Int) (j : Nat), (setInts l j vs).length = l.length
 | [], _, _ => rfl
 | v :: r, l, j => by simp only [setInts]; rw [setInts_len r]; simp
theorem getD_set_self {α : Type} {l : List α} {i : Nat} {x d : α} (h : i < l.length) : (l.set i x).getD i d = x := by rw [getD_set, if_pos ⟨rfl, h⟩]
theorem toNat_cast (n : Nat) : ((n : Int)).toNat = n := rfl
end Go.AE
namespace Go.Proofs.YtglbamncajileaaGreatDoor
open Go.AE
attribute [local irreducible] CallA LoopA DrawA CallQ arithK quoK remK eqK
theorem eqInt64S_ret (xs ys : List Int) (hn : xs.length ≤ 2305843009213693952) : Rt 95 [Ri xs, Ri ys] (Bo (decide (xs = ys))) := by
 refine bZ Tryz.func95 ?_
 repeat' (conv => whnf); first | (intro h; try exact nZ) | apply And.intro | refine dZ ?_ | refine sZ ?_ | fail
 · exact bv_false (fun e => by subst e; omega)
 refine loop_rule hT (fun i : Nat => i ≤ xs.length ∧ xs.take i = ys.take i) 26 0 [0, 1, 5] (fun i => [Ri xs, Ri ys, I i]) (fun _ => []) (fun i => xs.length - i) (0) (Nat.le_of_ble_eq_true rfl) ?_ ?_ ?_
 · exact ⟨Nat.zero_le _, rfl⟩
 · (refine ⟨rfl, [], ?_, ?_⟩; all_goals (repeat' (first | exact rfl | exact trivial | (with_reducible assumption) | refine And.intro ?_ ?_ | omega)))
 · rintro i ⟨h1, h2⟩
   repeat' (conv => whnf); first | (intro h; try exact nZ) | apply And.intro | refine dZ ?_ | refine sZ ?_ | fail
   all_goals try omega
   · refine bv_false (fun e => ?_)
     subst e
     contradiction
   · have he : xs.getD i 0 = ys.getD i 0 := Decidable.of_not_not ‹_›
     refine ⟨i + 1, ⟨by omega, ?_⟩, ?_, by omega⟩
     · rw [take_snoc 0 (by omega), take_snoc 0 (by omega), h2, he]
     · (refine ⟨rfl, [], ?_, ?_⟩; all_goals (repeat' (first | exact rfl | exact trivial | (with_reducible assumption) | refine And.intro ?_ ?_ | omega)))
   · refine bv_true ?_
     rwa [take_all (by omega), take_all (by omega)] at h2
theorem heldInt64S_ret (n k : Nat) (hn : n ≤ 2305843009213693952) (hk : k ≤ 2305843009213693952) : Rt 98 [Ri (marks n k), I k] (I ((k + n : Nat) : Int)) := by
 refine bZ Tryz.func98 ?_
 have hl := marks_len n k
 repeat' (conv => whnf); first | (intro h; try exact nZ) | apply And.intro | refine dZ ?_ | refine sZ ?_ | fail
 refine loop_rule hT (fun i : Nat => i ≤ n) 21 0 [0, 1, 5] (fun i => [Ri (marks n k), I ((k + i : Nat) : Int), I i]) (fun _ => []) (fun i => n - i) (0) (Nat.le_of_ble_eq_true rfl) ?_ ?_ ?_
 · exact Nat.zero_le _
 · (refine ⟨rfl, [], ?_, ?_⟩; all_goals (repeat' (first | exact rfl | exact trivial | (with_reducible assumption) | refine And.intro ?_ ?_ | omega)))
 · intro i h1
   repeat' (conv => whnf); first | (intro h; try exact nZ) | apply And.intro | refine dZ ?_ | refine sZ ?_ | fail
   all_goals try omega
   · exact absurd (marks_get (n := n) (k := k) (i := i) (by omega)) ‹_›
   · refine ⟨i + 1, by omega, ?_, by omega⟩
     (refine ⟨rfl, [], ?_, ?_⟩; all_goals (repeat' (first | exact rfl | exact trivial | (with_reducible assumption) | refine And.intro ?_ ?_ | omega)))
   · obtain rfl : i = n := by omega
     rfl
end Go.Proofs.YtglbamncajileaaGreatDoor
namespace Go.Proofs.YtglbamncajileaaGreatDoor
open Go.AE
attribute [local irreducible] CallA LoopA DrawA CallQ arithK quoK remK eqK
abbrev VPolicy (a0 a1 a2 a3 a4 : Int) : AV := .agg [I a0, I a1, I a2, I a3, I a4]
theorem eqPolicy_ret (a0 a1 a2 a3 a4 b0 b1 b2 b3 b4 : Int) : Rt 96 [VPolicy a0 a1 a2 a3 a4, VPolicy b0 b1 b2 b3 b4] (Bo (decide (a0 = b0 ∧ a1 = b1 ∧ a2 = b2 ∧ a3 = b3 ∧ a4 = b4))) := by
 refine bZ Tryz.func96 ?_
 repeat' (conv => whnf); first | (intro h; try exact nZ) | apply And.intro | refine dZ ?_ | refine sZ ?_ | fail
 all_goals (first | exact bv_true (by omega) | exact bv_false (by omega))
end Go.Proofs.YtglbamncajileaaGreatDoor
namespace Go.Proofs.YtglbamncajileaaGreatDoor
open Go.AE
attribute [local irreducible] CallA LoopA DrawA CallQ arithK quoK remK eqK
abbrev VHolding (a0 a1 a2 a3 a4 a5 a6 : Int) : AV := .agg [I a0, I a1, I a2, I a3, I a4, I a5, I a6]
abbrev RHolding (xss : List (List Int)) : AV := .ro (.recs 7 xss)
abbrev DHolding (xss : List (List Int)) : Blk := .data (.recs 7 xss)
theorem lenHolding {r : List Int} (h : r.length = 7) : ∃ a0 a1 a2 a3 a4 a5 a6, r = [a0, a1, a2, a3, a4, a5, a6] := by
 match r, h with
 | [a0, a1, a2, a3, a4, a5, a6], _ => exact ⟨_, _, _, _, _, _, _, rfl⟩
theorem etaHolding {r : List Int} (h : r.length = 7) : [r.getD 0 0, r.getD 1 0, r.getD 2 0, r.getD 3 0, r.getD 4 0, r.getD 5 0, r.getD 6 0] = r := by
 obtain ⟨a0, a1, a2, a3, a4, a5, a6, rfl⟩ := lenHolding h
 rfl
theorem eqHolding_ret (a0 a1 a2 a3 a4 a5 a6 b0 b1 b2 b3 b4 b5 b6 : Int) : Rt 69 [VHolding a0 a1 a2 a3 a4 a5 a6, VHolding b0 b1 b2 b3 b4 b5 b6] (Bo (decide (a0 = b0 ∧ a1 = b1 ∧ a2 = b2 ∧ a3 = b3 ∧ a4 = b4 ∧ a5 = b5 ∧ a6 = b6))) := by
 refine bZ Tryz.func69 ?_
 repeat' (conv => whnf); first | (intro h; try exact nZ) | apply And.intro | refine dZ ?_ | refine sZ ?_ | (refine Ret.go (toPolicy_ret _ _ _ _ _) rfl rfl ?_) | (refine Ret.goQ (toPolicy_ret _ _ _ _ _) rfl rfl ?_) | (refine Ret.goP (eqPolicy_ret _ _ _ _ _ _ _ _ _ _) rfl ?_) | (refine Ret.goQP (eqPolicy_ret _ _ _ _ _ _ _ _ _ _) rfl ?_) | fail
 all_goals (first | exact bv_true (by omega) | exact bv_false (by omega))
theorem eqHoldingS_ret (xss yss : List (List Int)) (hn : xss.length ≤ 2305843009213693952) (hx : ∀ r ∈ xss, r.length = 7) (hy : ∀ r ∈ yss, r.length = 7) : Rt 43 [RHolding xss, RHolding yss] (Bo (decide (xss = yss))) := by
 refine bZ Tryz.func43 ?_
 repeat' (conv => whnf); first | (intro h; try exact nZ) | apply And.intro | refine dZ ?_ | refine sZ ?_ | fail
 · exact bv_false (fun e => by subst e; omega)
 refine loop_rule hT (fun i : Nat => i ≤ xss.length ∧ xss.take i = yss.take i) 27 0 [0, 1, 5] (fun i => [RHolding xss, RHolding yss, I i]) (fun _ => []) (fun i => xss.length - i) (0) (Nat.le_of_ble_eq_true rfl) ?_ ?_ ?_
 · exact ⟨Nat.zero_le _, rfl⟩
 · (refine ⟨rfl, [], ?_, ?_⟩; all_goals (repeat' (first | exact rfl | exact trivial | (with_reducible assumption) | refine And.intro ?_ ?_ | omega)))
 · rintro i ⟨h1, h2⟩
   repeat' (conv => whnf); first | (intro h; try exact nZ) | apply And.intro | refine dZ ?_ | refine sZ ?_ | (refine Ret.goP (eqHolding_ret _ _ _ _ _ _ _ _ _ _ _ _ _ _) rfl ?_) | (refine Ret.goQP (eqHolding_ret _ _ _ _ _ _ _ _ _ _ _ _ _ _) rfl ?_) | fail
   all_goals try omega
   · have he : xss.getD i [] = yss.getD i [] := by
       rw [← etaHolding (hx _ (getD_mem (by omega))), ← etaHolding (hy (yss.getD i []) (getD_mem (by omega)))]
       obtain ⟨e0, e1, e2, e3, e4, e5, e6⟩ := h
       simp only [toNat_cast] at e0 e1 e2 e3 e4 e5 e6
       rw [e0, e1, e2, e3, e4, e5, e6]
     refine ⟨i + 1, ⟨by omega, ?_⟩, ?_, by omega⟩
     · rw [take_snoc [] (by omega), take_snoc [] (by omega), h2, he]
     · (refine ⟨rfl, [], ?_, ?_⟩; all_goals (repeat' (first | exact rfl | exact trivial | (with_reducible assumption) | refine And.intro ?_ ?_ | omega)))
   · refine bv_false (fun e => ?_)
     subst e
     exact h ⟨rfl, rfl, rfl, rfl, rfl, rfl, rfl⟩
   · refine bv_true ?_
     rwa [take_all (by omega), take_all (by omega)] at h2
def marksHolding (m k : Nat) : List (List Int) := (List.range m).map fun i => [((k + i * 7 + 0 : Nat) : Int), ((k + i * 7 + 1 : Nat) : Int), ((k + i * 7 + 2 : Nat) : Int), ((k + i * 7 + 3 : Nat) : Int), ((k + i * 7 + 4 : Nat) : Int), ((k + i * 7 + 5 : Nat) : Int), ((k + i * 7 + 6 : Nat) : Int)]
theorem marksHolding_len (m k : Nat) : (marksHolding m k).length = m := by simp [marksHolding]
theorem marksHolding_get {m k i : Nat} (h : i < m) : (marksHolding m k).getD i [] = [((k + i * 7 + 0 : Nat) : Int), ((k + i * 7 + 1 : Nat) : Int), ((k + i * 7 + 2 : Nat) : Int), ((k + i * 7 + 3 : Nat) : Int), ((k + i * 7 + 4 : Nat) : Int), ((k + i * 7 + 5 : Nat) : Int), ((k + i * 7 + 6 : Nat) : Int)] := by
 rw [marksHolding, List.getD_eq_getElem?_getD, List.getElem?_map, List.getElem?_range h]; rfl
theorem markHoldingS_call (xss : List (List Int)) (k : Nat) (hn : xss.length ≤ 1048576) (hk : k ≤ 100000000) (hr : ∀ r ∈ xss, r.length = 7) :
   Ca 45 [.sl 0 7 xss.length, I k] [DHolding xss] (fun v J => v = I ((k + xss.length * 7 : Nat) : Int) ∧ J = [DHolding (marksHolding xss.length k)]) := by
 refine cZ Tryz.func45 ?_
 repeat' (conv => whnf); first | (intro h; try exact nZ) | apply And.intro | refine dZ ?_ | refine sZ ?_ | fail
 refine loop_rule hT (fun p : Nat × List (List Int) => p.1 ≤ xss.length ∧ p.2.length = xss.length ∧ p.2.take p.1 = (marksHolding xss.length k).take p.1 ∧ ∀ r ∈ p.2, r.length = 7) 67 1 [0, 1, 5] (fun p => [.sl 0 7 xss.length, I ((k + p.1 * 7 : Nat) : Int), I p.1]) (fun p => [DHolding p.2]) (fun p => xss.length - p.1) ((0, xss)) (Nat.le_of_ble_eq_true rfl) ?_ ?_ ?_
 · exact ⟨Nat.zero_le _, rfl, rfl, hr⟩
 · (refine ⟨rfl, [], ?_, ?_⟩; all_goals (repeat' (first | exact rfl | exact trivial | (with_reducible assumption) | refine And.intro ?_ ?_ | omega)))
 · rintro ⟨i, yss⟩ ⟨h1, h2, h3, h4⟩
   dsimp only at h1 h2 h3 h4 ⊢
   by_cases hi : i < xss.length
   · obtain ⟨b0, b1, b2, b3, b4, b5, b6, hb⟩ := lenHolding (h4 (yss.getD i []) (getD_mem (by omega)))
     have hb' : yss.getD ((i : Int)).toNat [] = [b0, b1, b2, b3, b4, b5, b6] := hb
     have hlt : ((i : Int)).toNat < yss.length := by omega
     repeat' (conv => whnf); first | (intro h; try exact nZ) | apply And.intro | refine dZ ?_ | refine sZ ?_ | fail
     all_goals first | omega | (simp only [List.length_set]; exact hlt) | (simp only [getD_set_self, List.length_set, setInts_len, hlt, hb', List.length_cons, List.length_nil]; done) | skip
     refine ⟨(i + 1, yss.set i [((k + i * 7 + 0 : Nat) : Int), ((k + i * 7 + 1 : Nat) : Int), ((k + i * 7 + 2 : Nat) : Int), ((k + i * 7 + 3 : Nat) : Int), ((k + i * 7 + 4 : Nat) : Int), ((k + i * 7 + 5 : Nat) : Int), ((k + i * 7 + 6 : Nat) : Int)]), ⟨by dsimp only; omega, by simpa using h2, ?_, fun r hm => ?_⟩, ?_, by dsimp only; omega⟩
     · have := set_snoc [] h3 (by rw [marksHolding_len]; omega) (by rw [marksHolding_len]; exact h2)
       rwa [marksHolding_get (by omega)] at this
     · rcases List.mem_or_eq_of_mem_set hm with hm | rfl
       · exact h4 r hm
       · rfl
     · (refine ⟨rfl, [], ?_, ?_⟩; all_goals (repeat' (first | exact rfl | exact trivial | (with_reducible assumption) | refine And.intro ?_ ?_ | omega | (refine congrArg (fun l => D.recs 7 l) ?_; simp only [getD_set_self, List.set_set, hlt, hb', setInts, List.set_cons_zero, List.set_cons_succ]; exact congrArg _ (by simp only [List.cons.injEq, and_true]; omega)))))
   · repeat' (conv => whnf); first | (intro h; try exact nZ) | apply And.intro | refine dZ ?_ | refine sZ ?_ | fail
     all_goals try omega
     obtain rfl : i = xss.length := by omega
     obtain rfl : yss = marksHolding xss.length k := by rwa [take_all (by omega), take_all (by rw [marksHolding_len]; omega)] at h3
     (refine ⟨[], I ((k + xss.length * 7 : Nat) : Int), [DHolding (marksHolding xss.length k)], ?_, ?_, ?_⟩; all_goals (repeat' (first | exact rfl | exact trivial | (with_reducible assumption) | refine And.intro ?_ ?_ | omega)))
theorem heldHoldingS_ret (m k : Nat) (hn : m ≤ 1048576) (hk : k ≤ 100000000) : Rt 47 [RHolding (marksHolding m k), I k] (I ((k + m * 7 : Nat) : Int)) := by
 refine bZ Tryz.func47 ?_
 have hl := marksHolding_len m k
 repeat' (conv => whnf); first | (intro h; try exact nZ) | apply And.intro | refine dZ ?_ | refine sZ ?_ | fail
 refine loop_rule hT (fun i : Nat => i ≤ m) 81 0 [0, 1, 5] (fun i => [RHolding (marksHolding m k), I ((k + i * 7 : Nat) : Int), I i]) (fun _ => []) (fun i => m - i) (0) (Nat.le_of_ble_eq_true rfl) ?_ ?_ ?_
 · exact Nat.zero_le _
 · (refine ⟨rfl, [], ?_, ?_⟩; all_goals (repeat' (first | exact rfl | exact trivial | (with_reducible assumption) | refine And.intro ?_ ?_ | omega)))
 · intro i h1
   by_cases hi : i < m
   · have hg : (marksHolding m k).getD ((i : Int)).toNat [] = [((k + i * 7 + 0 : Nat) : Int), ((k + i * 7 + 1 : Nat) : Int), ((k + i * 7 + 2 : Nat) : Int), ((k + i * 7 + 3 : Nat) : Int), ((k + i * 7 + 4 : Nat) : Int), ((k + i * 7 + 5 : Nat) : Int), ((k + i * 7 + 6 : Nat) : Int)] := marksHolding_get hi
     repeat' (conv => whnf); first | (intro h; try exact nZ) | apply And.intro | refine dZ ?_ | refine sZ ?_ | fail
     all_goals first | omega | (rw [hg] at h; exact absurd (show _ = _ by simp <;> omega) h) | skip
     refine ⟨i + 1, by omega, ?_, by omega⟩
     (refine ⟨rfl, [], ?_, ?_⟩; all_goals (repeat' (first | exact rfl | exact trivial | (with_reducible assumption) | refine And.intro ?_ ?_ | omega)))
   · repeat' (conv => whnf); first | (intro h; try exact nZ) | apply And.intro | refine dZ ?_ | refine sZ ?_ | fail
     all_goals try omega
     obtain rfl : i = m := by omega
     rfl
end Go.Proofs.YtglbamncajileaaGreatDoor
namespace Go.Proofs.YtglbamncajileaaGreatDoor
open Go.AE
attribute [local irreducible] CallA LoopA DrawA CallQ arithK quoK remK eqK
attribute [local irreducible] cols cN cM cD cC dur pTop pBase lv clS okF dOk okT
theorem eqTable_ret (f : Int) (ls : List Int) (hn : ls.length ≤ 1048576) : Rt 68 [Tb f ls, Tb f ls] (Bo true) := by
 refine bZ Tryz.func68 ?_
 repeat' (conv => whnf); first | (intro h; try exact nZ) | apply And.intro | refine dZ ?_ | refine sZ ?_ | (refine Ret.goP (eqInt64S_ret ls ls (by omega)) rfl ?_) | (refine Ret.goQP (eqInt64S_ret ls ls (by omega)) rfl ?_) | fail
 all_goals first | exact rZ
theorem eqBasis_ret (f : Int) (ls : List Int) (r : Int) (hn : ls.length ≤ 1048576) : Rt 42 [Bs f ls r, Bs f ls r] (Bo true) := by
 refine bZ Tryz.func42 ?_
 repeat' (conv => whnf); first | (intro h; try exact nZ) | apply And.intro | refine dZ ?_ | refine sZ ?_ | (refine Ret.go (eqTable_ret f ls hn) rfl rfl ?_) | (refine Ret.goQ (eqTable_ret f ls hn) rfl rfl ?_) | fail
 all_goals first | exact rZ
theorem eqSoc_ret (f : Int) (ls : List Int) (r : Int) (hs : List (List Int)) (d : Int) (hn : ls.length ≤ 1048576) (hm : hs.length ≤ 1048576) (hr : ∀ h ∈ hs, h.length = 7) : Rt 20 [Soc f (Ri ls) r (Rh hs) d, Soc f (Ri ls) r (Rh hs) d] (Bo true) := by
 refine bZ Tryz.func20 ?_
 repeat' (conv => whnf); first | (intro h; try exact nZ) | apply And.intro | refine dZ ?_ | refine sZ ?_ | (refine Ret.go (eqBasis_ret f ls r hn) rfl rfl ?_) | (refine Ret.goQ (eqBasis_ret f ls r hn) rfl rfl ?_) | (refine Ret.goP (eqHoldingS_ret hs hs (by omega) hr hr) rfl ?_) | (refine Ret.goQP (eqHoldingS_ret hs hs (by omega) hr hr) rfl ?_) | fail
 all_goals first | exact rZ
end Go.Proofs.YtglbamncajileaaGreatDoor
