/-
  The division of a bonus, by the reference. The console's command 'bonus', by the program and by the reference. No conditions but those in the statements.
-/
import Derived.Test.YtglbamncajileaaGreatDoorUbs
set_option linter.unusedVariables false
set_option linter.unusedSimpArgs false
set_option maxRecDepth 100000
set_option maxHeartbeats 8000000
namespace Go.Proofs.YtglbamncajileaaGreatDoor
open Go.AE Go.Lib
section
attribute [local irreducible] CallA LoopA DrawA CallQ arithK quoK remK eqK
theorem okI_q {A : Int} {ws : List Int} (h : ShQ A ws) {x : Int} (hx : x ∈ rsL A ws) : 0 ≤ x ∧ x < 30000000000 := by
 have hb := tS_bd h
 unfold rsL at hx
 obtain ⟨w, hw, rfl⟩ := List.mem_map.1 hx
 have h1 : 0 ≤ A * w % tS ws := Int.emod_nonneg _ (by omega)
 have h2 : A * w % tS ws < tS ws := Int.emod_lt_of_pos _ (by omega)
 omega
theorem str_bd {rs es : List Int} (he : ∀ x ∈ es, 0 ≤ x) (h : ∀ x ∈ rs, 0 ≤ x ∧ x < 30000000000) {i : Nat} (hi : i < rs.length) : -1 ≤ nt (strL rs es) i ∧ nt (strL rs es) i < 30000000000 := by
 rw [strL_at he i hi]
 split
 · omega
 · have := h _ (getD_mem (d := (0 : Int)) hi)
   show -1 ≤ rs.getD i 0 ∧ rs.getD i 0 < _
   omega
attribute [local irreducible] sumX qsL rsL oE lft incL strL
theorem specShare_call (A : Int) (ws : List Int) (hQ : ShQ A ws) : Ca 180 [I A, Ri ws] [] (fun v J => v = .sl 0 1 ws.length ∧ J = [Di (shr A ws (oE (rsL A ws)))]) := by
 refine cZ Tryz.func180 ?_
 have ht := l01Sum_ret ws (okX_ws hQ)
 have htq := l01Sum_ret (qsL A ws) (okX_qs hQ)
 have hql := qsL_len A ws
 have hrl := rsL_len A ws
 have hql2 : ws.length = (D.ints .i64 (qsL A ws)).len := hql.symm
 have hrl2 : ws.length = (D.ints .i64 (rsL A ws)).len := hrl.symm
 have hSb := tS_bd hQ
 have hA := hQ.hA
 have h30 := hQ.hl
 have hlb := lft_bd hQ
 have ho := oE_ord (rsL A ws)
 have hol : (oE (rsL A ws)).length = ws.length := ho.len.trans hrl
 have hr0 : ∀ x ∈ rsL A ws, 0 ≤ x := fun x hx => (okI_q hQ hx).1
 have hrb : ∀ x ∈ rsL A ws, 0 ≤ x ∧ x < 30000000000 := fun x hx => okI_q hQ hx
 rw [hql] at htq
 repeat' (conv => whnf); first | (intro h; try exact nZ) | apply And.intro | refine sZ ?_ | refine Ret.uA (ht) ?_ | fail
 all_goals try exact rZ
 (conv => whnf)
 refine loop_rule hT (fun i : Nat => i ≤ ws.length) 80 2 [0, 1, 5, 6, 7, 8] (fun i => [I A, Ri ws, I (tS ws), .sl 2 1 i, .sl 3 1 i, I i]) (fun i => [.dead, .dead, Di ((qsL A ws).take i), Di ((rsL A ws).take i)]) (fun i => ws.length - i) (0) (Nat.le_of_ble_eq_true rfl) ?_ ?_ ?_
 · exact Nat.zero_le _
 · first | (exact endH1 [some 0, some 1])
 · intro i h1
   have hqi : ((qsL A ws).take i).length = i := by rw [List.length_take]; omega
   have hmi : ((rsL A ws).take i).length = i := by rw [List.length_take]; omega
   by_cases hi : i < ws.length
   · obtain ⟨a1, a2, a3, -⟩ : (0 ≤ ws.getD ((i : Int)).toNat 0 ∧ ws.getD ((i : Int)).toNat 0 ≤ 1000000000) ∧ (0 ≤ A * ws.getD ((i : Int)).toNat 0 ∧ A * ws.getD ((i : Int)).toNat 0 ≤ 1000000000000000000) ∧ (0 ≤ A * ws.getD ((i : Int)).toNat 0 / tS ws ∧ A * ws.getD ((i : Int)).toNat 0 / tS ws ≤ 1000000000000000000) ∧ _ := hQ.at_ hi
     have hs1 : (qsL A ws).take i ++ [A * ws.getD ((i : Int)).toNat 0 / tS ws] = (qsL A ws).take (i + 1) := qs_snoc hi
     have hs2 : (rsL A ws).take i ++ [A * ws.getD ((i : Int)).toNat 0 % tS ws] = (rsL A ws).take (i + 1) := rs_snoc hi
     have hl1 : ((qsL A ws).take i ++ [A * ws.getD ((i : Int)).toNat 0 / tS ws]).length = i + 1 := by rw [List.length_append, hqi]; rfl
     have hl2 : ((rsL A ws).take i ++ [A * ws.getD ((i : Int)).toNat 0 % tS ws]).length = i + 1 := by rw [List.length_append, hmi]; rfl
     repeat' (conv => whnf); first | (intro h; try exact nZ) | apply And.intro | refine sZ ?_ | fail
     all_goals first | exact rZ | exact hqi.symm | exact hmi.symm | (show (_ : Nat) ≤ _; simp; omega) | skip
     all_goals ((conv => whnf); first | (refine ⟨i + 1, by omega, ?_, by omega⟩; first | (refine ⟨rfl, [some 5, some 7], ?_, ?_⟩; (repeat' first | apply And.intro | exact xZ | first | exact hl1 | exact hl2 | exact congrArg (D.ints .i64) hs1 | exact congrArg (D.ints .i64) hs2 | fail); done) | (refine ⟨rfl, [some 4, some 5], ?_, ?_⟩; (repeat' first | apply And.intro | exact xZ | first | exact hl1 | exact hl2 | exact congrArg (D.ints .i64) hs1 | exact congrArg (D.ints .i64) hs2 | fail); done)))
   · obtain rfl : i = ws.length := by omega
     have hq0 : (qsL A ws).take ws.length = qsL A ws := take_all (by omega)
     have hr0' : (rsL A ws).take ws.length = rsL A ws := take_all (by omega)
     rw [hq0, hr0']
     have hlf : A - sumX (qsL A ws) ws.length = lft A ws := by unfold lft; rfl
     repeat' (conv => whnf); first | (intro h; try exact nZ) | apply And.intro | refine sZ ?_ | refine Ret.uA (htq) ?_ | fail
     all_goals try exact rZ
     (conv => whnf)
     obtain ⟨L, hL⟩ : ∃ L : Nat, L = (lft A ws).toNat := ⟨_, rfl⟩
     refine loop_rule hT (fun k : Nat => k ≤ L) 80 4 [6, 7, 9] (fun k => [.sl 2 1 ws.length, .sl 3 1 ws.length, I ((L : Int) - k)]) (fun k => [.dead, .dead, Di (incL (qsL A ws) ((oE (rsL A ws)).take k)), Di (strL (rsL A ws) ((oE (rsL A ws)).take k))]) (fun k => L - k) (0) (Nat.le_of_ble_eq_true rfl) ?_ ?_ ?_
     · exact Nat.zero_le _
     · have hi0 : qsL A ws = incL (qsL A ws) ((oE (rsL A ws)).take 0) := by unfold incL; rfl
       have hi1 : rsL A ws = strL (rsL A ws) ((oE (rsL A ws)).take 0) := by unfold strL; rfl
       have hl0 : A - sumX (qsL A ws) ws.length = (L : Int) - ((0 : Nat) : Int) := by omega
       first | (refine ⟨rfl, [], ?_, ?_⟩; (repeat' first | apply And.intro | exact xZ | first | exact congrArg (D.ints .i64) hi0 | exact congrArg (D.ints .i64) hi1 | (rw [hl0]; rfl) | (dsimp only; omega) | fail); done)
     · intro k hk
       have hil : (incL (qsL A ws) ((oE (rsL A ws)).take k)).length = ws.length := (incL_len _ _).trans hql
       have hsl : (strL (rsL A ws) ((oE (rsL A ws)).take k)).length = ws.length := (strL_len _ _).trans hrl
       by_cases hkL : k < L
       · obtain ⟨b1, b2, b3, b4, b5⟩ := inc_facts hQ (k := k) (by omega)
         have hen : ∀ x ∈ (oE (rsL A ws)).take k, 0 ≤ x := fun x hx => ((ho.mem x).1 (List.mem_of_mem_take hx)).1
         repeat' (conv => whnf); first | (intro h; try exact nZ) | apply And.intro | refine sZ ?_ | fail
         all_goals try exact rZ
         (conv => whnf)
         refine loop_rule hT (fun p : Nat × Nat => p.1 ≤ ws.length ∧ p.2 < ws.length ∧ (∀ j, j < p.1 → nt (strL (rsL A ws) ((oE (rsL A ws)).take k)) j ≤ nt (strL (rsL A ws) ((oE (rsL A ws)).take k)) p.2) ∧ (∀ j, j < p.2 → nt (strL (rsL A ws) ((oE (rsL A ws)).take k)) j < nt (strL (rsL A ws) ((oE (rsL A ws)).take k)) p.2)) 80 4 [6, 7, 9, 10, 11] (fun p => [.sl 2 1 ws.length, .sl 3 1 ws.length, I ((L : Int) - k), I p.2, I p.1]) (fun _ => [.dead, .dead, Di (incL (qsL A ws) ((oE (rsL A ws)).take k)), Di (strL (rsL A ws) ((oE (rsL A ws)).take k))]) (fun p => ws.length - p.1) ((0, 0)) (Nat.le_of_ble_eq_true rfl) ?_ ?_ ?_
         · exact ⟨Nat.zero_le _, Nat.lt_of_le_of_lt (Nat.zero_le k) b2, fun j hj => absurd hj (Nat.not_lt_zero _), fun j hj => absurd hj (Nat.not_lt_zero _)⟩
         · first | (exact endH1 [])
         · rintro ⟨i, m⟩ ⟨i1, i2, i3, i4⟩
           dsimp only at i1 i2 i3 i4 ⊢
           by_cases hi : i < ws.length
           · have s1 : -1 ≤ (strL (rsL A ws) ((oE (rsL A ws)).take k)).getD ((i : Int)).toNat 0 ∧ (strL (rsL A ws) ((oE (rsL A ws)).take k)).getD ((i : Int)).toNat 0 < 30000000000 := str_bd hen hrb (by omega)
             have s2 : -1 ≤ (strL (rsL A ws) ((oE (rsL A ws)).take k)).getD ((m : Int)).toNat 0 ∧ (strL (rsL A ws) ((oE (rsL A ws)).take k)).getD ((m : Int)).toNat 0 < 30000000000 := str_bd hen hrb (by omega)
             by_cases hg : (strL (rsL A ws) ((oE (rsL A ws)).take k)).getD ((m : Int)).toNat 0 < (strL (rsL A ws) ((oE (rsL A ws)).take k)).getD ((i : Int)).toNat 0
             · have hg' : nt (strL (rsL A ws) ((oE (rsL A ws)).take k)) m < nt (strL (rsL A ws) ((oE (rsL A ws)).take k)) i := hg
               repeat' (conv => whnf); first | (intro h; try exact nZ) | apply And.intro | refine sZ ?_ | fail
               all_goals first | exact rZ | (show _ < List.length _; omega) | skip
               all_goals ((conv => whnf); first | (refine ⟨(i + 1, i), ⟨by dsimp only; omega, hi, fun j hj => ?_, fun j hj => ?_⟩, ?_, by dsimp only; omega⟩; (dsimp only at hj ⊢; by_cases e : j = i; (subst e; exact Int.le_refl _); (have := i3 j (by omega); omega)); (dsimp only at hj ⊢; have := i3 j (by omega); omega); (exact endH1 [])))
             · have hg' : ¬ nt (strL (rsL A ws) ((oE (rsL A ws)).take k)) m < nt (strL (rsL A ws) ((oE (rsL A ws)).take k)) i := hg
               repeat' (conv => whnf); first | (intro h; try exact nZ) | apply And.intro | refine sZ ?_ | fail
               all_goals first | exact rZ | (show _ < List.length _; omega) | skip
               all_goals ((conv => whnf); first | (refine ⟨(i + 1, m), ⟨by dsimp only; omega, i2, fun j hj => ?_, i4⟩, ?_, by dsimp only; omega⟩; (dsimp only at hj ⊢; by_cases e : j = i; (subst e; omega); exact i3 j (by omega)); (exact endH1 [])))
           · obtain rfl : i = ws.length := by omega
             have hbest : (m : Int) = nt (oE (rsL A ws)) k := ho.best hr0 (by omega) (by omega) (fun j hj => i3 j (by omega)) i4
             have e0 : (nt (oE (rsL A ws)) k).toNat = ((m : Int)).toNat := by rw [hbest]
             have b4' : 0 ≤ (incL (qsL A ws) ((oE (rsL A ws)).take k)).getD ((m : Int)).toNat 0 ∧ (incL (qsL A ws) ((oE (rsL A ws)).take k)).getD ((m : Int)).toNat 0 ≤ 1000000030 := by rw [← e0]; exact b4
             have b5' : (incL (qsL A ws) ((oE (rsL A ws)).take k)).set ((m : Int)).toNat ((incL (qsL A ws) ((oE (rsL A ws)).take k)).getD ((m : Int)).toNat 0 + 1) = incL (qsL A ws) ((oE (rsL A ws)).take (k + 1)) := by rw [← e0]; exact b5
             have b6' : (strL (rsL A ws) ((oE (rsL A ws)).take k)).set ((m : Int)).toNat (-1) = strL (rsL A ws) ((oE (rsL A ws)).take (k + 1)) := by rw [← e0, strL_next _ (by omega)]
             clear b4 b5 i3 i4 hen hr0 hrb
             repeat' (conv => whnf); first | (intro h; try exact nZ) | apply And.intro | refine sZ ?_ | fail
             all_goals first | exact rZ | (show _ < List.length _; omega) | skip
             all_goals ((conv => whnf); first | (refine ⟨k + 1, by omega, ?_, by omega⟩; (refine ⟨rfl, [], ?_, ?_⟩; (repeat' first | apply And.intro | exact xZ | first | exact congrArg (D.ints .i64) b5' | exact congrArg (D.ints .i64) b6' | (dsimp only; omega) | fail); done)))
       · obtain rfl : k = L := by omega
         repeat' (conv => whnf); first | (intro h; try exact nZ) | apply And.intro | refine sZ ?_ | fail
         all_goals try exact rZ
         subst hL
         all_goals ((conv => whnf); first | (refine ⟨[some 2], .sl 0 1 ws.length, [Di (shr A ws (oE (rsL A ws)))], ?_, ?_, ?_⟩; (repeat' first | apply And.intro | exact xZ | (unfold shr; exact rfl) | fail); done))
end
section
attribute [local irreducible] CallA LoopA DrawA CallQ arithK quoK remK eqK
structure WQ (ws : List Int) : Prop where
 hl : ws.length ≤ 30
 hw : ∀ x ∈ ws, 0 ≤ x ∧ x ≤ 1000000000
theorem WQ.okX {ws : List Int} (h : WQ ws) : okX ws := ⟨h.hl, fun i hi => by have := h.hw _ (getD_mem (d := (0 : Int)) hi); omega⟩
theorem WQ.shq {ws : List Int} (h : WQ ws) {A : Int} (hA : 0 ≤ A ∧ A ≤ 1000000000) (hs : ¬ sumX ws ws.length = 0) : ShQ A ws := by
 have := sumX_bd h.okX ws.length (Nat.le_refl _)
 exact ⟨hA, h.hl, h.hw, by omega⟩
theorem WQ_of {ws : List Int} {K : Nat} (h : okV ws) (hK : K ≤ 8) (h1 : okW ws K) : WQ (ws.map (· / pw K)) := by
 refine ⟨by rw [List.length_map]; exact h.1, fun x hx => ?_⟩
 obtain ⟨w, hw, rfl⟩ := List.mem_map.1 hx
 have hp := pw_bd hK
 exact ⟨Int.ediv_nonneg (h.2 w hw).1 (by omega), h1 w hw⟩
theorem cdiv_kept {A s : Int} (hA : 0 ≤ A ∧ A ≤ 1000000000) (hs : 0 ≤ s ∧ s ≤ 500) : (0 ≤ A * s ∧ A * s ≤ 500000000000) ∧ 0 ≤ cdiv (A * s) 1000 ∧ cdiv (A * s) 1000 ≤ A := by
 have h1 := mul_in hA.1 hA.2 hs.1 hs.2
 have h2 := cdiv_le hA.1 hs.1 (b := 1000) (by omega) (by omega)
 exact ⟨by omega, h2⟩
attribute [local irreducible] sumX qsL rsL oE lft incL strL cdiv shr pw okF
theorem isAmount_ret (a : Int) : Rt 274 [I a] (Bo (decide (0 ≤ a ∧ a ≤ 1000000000))) := by
 refine bZ Tryz.func274 ?_
 repeat' (conv => whnf); first | (intro h; try exact nZ) | apply And.intro | refine sZ ?_ | refine Ret.uP (inRange_ret _ _ _) ?_ | fail
 all_goals first | exact bv (by simp; omega)
theorem isSurplus_ret (a s : Int) : Rt 212 [I a, I s] (Bo (decide ((0 ≤ a ∧ a ≤ 1000000000) ∧ 0 ≤ s ∧ s ≤ 500))) := by
 refine bZ Tryz.func212 ?_
 repeat' (conv => whnf); first | (intro h; try exact nZ) | apply And.intro | refine sZ ?_ | refine Ret.uP (isAmount_ret _) ?_ | refine Ret.uP (inRange_ret _ _ _) ?_ | fail
 all_goals first | exact bv (by simp; omega)
theorem l19Amount_ret (a : Int) : Rt 243 [I a] (Bo (decide (0 ≤ a ∧ a ≤ 1000000000))) := by
 refine bZ Tryz.func243 ?_
 repeat' (conv => whnf); first | (intro h; try exact nZ) | apply And.intro | refine sZ ?_ | refine Ret.uP (l01In_ret _ _ _) ?_ | fail
 all_goals first | exact bv (by simp; omega)
theorem kept_ok (a s : Int) (ha : 0 ≤ a ∧ a ≤ 1000000000) (hs : 0 ≤ s ∧ s ≤ 500) : Rt 177 [I a, I s] (.tup [I (cdiv (a * s) 1000), I 0]) := by
 refine bZ Tryz.func177 ?_
 obtain ⟨k1, k2⟩ := cdiv_kept ha hs
 have hu := sup_ret (a * s) 1000 (by omega) (by omega)
 repeat' (conv => whnf); first | (intro h; try exact nZ) | apply And.intro | refine sZ ?_ | refine Ret.uP (l19Amount_ret _) ?_ | refine Ret.uP (l01In_ret _ _ _) ?_ | refine Ret.uA (hu) ?_ | fail
 all_goals first | exact rZ
theorem kept_bad (a s : Int) (hQ : ¬ ((0 ≤ a ∧ a ≤ 1000000000) ∧ 0 ≤ s ∧ s ≤ 500)) : Rt 177 [I a, I s] (.tup [I 0, I 2]) := by
 refine bZ Tryz.func177 ?_
 repeat' (conv => whnf); first | (intro h; try exact nZ) | apply And.intro | refine sZ ?_ | refine Ret.uP (l19Amount_ret _) ?_ | refine Ret.uP (l01In_ret _ _ _) ?_ | fail
 all_goals first | exact rZ
theorem implSO_call (A : Int) (ws : List Int) (hQ : ShQ A ws) : Ca 213 [I A, Ri ws] [] (fun v J => v = .tup [.sl 0 1 ws.length, I 0] ∧ J = [Di (shr A ws (oE (rsL A ws)))]) := by
 refine cZ Tryz.func213 ?_
 have hA := hQ.hA
 have h30 := hQ.hl
 have hsb := tS_bd hQ
 have ht := total_ret ws (okX_ws hQ)
 have hall := allIn_ret ws 0 1000000000 (by omega)
 have hr : allR ws 0 1000000000 := hQ.hw
 have hc := implShare_call A ws hQ
 have hs0 : ¬ sumX ws ws.length = 0 := fun e => by have := hQ.hs; omega
 repeat' (conv => whnf); first | (intro h; try exact nZ) | apply And.intro | refine sZ ?_ | refine Ret.uP (inRange_ret _ _ _) ?_ | refine Ret.uP (hall) ?_ | refine Ret.uA (ht) ?_ | refine CallA.gM [] (hc) ?_ | fail
 all_goals try exact rZ
 all_goals (conv => whnf); exact endE1 [some 0] (.tup [.sl 0 1 ws.length, I 0]) [Di (shr A ws (oE (rsL A ws)))]
theorem implSO_zero (A : Int) (ws : List Int) (hQ : WQ ws) (hA : 0 ≤ A ∧ A ≤ 1000000000) (hs : sumX ws ws.length = 0) : Ca 213 [I A, Ri ws] [] (fun v J => v = .tup [.nilsl, I 5] ∧ J = []) := by
 refine cZ Tryz.func213 ?_
 have h30 := hQ.hl
 have ht := total_ret ws hQ.okX
 have hall := allIn_ret ws 0 1000000000 (by omega)
 have hr : allR ws 0 1000000000 := hQ.hw
 repeat' (conv => whnf); first | (intro h; try exact nZ) | apply And.intro | refine sZ ?_ | refine Ret.uP (inRange_ret _ _ _) ?_ | refine Ret.uP (hall) ?_ | refine Ret.uA (ht) ?_ | fail
 all_goals try exact rZ
 all_goals (conv => whnf); exact endE1 [] (.tup [.nilsl, I 5]) []
structure BQ (f : Int) (ls : List Int) (r : Int) (hs : List (List Int)) (K : Nat) (ws us : List Int) : Prop where
 ho : okF f ls r hs
 hn : ls.length ≤ 1048576
 hw : hs.map (wR f ls r) = ws
 hK : K ≤ 8
 h1 : okW ws K
 h2 : ∀ j, j < K → ¬ okW ws j
 hu : ws.map (· / pw K) = us
theorem BQ.wq {f : Int} {ls : List Int} {r : Int} {hs : List (List Int)} {K : Nat} {ws us : List Int} (h : BQ f ls r hs K ws us) : WQ us := h.hu ▸ WQ_of (h.hw ▸ okV_R h.ho) h.hK h.h1
theorem BQ.len {f : Int} {ls : List Int} {r : Int} {hs : List (List Int)} {K : Nat} {ws us : List Int} (h : BQ f ls r hs K ws us) : us.length = hs.length := by rw [← h.hu, ← h.hw, List.length_map, List.length_map]
theorem bq_ex {f : Int} {ls : List Int} {r : Int} {hs : List (List Int)} (ho : okF f ls r hs) (hn : ls.length ≤ 1048576) : ∃ K ws us, BQ f ls r hs K ws us := by
 obtain ⟨K, hK, h1, h2⟩ := least (P := okW (hs.map (wR f ls r))) 8 (okW_8 (okV_R ho))
 exact ⟨K, _, _, ho, hn, rfl, hK, h1, h2, rfl⟩
theorem implDB_ok (f : Int) (ls : List Int) (r : Int) (hs : List (List Int)) (K : Nat) (ws us : List Int) (hB : BQ f ls r hs K ws us) (a s : Int) (ha : 0 ≤ a ∧ a ≤ 1000000000) (hsh : 0 ≤ s ∧ s ≤ 500) (h0 : ¬ sumX us us.length = 0) :
   Ca 149 [Bs f ls r, Rh hs, I a, I s] [] (fun v J => v = .tup [.sl 0 1 us.length, I 0] ∧ J = [Di (shr (a - cdiv (a * s) 1000) us (oE (rsL (a - cdiv (a * s) 1000) us)))]) := by
 refine cZ Tryz.func149 ?_
 have h30 := hB.wq.hl
 have hul := hB.len
 have hul2 : hs.length = (D.ints .i64 us).len := hul.symm
 obtain ⟨k1, k2⟩ := cdiv_kept ha hsh
 have hp := implPortfolio_ret f ls r hs hB.hn (by omega)
 rw [decide_eq_true hB.ho] at hp
 have hu := up_ret (a * s) 1000 (by omega) (by omega)
 have hbw := implBW_call f ls r hs hB.ho ws hB.hw K hB.hK hB.h1 hB.h2
 rw [hB.hu] at hbw
 have hso := implSO_call (a - cdiv (a * s) 1000) us (hB.wq.shq (by omega) h0)
 repeat' (conv => whnf); first | (intro h; try exact nZ) | apply And.intro | refine sZ ?_ | refine Ret.uB (hp) ?_ | refine Ret.uP (isSurplus_ret _ _) ?_ | refine Ret.uA (hu) ?_ | refine CallA.gM [] (hbw) ?_ | refine CallA.gM [] (hso) ?_ | fail
 all_goals try exact rZ
 all_goals (conv => whnf); exact endE1 [some 2] (.tup [.sl 0 1 us.length, I 0]) [Di (shr (a - cdiv (a * s) 1000) us (oE (rsL (a - cdiv (a * s) 1000) us)))]
theorem implDB_zero (f : Int) (ls : List Int) (r : Int) (hs : List (List Int)) (K : Nat) (ws us : List Int) (hB : BQ f ls r hs K ws us) (a s : Int) (ha : 0 ≤ a ∧ a ≤ 1000000000) (hsh : 0 ≤ s ∧ s ≤ 500) (h0 : sumX us us.length = 0) :
   Ca 149 [Bs f ls r, Rh hs, I a, I s] [] (fun v J => v = .tup [.nilsl, I 5] ∧ J = []) := by
 refine cZ Tryz.func149 ?_
 have h30 := hB.wq.hl
 have hul := hB.len
 have hul2 : hs.length = (D.ints .i64 us).len := hul.symm
 obtain ⟨k1, k2⟩ := cdiv_kept ha hsh
 have hp := implPortfolio_ret f ls r hs hB.hn (by omega)
 rw [decide_eq_true hB.ho] at hp
 have hu := up_ret (a * s) 1000 (by omega) (by omega)
 have hbw := implBW_call f ls r hs hB.ho ws hB.hw K hB.hK hB.h1 hB.h2
 rw [hB.hu] at hbw
 have hso := implSO_zero (a - cdiv (a * s) 1000) us hB.wq (by omega) h0
 repeat' (conv => whnf); first | (intro h; try exact nZ) | apply And.intro | refine sZ ?_ | refine Ret.uB (hp) ?_ | refine Ret.uP (isSurplus_ret _ _) ?_ | refine Ret.uA (hu) ?_ | refine CallA.gM [] (hbw) ?_ | refine CallA.gM [] (hso) ?_ | fail
 all_goals try exact rZ
 all_goals (conv => whnf); exact endE1 [] (.tup [.nilsl, I 5]) []
theorem implDB_bad (f : Int) (ls : List Int) (r : Int) (hs : List (List Int)) (hn : ls.length ≤ 1048576) (ho : okF f ls r hs) (h30 : hs.length ≤ 30) (a s : Int) (hQ : ¬ ((0 ≤ a ∧ a ≤ 1000000000) ∧ 0 ≤ s ∧ s ≤ 500)) :
   Ca 149 [Bs f ls r, Rh hs, I a, I s] [] (fun v J => v = .tup [.nilsl, I 2] ∧ J = []) := by
 refine cZ Tryz.func149 ?_
 have hp := implPortfolio_ret f ls r hs hn (by omega)
 rw [decide_eq_true ho] at hp
 repeat' (conv => whnf); first | (intro h; try exact nZ) | apply And.intro | refine sZ ?_ | refine Ret.uB (hp) ?_ | refine Ret.uP (isSurplus_ret _ _) ?_ | fail
 all_goals try exact rZ
 all_goals (conv => whnf); exact endE1 [] (.tup [.nilsl, I 2]) []
theorem specDB_ok (f : Int) (ls : List Int) (r : Int) (hs : List (List Int)) (K : Nat) (ws us : List Int) (hB : BQ f ls r hs K ws us) (a s : Int) (ha : 0 ≤ a ∧ a ≤ 1000000000) (hsh : 0 ≤ s ∧ s ≤ 500) (h0 : ¬ sumX us us.length = 0) :
   Ca 122 [Bs f ls r, Rh hs, I a, I s] [] (fun v J => v = .tup [.sl 0 1 us.length, I 0] ∧ J = [Di (shr (a - cdiv (a * s) 1000) us (oE (rsL (a - cdiv (a * s) 1000) us)))]) := by
 refine cZ Tryz.func122 ?_
 have h30 := hB.wq.hl
 have hul := hB.len
 have hul2 : hs.length = (D.ints .i64 us).len := hul.symm
 obtain ⟨k1, k2⟩ := cdiv_kept ha hsh
 have hp := specPortfolio_ret f ls r hs hB.hn (by omega)
 rw [decide_eq_true hB.ho] at hp
 have hu := kept_ok a s ha hsh
 have hbw := specBW_call f ls r hs hB.ho ws hB.hw K hB.hK hB.h1 hB.h2
 rw [hB.hu] at hbw
 have hsm := l01Sum_ret us hB.wq.okX
 have hso := specShare_call (a - cdiv (a * s) 1000) us (hB.wq.shq (by omega) h0)
 repeat' (conv => whnf); first | (intro h; try exact nZ) | apply And.intro | refine sZ ?_ | refine Ret.uB (hp) ?_ | refine Ret.uA (hu) ?_ | refine Ret.uA (hsm) ?_ | refine CallA.gM [] (hbw) ?_ | refine CallA.gM [] (hso) ?_ | fail
 all_goals try exact rZ
 all_goals (conv => whnf); exact endE1 [some 2] (.tup [.sl 0 1 us.length, I 0]) [Di (shr (a - cdiv (a * s) 1000) us (oE (rsL (a - cdiv (a * s) 1000) us)))]
theorem specDB_zero (f : Int) (ls : List Int) (r : Int) (hs : List (List Int)) (K : Nat) (ws us : List Int) (hB : BQ f ls r hs K ws us) (a s : Int) (ha : 0 ≤ a ∧ a ≤ 1000000000) (hsh : 0 ≤ s ∧ s ≤ 500) (h0 : sumX us us.length = 0) :
   Ca 122 [Bs f ls r, Rh hs, I a, I s] [] (fun v J => v = .tup [.nilsl, I 5] ∧ J = []) := by
 refine cZ Tryz.func122 ?_
 have h30 := hB.wq.hl
 have hul := hB.len
 have hul2 : hs.length = (D.ints .i64 us).len := hul.symm
 have hp := specPortfolio_ret f ls r hs hB.hn (by omega)
 rw [decide_eq_true hB.ho] at hp
 have hu := kept_ok a s ha hsh
 have hbw := specBW_call f ls r hs hB.ho ws hB.hw K hB.hK hB.h1 hB.h2
 rw [hB.hu] at hbw
 have hsm := l01Sum_ret us hB.wq.okX
 repeat' (conv => whnf); first | (intro h; try exact nZ) | apply And.intro | refine sZ ?_ | refine Ret.uB (hp) ?_ | refine Ret.uA (hu) ?_ | refine Ret.uA (hsm) ?_ | refine CallA.gM [] (hbw) ?_ | fail
 all_goals try exact rZ
 all_goals (conv => whnf); exact endE1 [] (.tup [.nilsl, I 5]) []
theorem specDB_bad (f : Int) (ls : List Int) (r : Int) (hs : List (List Int)) (hn : ls.length ≤ 1048576) (ho : okF f ls r hs) (h30 : hs.length ≤ 30) (a s : Int) (hQ : ¬ ((0 ≤ a ∧ a ≤ 1000000000) ∧ 0 ≤ s ∧ s ≤ 500)) :
   Ca 122 [Bs f ls r, Rh hs, I a, I s] [] (fun v J => v = .tup [.nilsl, I 2] ∧ J = []) := by
 refine cZ Tryz.func122 ?_
 have hp := specPortfolio_ret f ls r hs hn (by omega)
 rw [decide_eq_true ho] at hp
 have hu := kept_bad a s hQ
 repeat' (conv => whnf); first | (intro h; try exact nZ) | apply And.intro | refine sZ ?_ | refine Ret.uB (hp) ?_ | refine Ret.uA (hu) ?_ | fail
 all_goals try exact rZ
 all_goals (conv => whnf); exact endE1 [] (.tup [.nilsl, I 2]) []
end
end Go.Proofs.YtglbamncajileaaGreatDoor
