/-
  The console's command 'bonus': its step. Changed tables, by the program and by the reference. No conditions but those in the statements.
-/
import Derived.Test.YtglbamncajileaaGreatDoorUbx
import Derived.Test.YtglbamncajileaaGreatDoorUli
set_option linter.unusedVariables false
set_option linter.unusedSimpArgs false
set_option maxRecDepth 100000
set_option maxHeartbeats 8000000
namespace Go.Proofs.YtglbamncajileaaGreatDoor
open Go.AE Go.Lib
section
attribute [local irreducible] CallA LoopA DrawA CallQ arithK quoK remK eqK
theorem shr_facts {A : Int} {ws : List Int} (h : ShQ A ws) : (shr A ws (oE (rsL A ws))).length = ws.length ∧ (∀ x ∈ shr A ws (oE (rsL A ws)), okI x) ∧ shr A ws (oE (rsL A ws)) ≠ [] ∧ (jb (shr A ws (oE (rsL A ws)))).length ≤ 700 := by
 have hl : (shr A ws (oE (rsL A ws))).length = ws.length := by unfold shr; exact (incL_len _ _).trans (qsL_len A ws)
 have h30 := h.hl
 have hlb := lft_bd h
 have hA := h.hA
 have hb : ∀ j, 0 ≤ nt (shr A ws (oE (rsL A ws))) j ∧ nt (shr A ws (oE (rsL A ws))) j ≤ 1000000030 := fun j => by
   have := incL_bd ((oE (rsL A ws)).take (lft A ws).toNat) (qsL A ws) A (nt_qs h) j
   rw [List.length_take] at this
   unfold shr
   omega
 have hx : ∀ x ∈ shr A ws (oE (rsL A ws)), okI x := fun x hx => by
   obtain ⟨i, hi, rfl⟩ := List.getElem_of_mem hx
   have := hb i
   rw [nt_get hi] at this
   unfold okI
   omega
 refine ⟨hl, hx, fun e => ?_, ?_⟩
 · rw [e] at hl
   simp at hl
   omega
 · have := join_le (ws := (shr A ws (oE (rsL A ws))).map itoa) (s := [32]) (m := 21) (fun w hw => by
     obtain ⟨x, hm, rfl⟩ := List.mem_map.1 hw
     exact itoa_len (hx x hm))
   rw [List.length_map, hl] at this
   have h2 : (21 + [(32 : UInt8)].length) * ws.length ≤ 22 * 30 := Nat.mul_le_mul_left _ h30
   show (join _ _).length ≤ 700
   omega
attribute [local irreducible] sumX qsL rsL oE lft incL strL cdiv shr pw okF
theorem bonus_step (F : Fu) (hF : F.ok) (b w : ByteArray) (hb : b = w_bonus) (ns : List Int) (hl : ns.length = 2) : Step F b w ns := by
 obtain ⟨n1, n2, n3, n4, n5, n6, n7, n8, n9, n10, n11, n12, n13, n14, n15⟩ := only_bonus hb
 have hfit := hF.fit
 have h30 := hF.hb
 obtain ⟨K, ws, us, hB⟩ := bq_ex hF.pf hF.nb
 by_cases hQ : (0 ≤ ns.getD (Int.toNat 0) 0 ∧ ns.getD (Int.toNat 0) 0 ≤ 1000000000) ∧ 0 ≤ ns.getD (Int.toNat 1) 0 ∧ ns.getD (Int.toNat 1) 0 ≤ 500
 · by_cases h0 : sumX us us.length = 0
   · have hI := implDB_zero F.f F.ls F.r F.hs K ws us hB _ _ hQ.1 hQ.2 h0
     have hS := specDB_zero F.f F.ls F.r F.hs K ws us hB _ _ hQ.1 hQ.2 h0
     have hln := listed_nil
     have hj := l01Join_ret [] [32] (by decide) (fun x hx => by cases hx) (by decide)
     refine step_of (t := noneT) (t' := join [] [32]) (c := 5) (chg_none F hF b w ns ‹_› ‹_› ‹_› ‹_› ‹_›) ?_ ?_ (fun e => by cases e) (by omega)
     · refine cZ Tryz.func89 ?_
       repeat' (conv => whnf); first | (intro h; try exact nZ) | apply And.intro | refine sZ ?_ | refine CallA.gM [] (hI) ?_ | refine Ret.uA (hln) ?_ | fail
       all_goals try exact rZ
       all_goals (conv => whnf); exact endE1 [] (.tup [Sv noneT, I 5]) [.cells (F.cells 1 2), Di F.xs, Dh F.hs]
     · refine bZ Tryz.func85 ?_
       repeat' (conv => whnf); first | (intro h; try exact nZ) | apply And.intro | refine sZ ?_ | refine CallA.gM [] (hS) ?_ | refine Ret.uA (hj) ?_ | fail
       all_goals first | exact rZ
   · obtain ⟨A, hA⟩ : ∃ A : Int, A = ns.getD (Int.toNat 0) 0 - cdiv (ns.getD (Int.toNat 0) 0 * ns.getD (Int.toNat 1) 0) 1000 := ⟨_, rfl⟩
     obtain ⟨k1, k2⟩ := cdiv_kept hQ.1 hQ.2
     have hI := implDB_ok F.f F.ls F.r F.hs K ws us hB _ _ hQ.1 hQ.2 h0
     have hS := specDB_ok F.f F.ls F.r F.hs K ws us hB _ _ hQ.1 hQ.2 h0
     obtain ⟨l1, l2, l3, l4⟩ := shr_facts (A := A) (hB.wq.shq (by omega) h0)
     rw [← hA] at hI hS
     obtain ⟨L, hL⟩ : ∃ L, L = shr A us (oE (rsL A us)) := ⟨_, rfl⟩
     rw [← hL] at hI hS l1 l2 l3 l4
     have hlD : us.length = (D.ints .i64 L).len := l1.symm
     have hul := hB.len
     have hln := listed_ret L l3 (by omega) l2
     have hj := l01Join_ret L [32] (by omega) l2 (by decide)
     refine step_of (t := jb L) (t' := jb L) (c := 0) (chg_none F hF b w ns ‹_› ‹_› ‹_› ‹_› ‹_›) ?_ ?_ (fun _ => ⟨rfl, by omega⟩) (by omega)
     · refine cZ Tryz.func89 ?_
       repeat' (conv => whnf); first | (intro h; try exact nZ) | apply And.intro | refine sZ ?_ | refine CallA.gM [] (hI) ?_ | refine Ret.uA (hln) ?_ | fail
       all_goals try exact rZ
       all_goals (conv => whnf); exact endE1 [] (.tup [Sv (jb L), I 0]) [.cells (F.cells 1 2), Di F.xs, Dh F.hs]
     · refine bZ Tryz.func85 ?_
       repeat' (conv => whnf); first | (intro h; try exact nZ) | apply And.intro | refine sZ ?_ | refine CallA.gM [] (hS) ?_ | refine Ret.uA (hj) ?_ | fail
       all_goals first | exact rZ
 · have hI := implDB_bad F.f F.ls F.r F.hs hF.nb hF.pf h30 _ _ hQ
   have hS := specDB_bad F.f F.ls F.r F.hs hF.nb hF.pf h30 _ _ hQ
   have hln := listed_nil
   have hj := l01Join_ret [] [32] (by decide) (fun x hx => by cases hx) (by decide)
   refine step_of (t := noneT) (t' := join [] [32]) (c := 2) (chg_none F hF b w ns ‹_› ‹_› ‹_› ‹_› ‹_›) ?_ ?_ (fun e => by cases e) (by omega)
   · refine cZ Tryz.func89 ?_
     repeat' (conv => whnf); first | (intro h; try exact nZ) | apply And.intro | refine sZ ?_ | refine CallA.gM [] (hI) ?_ | refine Ret.uA (hln) ?_ | fail
     all_goals try exact rZ
     all_goals (conv => whnf); exact endE1 [] (.tup [Sv noneT, I 2]) [.cells (F.cells 1 2), Di F.xs, Dh F.hs]
   · refine bZ Tryz.func85 ?_
     repeat' (conv => whnf); first | (intro h; try exact nZ) | apply And.intro | refine sZ ?_ | refine CallA.gM [] (hS) ?_ | refine Ret.uA (hj) ?_ | fail
     all_goals first | exact rZ
end
section
attribute [local irreducible] CallA LoopA DrawA CallQ arithK quoK remK eqK
def okDt (dt : Int) : Prop := -500 ≤ dt ∧ dt ≤ 500
def dkL (f : Int) (ls : List Int) (dt : Int) (k : Nat) (l : Int) : Int :=
 if lv f ls (f + k + 1) = 0 then l else min l (cdiv (l * ((lv f ls (f + k) - lv f ls (f + k + 1)) * (1000 + dt))) (1000 * lv f ls (f + k)))
def clN (f : Int) (ls : List Int) (dt : Int) : Nat → Int
 | 0 => lv f ls f
 | k + 1 => clN f ls dt k - dkL f ls dt k (clN f ls dt k)
theorem clN_next (f : Int) (ls : List Int) (dt : Int) (k : Nat) : clN f ls dt (k + 1) = clN f ls dt k - dkL f ls dt k (clN f ls dt k) := rfl
theorem cdiv_nn {a b : Int} (ha : 0 ≤ a) (hb : 0 ≤ b) : 0 ≤ cdiv a b := by
 have := Int.ediv_nonneg ha hb
 unfold cdiv
 split <;> omega
theorem dk_bd {f : Int} {ls : List Int} {dt : Int} (ho : okT f ls) (hd : okDt dt) (k : Nat) {l : Int} (hl : 0 ≤ l) : 0 ≤ dkL f ls dt k l ∧ dkL f ls dt k l ≤ l := by
 unfold okDt at hd
 have h1 := lv_bd ho (f + k)
 have h2 := lv_mono ho (x := f + k) (by omega)
 unfold dkL
 split
 · omega
 · have h3 : 0 ≤ (lv f ls (f + k) - lv f ls (f + k + 1)) * (1000 + dt) := Int.mul_nonneg (by omega) (by omega)
   have h4 : 0 ≤ cdiv (l * ((lv f ls (f + k) - lv f ls (f + k + 1)) * (1000 + dt))) (1000 * lv f ls (f + k)) := cdiv_nn (Int.mul_nonneg hl h3) (by omega)
   omega
theorem clN_bd {f : Int} {ls : List Int} {dt : Int} (ho : okT f ls) (hd : okDt dt) : ∀ k, 0 ≤ clN f ls dt k ∧ clN f ls dt k ≤ 1000000
 | 0 => lv_bd ho f
 | k + 1 => by
   have ih := clN_bd ho hd k
   have := dk_bd ho hd k ih.1
   rw [clN_next]
   omega
theorem clN_end {f : Int} {ls : List Int} {dt : Int} (ho : okT f ls) : clN f ls dt (ls.length - 1) = 0 := by
 have h0 := ho.1
 unfold hdT at h0
 obtain ⟨m, hm⟩ : ∃ m, ls.length - 1 = m + 1 := ⟨ls.length - 2, by omega⟩
 rw [hm, clN_next]
 unfold dkL
 rw [if_pos (lv_end ho (by omega))]
 omega
structure ClQ (f : Int) (ls : List Int) (dt : Int) (M : Nat) : Prop where
 ho : okT f ls
 hd : okDt dt
 hM : M ≤ ls.length - 1
 h0 : clN f ls dt M = 0
 hp : ∀ j, j < M → 0 < clN f ls dt j
theorem cl_ex {f : Int} {ls : List Int} {dt : Int} (ho : okT f ls) (hd : okDt dt) : ∃ M, ClQ f ls dt M := by
 obtain ⟨M, hM, h1, h2⟩ := least (P := fun k => clN f ls dt k = 0) (ls.length - 1) (clN_end ho)
 exact ⟨M, ho, hd, hM, h1, fun j hj => by have := h2 j hj; have := clN_bd ho hd j; omega⟩
def chL (f : Int) (ls : List Int) (dt : Int) (i : Nat) : List Int := (List.range (i + 1)).map (clN f ls dt)
theorem chL_len (f : Int) (ls : List Int) (dt : Int) (i : Nat) : (chL f ls dt i).length = i + 1 := by simp [chL]
theorem chL_next (f : Int) (ls : List Int) (dt : Int) (i : Nat) : chL f ls dt i ++ [clN f ls dt (i + 1)] = chL f ls dt (i + 1) := by
 unfold chL
 rw [List.range_succ (n := i + 1), List.map_append]; rfl
theorem chL_zero (f : Int) (ls : List Int) (dt : Int) : chL f ls dt 0 = [lv f ls f] := by simp [chL, clN]
theorem cl_facts {f : Int} {ls : List Int} {dt : Int} {M : Nat} (h : ClQ f ls dt M) {k : Nat} (hk : k < M) : (0 ≤ f ∧ f ≤ 100) ∧ (k + 2 ≤ ls.length ∧ ls.length ≤ 120) ∧ (1 ≤ clN f ls dt k ∧ clN f ls dt k ≤ 1000000) ∧ (1 ≤ lv f ls (f + k) ∧ lv f ls (f + k) ≤ 1000000) ∧
   (0 ≤ lv f ls (f + k) - lv f ls (f + k + 1) ∧ 0 ≤ lv f ls (f + k + 1)) ∧ (500 ≤ 1000 + dt ∧ 1000 + dt ≤ 1500) ∧
   (0 ≤ clN f ls dt k * (lv f ls (f + k) - lv f ls (f + k + 1)) ∧ clN f ls dt k * (lv f ls (f + k) - lv f ls (f + k + 1)) ≤ 1000000000000) ∧
   (0 ≤ clN f ls dt k * (lv f ls (f + k) - lv f ls (f + k + 1)) * (1000 + dt) ∧ clN f ls dt k * (lv f ls (f + k) - lv f ls (f + k + 1)) * (1000 + dt) ≤ 1500000000000000) ∧
   (0 ≤ (lv f ls (f + k) - lv f ls (f + k + 1)) * (1000 + dt) ∧ (lv f ls (f + k) - lv f ls (f + k + 1)) * (1000 + dt) ≤ 1500000000) ∧
   MD (clN f ls dt k) ((lv f ls (f + k) - lv f ls (f + k + 1)) * (1000 + dt)) (1000 * lv f ls (f + k)) ∧
   (lv f ls (f + k + 1) = 0 ↔ ¬ k + 2 < ls.length) := by
 have h0 := h.ho.1
 unfold hdT at h0
 have hd := h.hd
 unfold okDt at hd
 have hM := h.hM
 have h1 := clN_bd h.ho h.hd k
 have h2 := h.hp k hk
 have h3 := lv_bd h.ho (f + k)
 have h4 := lv_pos h.ho (x := f + k) (by omega) (by omega)
 have h5 := lv_bd h.ho (f + k + 1)
 have h6 := lv_mono h.ho (x := f + k) (by omega)
 have m1 := mul_in (a := clN f ls dt k) (A := 1000000) (b := lv f ls (f + k) - lv f ls (f + k + 1)) (B := 1000000) (by omega) (by omega) (by omega) (by omega)
 have m2 := mul_in m1.1 m1.2 (b := 1000 + dt) (B := 1500) (by omega) (by omega)
 have m3 := mul_in (a := lv f ls (f + k) - lv f ls (f + k + 1)) (A := 1000000) (b := 1000 + dt) (B := 1500) (by omega) (by omega) (by omega) (by omega)
 have m4 : (lv f ls (f + k) - lv f ls (f + k + 1)) * (1000 + dt) ≤ lv f ls (f + k) * 1500 := by
   have e1 : (lv f ls (f + k) - lv f ls (f + k + 1)) * (1000 + dt) ≤ lv f ls (f + k) * (1000 + dt) := Int.mul_le_mul_of_nonneg_right (by omega) (by omega)
   have e2 : lv f ls (f + k) * (1000 + dt) ≤ lv f ls (f + k) * 1500 := Int.mul_le_mul_of_nonneg_left (by omega) (by omega)
   omega
 refine ⟨by omega, by omega, by omega, by omega, by omega, by omega, by omega, by omega, by omega, ⟨by omega, by omega, by omega, by omega⟩, ?_⟩
 constructor
 · intro e hlt
   have := lv_pos h.ho (x := f + k + 1) (by omega) (by omega)
   omega
 · intro e
   exact lv_end h.ho (by omega)
attribute [local irreducible] clN lv cdiv chL okT
theorem cl_low {f : Int} {ls : List Int} (ho : okT f ls) : ls.getD 0 0 = lv f ls f ∧ 2 ≤ ls.length ∧ ls.length ≤ 120 := by
 unfold okT at ho
 have h0 := ho.1
 unfold hdT at h0
 refine ⟨?_, h0.1⟩
 unfold lv
 rw [if_pos (by omega), show (f - f).toNat = 0 by omega]
theorem lv_at {f : Int} {ls : List Int} {k : Nat} (hk : k < ls.length) : ls.getD k 0 = lv f ls (f + k) := by
 unfold lv
 rw [if_pos (by omega), show (f + k - f).toNat = k by omega]
theorem implCT_call (f : Int) (ls : List Int) (dt : Int) (M : Nat) (hQ : ClQ f ls dt M) : Ca 271 [Tb f ls, I dt] [] (fun v J => v = .agg [I f, .sl 0 1 (M + 1)] ∧ J = [Di (chL f ls dt M)]) := by
 refine cZ Tryz.func271 ?_
 obtain ⟨hg0, hg1, hg2⟩ := cl_low hQ.ho
 have hg0' : ls.getD (Int.toNat 0) 0 = lv f ls f := hg0
 have hM := hQ.hM
 repeat' (conv => whnf); first | (intro h; try exact nZ) | apply And.intro | refine sZ ?_ | fail
 all_goals try exact rZ
 all_goals
   (conv => whnf)
   refine loop_rule hT (fun k : Nat => k ≤ M) 58 4 [1, 2, 4, 5, 6, 7] (fun k => [I dt, .ptr 0 0, .ptr 1 0, .ptr 4 0, I (clN f ls dt k), I (f + k)]) (fun k => [.cells [I f, Ri ls], .cells [I 0, .nilsl], .dead, .dead, .cells [I f, .sl 5 1 (k + 1)], Di (chL f ls dt k)]) (fun k => M - k) (0) (Nat.le_of_ble_eq_true rfl) ?_ ?_ ?_
   · exact Nat.zero_le _
   · have hz : ls.getD (Int.toNat 0) 0 = clN f ls dt 0 := by rw [hg0']; unfold clN; rfl
     have hz2 : [] ++ [ls.getD (Int.toNat 0) 0] = chL f ls dt 0 := by rw [chL_zero, hg0']; rfl
     have hf0 : f = f + ((0 : Nat) : Int) := by omega
     first | (refine ⟨rfl, [some 2, some 3], ?_, ?_⟩; (repeat' first | apply And.intro | exact xZ | first | exact iv hz | exact iv hf0 | exact congrArg (D.ints .i64) hz2 | fail); done) | (refine ⟨rfl, [some 3, some 2], ?_, ?_⟩; (repeat' first | apply And.intro | exact xZ | first | exact iv hz | exact iv hf0 | exact congrArg (D.ints .i64) hz2 | fail); done)
   · intro k hk
     have hcl := chL_len f ls dt k
     by_cases hkM : k < M
     · obtain ⟨c1, c2, c3, c4, c5, c6, c7, c8, c9, c10, c11⟩ := cl_facts hQ hkM
       have hD := implDeaths_ret f ls (f + k) hQ.ho (by omega)
       have hL := implLives_ret f ls (f + k) hQ.ho (by omega)
       have hL1 := implLives_ret f ls (f + k + 1) hQ.ho (by omega)
       have hU := up_ret (clN f ls dt k * (lv f ls (f + k) - lv f ls (f + k + 1)) * (1000 + dt)) (1000 * lv f ls (f + k)) (by omega) (by omega)
       have hcu : 0 ≤ cdiv (clN f ls dt k * (lv f ls (f + k) - lv f ls (f + k + 1)) * (1000 + dt)) (1000 * lv f ls (f + k)) := cdiv_nn (by omega) (by omega)
       have hnl : chL f ls dt k ++ [clN f ls dt (k + 1)] = chL f ls dt (k + 1) := chL_next f ls dt k
       have hf1 : f + (k : Int) + 1 = f + ((k + 1 : Nat) : Int) := by omega
       have hll : (chL f ls dt (k + 1)).length = k + 1 + 1 := chL_len f ls dt (k + 1)
       by_cases hz0 : lv f ls (f + k + 1) = 0
       · have hnx : clN f ls dt (k + 1) = clN f ls dt k - clN f ls dt k := by rw [clN_next]; unfold dkL; rw [if_pos hz0]
         rw [hnx] at hnl
         have hla : (chL f ls dt k ++ [clN f ls dt k - clN f ls dt k]).length = k + 1 + 1 := by rw [hnl, hll]
         repeat' (conv => whnf); first | (intro h; try exact nZ) | apply And.intro | refine sZ ?_ | refine Ret.uA (hD) ?_ | refine Ret.uA (hL) ?_ | refine Ret.uA (hL1) ?_ | refine Ret.uA (hU) ?_ | fail
         all_goals first | exact rZ | exact hcl.symm | (rw [hcl]; show (k + 1 + 1) * 8 ≤ _; omega) | skip
         all_goals ((conv => whnf); first | (refine ⟨k + 1, by omega, ?_, by omega⟩; first | (refine ⟨rfl, [some 4, some 7], ?_, ?_⟩; (repeat' first | apply And.intro | exact xZ | first | exact iv hnx.symm | exact iv hf1 | exact hla | exact congrArg (D.ints .i64) hnl | fail); done) | (refine ⟨rfl, [some 4, some 6], ?_, ?_⟩; (repeat' first | apply And.intro | exact xZ | first | exact iv hnx.symm | exact iv hf1 | exact hla | exact congrArg (D.ints .i64) hnl | fail); done)))
       · have hnx : clN f ls dt (k + 1) = clN f ls dt k - min (clN f ls dt k) (cdiv (clN f ls dt k * (lv f ls (f + k) - lv f ls (f + k + 1)) * (1000 + dt)) (1000 * lv f ls (f + k))) := by rw [clN_next]; unfold dkL; rw [if_neg hz0, Int.mul_assoc]
         rw [hnx] at hnl
         have hla : (chL f ls dt k ++ [clN f ls dt k - min (clN f ls dt k) (cdiv (clN f ls dt k * (lv f ls (f + k) - lv f ls (f + k + 1)) * (1000 + dt)) (1000 * lv f ls (f + k)))]).length = k + 1 + 1 := by rw [hnl, hll]
         repeat' (conv => whnf); first | (intro h; try exact nZ) | apply And.intro | refine sZ ?_ | refine Ret.uA (hD) ?_ | refine Ret.uA (hL) ?_ | refine Ret.uA (hL1) ?_ | refine Ret.uA (hU) ?_ | fail
         all_goals first | exact rZ | exact hcl.symm | (rw [hcl]; show (k + 1 + 1) * 8 ≤ _; omega) | skip
         all_goals ((conv => whnf); first | (refine ⟨k + 1, by omega, ?_, by omega⟩; first | (refine ⟨rfl, [some 4, some 7], ?_, ?_⟩; (repeat' first | apply And.intro | exact xZ | first | exact iv hnx.symm | exact iv hf1 | exact hla | exact congrArg (D.ints .i64) hnl | fail); done) | (refine ⟨rfl, [some 4, some 6], ?_, ?_⟩; (repeat' first | apply And.intro | exact xZ | first | exact iv hnx.symm | exact iv hf1 | exact hla | exact congrArg (D.ints .i64) hnl | fail); done)))
     · obtain rfl : k = M := by omega
       have h0 := hQ.h0
       repeat' (conv => whnf); first | (intro h; try exact nZ) | apply And.intro | refine sZ ?_ | fail
       all_goals try exact rZ
       all_goals (conv => whnf); exact endE1 [some 5] (.agg [I f, .sl 0 1 (k + 1)]) [Di (chL f ls dt k)]
end
end Go.Proofs.YtglbamncajileaaGreatDoor
