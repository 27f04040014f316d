/-
  Expected claims, by the program and by the reference: both return the same. The weights of a bonus, by the program and by the reference. The weights of a bonus and the division of it, by the reference. No conditions but those in the statements.
-/
import Derived.Test.YtglbamncajileaaGreatDoorUtq
import Derived.Test.YtglbamncajileaaGreatDoorSe
import Derived.Test.YtglbamncajileaaGreatDoorUsw
set_option linter.unusedVariables false
set_option linter.unusedSimpArgs false
set_option maxRecDepth 100000
set_option maxHeartbeats 8000000
namespace Go.Proofs.YtglbamncajileaaGreatDoor
open Go.AE Go.Lib
section
attribute [local irreducible] CallA LoopA DrawA CallQ arithK quoK remK eqK
def eC (f : Int) (ls : List Int) (h : List Int) : Int := if h.getD 0 0 = 3 then 0 else cdiv (h.getD 6 0 * h.getD 3 0 * (lv f ls (h.getD 1 0 + h.getD 5 0) - lv f ls (h.getD 1 0 + h.getD 5 0 + 1))) (lv f ls (h.getD 1 0 + h.getD 5 0))
theorem ec_facts {f : Int} {ls : List Int} {r : Int} {h : List Int} (ho : okH f ls r h) : okT f ls ∧ (f ≤ h.getD 1 0 + h.getD 5 0 ∧ h.getD 1 0 + h.getD 5 0 ≤ 150) ∧ (0 ≤ h.getD 1 0 ∧ h.getD 1 0 ≤ 150 ∧ 0 ≤ h.getD 5 0) ∧ (1 ≤ lv f ls (h.getD 1 0 + h.getD 5 0) ∧ lv f ls (h.getD 1 0 + h.getD 5 0) ≤ 1000000) ∧
   (0 ≤ lv f ls (h.getD 1 0 + h.getD 5 0 + 1) ∧ lv f ls (h.getD 1 0 + h.getD 5 0 + 1) ≤ lv f ls (h.getD 1 0 + h.getD 5 0)) ∧ (0 ≤ h.getD 6 0 * h.getD 3 0 ∧ h.getD 6 0 * h.getD 3 0 ≤ 100000000000000) ∧
   MI (h.getD 6 0 * h.getD 3 0) (lv f ls (h.getD 1 0 + h.getD 5 0) - lv f ls (h.getD 1 0 + h.getD 5 0 + 1)) (lv f ls (h.getD 1 0 + h.getD 5 0)) ∧ MI (lv f ls (h.getD 1 0 + h.getD 5 0) - lv f ls (h.getD 1 0 + h.getD 5 0 + 1)) (h.getD 6 0 * h.getD 3 0) (lv f ls (h.getD 1 0 + h.getD 5 0)) ∧
   (0 ≤ cdiv (h.getD 6 0 * h.getD 3 0 * (lv f ls (h.getD 1 0 + h.getD 5 0) - lv f ls (h.getD 1 0 + h.getD 5 0 + 1))) (lv f ls (h.getD 1 0 + h.getD 5 0)) ∧ cdiv (h.getD 6 0 * h.getD 3 0 * (lv f ls (h.getD 1 0 + h.getD 5 0) - lv f ls (h.getD 1 0 + h.getD 5 0 + 1))) (lv f ls (h.getD 1 0 + h.getD 5 0)) ≤ 100000000000000) := by
 obtain ⟨⟨hp, hq, hd⟩, hc⟩ := ho
 have hT1 := hp.1.1
 have hb := dur_bd hp
 have hA := hp.2.1
 unfold okA at hA
 have hl := cD_lv hT1 hd
 have hl2 := lv_bd hT1 (h.getD 1 0 + h.getD 5 0)
 have hl3 := lv_bd hT1 (h.getD 1 0 + h.getD 5 0 + 1)
 have hm := lv_mono hT1 (x := h.getD 1 0 + h.getD 5 0) (by omega)
 have hs := mul_in hc.1 hc.2 (b := h.getD 3 0) (B := 100000000) (by omega) (by omega)
 have hcd := cdiv_le (s := h.getD 6 0 * h.getD 3 0) (t := lv f ls (h.getD 1 0 + h.getD 5 0) - lv f ls (h.getD 1 0 + h.getD 5 0 + 1)) (b := lv f ls (h.getD 1 0 + h.getD 5 0)) (by omega) (by omega) (by omega) hl
 have hmul : h.getD 6 0 * h.getD 3 0 * (lv f ls (h.getD 1 0 + h.getD 5 0) - lv f ls (h.getD 1 0 + h.getD 5 0 + 1)) ≤ h.getD 6 0 * h.getD 3 0 * lv f ls (h.getD 1 0 + h.getD 5 0) := Int.mul_le_mul_of_nonneg_left (by omega) (by omega)
 have hq1 : h.getD 6 0 * h.getD 3 0 * (lv f ls (h.getD 1 0 + h.getD 5 0) - lv f ls (h.getD 1 0 + h.getD 5 0 + 1)) / lv f ls (h.getD 1 0 + h.getD 5 0) ≤ h.getD 6 0 * h.getD 3 0 := Int.ediv_le_of_le_mul (by omega) hmul
 exact ⟨hT1, by omega, by omega, ⟨hl, by omega⟩, by omega, by omega, ⟨by omega, by omega, by omega, by omega⟩, ⟨by omega, by omega, by omega, by rw [Int.mul_comm]; omega⟩, hcd.1, by omega⟩
theorem okG_ec {f : Int} {ls : List Int} {r : Int} {hs : List (List Int)} (ho : okF f ls r hs) : okG (eC f ls) hs := ⟨ho.2.1, fun h hh => by
 obtain ⟨-, -, -, -, -, -, -, -, h9⟩ := ec_facts (ho.2.2 h hh)
 unfold eC
 split <;> omega⟩
attribute [local irreducible] okF okT lv sumH
theorem okF_at {f : Int} {ls : List Int} {r : Int} {hs : List (List Int)} (h : okF f ls r hs) {x : List Int} (hx : x ∈ hs) : okH f ls r x := by
 unfold okF at h
 exact h.2.2 x hx
theorem implEC_ret (f : Int) (ls : List Int) (r : Int) (hs : List (List Int)) (hn : ls.length ≤ 1048576) (hh : hs.length ≤ 30) (hF : okF f ls r hs) : Rt 144 [Bs f ls r, Rh hs] (.tup [I (sumH (eC f ls) hs hs.length), I 0]) := by
 refine bZ Tryz.func144 ?_
 have hp := implPortfolio_ret f ls r hs hn (by omega)
 rw [decide_eq_true hF] at hp
 repeat' (conv => whnf); first | (intro h; try exact nZ) | apply And.intro | refine dZ ?_ | refine sZ ?_ | refine Ret.uB (hp) ?_ | refine Ret.uQB (hp) ?_ | fail
 all_goals try exact rZ
 (conv => whnf)
 refine loop_rule hT (fun i : Nat => i ≤ hs.length) 49 1 [2, 6, 14, 15, 16] (fun i => [.ptr 0 0, I (sumH (eC f ls) hs i), Rh hs, I hs.length, I i]) (fun _ => [.cells [I f, Ri ls, I r]]) (fun i => hs.length - i) (0) (Nat.le_of_ble_eq_true rfl) ?_ ?_ ?_
 · exact Nat.zero_le _
 · (refine ⟨rfl, [], ?_, ?_⟩; (repeat' first | apply And.intro | exact xZ | (unfold sumH; rfl) | fail); done)
 · intro i h1
   by_cases hi : i < hs.length
   · have hoh : okH f ls r (hs.getD ((i : Int)).toNat []) := okF_at hF (getD_mem (d := ([] : List Int)) hi)
     obtain ⟨e1, e2, e3, e4, e5, e6, e7, e8, e9⟩ := ec_facts hoh
     have hnx : sumH (eC f ls) hs (i + 1) = sumH (eC f ls) hs i + eC f ls (hs.getD ((i : Int)).toNat []) := sumH_next _ hs i
     have hbd := sumH_bd (okG_ec hF) i h1
     have hl1 := implLives_ret f ls ((hs.getD ((i : Int)).toNat []).getD 1 0 + (hs.getD ((i : Int)).toNat []).getD 5 0) e1 ⟨e2.1, by omega⟩
     have hl2 := implDeaths_ret f ls ((hs.getD ((i : Int)).toNat []).getD 1 0 + (hs.getD ((i : Int)).toNat []).getD 5 0) e1 ⟨e2.1, by omega⟩
     have hpr : Rt 201 _ _ := pricedI_ret _ _ _ e7
     by_cases hk : (hs.getD ((i : Int)).toNat []).getD 0 0 = 3
     · have he : eC f ls (hs.getD ((i : Int)).toNat []) = 0 := if_pos hk
       repeat' (conv => whnf); first | (intro h; try exact nZ) | apply And.intro | refine dZ ?_ | refine sZ ?_ | (refine Ret.go (hl1) rfl rfl ?_) | (refine Ret.goQ (hl1) rfl rfl ?_) | (refine Ret.go (hl2) rfl rfl ?_) | (refine Ret.goQ (hl2) rfl rfl ?_) | (refine Ret.go (hpr) rfl rfl ?_) | (refine Ret.goQ (hpr) rfl rfl ?_) | fail
       all_goals try exact rZ
       all_goals ((conv => whnf); first | (refine ⟨i + 1, by omega, ?_, by omega⟩; (refine ⟨rfl, [], ?_, ?_⟩; (repeat' first | apply And.intro | exact xZ | (rw [hnx, he, Int.add_zero]; rfl) | fail); done)))
     · have he : eC f ls (hs.getD ((i : Int)).toNat []) = _ := if_neg hk
       repeat' (conv => whnf); first | (intro h; try exact nZ) | apply And.intro | refine dZ ?_ | refine sZ ?_ | (refine Ret.go (hl1) rfl rfl ?_) | (refine Ret.goQ (hl1) rfl rfl ?_) | (refine Ret.go (hl2) rfl rfl ?_) | (refine Ret.goQ (hl2) rfl rfl ?_) | (refine Ret.go (hpr) rfl rfl ?_) | (refine Ret.goQ (hpr) rfl rfl ?_) | fail
       all_goals try exact rZ
       all_goals ((conv => whnf); first | (refine ⟨i + 1, by omega, ?_, by omega⟩; (refine ⟨rfl, [], ?_, ?_⟩; (repeat' first | apply And.intro | exact xZ | (rw [hnx, he]; rfl) | fail); done)))
   · obtain rfl : i = hs.length := by omega
     repeat' (conv => whnf); first | (intro h; try exact nZ) | apply And.intro | refine dZ ?_ | refine sZ ?_ | fail
     all_goals first | exact rZ
theorem specEC_ret (f : Int) (ls : List Int) (r : Int) (hs : List (List Int)) (hn : ls.length ≤ 1048576) (hh : hs.length ≤ 30) (hF : okF f ls r hs) : Rt 124 [Bs f ls r, Rh hs] (.tup [I (sumH (eC f ls) hs hs.length), I 0]) := by
 refine bZ Tryz.func124 ?_
 have hp := specPortfolio_ret f ls r hs hn (by omega)
 rw [decide_eq_true hF] at hp
 repeat' (conv => whnf); first | (intro h; try exact nZ) | apply And.intro | refine dZ ?_ | refine sZ ?_ | refine Ret.uB (hp) ?_ | refine Ret.uQB (hp) ?_ | fail
 all_goals try exact rZ
 (conv => whnf)
 refine loop_rule hT (fun i : Nat => i ≤ hs.length) 57 1 [1, 2, 6, 7] (fun i => [Rh hs, .ptr 0 0, I (sumH (eC f ls) hs i), I i]) (fun _ => [.cells [I f, Ri ls, I r]]) (fun i => hs.length - i) (0) (Nat.le_of_ble_eq_true rfl) ?_ ?_ ?_
 · exact Nat.zero_le _
 · (refine ⟨rfl, [], ?_, ?_⟩; (repeat' first | apply And.intro | exact xZ | (unfold sumH; rfl) | fail); done)
 · intro i h1
   by_cases hi : i < hs.length
   · have hoh : okH f ls r (hs.getD ((i : Int)).toNat []) := okF_at hF (getD_mem (d := ([] : List Int)) hi)
     obtain ⟨e1, e2, e3, e4, e5, e6, e7, e8, e9⟩ := ec_facts hoh
     have hnx : sumH (eC f ls) hs (i + 1) = sumH (eC f ls) hs i + eC f ls (hs.getD ((i : Int)).toNat []) := sumH_next _ hs i
     have hbd := sumH_bd (okG_ec hF) i h1
     have hl1 := specLives_ret f ls ((hs.getD ((i : Int)).toNat []).getD 1 0 + (hs.getD ((i : Int)).toNat []).getD 5 0) e1 ⟨e2.1, by omega⟩
     have hl2 := specLives_ret f ls ((hs.getD ((i : Int)).toNat []).getD 1 0 + (hs.getD ((i : Int)).toNat []).getD 5 0 + 1) e1 ⟨by omega, by omega⟩
     have hpr : Rt 182 _ _ := specUp5I_ret _ _ _ (by omega) e8
     have hcm : (lv f ls ((hs.getD ((i : Int)).toNat []).getD 1 0 + (hs.getD ((i : Int)).toNat []).getD 5 0) - lv f ls ((hs.getD ((i : Int)).toNat []).getD 1 0 + (hs.getD ((i : Int)).toNat []).getD 5 0 + 1)) * ((hs.getD ((i : Int)).toNat []).getD 6 0 * (hs.getD ((i : Int)).toNat []).getD 3 0) = _ := Int.mul_comm _ _
     rw [hcm] at hpr
     by_cases hk : (hs.getD ((i : Int)).toNat []).getD 0 0 = 3
     · have he : eC f ls (hs.getD ((i : Int)).toNat []) = 0 := if_pos hk
       repeat' (conv => whnf); first | (intro h; try exact nZ) | apply And.intro | refine dZ ?_ | refine sZ ?_ | (refine Ret.go (hl1) rfl rfl ?_) | (refine Ret.goQ (hl1) rfl rfl ?_) | (refine Ret.go (hl2) rfl rfl ?_) | (refine Ret.goQ (hl2) rfl rfl ?_) | (refine Ret.go (hpr) rfl rfl ?_) | (refine Ret.goQ (hpr) rfl rfl ?_) | fail
       all_goals try exact rZ
       all_goals ((conv => whnf); first | (refine ⟨i + 1, by omega, ?_, by omega⟩; (refine ⟨rfl, [], ?_, ?_⟩; (repeat' first | apply And.intro | exact xZ | (rw [hnx, he, Int.add_zero]; rfl) | fail); done)))
     · have he : eC f ls (hs.getD ((i : Int)).toNat []) = _ := if_neg hk
       repeat' (conv => whnf); first | (intro h; try exact nZ) | apply And.intro | refine dZ ?_ | refine sZ ?_ | (refine Ret.go (hl1) rfl rfl ?_) | (refine Ret.goQ (hl1) rfl rfl ?_) | (refine Ret.go (hl2) rfl rfl ?_) | (refine Ret.goQ (hl2) rfl rfl ?_) | (refine Ret.go (hpr) rfl rfl ?_) | (refine Ret.goQ (hpr) rfl rfl ?_) | fail
       all_goals try exact rZ
       all_goals ((conv => whnf); first | (refine ⟨i + 1, by omega, ?_, by omega⟩; (refine ⟨rfl, [], ?_, ?_⟩; (repeat' first | apply And.intro | exact xZ | (rw [hnx, he]; rfl) | fail); done)))
   · obtain rfl : i = hs.length := by omega
     repeat' (conv => whnf); first | (intro h; try exact nZ) | apply And.intro | refine dZ ?_ | refine sZ ?_ | fail
     all_goals first | exact rZ
theorem claims_both (F : Fu) (hF : F.ok) : Both2 144 124 [Bs F.f F.ls F.r, Rh F.hs] 1000000000000000000 := by
 have hb := sumH_bd (okG_ec hF.pf) F.hs.length (Nat.le_refl _)
 have h30 := hF.hb
 exact ⟨_, 0, implEC_ret F.f F.ls F.r F.hs hF.nb h30 hF.pf, specEC_ret F.f F.ls F.r F.hs hF.nb h30 hF.pf, by omega, by omega, by omega⟩
theorem claims_step (F : Fu) (hF : F.ok) (b w : ByteArray) (hb : b = w_claims) (ns : List Int) : Step F b w ns := by
 obtain ⟨n1, n2, n3, n4, n5, n6, n7, n8, n9, n10, n11, n12, n13, n14, n15⟩ := only_claims hb
 obtain ⟨v, c, hi, hs, hv, hc⟩ := claims_both F hF
 have hok : okI v := by unfold okI; omega
 have hsg := single_ret v c hok
 have hnb := l01Number_ret v hok
 have hlen := itoa_len hok
 have hfit := hF.fit
 refine step_of (t := itoa v) (t' := itoa v) (c := c) (chg_none F hF b w ns ‹_› ‹_› ‹_› ‹_› ‹_›) ?_ ?_ (fun _ => ⟨rfl, by omega⟩) hc
 · refine cZ Tryz.func89 ?_
   repeat' (conv => whnf); first | (intro h; try exact nZ) | apply And.intro | refine sZ ?_ | refine Ret.uA (hi) ?_ | (refine Ret.go (hsg) rfl rfl ?_) | fail
   all_goals try exact rZ
   all_goals (conv => whnf); exact endE1 [] (.tup [Sv (itoa v), I c]) [.cells (F.cells 1 2), Di F.xs, Dh F.hs]
 · refine bZ Tryz.func85 ?_
   repeat' (conv => whnf); first | (intro h; try exact nZ) | apply And.intro | refine sZ ?_ | refine Ret.uA (hs) ?_ | (refine Ret.go (hnb) rfl rfl ?_) | fail
   all_goals first | exact rZ
end
section
attribute [local irreducible] CallA LoopA DrawA CallQ arithK quoK remK eqK
def pw : Nat → Int
 | 0 => 1
 | k + 1 => pw k * 10
theorem pw_next (k : Nat) : pw (k + 1) = pw k * 10 := rfl
theorem pw_bd : ∀ {k : Nat}, k ≤ 8 → 1 ≤ pw k ∧ pw k ≤ 100000000
 | 0, _ => by decide
 | 1, _ => by decide
 | 2, _ => by decide
 | 3, _ => by decide
 | 4, _ => by decide
 | 5, _ => by decide
 | 6, _ => by decide
 | 7, _ => by decide
 | 8, _ => by decide
def okW (ws : List Int) (k : Nat) : Prop := ∀ w ∈ ws, w / pw k ≤ 1000000000
def wR (f : Int) (ls : List Int) (r : Int) (h : List Int) : Int := hRes f ls r h * h.getD 5 0
theorem wR_bd {f : Int} {ls : List Int} {r : Int} {h : List Int} (ho : okH f ls r h) : (0 ≤ hRes f ls r h ∧ hRes f ls r h ≤ 100000001000000) ∧ (0 ≤ h.getD 5 0 ∧ h.getD 5 0 ≤ 150) ∧ 0 ≤ hRes f ls r h * h.getD 5 0 ∧ hRes f ls r h * h.getD 5 0 ≤ 15000000150000000 := by
 obtain ⟨-, e2, e3, -⟩ := ec_facts ho
 have h1 := hRes_bd ho
 have h2 := mul_in h1.1 h1.2 (b := h.getD 5 0) (B := 150) (by omega) (by omega)
 exact ⟨h1, by omega, h2.1, by omega⟩
def okV (ws : List Int) : Prop := ws.length ≤ 30 ∧ ∀ w ∈ ws, 0 ≤ w ∧ w ≤ 15000000150000000
theorem okV_R {f : Int} {ls : List Int} {r : Int} {hs : List (List Int)} (ho : okF f ls r hs) : okV (hs.map (wR f ls r)) := by
 refine ⟨by rw [List.length_map]; exact ho.2.1, fun w hw => ?_⟩
 obtain ⟨h, hh, rfl⟩ := List.mem_map.1 hw
 exact (wR_bd (ho.2.2 h hh)).2.2
theorem okW_8 {ws : List Int} (h : okV ws) : okW ws 8 := fun w hw => by
 have h1 := h.2 w hw
 have : pw 8 = 100000000 := by decide
 rw [this]
 omega
theorem least {P : Nat → Prop} : ∀ n, P n → ∃ k, k ≤ n ∧ P k ∧ ∀ j, j < k → ¬ P j := by
 intro n
 induction n using Nat.strongRecOn with
 | _ n ih =>
   intro h
   by_cases he : ∃ m, m < n ∧ P m
   · obtain ⟨m, hm, hp⟩ := he
     obtain ⟨k, hk, h1, h2⟩ := ih m hm hp
     exact ⟨k, by omega, h1, h2⟩
   · exact ⟨n, Nat.le_refl _, h, fun j hj hp => he ⟨j, hj, hp⟩⟩
theorem okW_any {ws : List Int} {k : Nat} : (ws.any fun w => decide (w / pw k > 1000000000)) = true ↔ ¬ okW ws k := by
 rw [List.any_eq_true]
 constructor
 · rintro ⟨w, h1, h2⟩ h
   have := h w h1
   simp only [decide_eq_true_eq] at h2
   omega
 · intro h
   refine Classical.byContradiction fun hc => h fun w hw => Int.not_lt.1 fun hlt => hc ⟨w, hw, ?_⟩
   simp only [decide_eq_true_eq]
   exact hlt
def mxW (ws : List Int) : Nat → Int
 | 0 => 0
 | i + 1 => max (mxW ws i) (ws.getD i 0)
theorem mxW_next (ws : List Int) (i : Nat) : mxW ws (i + 1) = max (mxW ws i) (ws.getD i 0) := rfl
theorem mxW_bd {ws : List Int} (h : okV ws) : ∀ i, i ≤ ws.length → 0 ≤ mxW ws i ∧ mxW ws i ≤ 15000000150000000
 | 0, _ => by simp [mxW]
 | i + 1, hi => by
   have := mxW_bd h i (by omega)
   have := h.2 (ws.getD i 0) (getD_mem (by omega))
   rw [mxW_next]
   omega
theorem mxW_ok {ws : List Int} {c : Int} (hc : 1 ≤ c) : ∀ i, i ≤ ws.length → (mxW ws i / c ≤ 1000000000 ↔ ∀ j, j < i → ws.getD j 0 / c ≤ 1000000000)
 | 0, _ => by simp [mxW]
 | i + 1, hi => by
   have ih := mxW_ok (ws := ws) hc i (by omega)
   rw [mxW_next]
   constructor
   · intro h
     have h1 : mxW ws i / c ≤ max (mxW ws i) (ws.getD i 0) / c := Int.ediv_le_ediv (by omega) (by omega)
     have h2 : ws.getD i 0 / c ≤ max (mxW ws i) (ws.getD i 0) / c := Int.ediv_le_ediv (by omega) (by omega)
     intro j hj
     by_cases e : j = i
     · subst e; omega
     · exact ih.1 (by omega) j (by omega)
   · intro h
     have h1 := ih.2 fun j hj => h j (by omega)
     have h2 := h i (by omega)
     rcases Int.le_total (mxW ws i) (ws.getD i 0) with e | e
     · rw [Int.max_eq_right e]; exact h2
     · rw [Int.max_eq_left e]; exact h1
theorem mxW_all {ws : List Int} {k : Nat} (hk : k ≤ 8) : mxW ws ws.length / pw k ≤ 1000000000 ↔ okW ws k := by
 rw [mxW_ok (pw_bd hk).1 ws.length (Nat.le_refl _)]
 constructor
 · intro h w hw
   obtain ⟨i, hi, rfl⟩ := List.getElem_of_mem hw
   have := h i hi
   rwa [getD_lt hi] at this
 · intro h j hj
   exact h _ (getD_mem hj)
def dvL (ws : List Int) (c : Int) (i : Nat) : List Int := (ws.take i).map (· / c) ++ ws.drop i
theorem dvL_zero (ws : List Int) (c : Int) : dvL ws c 0 = ws := by simp [dvL]
theorem dvL_len (ws : List Int) (c : Int) (i : Nat) (hi : i ≤ ws.length) : (dvL ws c i).length = ws.length := by
 unfold dvL
 rw [List.length_append, List.length_map, List.length_take, List.length_drop]; omega
theorem dvL_all (ws : List Int) (c : Int) : dvL ws c ws.length = ws.map (· / c) := by simp [dvL]
theorem dvL_get {ws : List Int} {c : Int} {i : Nat} (hi : i < ws.length) : (dvL ws c i).getD i 0 = ws.getD i 0 := by
 have h1 : ((ws.take i).map (· / c)).length = i := by rw [List.length_map, List.length_take]; omega
 unfold dvL
 rw [List.getD_eq_getElem?_getD, List.getElem?_append_right (by omega), h1, Nat.sub_self, List.getElem?_drop, Nat.add_zero, List.getD_eq_getElem?_getD]
theorem dvL_set {ws : List Int} {c : Int} {i : Nat} (hi : i < ws.length) : (dvL ws c i).set i ((dvL ws c i).getD i 0 / c) = dvL ws c (i + 1) := by
 rw [dvL_get hi]
 have h1 : ((ws.take i).map (· / c)).length = i := by rw [List.length_map, List.length_take]; omega
 unfold dvL
 rw [List.set_append_right _ _ (by omega), h1, Nat.sub_self, take_snoc 0 hi, List.map_append, List.append_assoc]
 congr 1
 rw [List.drop_eq_getElem_cons hi]
 rfl
attribute [local irreducible] pw mxW dvL hRes mapH okF sumX
theorem bw1_ret (w : Int) (k : Nat) (hk : k ≤ 8) (hw : 0 ≤ w ∧ w ≤ 15000000150000000) : Rt 278 [I w, .rpc [I (pw k)] 0] (Bo (decide (w / pw k > 1000000000))) := by
 refine bZ Tryz.func278 ?_
 have hp := pw_bd hk
 repeat' (conv => whnf); first | (intro h; try exact nZ) | apply And.intro | refine sZ ?_ | fail
 all_goals first | exact rZ | exact bv (by simp; omega)
theorem anyW_ret (ws : List Int) (hv : okV ws) (k : Nat) (hk : k ≤ 8) : Rt 277 [Ri ws, .fn 278 [.rpc [I (pw k)] 0]] (Bo (ws.any fun w => decide (w / pw k > 1000000000))) :=
 containsFuncI_ret 278 [.rpc [I (pw k)] 0] (fun w => decide (w / pw k > 1000000000)) ws (by have := hv.1; omega) rfl fun i hi => bw1_ret _ k hk (hv.2 _ (getD_mem hi))
theorem implBW_call (f : Int) (ls : List Int) (r : Int) (hs : List (List Int)) (hF : okF f ls r hs) (ws : List Int) (hws : hs.map (wR f ls r) = ws) (K : Nat) (hK : K ≤ 8) (hK1 : okW ws K) (hK2 : ∀ j, j < K → ¬ okW ws j) :
   Ca 215 [Bs f ls r, Rh hs] [] (fun v J => v = .sl 0 1 hs.length ∧ J = [Di (ws.map (· / pw K))]) := by
 refine cZ Tryz.func215 ?_
 have hv : okV ws := hws ▸ okV_R hF
 have hwl : ws.length = hs.length := by rw [← hws, List.length_map]
 have h30 : hs.length ≤ 30 := hwl ▸ hv.1
 have hwD : hs.length = (D.ints .i64 ws).len := hwl.symm
 repeat' (conv => whnf); first | (intro h; try exact nZ) | apply And.intro | refine sZ ?_ | fail
 all_goals try exact rZ
 (conv => whnf)
 refine loop_rule hT (fun i : Nat => i ≤ hs.length) 46 2 [2, 5, 11, 12, 13] (fun i => [.ptr 0 0, .sl 2 1 i, Rh hs, I hs.length, I i]) (fun i => [.cells [I f, Ri ls, I r], .dead, Di (mapH (wR f ls r) hs i)]) (fun i => hs.length - i) (0) (Nat.le_of_ble_eq_true rfl) ?_ ?_ ?_
 · exact Nat.zero_le _
 · have h0 : mapH (wR f ls r) hs 0 = [] := by unfold mapH; rfl
   first | (refine ⟨rfl, [some 1], ?_, ?_⟩; (repeat' first | apply And.intro | exact xZ | exact congrArg (D.ints .i64) h0.symm | fail); done)
 · intro i h1
   have hel := mapH_len (g := wR f ls r) h1
   by_cases hi : i < hs.length
   · have hoh : okH f ls r (hs.getD ((i : Int)).toNat []) := okF_at hF (getD_mem (d := ([] : List Int)) hi)
     obtain ⟨b1, b2, b3⟩ := wR_bd hoh
     have hel1 := mapH_len (g := wR f ls r) (hs := hs) (i := i + 1) (by omega)
     have hen : mapH (wR f ls r) hs i ++ [hRes f ls r (hs.getD ((i : Int)).toNat []) * (hs.getD ((i : Int)).toNat []).getD 5 0] = mapH (wR f ls r) hs (i + 1) := mapH_next hi
     have hel2 : (mapH (wR f ls r) hs i ++ [hRes f ls r (hs.getD ((i : Int)).toNat []) * (hs.getD ((i : Int)).toNat []).getD 5 0]).length = i + 1 := by rw [hen, hel1]
     have hrr := reserve_ret f ls r (hs.getD ((i : Int)).toNat []) hoh
     repeat' (conv => whnf); first | (intro h; try exact nZ) | apply And.intro | refine sZ ?_ | (refine Ret.go (hrr) rfl rfl ?_) | fail
     all_goals first | exact rZ | exact hel.symm | (rw [hel]; show (i + 1) * 8 ≤ _; omega) | skip
     all_goals ((conv => whnf); first | (refine ⟨i + 1, by omega, ?_, by omega⟩; first | (refine ⟨rfl, [some 5], ?_, ?_⟩; (repeat' first | apply And.intro | exact xZ | first | exact hel2 | exact congrArg (D.ints .i64) hen | fail); done) | (refine ⟨rfl, [some 4], ?_, ?_⟩; (repeat' first | apply And.intro | exact xZ | first | exact hel2 | exact congrArg (D.ints .i64) hen | fail); done)))
   · obtain rfl : i = hs.length := by omega
     rw [show mapH (wR f ls r) hs hs.length = ws by rw [mapH_all, hws]]
     repeat' (conv => whnf); first | (intro h; try exact nZ) | apply And.intro | refine sZ ?_ | fail
     all_goals try exact rZ
     (conv => whnf)
     refine loop_rule hT (fun k : Nat => k ≤ K) 46 4 [5, 8] (fun k => [.sl 2 1 hs.length, .ptr 3 0]) (fun k => [.cells [I f, Ri ls, I r], .dead, Di ws, .cells [I (pw k)]]) (fun k => K - k) (0) (Nat.le_of_ble_eq_true rfl) ?_ ?_ ?_
     · exact Nat.zero_le _
     · have hp0 : pw 0 = 1 := by unfold pw; rfl
       first | (refine ⟨rfl, [], ?_, ?_⟩; (repeat' first | apply And.intro | exact xZ | (rw [hp0]; rfl) | fail); done)
     · intro k hk
       have hp := pw_bd (k := k) (by omega)
       have hany := anyW_ret ws hv k (by omega)
       by_cases hkK : k < K
       · rw [okW_any.2 (hK2 k hkK)] at hany
         have hpn := pw_next k
         repeat' (conv => whnf); first | (intro h; try exact nZ) | apply And.intro | refine sZ ?_ | refine Ret.uA (hany) ?_ | fail
         all_goals try exact rZ
         all_goals ((conv => whnf); first | (refine ⟨k + 1, by omega, ?_, by omega⟩; (refine ⟨rfl, [], ?_, ?_⟩; (repeat' first | apply And.intro | exact xZ | (rw [hpn]; rfl) | fail); done)))
       · obtain rfl : k = K := by omega
         have hf : (ws.any fun w => decide (w / pw k > 1000000000)) = false := by rw [Bool.eq_false_iff]; exact fun e => okW_any.1 e hK1
         rw [hf] at hany
         repeat' (conv => whnf); first | (intro h; try exact nZ) | apply And.intro | refine sZ ?_ | refine Ret.uA (hany) ?_ | fail
         all_goals try exact rZ
         (conv => whnf)
         refine loop_rule hT (fun i : Nat => i ≤ hs.length) 46 4 [5, 8, 33, 34] (fun i => [.sl 2 1 hs.length, .ptr 3 0, I hs.length, I i]) (fun i => [.cells [I f, Ri ls, I r], .dead, Di (dvL ws (pw k) i), .cells [I (pw k)]]) (fun i => hs.length - i) (0) (Nat.le_of_ble_eq_true rfl) ?_ ?_ ?_
         · exact Nat.zero_le _
         · have hd0 := dvL_zero ws (pw k)
           first | (refine ⟨rfl, [], ?_, ?_⟩; (repeat' first | apply And.intro | exact xZ | exact congrArg (D.ints .i64) hd0.symm | fail); done)
         · intro i h1
           have hdl := dvL_len ws (pw k) i (by omega)
           by_cases hi : i < hs.length
           · have hwi := hv.2 _ (getD_mem (d := (0 : Int)) (show i < ws.length by omega))
             have hdg : 0 ≤ (dvL ws (pw k) i).getD ((i : Int)).toNat 0 ∧ (dvL ws (pw k) i).getD ((i : Int)).toNat 0 ≤ 15000000150000000 := by rw [Int.toNat_natCast, dvL_get (by omega)]; exact hwi
             have hds : (dvL ws (pw k) i).set ((i : Int)).toNat ((dvL ws (pw k) i).getD ((i : Int)).toNat 0 / pw k) = dvL ws (pw k) (i + 1) := dvL_set (by omega)
             repeat' (conv => whnf); first | (intro h; try exact nZ) | apply And.intro | refine sZ ?_ | fail
             all_goals first | exact rZ | (show _ < List.length _; omega) | skip
             all_goals ((conv => whnf); first | (refine ⟨i + 1, by omega, ?_, by omega⟩; (refine ⟨rfl, [], ?_, ?_⟩; (repeat' first | apply And.intro | exact xZ | exact congrArg (D.ints .i64) hds | fail); done)))
           · obtain rfl : i = hs.length := by omega
             have hda : dvL ws (pw k) hs.length = ws.map (· / pw k) := by rw [← hwl, dvL_all]
             repeat' (conv => whnf); first | (intro h; try exact nZ) | apply And.intro | refine sZ ?_ | fail
             all_goals try exact rZ
             all_goals ((conv => whnf); first | (refine ⟨[some 2], .sl 0 1 hs.length, [Di (ws.map (· / pw k))], ?_, ?_, ?_⟩; (repeat' first | apply And.intro | exact xZ | exact congrArg (D.ints .i64) hda | fail); done))
end
section
attribute [local irreducible] CallA LoopA DrawA CallQ arithK quoK remK eqK
attribute [local irreducible] pw mxW dvL hRes mapH okF sumX
theorem l01Sum_ret (xs : List Int) (ho : okX xs) : Rt 179 [Ri xs] (I (sumX xs xs.length)) := by
 refine bZ Tryz.func179 ?_
 have hl := ho.1
 repeat' (conv => whnf); first | (intro h; try exact nZ) | apply And.intro | refine sZ ?_ | fail
 all_goals try exact rZ
 (conv => whnf)
 refine loop_rule hT (fun i : Nat => i ≤ xs.length) 18 0 [0, 3, 4] (fun i => [Ri xs, I (sumX xs i), I i]) (fun _ => []) (fun i => xs.length - i) (0) (Nat.le_of_ble_eq_true rfl) ?_ ?_ ?_
 · exact Nat.zero_le _
 · first | (refine ⟨rfl, [], ?_, ?_⟩; (repeat' first | apply And.intro | exact xZ | (unfold sumX; rfl) | fail); done)
 · intro i h1
   have hbd := sumX_bd ho i h1
   by_cases hi : i < xs.length
   · have hxi : 0 ≤ xs.getD ((i : Int)).toNat 0 ∧ xs.getD ((i : Int)).toNat 0 ≤ 100000001000000 := ho.2 i hi
     have hnx : sumX xs (i + 1) = sumX xs i + xs.getD ((i : Int)).toNat 0 := sumX_next xs i
     repeat' (conv => whnf); first | (intro h; try exact nZ) | apply And.intro | refine sZ ?_ | fail
     all_goals try exact rZ
     all_goals ((conv => whnf); first | (refine ⟨i + 1, by omega, ?_, by omega⟩; (refine ⟨rfl, [], ?_, ?_⟩; (repeat' first | apply And.intro | exact xZ | (rw [hnx]; rfl) | fail); done)))
   · obtain rfl : i = xs.length := by omega
     repeat' (conv => whnf); first | (intro h; try exact nZ) | apply And.intro | refine sZ ?_ | fail
     all_goals first | exact rZ
theorem specBW_call (f : Int) (ls : List Int) (r : Int) (hs : List (List Int)) (hF : okF f ls r hs) (ws : List Int) (hws : hs.map (wR f ls r) = ws) (K : Nat) (hK : K ≤ 8) (hK1 : okW ws K) (hK2 : ∀ j, j < K → ¬ okW ws j) :
   Ca 178 [Bs f ls r, Rh hs] [] (fun v J => v = .sl 0 1 hs.length ∧ J = [Di (ws.map (· / pw K))]) := by
 refine cZ Tryz.func178 ?_
 have hv : okV ws := hws ▸ okV_R hF
 have hwl : ws.length = hs.length := by rw [← hws, List.length_map]
 have h30 : hs.length ≤ 30 := hwl ▸ hv.1
 have hwD : hs.length = (D.ints .i64 ws).len := hwl.symm
 repeat' (conv => whnf); first | (intro h; try exact nZ) | apply And.intro | refine sZ ?_ | fail
 all_goals try exact rZ
 (conv => whnf)
 refine loop_rule hT (fun i : Nat => i ≤ hs.length) 59 2 [1, 2, 5, 6, 7] (fun i => [Rh hs, .ptr 0 0, .sl 2 1 i, I (mxW ws i), I i]) (fun i => [.cells [I f, Ri ls, I r], .dead, Di (mapH (wR f ls r) hs i)]) (fun i => hs.length - i) (0) (Nat.le_of_ble_eq_true rfl) ?_ ?_ ?_
 · exact Nat.zero_le _
 · have h0 : mapH (wR f ls r) hs 0 = [] := by unfold mapH; rfl
   have h00 : mxW ws 0 = 0 := by unfold mxW; rfl
   first | (refine ⟨rfl, [some 1], ?_, ?_⟩; (repeat' first | apply And.intro | exact xZ | first | exact congrArg (D.ints .i64) h0.symm | (rw [h00]; rfl) | fail); done)
 · intro i h1
   have hel := mapH_len (g := wR f ls r) h1
   have hmb := mxW_bd hv i (by omega)
   by_cases hi : i < hs.length
   · have hoh : okH f ls r (hs.getD ((i : Int)).toNat []) := okF_at hF (getD_mem (d := ([] : List Int)) hi)
     obtain ⟨b1, b2, b3⟩ := wR_bd hoh
     have hel1 := mapH_len (g := wR f ls r) (hs := hs) (i := i + 1) (by omega)
     have hen : mapH (wR f ls r) hs i ++ [hRes f ls r (hs.getD ((i : Int)).toNat []) * (hs.getD ((i : Int)).toNat []).getD 5 0] = mapH (wR f ls r) hs (i + 1) := mapH_next hi
     have hel2 : (mapH (wR f ls r) hs i ++ [hRes f ls r (hs.getD ((i : Int)).toNat []) * (hs.getD ((i : Int)).toNat []).getD 5 0]).length = i + 1 := by rw [hen, hel1]
     have hmx : mxW ws (i + 1) = max (mxW ws i) (hRes f ls r (hs.getD ((i : Int)).toNat []) * (hs.getD ((i : Int)).toNat []).getD 5 0) := by
       rw [mxW_next, ← hws, mapH_get hi]; rfl
     have hrr := specRes_ret f ls r (hs.getD ((i : Int)).toNat []) hoh
     repeat' (conv => whnf); first | (intro h; try exact nZ) | apply And.intro | refine sZ ?_ | (refine Ret.go (hrr) rfl rfl ?_) | fail
     all_goals first | exact rZ | exact hel.symm | (rw [hel]; show (i + 1) * 8 ≤ _; omega) | skip
     all_goals ((conv => whnf); first | (refine ⟨i + 1, by omega, ?_, by omega⟩; first | (refine ⟨rfl, [some 4], ?_, ?_⟩; (repeat' first | apply And.intro | exact xZ | first | exact hel2 | exact congrArg (D.ints .i64) hen | (rw [hmx]; rfl) | fail); done) | (refine ⟨rfl, [some 3], ?_, ?_⟩; (repeat' first | apply And.intro | exact xZ | first | exact hel2 | exact congrArg (D.ints .i64) hen | (rw [hmx]; rfl) | fail); done)))
   · obtain rfl : i = hs.length := by omega
     rw [show mapH (wR f ls r) hs hs.length = ws by rw [mapH_all, hws]]
     repeat' (conv => whnf); first | (intro h; try exact nZ) | apply And.intro | refine sZ ?_ | fail
     all_goals try exact rZ
     (conv => whnf)
     refine loop_rule hT (fun k : Nat => k ≤ K) 59 3 [5, 6, 9] (fun k => [.sl 2 1 hs.length, I (mxW ws hs.length), I (pw k)]) (fun k => [.cells [I f, Ri ls, I r], .dead, Di ws]) (fun k => K - k) (0) (Nat.le_of_ble_eq_true rfl) ?_ ?_ ?_
     · exact Nat.zero_le _
     · have hp0 : pw 0 = 1 := by unfold pw; rfl
       first | (refine ⟨rfl, [], ?_, ?_⟩; (repeat' first | apply And.intro | exact xZ | (rw [hp0]; rfl) | fail); done)
     · intro k hk
       have hp := pw_bd (k := k) (by omega)
       have hmo : mxW ws hs.length / pw k ≤ 1000000000 ↔ okW ws k := hwl ▸ mxW_all (ws := ws) (k := k) (by omega)
       by_cases hkK : k < K
       · have hno : ¬ mxW ws hs.length / pw k ≤ 1000000000 := fun e => hK2 k hkK (hmo.1 e)
         have hpn : pw (k + 1) = 10 * pw k := by rw [pw_next, Int.mul_comm]
         clear hmo
         repeat' (conv => whnf); first | (intro h; try exact nZ) | apply And.intro | refine sZ ?_ | fail
         all_goals try exact rZ
         all_goals ((conv => whnf); first | (refine ⟨k + 1, by omega, ?_, by omega⟩; (refine ⟨rfl, [], ?_, ?_⟩; (repeat' first | apply And.intro | exact xZ | (rw [hpn]; rfl) | fail); done)))
       · obtain rfl : k = K := by omega
         have hyes := hmo.2 hK1
         clear hmo
         repeat' (conv => whnf); first | (intro h; try exact nZ) | apply And.intro | refine sZ ?_ | fail
         all_goals try exact rZ
         (conv => whnf)
         refine loop_rule hT (fun i : Nat => i ≤ hs.length) 59 3 [5, 9, 10] (fun i => [.sl 2 1 hs.length, I (pw k), I i]) (fun i => [.cells [I f, Ri ls, I r], .dead, Di (dvL ws (pw k) i)]) (fun i => hs.length - i) (0) (Nat.le_of_ble_eq_true rfl) ?_ ?_ ?_
         · exact Nat.zero_le _
         · have hd0 := dvL_zero ws (pw k)
           first | (refine ⟨rfl, [], ?_, ?_⟩; (repeat' first | apply And.intro | exact xZ | exact congrArg (D.ints .i64) hd0.symm | fail); done)
         · intro i h1
           have hdl := dvL_len ws (pw k) i (by omega)
           by_cases hi : i < hs.length
           · have hwi := hv.2 _ (getD_mem (d := (0 : Int)) (show i < ws.length by omega))
             have hdg : 0 ≤ (dvL ws (pw k) i).getD ((i : Int)).toNat 0 ∧ (dvL ws (pw k) i).getD ((i : Int)).toNat 0 ≤ 15000000150000000 := by rw [Int.toNat_natCast, dvL_get (by omega)]; exact hwi
             have hds : (dvL ws (pw k) i).set ((i : Int)).toNat ((dvL ws (pw k) i).getD ((i : Int)).toNat 0 / pw k) = dvL ws (pw k) (i + 1) := dvL_set (by omega)
             repeat' (conv => whnf); first | (intro h; try exact nZ) | apply And.intro | refine sZ ?_ | fail
             all_goals first | exact rZ | (show _ < List.length _; omega) | skip
             all_goals ((conv => whnf); first | (refine ⟨i + 1, by omega, ?_, by omega⟩; (refine ⟨rfl, [], ?_, ?_⟩; (repeat' first | apply And.intro | exact xZ | exact congrArg (D.ints .i64) hds | fail); done)))
           · obtain rfl : i = hs.length := by omega
             have hda : dvL ws (pw k) hs.length = ws.map (· / pw k) := by rw [← hwl, dvL_all]
             repeat' (conv => whnf); first | (intro h; try exact nZ) | apply And.intro | refine sZ ?_ | fail
             all_goals try exact rZ
             all_goals ((conv => whnf); first | (refine ⟨[some 2], .sl 0 1 hs.length, [Di (ws.map (· / pw k))], ?_, ?_, ?_⟩; (repeat' first | apply And.intro | exact xZ | exact congrArg (D.ints .i64) hda | fail); done))
end
end Go.Proofs.YtglbamncajileaaGreatDoor
