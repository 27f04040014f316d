/-
  Reserves: what the functions return. Sums over holdings: what the functions return. No conditions but those in the statements.
-/
import Derived.Test.YtglbamncajileaaGreatDoorMi
set_option linter.unusedVariables false
set_option linter.unusedSimpArgs false
set_option maxRecDepth 100000
set_option maxHeartbeats 4000000
namespace Go.Proofs.YtglbamncajileaaGreatDoor
open Go.AE
section
attribute [local irreducible] CallA LoopA DrawA CallQ arithK quoK remK eqK
attribute [local irreducible] cols cN cM cD cC netP top base
def fwX (f : Int) (ls : List Int) (r k a y s q : Int) : Int := s * pTop f ls r k a y q - netP f ls r k a y s * pBase f ls r k a y q
def rnd (f : Int) (ls : List Int) (r k a y s q : Int) : Int := max 0 (fwX f ls r k a y s q / cD f ls r (a + q) + if fwX f ls r k a y s q % cD f ls r (a + q) = 0 then 0 else 1)
theorem fw_facts {f : Int} {ls : List Int} {r k a y s l q : Int} (h : hOk f ls r k a y s l q) :
   MD s (pTop f ls r k a y q) (cD f ls r (a + q)) ∧ MD (netP f ls r k a y s) (pBase f ls r k a y q) (cD f ls r (a + q)) ∧ MM s (pTop f ls r k a y q) (netP f ls r k a y s) (pBase f ls r k a y q) (cD f ls r (a + q)) ∧
   (-(879609302220803) ≤ fwX f ls r k a y s q / cD f ls r (a + q) ∧ fwX f ls r k a y s q / cD f ls r (a + q) ≤ s) ∧ 0 ≤ fwX f ls r k a y s q % cD f ls r (a + q) ∧ fwX f ls r k a y s q % cD f ls r (a + q) < cD f ls r (a + q) ∧ 1 ≤ cD f ls r (a + q) ∧ (1 ≤ s ∧ s ≤ 100000000) ∧ 0 ≤ netP f ls r k a y s ∧ netP f ls r k a y s ≤ s := by
 obtain ⟨ho, hq, hd⟩ := h
 have hdb := cD_bd ho.1.1 ho.1.2 (a + q)
 have hb := pt_bd ho (q := q) ⟨hq.1, by omega⟩
 have hm := net_MD ho
 have mm : MM s (pTop f ls r k a y q) (netP f ls r k a y s) (pBase f ls r k a y q) (cD f ls r (a + q)) := ⟨by omega, by omega, by omega, by omega, by omega, by omega, by omega⟩
 have hx := dif_bd (A := s) (b := pTop f ls r k a y q) (S := netP f ls r k a y s) (c := pBase f ls r k a y q) (d := cD f ls r (a + q)) (by omega) (by omega) (by omega) (by omega) (by omega)
 have hf := floor_spec (x := fwX f ls r k a y s q) (d := cD f ls r (a + q)) (by omega)
 have hqb := quot_bd (by omega) hf.1 ⟨by omega, by omega⟩ hx
 refine ⟨⟨by omega, by omega, by omega, by omega⟩, ⟨by omega, by omega, by omega, by omega⟩, mm, ⟨by omega, ?_⟩, hf.2.1, hf.2.2, by omega, hm.2.2, hm.2.1⟩
 refine Int.ediv_le_of_le_mul (by omega) ?_
 have h1 : s * pTop f ls r k a y q ≤ s * cD f ls r (a + q) := Int.mul_le_mul_of_nonneg_left hb.1.2 (by omega)
 have h2 : 0 ≤ netP f ls r k a y s * pBase f ls r k a y q := Int.mul_nonneg hm.2.1.1 (by omega)
 unfold fwX
 omega
theorem forward_ret (T B d s p : Int) (h1 : MD s T d) (h2 : MD p B d) : Rt 272 [.agg [I T, I B, I d], I s, I p] (.tup [I ((s * T - p * B) / d), I ((s * T - p * B) % d)]) := by
 refine bZ Tryz.func272 ?_
 obtain ⟨a1, a2, a3⟩ := h1.q
 obtain ⟨b1, b2, b3⟩ := h2.q
 have hd := h1.hc
 obtain ⟨e1, e2⟩ := floor_sub (x := s * T) (y := p * B) (d := d) (by omega)
 rw [e1, e2]
 by_cases hlt : s * T % d < p * B % d
 · rw [if_pos hlt, if_pos hlt]
   repeat' (conv => whnf); first | (intro h; try exact nZ) | apply And.intro | refine dZ ?_ | refine sZ ?_ | (refine Ret.go (mulDiv_ret s T d h1) rfl rfl ?_) | (refine Ret.goQ (mulDiv_ret s T d h1) rfl rfl ?_) | (refine Ret.go (mulDiv_ret p B d h2) rfl rfl ?_) | (refine Ret.goQ (mulDiv_ret p B d h2) rfl rfl ?_) | fail
   all_goals first | exact rZ
 · rw [if_neg hlt, if_neg hlt]
   repeat' (conv => whnf); first | (intro h; try exact nZ) | apply And.intro | refine dZ ?_ | refine sZ ?_ | (refine Ret.go (mulDiv_ret s T d h1) rfl rfl ?_) | (refine Ret.goQ (mulDiv_ret s T d h1) rfl rfl ?_) | (refine Ret.go (mulDiv_ret p B d h2) rfl rfl ?_) | (refine Ret.goQ (mulDiv_ret p B d h2) rfl rfl ?_) | fail
   all_goals first | exact rZ
attribute [local irreducible] pTop pBase fwX
theorem rounded_ret (f : Int) (ls : List Int) (r k a y s l q : Int) (h : hOk f ls r k a y s l q) : Rt 210 [.agg [I (pTop f ls r k a y q), I (pBase f ls r k a y q), I (cD f ls r (a + q))], I s, I (netP f ls r k a y s)] (I (rnd f ls r k a y s q)) := by
 refine bZ Tryz.func210 ?_
 obtain ⟨m1, m2, m3, x1, x2, x3, x4, x5, x6⟩ := fw_facts h
 have hf := forward_ret (pTop f ls r k a y q) (pBase f ls r k a y q) (cD f ls r (a + q)) s (netP f ls r k a y s) m1 m2
 have he : s * pTop f ls r k a y q - netP f ls r k a y s * pBase f ls r k a y q = fwX f ls r k a y s q := by unfold fwX; rfl
 rw [he] at hf
 unfold rnd
 by_cases hz : fwX f ls r k a y s q % cD f ls r (a + q) = 0
 · rw [if_pos hz, Int.add_zero]
   repeat' (conv => whnf); first | (intro h; try exact nZ) | apply And.intro | refine dZ ?_ | refine sZ ?_ | (refine Ret.go (hf) rfl rfl ?_) | (refine Ret.goQ (hf) rfl rfl ?_) | fail
   all_goals first | exact rZ
 · rw [if_neg hz]
   repeat' (conv => whnf); first | (intro h; try exact nZ) | apply And.intro | refine dZ ?_ | refine sZ ?_ | (refine Ret.go (hf) rfl rfl ?_) | (refine Ret.goQ (hf) rfl rfl ?_) | fail
   all_goals first | exact rZ
theorem rnd_bd {f : Int} {ls : List Int} {r k a y s l q : Int} (h : hOk f ls r k a y s l q) : 0 ≤ rnd f ls r k a y s q ∧ rnd f ls r k a y s q ≤ 100000001 := by
 obtain ⟨m1, m2, m3, x1, x2, x3, x4, x5, x6⟩ := fw_facts h
 unfold rnd
 split <;> omega
attribute [local irreducible] rnd
abbrev hNet (f : Int) (ls : List Int) (r : Int) (h : List Int) : Int := netP f ls r (h.getD 0 0) (h.getD 1 0) (h.getD 2 0) (h.getD 3 0)
abbrev hOff (f : Int) (ls : List Int) (r : Int) (h : List Int) : Int := offP f ls r (h.getD 0 0) (h.getD 1 0) (h.getD 2 0) (h.getD 3 0) (h.getD 4 0)
abbrev hRnd (f : Int) (ls : List Int) (r : Int) (h : List Int) : Int := rnd f ls r (h.getD 0 0) (h.getD 1 0) (h.getD 2 0) (h.getD 3 0) (h.getD 5 0)
abbrev hpT (f : Int) (ls : List Int) (r : Int) (h : List Int) (q : Int) : Int := pTop f ls r (h.getD 0 0) (h.getD 1 0) (h.getD 2 0) q
abbrev hpB (f : Int) (ls : List Int) (r : Int) (h : List Int) (q : Int) : Int := pBase f ls r (h.getD 0 0) (h.getD 1 0) (h.getD 2 0) q
def hRes (f : Int) (ls : List Int) (r : Int) (h : List Int) : Int := h.getD 6 0 * hRnd f ls r h
theorem hRes_bd {f : Int} {ls : List Int} {r : Int} {h : List Int} (ho : okH f ls r h) : 0 ≤ hRes f ls r h ∧ hRes f ls r h ≤ 100000001000000 := by
 have := rnd_bd ho.1
 have := mul_in (a := h.getD 6 0) (A := 1000000) (b := hRnd f ls r h) (B := 100000001) ho.2.1 ho.2.2 this.1 this.2
 unfold hRes
 omega
theorem parts_ret (f : Int) (ls : List Int) (r : Int) (h : List Int) (ho : okP f ls r (h.getD 0 0) (h.getD 1 0) (h.getD 2 0) (h.getD 3 0) (h.getD 4 0)) (hq : 0 ≤ h.getD 5 0 ∧ h.getD 5 0 ≤ dur f ls (h.getD 0 0) (h.getD 1 0) (h.getD 2 0)) :
   Rt 209 [WH h, Bs f ls r] (.agg [I (hpT f ls r h (h.getD 5 0)), I (hpB f ls r h (h.getD 5 0)), I (cD f ls r (h.getD 1 0 + h.getD 5 0))]) := by
 refine bZ Tryz.func209 ?_
 have hp := partsAt_ret f ls r (h.getD 0 0) (h.getD 1 0) (h.getD 2 0) (h.getD 3 0) (h.getD 4 0) (h.getD 5 0) ho hq
 repeat' (conv => whnf); first | (intro h; try exact nZ) | apply And.intro | refine sZ ?_ | (refine Ret.go (hp) rfl rfl ?_) | refine gZ [] (columns_ro f ls r ho.1.1 ho.1.2) ?_ | fail
 all_goals first | exact rZ
theorem reserve_ret (f : Int) (ls : List Int) (r : Int) (h : List Int) (ho : okH f ls r h) : Rt 266 [WH h, Bs f ls r] (I (hRes f ls r h)) := by
 refine bZ Tryz.func266 ?_
 have hq := ho.1.2.1
 have hp := parts_ret f ls r h ho.1.1 (by omega)
 have hr := rounded_ret f ls r (h.getD 0 0) (h.getD 1 0) (h.getD 2 0) (h.getD 3 0) (h.getD 4 0) (h.getD 5 0) ho.1
 have hn := net_ret f ls r (h.getD 0 0) (h.getD 1 0) (h.getD 2 0) (h.getD 3 0) (h.getD 4 0) ho.1.1
 have hb := hRes_bd ho
 unfold hRes hRnd at hb ⊢
 repeat' (conv => whnf); first | (intro h; try exact nZ) | apply And.intro | refine dZ ?_ | refine sZ ?_ | (refine Ret.go (hp) rfl rfl ?_) | (refine Ret.goQ (hp) rfl rfl ?_) | (refine Ret.go (hr) rfl rfl ?_) | (refine Ret.goQ (hr) rfl rfl ?_) | (refine Ret.go (hn) rfl rfl ?_) | (refine Ret.goQ (hn) rfl rfl ?_) | fail
 all_goals first | exact rZ
theorem specLeft_ret (k a y s l q : Int) (hk : k ≠ 0 → -1000000 ≤ y - q ∧ y - q ≤ 1000000) : Rt 293 [Po k a y s l, I q] (I (if k = 0 then 0 else y - q)) := by
 refine bZ Tryz.func293 ?_
 by_cases hz : k = 0
 · rw [if_pos hz]
   repeat' (conv => whnf); first | (intro h; try exact nZ) | apply And.intro | refine dZ ?_ | refine sZ ?_ | fail
   all_goals first | exact rZ
 · have := hk hz
   rw [if_neg hz]
   repeat' (conv => whnf); first | (intro h; try exact nZ) | apply And.intro | refine dZ ?_ | refine sZ ?_ | fail
   all_goals first | exact rZ
theorem top_zero {k m m2 d2 m3 d3 : Int} (h : k = 0) : top k m m2 d2 = top k m m3 d3 := by unfold top; rw [if_pos h, if_pos h]
theorem base_zero {k n n2 n3 : Int} (h : k = 0) : base k n n2 = base k n n3 := by unfold base; rw [if_pos h, if_pos h]
theorem left_top (f : Int) (ls : List Int) (r k a y q : Int) : top k (cM f ls r (a + q)) (cM f ls r (a + q + if k = 0 then 0 else y - q)) (cD f ls r (a + q + if k = 0 then 0 else y - q)) = pTop f ls r k a y q := by
 unfold pTop
 by_cases hk : k = 0
 · exact top_zero hk
 · rw [if_neg hk, show a + q + (y - q) = a + y by omega]
theorem left_base (f : Int) (ls : List Int) (r k a y q : Int) : base k (cN f ls r (a + q)) (cN f ls r (a + q + if k = 0 then 0 else y - q)) = pBase f ls r k a y q := by
 unfold pBase
 by_cases hk : k = 0
 · exact base_zero hk
 · rw [if_neg hk, show a + q + (y - q) = a + y by omega]
theorem specParts_ret (f : Int) (ls : List Int) (r k a y s l q : Int) (h : hOk f ls r k a y s l q) : Rt 239 [Bs f ls r, Po k a y s l, I q] (.tup [I (pTop f ls r k a y q), I (pBase f ls r k a y q), I (cD f ls r (a + q))]) := by
 refine bZ Tryz.func239 ?_
 obtain ⟨ho, hq, hd⟩ := h
 have hdb := dur_bd ho
 have h1 := ho.2.1
 unfold okA at h1
 have hy : k ≠ 0 → q ≤ y - 1 := fun hk => by
   have := hq.2
   unfold dur at this
   rw [if_neg hk] at this
   exact this
 have hn : 0 ≤ (if k = 0 then 0 else y - q) ∧ (k ≠ 0 → a + q + (if k = 0 then 0 else y - q) ≤ 151) := by
   by_cases hk : k = 0
   · rw [if_pos hk]; exact ⟨Int.le_refl _, fun h => absurd hk h⟩
   · have := hy hk
     rw [if_neg hk]; exact ⟨by omega, fun _ => by omega⟩
 have hl := specLeft_ret k a y s l q (fun hk => by have := hy hk; omega)
 have ht := specTop_ret f ls r k (a + q) (if k = 0 then 0 else y - q) ho.1 (by omega) hn.1 hn.2
 have hb := specBase_ret f ls r k (a + q) (if k = 0 then 0 else y - q) ho.1 (by omega) hn.1 hn.2
 rw [left_top] at ht
 rw [left_base] at hb
 repeat' (conv => whnf); first | (intro h; try exact nZ) | apply And.intro | refine dZ ?_ | refine sZ ?_ | (refine Ret.go (hl) rfl rfl ?_) | (refine Ret.goQ (hl) rfl rfl ?_) | (refine Ret.go (ht) rfl rfl ?_) | (refine Ret.goQ (ht) rfl rfl ?_) | (refine Ret.go (hb) rfl rfl ?_) | (refine Ret.goQ (hb) rfl rfl ?_) | (refine Ret.go (specD_ret f ls r _ ho.1.1 ho.1.2 (by omega)) rfl rfl ?_) | (refine Ret.goQ (specD_ret f ls r _ ho.1.1 ho.1.2 (by omega)) rfl rfl ?_) | fail
 all_goals first | exact rZ
theorem specForward_ret (f : Int) (ls : List Int) (r k a y s l q : Int) (h : hOk f ls r k a y s l q) : Rt 296 [Bs f ls r, Po k a y s l, I q] (.tup [I (fwX f ls r k a y s q / cD f ls r (a + q)), I (fwX f ls r k a y s q % cD f ls r (a + q))]) := by
 refine bZ Tryz.func296 ?_
 obtain ⟨m1, m2, m3, x1, x2, x3, x4, x5, x6⟩ := fw_facts h
 have hm := specMinus_ret s (pTop f ls r k a y q) (netP f ls r k a y s) (pBase f ls r k a y q) (cD f ls r (a + q)) m3
 have he : s * pTop f ls r k a y q - netP f ls r k a y s * pBase f ls r k a y q = fwX f ls r k a y s q := by unfold fwX; rfl
 rw [he] at hm
 repeat' (conv => whnf); first | (intro h; try exact nZ) | apply And.intro | refine dZ ?_ | refine sZ ?_ | (refine Ret.go (specParts_ret f ls r k a y s l q h) rfl rfl ?_) | (refine Ret.goQ (specParts_ret f ls r k a y s l q h) rfl rfl ?_) | (refine Ret.go (specNet_ret f ls r k a y s l h.1) rfl rfl ?_) | (refine Ret.goQ (specNet_ret f ls r k a y s l h.1) rfl rfl ?_) | (refine Ret.go (hm) rfl rfl ?_) | (refine Ret.goQ (hm) rfl rfl ?_) | fail
 all_goals first | exact rZ
theorem specAt_ret (f : Int) (ls : List Int) (r k a y s l q : Int) (h : hOk f ls r k a y s l q) : Rt 244 [Bs f ls r, Po k a y s l, I q] (I (rnd f ls r k a y s q)) := by
 refine bZ Tryz.func244 ?_
 obtain ⟨m1, m2, m3, x1, x2, x3, x4, x5, x6⟩ := fw_facts h
 unfold rnd
 by_cases hz : fwX f ls r k a y s q % cD f ls r (a + q) = 0
 · rw [if_pos hz, Int.add_zero]
   repeat' (conv => whnf); first | (intro h; try exact nZ) | apply And.intro | refine dZ ?_ | refine sZ ?_ | (refine Ret.go (specForward_ret f ls r k a y s l q h) rfl rfl ?_) | (refine Ret.goQ (specForward_ret f ls r k a y s l q h) rfl rfl ?_) | fail
   all_goals first | exact rZ | (refine iv ?_; omega)
 · rw [if_neg hz]
   repeat' (conv => whnf); first | (intro h; try exact nZ) | apply And.intro | refine dZ ?_ | refine sZ ?_ | (refine Ret.go (specForward_ret f ls r k a y s l q h) rfl rfl ?_) | (refine Ret.goQ (specForward_ret f ls r k a y s l q h) rfl rfl ?_) | fail
   all_goals first | exact rZ | (refine iv ?_; omega)
theorem specRes_ret (f : Int) (ls : List Int) (r : Int) (h : List Int) (ho : okH f ls r h) : Rt 181 [Bs f ls r, WH h] (I (hRes f ls r h)) := by
 refine bZ Tryz.func181 ?_
 have ha := specAt_ret f ls r (h.getD 0 0) (h.getD 1 0) (h.getD 2 0) (h.getD 3 0) (h.getD 4 0) (h.getD 5 0) ho.1
 have hb := hRes_bd ho
 unfold hRes hRnd at hb ⊢
 repeat' (conv => whnf); first | (intro h; try exact nZ) | apply And.intro | refine dZ ?_ | refine sZ ?_ | (refine Ret.go (ha) rfl rfl ?_) | (refine Ret.goQ (ha) rfl rfl ?_) | fail
 all_goals first | exact rZ
end
section
attribute [local irreducible] CallA LoopA DrawA CallQ arithK quoK remK eqK
attribute [local irreducible] cols cN cM cD cC netP dur hRes
theorem off_dif {f : Int} {ls : List Int} {r k a y s l : Int} (ho : okP f ls r k a y s l) : 0 ≤ offP f ls r k a y s l - netP f ls r k a y s ∧ offP f ls r k a y s l - netP f ls r k a y s ≤ 100000000 := by
 have hm := net_MD ho
 have hb := off_bd (n := netP f ls r k a y s) (l := l) (by omega) ho.2.2.1
 unfold offP
 omega
attribute [local irreducible] offP
def sumH (g : List Int → Int) (hs : List (List Int)) : Nat → Int
 | 0 => 0
 | i + 1 => sumH g hs i + g (hs.getD i [])
theorem sumH_next (g : List Int → Int) (hs : List (List Int)) (i : Nat) : sumH g hs (i + 1) = sumH g hs i + g (hs.getD i []) := rfl
abbrev okG (g : List Int → Int) (hs : List (List Int)) : Prop := hs.length ≤ 30 ∧ ∀ h ∈ hs, 0 ≤ g h ∧ g h ≤ 100000001000000
theorem sumH_bd {g : List Int → Int} {hs : List (List Int)} (ho : okG g hs) : ∀ i, i ≤ hs.length → 0 ≤ sumH g hs i ∧ sumH g hs i ≤ 100000001000000 * i
 | 0, _ => by simp [sumH]
 | i + 1, hi => by
   have ih := sumH_bd ho i (by omega)
   have h1 := ho.2 (hs.getD i []) (getD_mem (by omega))
   rw [sumH_next]
   omega
def sumX (xs : List Int) : Nat → Int
 | 0 => 0
 | i + 1 => sumX xs i + xs.getD i 0
theorem sumX_next (xs : List Int) (i : Nat) : sumX xs (i + 1) = sumX xs i + xs.getD i 0 := rfl
abbrev okX (xs : List Int) : Prop := xs.length ≤ 30 ∧ ∀ i, i < xs.length → 0 ≤ xs.getD i 0 ∧ xs.getD i 0 ≤ 100000001000000
theorem sumX_bd {xs : List Int} (ho : okX xs) : ∀ i, i ≤ xs.length → 0 ≤ sumX xs i ∧ sumX xs i ≤ 100000001000000 * i
 | 0, _ => by simp [sumX]
 | i + 1, hi => by
   have ih := sumX_bd ho i (by omega)
   have h1 := ho.2 i (by omega)
   rw [sumX_next]
   omega
def mapH (g : List Int → Int) (hs : List (List Int)) (i : Nat) : List Int := (hs.take i).map g
theorem mapH_next {g : List Int → Int} {hs : List (List Int)} {i : Nat} (h : i < hs.length) : mapH g hs i ++ [g (hs.getD i [])] = mapH g hs (i + 1) := by
 unfold mapH
 rw [take_snoc [] h, List.map_append]; rfl
theorem mapH_len {g : List Int → Int} {hs : List (List Int)} {i : Nat} (h : i ≤ hs.length) : (mapH g hs i).length = i := by
 unfold mapH
 rw [List.length_map, List.length_take]; omega
theorem mapH_all {g : List Int → Int} {hs : List (List Int)} : mapH g hs hs.length = hs.map g := by
 unfold mapH
 rw [List.take_length]
theorem mapH_get {g : List Int → Int} {hs : List (List Int)} {i : Nat} (h : i < hs.length) : (hs.map g).getD i 0 = g (hs.getD i []) := by
 rw [List.getD_eq_getElem?_getD, List.getD_eq_getElem?_getD, List.getElem?_map, List.getElem?_eq_getElem h]; rfl
theorem sumX_map {g : List Int → Int} {hs : List (List Int)} : ∀ i, i ≤ hs.length → sumX (hs.map g) i = sumH g hs i
 | 0, _ => rfl
 | i + 1, hi => by rw [sumX_next, sumH_next, sumX_map i (by omega), mapH_get (by omega)]
theorem okX_map {g : List Int → Int} {hs : List (List Int)} (ho : okG g hs) : okX (hs.map g) := by
 refine ⟨by rw [List.length_map]; exact ho.1, fun i hi => ?_⟩
 rw [List.length_map] at hi
 rw [mapH_get hi]
 exact ho.2 _ (getD_mem hi)
attribute [local irreducible] sumH sumX mapH
theorem total_ret (xs : List Int) (ho : okX xs) : Rt 198 [Ri xs] (I (sumX xs xs.length)) := by
 refine bZ Tryz.func198 ?_
 have hl := ho.1
 repeat' (conv => whnf); first | (intro h; try exact nZ) | apply And.intro | refine dZ ?_ | refine sZ ?_ | fail
 refine loop_rule hT (fun i : Nat => i ≤ xs.length) 17 0 [3, 6, 7, 8] (fun i => [I (sumX xs i), Ri xs, I xs.length, I i]) (fun _ => []) (fun i => xs.length - i) (0) (Nat.le_of_ble_eq_true rfl) ?_ ?_ ?_
 · exact Nat.zero_le _
 · (refine ⟨rfl, [], ?_, ?_⟩; (repeat' first | apply And.intro | exact xZ | (unfold sumX; rfl) | fail); done)
 · rintro i h1
   have hbd := sumX_bd ho i h1
   by_cases hi : i < xs.length
   · have hxi : 0 ≤ xs.getD ((i : Int)).toNat 0 ∧ xs.getD ((i : Int)).toNat 0 ≤ 100000001000000 := ho.2 i hi
     have hnx : sumX xs (i + 1) = sumX xs i + xs.getD ((i : Int)).toNat 0 := sumX_next xs i
     repeat' (conv => whnf); first | (intro h; try exact nZ) | apply And.intro | refine dZ ?_ | refine sZ ?_ | fail
     all_goals first | omega | ((conv => whnf); refine ⟨i + 1, by omega, ?_, by omega⟩; (refine ⟨rfl, [], ?_, ?_⟩; (repeat' first | apply And.intro | exact xZ | exact hnx.symm | fail); done))
   · obtain rfl : i = xs.length := by omega
     repeat' (conv => whnf); first | (intro h; try exact nZ) | apply And.intro | refine dZ ?_ | refine sZ ?_ | fail
     all_goals first | omega | rfl
theorem okG_res {f : Int} {ls : List Int} {r : Int} {hs : List (List Int)} (ho : okF f ls r hs) : okG (hRes f ls r) hs := ⟨ho.2.1, fun h hh => by
 have := hRes_bd (ho.2.2 h hh)
 omega⟩
theorem reserves_call (f : Int) (ls : List Int) (r : Int) (hs : List (List Int)) (ho : okF f ls r hs) : Ca 199 [Bs f ls r, Rh hs] [] (fun v J => v = .sl 0 1 hs.length ∧ J = [Di (hs.map (hRes f ls r))]) := by
 refine cZ Tryz.func199 ?_
 have hl := ho.2.1
 repeat' (conv => whnf); first | (intro h; try exact nZ) | apply And.intro | refine dZ ?_ | refine sZ ?_ | fail
 refine loop_rule hT (fun i : Nat => i ≤ hs.length) 23 2 [1, 2, 5, 9, 10, 11] (fun i => [Rh hs, .ptr 0 0, .sl 2 1 i, Rh hs, I hs.length, I i]) (fun i => [.cells [I f, Ri ls, I r], .dead, Di (mapH (hRes f ls r) hs i)]) (fun i => hs.length - i) (0) (Nat.le_of_ble_eq_true rfl) ?_ ?_ ?_
 · exact Nat.zero_le _
 · have h0 : mapH (hRes f ls r) hs 0 = [] := by unfold mapH; rfl
   (refine ⟨rfl, [some 1], ?_, ?_⟩; (repeat' first | apply And.intro | exact xZ | exact congrArg (D.ints .i64) h0.symm | fail); done)
 · rintro i h1
   by_cases hi : i < hs.length
   · have hoh := ho.2.2 (hs.getD ((i : Int)).toNat []) (getD_mem hi)
     have hel := mapH_len (g := hRes f ls r) h1
     have hel1 := mapH_len (g := hRes f ls r) (hs := hs) (i := i + 1) (by omega)
     have hen : mapH (hRes f ls r) hs i ++ [hRes f ls r (hs.getD ((i : Int)).toNat [])] = mapH (hRes f ls r) hs (i + 1) := mapH_next hi
     have hel2 : (mapH (hRes f ls r) hs i ++ [hRes f ls r (hs.getD ((i : Int)).toNat [])]).length = i + 1 := by rw [hen, hel1]
     repeat' (conv => whnf); first | (intro h; try exact nZ) | apply And.intro | refine dZ ?_ | refine sZ ?_ | (refine Ret.go (reserve_ret f ls r (hs.getD ((i : Int)).toNat []) hoh) rfl rfl ?_) | (refine Ret.goQ (reserve_ret f ls r (hs.getD ((i : Int)).toNat []) hoh) rfl rfl ?_) | fail
     all_goals first | omega | exact hel.symm | (rw [hel]; show (i + 1) * 8 ≤ _; omega) | rfl | skip
     all_goals first | ((conv => whnf); refine ⟨i + 1, by omega, ?_, by omega⟩; first | (refine ⟨rfl, [some 5], ?_, ?_⟩; (repeat' first | apply And.intro | exact xZ | first | exact hel2 | exact congrArg (D.ints .i64) hen | fail); done) | (refine ⟨rfl, [some 4], ?_, ?_⟩; (repeat' first | apply And.intro | exact xZ | first | exact hel2 | exact congrArg (D.ints .i64) hen | fail); done))
   · obtain rfl : i = hs.length := by omega
     repeat' (conv => whnf); first | (intro h; try exact nZ) | apply And.intro | refine dZ ?_ | refine sZ ?_ | fail
     all_goals try omega
     refine ⟨[some 2], .sl 0 1 hs.length, [Di (mapH (hRes f ls r) hs hs.length)], ?_, ?_, ⟨rfl, by rw [mapH_all]⟩⟩ <;> (repeat' (first | exact rfl | exact trivial | omega | refine And.intro ?_ ?_))
theorem reserves_ro (f : Int) (ls : List Int) (r : Int) (hs : List (List Int)) (ho : okF f ls r hs) : Ca 199 [Bs f ls r, Rh hs] [] (fun v J => v = Ri (hs.map (hRes f ls r)) ∧ J = []) :=
 CallA.frozen ((reserves_call f ls r hs ho).mono fun v J ⟨h1, h2⟩ => by subst h1 h2; exact ⟨Ri (hs.map (hRes f ls r)), ⟨rfl, rfl, rfl, (List.length_map _).symm, rfl⟩, rfl, rfl⟩)
def tot (f : Int) (ls : List Int) (r : Int) (hs : List (List Int)) : Int := sumH (hRes f ls r) hs hs.length
theorem total_res (f : Int) (ls : List Int) (r : Int) (hs : List (List Int)) (ho : okF f ls r hs) : Rt 198 [Ri (hs.map (hRes f ls r))] (I (tot f ls r hs)) := by
 have h := total_ret (hs.map (hRes f ls r)) (okX_map (okG_res ho))
 rw [List.length_map, sumX_map _ (Nat.le_refl _)] at h
 exact h
theorem specTotal_ret (f : Int) (ls : List Int) (r : Int) (hs : List (List Int)) (hn : ls.length ≤ 1048576) (ho : okF f ls r hs) : Rt 123 [Bs f ls r, Rh hs] (.tup [I (tot f ls r hs), I 0]) := by
 refine bZ Tryz.func123 ?_
 have hl := ho.2.1
 have hg := okG_res ho
 repeat' (conv => whnf); first | (intro h; try exact nZ) | apply And.intro | refine dZ ?_ | refine sZ ?_ | (refine Ret.goP (specPortfolio_ret f ls r hs hn (by omega)) rfl ?_) | (refine Ret.goQP (specPortfolio_ret f ls r hs hn (by omega)) rfl ?_) | fail
 all_goals first | omega | exact absurd ho ‹_› | skip
 refine loop_rule hT (fun i : Nat => i ≤ hs.length) 27 1 [1, 2, 6, 7] (fun i => [Rh hs, .ptr 0 0, I (sumH (hRes f ls r) hs i), I i]) (fun _ => [.cells [I f, Ri ls, I r]]) (fun i => hs.length - i) (0) (Nat.le_of_ble_eq_true rfl) ?_ ?_ ?_
 · exact Nat.zero_le _
 · (refine ⟨rfl, [], ?_, ?_⟩; (repeat' first | apply And.intro | exact xZ | (unfold sumH; rfl) | fail); done)
 · rintro i h1
   have hbd := sumH_bd hg i h1
   by_cases hi : i < hs.length
   · have hoh := ho.2.2 (hs.getD ((i : Int)).toNat []) (getD_mem hi)
     have hgi : 0 ≤ hRes f ls r (hs.getD ((i : Int)).toNat []) ∧ hRes f ls r (hs.getD ((i : Int)).toNat []) ≤ 100000001000000 := hg.2 _ (getD_mem hi)
     have hnx : sumH (hRes f ls r) hs (i + 1) = sumH (hRes f ls r) hs i + hRes f ls r (hs.getD ((i : Int)).toNat []) := sumH_next _ hs i
     repeat' (conv => whnf); first | (intro h; try exact nZ) | apply And.intro | refine dZ ?_ | refine sZ ?_ | (refine Ret.go (specRes_ret f ls r (hs.getD ((i : Int)).toNat []) hoh) rfl rfl ?_) | (refine Ret.goQ (specRes_ret f ls r (hs.getD ((i : Int)).toNat []) hoh) rfl rfl ?_) | fail
     all_goals first | omega | ((conv => whnf); refine ⟨i + 1, by omega, ?_, by omega⟩; (refine ⟨rfl, [], ?_, ?_⟩; (repeat' first | apply And.intro | exact xZ | exact hnx.symm | fail); done))
   · obtain rfl : i = hs.length := by omega
     repeat' (conv => whnf); first | (intro h; try exact nZ) | apply And.intro | refine dZ ?_ | refine sZ ?_ | fail
     all_goals first | omega | rfl
def hN (f : Int) (ls : List Int) (r : Int) (h : List Int) : Int := h.getD 6 0 * hNet f ls r h
def hL (f : Int) (ls : List Int) (r : Int) (h : List Int) : Int := h.getD 6 0 * (hOff f ls r h - hNet f ls r h)
theorem hN_bd {f : Int} {ls : List Int} {r : Int} {h : List Int} (ho : okH f ls r h) : (0 ≤ hNet f ls r h ∧ hNet f ls r h ≤ 100000000) ∧ (0 ≤ hOff f ls r h - hNet f ls r h ∧ hOff f ls r h - hNet f ls r h ≤ 100000000) ∧ (0 ≤ hN f ls r h ∧ hN f ls r h ≤ 100000001000000) ∧ 0 ≤ hL f ls r h ∧ hL f ls r h ≤ 100000001000000 := by
 have hm := net_MD ho.1.1
 have h2 := off_dif ho.1.1
 have h3 := mul_in (a := h.getD 6 0) (A := 1000000) (b := hNet f ls r h) (B := 100000000) ho.2.1 ho.2.2 (by unfold hNet; omega) (by unfold hNet; omega)
 have h4 := mul_in (a := h.getD 6 0) (A := 1000000) (b := hOff f ls r h - hNet f ls r h) (B := 100000000) ho.2.1 ho.2.2 (by unfold hOff hNet; omega) (by unfold hOff hNet; omega)
 unfold hN hL
 unfold hOff hNet at h3 h4 ⊢
 omega
theorem okG_net {f : Int} {ls : List Int} {r : Int} {hs : List (List Int)} (ho : okF f ls r hs) : okG (hN f ls r) hs := ⟨ho.2.1, fun h hh => (hN_bd (ho.2.2 h hh)).2.2.1⟩
theorem okG_load {f : Int} {ls : List Int} {r : Int} {hs : List (List Int)} (ho : okF f ls r hs) : okG (hL f ls r) hs := ⟨ho.2.1, fun h hh => (hN_bd (ho.2.2 h hh)).2.2.2⟩
def nets (f : Int) (ls : List Int) (r : Int) (hs : List (List Int)) : Int := sumH (hN f ls r) hs hs.length
def loads (f : Int) (ls : List Int) (r : Int) (hs : List (List Int)) : Int := sumH (hL f ls r) hs hs.length
theorem implPrem_ret (f : Int) (ls : List Int) (r : Int) (hs : List (List Int)) (ho : okF f ls r hs) : Rt 200 [Bs f ls r, Rh hs] (.tup [I (nets f ls r hs), I (loads f ls r hs)]) := by
 refine bZ Tryz.func200 ?_
 have hl := ho.2.1
 repeat' (conv => whnf); first | (intro h; try exact nZ) | apply And.intro | refine dZ ?_ | refine sZ ?_ | fail
 refine loop_rule hT (fun i : Nat => i ≤ hs.length) 41 1 [1, 2, 6, 7, 11, 12, 13] (fun i => [Rh hs, .ptr 0 0, I (sumH (hN f ls r) hs i), I (sumH (hL f ls r) hs i), Rh hs, I hs.length, I i]) (fun _ => [.cells [I f, Ri ls, I r]]) (fun i => hs.length - i) (0) (Nat.le_of_ble_eq_true rfl) ?_ ?_ ?_
 · exact Nat.zero_le _
 · (refine ⟨rfl, [], ?_, ?_⟩; (repeat' first | apply And.intro | exact xZ | (unfold sumH; rfl) | fail); done)
 · rintro i h1
   have hbd1 := sumH_bd (okG_net ho) i h1
   have hbd2 := sumH_bd (okG_load ho) i h1
   by_cases hi : i < hs.length
   · have hoh := ho.2.2 (hs.getD ((i : Int)).toNat []) (getD_mem hi)
     have hb := hN_bd hoh
     have hn1 : sumH (hN f ls r) hs (i + 1) = sumH (hN f ls r) hs i + hN f ls r (hs.getD ((i : Int)).toNat []) := sumH_next _ hs i
     have hn2 : sumH (hL f ls r) hs (i + 1) = sumH (hL f ls r) hs i + hL f ls r (hs.getD ((i : Int)).toNat []) := sumH_next _ hs i
     unfold hN hL hOff hNet at hb
     unfold hN hNet at hn1
     unfold hL hOff hNet at hn2
     have hq := (net_ret f ls r ((hs.getD ((i : Int)).toNat []).getD 0 0) ((hs.getD ((i : Int)).toNat []).getD 1 0) ((hs.getD ((i : Int)).toNat []).getD 2 0) ((hs.getD ((i : Int)).toNat []).getD 3 0) ((hs.getD ((i : Int)).toNat []).getD 4 0) hoh.1.1)
     have hr := (office_ret f ls r ((hs.getD ((i : Int)).toNat []).getD 0 0) ((hs.getD ((i : Int)).toNat []).getD 1 0) ((hs.getD ((i : Int)).toNat []).getD 2 0) ((hs.getD ((i : Int)).toNat []).getD 3 0) ((hs.getD ((i : Int)).toNat []).getD 4 0) hoh.1.1)
     repeat' (conv => whnf); first | (intro h; try exact nZ) | apply And.intro | refine dZ ?_ | refine sZ ?_ | (refine Ret.go (hq) rfl rfl ?_) | (refine Ret.goQ (hq) rfl rfl ?_) | (refine Ret.go (hr) rfl rfl ?_) | (refine Ret.goQ (hr) rfl rfl ?_) | fail
     all_goals first | omega | ((conv => whnf); refine ⟨i + 1, by omega, ?_, by omega⟩; (refine ⟨rfl, [], ?_, ?_⟩; (repeat' first | apply And.intro | exact xZ | first | exact hn1.symm | exact hn2.symm | fail); done))
   · obtain rfl : i = hs.length := by omega
     repeat' (conv => whnf); first | (intro h; try exact nZ) | apply And.intro | refine dZ ?_ | refine sZ ?_ | fail
     all_goals first | omega | rfl
theorem specPrem_ret (f : Int) (ls : List Int) (r : Int) (hs : List (List Int)) (hn : ls.length ≤ 1048576) (ho : okF f ls r hs) : Rt 120 [Bs f ls r, Rh hs] (.tup [I (nets f ls r hs), I (loads f ls r hs), I 0]) := by
 refine bZ Tryz.func120 ?_
 have hl := ho.2.1
 repeat' (conv => whnf); first | (intro h; try exact nZ) | apply And.intro | refine dZ ?_ | refine sZ ?_ | (refine Ret.goP (specPortfolio_ret f ls r hs hn (by omega)) rfl ?_) | (refine Ret.goQP (specPortfolio_ret f ls r hs hn (by omega)) rfl ?_) | fail
 all_goals first | omega | exact absurd ho ‹_› | skip
 refine loop_rule hT (fun i : Nat => i ≤ hs.length) 56 1 [1, 2, 7, 8, 9] (fun i => [Rh hs, .ptr 0 0, I (sumH (hN f ls r) hs i), I (sumH (hL f ls r) hs i), I i]) (fun _ => [.cells [I f, Ri ls, I r]]) (fun i => hs.length - i) (0) (Nat.le_of_ble_eq_true rfl) ?_ ?_ ?_
 · exact Nat.zero_le _
 · (refine ⟨rfl, [], ?_, ?_⟩; (repeat' first | apply And.intro | exact xZ | (unfold sumH; rfl) | fail); done)
 · rintro i h1
   have hbd1 := sumH_bd (okG_net ho) i h1
   have hbd2 := sumH_bd (okG_load ho) i h1
   by_cases hi : i < hs.length
   · have hoh := ho.2.2 (hs.getD ((i : Int)).toNat []) (getD_mem hi)
     have hb := hN_bd hoh
     have hn1 : sumH (hN f ls r) hs (i + 1) = sumH (hN f ls r) hs i + hN f ls r (hs.getD ((i : Int)).toNat []) := sumH_next _ hs i
     have hn2 : sumH (hL f ls r) hs (i + 1) = sumH (hL f ls r) hs i + hL f ls r (hs.getD ((i : Int)).toNat []) := sumH_next _ hs i
     unfold hN hL hOff hNet at hb
     unfold hN hNet at hn1
     unfold hL hOff hNet at hn2
     have hq := (specNet_ret f ls r ((hs.getD ((i : Int)).toNat []).getD 0 0) ((hs.getD ((i : Int)).toNat []).getD 1 0) ((hs.getD ((i : Int)).toNat []).getD 2 0) ((hs.getD ((i : Int)).toNat []).getD 3 0) ((hs.getD ((i : Int)).toNat []).getD 4 0) hoh.1.1)
     have hr := (specOffice_ret f ls r ((hs.getD ((i : Int)).toNat []).getD 0 0) ((hs.getD ((i : Int)).toNat []).getD 1 0) ((hs.getD ((i : Int)).toNat []).getD 2 0) ((hs.getD ((i : Int)).toNat []).getD 3 0) ((hs.getD ((i : Int)).toNat []).getD 4 0) hoh.1.1)
     repeat' (conv => whnf); first | (intro h; try exact nZ) | apply And.intro | refine dZ ?_ | refine sZ ?_ | (refine Ret.go (hq) rfl rfl ?_) | (refine Ret.goQ (hq) rfl rfl ?_) | (refine Ret.go (hr) rfl rfl ?_) | (refine Ret.goQ (hr) rfl rfl ?_) | fail
     all_goals first | omega | ((conv => whnf); refine ⟨i + 1, by omega, ?_, by omega⟩; (refine ⟨rfl, [], ?_, ?_⟩; (repeat' first | apply And.intro | exact xZ | first | exact hn1.symm | exact hn2.symm | fail); done))
   · obtain rfl : i = hs.length := by omega
     repeat' (conv => whnf); first | (intro h; try exact nZ) | apply And.intro | refine dZ ?_ | refine sZ ?_ | fail
     all_goals first | omega | rfl
end
end Go.Proofs.YtglbamncajileaaGreatDoor
