/-
  Plain facts on columns. Premiums and reserves: what the functions return. Premiums by the program: what the functions return. No conditions but those in the statements.
-/
import Derived.Test.YtglbamncajileaaGreatDoorSe
import Derived.Test.YtglbamncajileaaGreatDoorMg
set_option linter.unusedVariables false
set_option linter.unusedSimpArgs false
set_option maxRecDepth 100000
set_option maxHeartbeats 4000000
namespace Go.Proofs.YtglbamncajileaaGreatDoor
open Go.AE
section
theorem disc_mono {r : Int} (hr : okR r) (k : Nat) : disc r (k + 1) ≤ disc r k := by
 have ih := disc_bd hr k
 rw [disc_next]
 refine Int.ediv_le_of_le_mul (by omega) ?_
 exact Int.mul_le_mul_of_nonneg_left (by omega) ih.1
theorem col_step {f : Int} {ls : List Int} {r x : Int} (ho : okT f ls) (hr : okR r) (hx : f ≤ x) : cC f ls r x + cD f ls r (x + 1) ≤ cD f ls r x := by
 have h1 := lv_bd ho x
 have h0 := cD_bd ho hr x
 unfold cC cD
 rw [show x + 1 - f = x - f + 1 by omega]
 by_cases h : x - f + 1 ≤ 120
 · rw [if_pos h, if_pos h, if_pos (by omega), show (x - f + 1).toNat = (x - f).toNat + 1 by omega]
   have hm := disc_mono hr (x - f).toNat
   rw [← Int.add_mul, show lv f ls x - lv f ls (x + 1) + lv f ls (x + 1) = lv f ls x by omega]
   exact Int.mul_le_mul_of_nonneg_left hm h1.1
 · rw [if_neg h, if_neg h]
   unfold cD at h0
   omega
theorem cD_mono {f : Int} {ls : List Int} {r x : Int} (ho : okT f ls) (hr : okR r) (hx : f ≤ x) : cD f ls r (x + 1) ≤ cD f ls r x := by
 have h1 := col_step ho hr hx
 have h2 := cC_bd ho hr hx
 omega
theorem cM_diff {f : Int} {ls : List Int} {r : Int} (ho : okT f ls) (hr : okR r) : ∀ (n : Nat) (x : Int), f ≤ x → x + n ≤ 151 → 0 ≤ cM f ls r x - cM f ls r (x + n) ∧ cM f ls r x - cM f ls r (x + n) + cD f ls r (x + n) ≤ cD f ls r x
 | 0, x, _, _ => by rw [show x + ((0 : Nat) : Int) = x by omega]; omega
 | n + 1, x, hx, hn => by
   have ih := cM_diff ho hr n (x + 1) (by omega) (by omega)
   rw [show x + 1 + (n : Int) = x + ((n + 1 : Nat) : Int) by omega] at ih
   have h1 := col_step ho hr hx
   have h2 := cC_bd ho hr hx
   have h3 := cM_step (f := f) (ls := ls) (r := r) (x := x) (by omega)
   omega
theorem cN_diff {f : Int} {ls : List Int} {r : Int} (ho : okT f ls) (hr : okR r) : ∀ (n : Nat) (x : Int), f ≤ x → x + n ≤ 151 → (0 ≤ cN f ls r x - cN f ls r (x + n) ∧ cN f ls r x - cN f ls r (x + n) ≤ n * cD f ls r x) ∧ (0 < n → cD f ls r x ≤ cN f ls r x - cN f ls r (x + n))
 | 0, x, _, _ => by rw [show x + ((0 : Nat) : Int) = x by omega]; simp
 | n + 1, x, hx, hn => by
   have ih := cN_diff ho hr n (x + 1) (by omega) (by omega)
   rw [show x + 1 + (n : Int) = x + ((n + 1 : Nat) : Int) by omega] at ih
   have h1 := cD_mono ho hr hx
   have h2 := cD_bd ho hr x
   have h3 := cN_step (f := f) (ls := ls) (r := r) (x := x) (by omega)
   have h4 : (n : Int) * cD f ls r (x + 1) ≤ n * cD f ls r x := Int.mul_le_mul_of_nonneg_left h1 (by omega)
   have h5 : ((n + 1 : Nat) : Int) * cD f ls r x = n * cD f ls r x + cD f ls r x := by rw [Int.natCast_add, Int.add_mul]; simp
   omega
theorem pt_bd {f : Int} {ls : List Int} {r k a y s l q : Int} (ho : okP f ls r k a y s l) (hq : 0 ≤ q ∧ q < dur f ls k a y) :
   (0 ≤ pTop f ls r k a y q ∧ pTop f ls r k a y q ≤ cD f ls r (a + q)) ∧ cD f ls r (a + q) ≤ pBase f ls r k a y q ∧ pBase f ls r k a y q ≤ 151 * cD f ls r (a + q) := by
 have h0 := ho.1.1.1
 have h1 := ho.2.1
 have hdb := dur_bd ho
 unfold hdT at h0
 unfold okA at h1
 have hd := cD_bd ho.1.1 ho.1.2 (a + q)
 by_cases hk : k = 0
 · have e1 : pTop f ls r k a y q = cM f ls r (a + q) := by unfold pTop top; rw [if_pos hk]
   have e2 : pBase f ls r k a y q = cN f ls r (a + q) := by unfold pBase base; rw [if_pos hk]
   have m := cM_diff ho.1.1 ho.1.2 (151 - (a + q)).toNat (a + q) (by omega) (by omega)
   have n := cN_diff ho.1.1 ho.1.2 (151 - (a + q)).toNat (a + q) (by omega) (by omega)
   rw [show a + q + ((151 - (a + q)).toNat : Int) = 151 by omega, cM_top] at m
   rw [show a + q + ((151 - (a + q)).toNat : Int) = 151 by omega, cN_top] at n
   have t := cD_bd ho.1.1 ho.1.2 151
   have hb : ((151 - (a + q)).toNat : Int) * cD f ls r (a + q) ≤ 151 * cD f ls r (a + q) := Int.mul_le_mul_of_nonneg_right (by omega) hd.1
   have hp := n.2 (by omega)
   rw [e1, e2]
   omega
 · have hq2 : q < y := by
     have := hq.2
     unfold dur at this
     rwa [if_neg hk] at this
   have m := cM_diff ho.1.1 ho.1.2 (y - q).toNat (a + q) (by omega) (by omega)
   have n := cN_diff ho.1.1 ho.1.2 (y - q).toNat (a + q) (by omega) (by omega)
   rw [show a + q + ((y - q).toNat : Int) = a + y by omega] at m n
   have t := cD_bd ho.1.1 ho.1.2 (a + y)
   have hb : ((y - q).toNat : Int) * cD f ls r (a + q) ≤ 151 * cD f ls r (a + q) := Int.mul_le_mul_of_nonneg_right (by omega) hd.1
   have hp := n.2 (by omega)
   have e2 : pBase f ls r k a y q = cN f ls r (a + q) - cN f ls r (a + y) := by unfold pBase base; rw [if_neg hk]
   rw [e2]
   refine ⟨?_, by omega, by omega⟩
   unfold pTop top
   rw [if_neg hk]
   split
   · omega
   · split <;> omega
end
section
attribute [local irreducible] CallA LoopA DrawA CallQ arithK quoK remK eqK
theorem dn_zero {g : Int → Int} {m : Nat} (h : ∀ j : Nat, j < m → g (150 - j) = 0) : dn g m = 0 := by
 induction m with
 | zero => rfl
 | succ m ih => rw [dn_next, ih fun j hj => h j (by omega), h m (by omega)]; rfl
theorem cD_end {f : Int} {ls : List Int} {r x : Int} (ho : okT f ls) (hx : f + ls.length - 1 ≤ x) : cD f ls r x = 0 := by
 unfold cD
 split
 · rw [lv_end ho hx, Int.zero_mul]
 · rfl
theorem cC_end {f : Int} {ls : List Int} {r x : Int} (ho : okT f ls) (hx : f + ls.length - 1 ≤ x) : cC f ls r x = 0 := by
 unfold cC
 split
 · rw [lv_end ho hx, lv_end ho (by omega)]; simp
 · rfl
theorem cN_end {f : Int} {ls : List Int} {r x : Int} (ho : okT f ls) (hx : f + ls.length - 1 ≤ x) : cN f ls r x = 0 := by
 unfold cN
 exact dn_zero fun j hj => cD_end ho (by omega)
theorem cM_end {f : Int} {ls : List Int} {r x : Int} (ho : okT f ls) (hx : f + ls.length - 1 ≤ x) : cM f ls r x = 0 := by
 unfold cM
 exact dn_zero fun j hj => cC_end ho (by omega)
theorem specC_ret (f : Int) (ls : List Int) (r x : Int) (ho : okT f ls) (hr : okR r) (hx : f ≤ x ∧ x ≤ 900) : Rt 297 [Tb f ls, I r, I x] (I (cC f ls r x)) := by
 refine bZ Tryz.func297 ?_
 have h0 := ho.1
 unfold hdT at h0
 have hCb := cC_bd ho hr hx.1
 have hl1 := lv_bd ho x
 have hl2 := lv_bd ho (x + 1)
 by_cases h1 : x - f + 1 ≤ 120
 · have hp : cC f ls r x = (lv f ls x - lv f ls (x + 1)) * disc r (x - f + 1).toNat := if_pos h1
   have hk : ((x - f + 1).toNat : Int) = x - f + 1 := by omega
   have hdc := specDisc_ret r (x - f + 1).toNat hr (by omega)
   rw [hk] at hdc
   by_cases hz : lv f ls x - lv f ls (x + 1) = 0
   · have hz2 : cC f ls r x = 0 := by rw [hp, hz, Int.zero_mul]
     repeat' (conv => whnf); first | (intro h; try exact nZ) | apply And.intro | refine dZ ?_ | refine sZ ?_ | (refine Ret.go (specLives_ret f ls _ ho (by omega)) rfl rfl ?_) | (refine Ret.goQ (specLives_ret f ls _ ho (by omega)) rfl rfl ?_) | (refine Ret.go (hdc) rfl rfl ?_) | (refine Ret.goQ (hdc) rfl rfl ?_) | fail
     all_goals first | omega | exact iv hz2.symm
   · repeat' (conv => whnf); first | (intro h; try exact nZ) | apply And.intro | refine dZ ?_ | refine sZ ?_ | (refine Ret.go (specLives_ret f ls _ ho (by omega)) rfl rfl ?_) | (refine Ret.goQ (specLives_ret f ls _ ho (by omega)) rfl rfl ?_) | (refine Ret.go (hdc) rfl rfl ?_) | (refine Ret.goQ (hdc) rfl rfl ?_) | fail
     all_goals first | omega | exact iv hp.symm
 · have hp : cC f ls r x = 0 := if_neg h1
   repeat' (conv => whnf); first | (intro h; try exact nZ) | apply And.intro | refine dZ ?_ | refine sZ ?_ | (refine Ret.go (specLives_ret f ls _ ho (by omega)) rfl rfl ?_) | (refine Ret.goQ (specLives_ret f ls _ ho (by omega)) rfl rfl ?_) | fail
   all_goals first | omega | exact iv hp.symm
attribute [local irreducible] cols cN cM cD cC
theorem specN_ret (f : Int) (ls : List Int) (r a : Int) (ho : okT f ls) (hr : okR r) (hx : f ≤ a ∧ a ≤ 151) : Rt 184 [Tb f ls, I r, I a] (I (cN f ls r a)) := by
 refine bZ Tryz.func184 ?_
 have h0 := ho.1
 unfold hdT at h0
 have hb := cN_bd ho hr (x := a) (by omega)
 repeat' (conv => whnf); first | (intro h; try exact nZ) | apply And.intro | refine dZ ?_ | refine sZ ?_ | fail
 refine loop_rule hT (fun x : Int => a ≤ x ∧ x ≤ 151) 23 1 [1, 2, 3, 7, 8] (fun x => [I r, I a, .ptr 0 0, I (cN f ls r a - cN f ls r x), I x]) (fun _ => [.cells [I f, Ri ls]]) (fun x => (151 - x).toNat) (a) (Nat.le_of_ble_eq_true rfl) ?_ ?_ ?_
 · exact ⟨Int.le_refl _, hx.2⟩
 · (refine ⟨rfl, [], ?_, ?_⟩; (repeat' first | apply And.intro | exact xZ | omega | fail); done)
 · rintro x ⟨h1, h2⟩
   have hbx := cN_bd ho hr (x := x) (by omega)
   by_cases he : x < f + ls.length - 1
   · have hs := cN_step (f := f) (ls := ls) (r := r) (x := x) (by omega)
     have hb1 := cN_bd ho hr (x := x + 1) (by omega)
     have hd := cD_bd ho hr x
     repeat' (conv => whnf); first | (intro h; try exact nZ) | apply And.intro | refine dZ ?_ | refine sZ ?_ | (refine Ret.go (specEnd_ret f ls ho) rfl rfl ?_) | (refine Ret.goQ (specEnd_ret f ls ho) rfl rfl ?_) | (refine Ret.go (specD_ret f ls r _ ho hr (by omega)) rfl rfl ?_) | (refine Ret.goQ (specD_ret f ls r _ ho hr (by omega)) rfl rfl ?_) | fail
     all_goals first | omega | ((conv => whnf); refine ⟨x + 1, by omega, ?_, by omega⟩; (refine ⟨rfl, [], ?_, ?_⟩; (repeat' first | apply And.intro | exact xZ | omega | fail); done))
   · have hz := cN_end (r := r) ho (x := x) (by omega)
     repeat' (conv => whnf); first | (intro h; try exact nZ) | apply And.intro | refine dZ ?_ | refine sZ ?_ | (refine Ret.go (specEnd_ret f ls ho) rfl rfl ?_) | (refine Ret.goQ (specEnd_ret f ls ho) rfl rfl ?_) | fail
     all_goals first | omega | (exact iv (by omega))
theorem specM_ret (f : Int) (ls : List Int) (r a : Int) (ho : okT f ls) (hr : okR r) (hx : f ≤ a ∧ a ≤ 151) : Rt 245 [Tb f ls, I r, I a] (I (cM f ls r a)) := by
 refine bZ Tryz.func245 ?_
 have h0 := ho.1
 unfold hdT at h0
 have hb := cM_bd ho hr (x := a) (by omega) hx.1
 repeat' (conv => whnf); first | (intro h; try exact nZ) | apply And.intro | refine dZ ?_ | refine sZ ?_ | fail
 refine loop_rule hT (fun x : Int => a ≤ x ∧ x ≤ 151) 23 1 [1, 2, 3, 7, 8] (fun x => [I r, I a, .ptr 0 0, I (cM f ls r a - cM f ls r x), I x]) (fun _ => [.cells [I f, Ri ls]]) (fun x => (151 - x).toNat) (a) (Nat.le_of_ble_eq_true rfl) ?_ ?_ ?_
 · exact ⟨Int.le_refl _, hx.2⟩
 · (refine ⟨rfl, [], ?_, ?_⟩; (repeat' first | apply And.intro | exact xZ | omega | fail); done)
 · rintro x ⟨h1, h2⟩
   have hbx := cM_bd ho hr (x := x) (by omega) (by omega)
   by_cases he : x < f + ls.length - 1
   · have hs := cM_step (f := f) (ls := ls) (r := r) (x := x) (by omega)
     have hb1 := cM_bd ho hr (x := x + 1) (by omega) (by omega)
     have hd := cC_bd ho hr (x := x) (by omega)
     repeat' (conv => whnf); first | (intro h; try exact nZ) | apply And.intro | refine dZ ?_ | refine sZ ?_ | (refine Ret.go (specEnd_ret f ls ho) rfl rfl ?_) | (refine Ret.goQ (specEnd_ret f ls ho) rfl rfl ?_) | (refine Ret.go (specC_ret f ls r _ ho hr (by omega)) rfl rfl ?_) | (refine Ret.goQ (specC_ret f ls r _ ho hr (by omega)) rfl rfl ?_) | fail
     all_goals first | omega | ((conv => whnf); refine ⟨x + 1, by omega, ?_, by omega⟩; (refine ⟨rfl, [], ?_, ?_⟩; (repeat' first | apply And.intro | exact xZ | omega | fail); done))
   · have hz := cM_end (r := r) ho (x := x) (by omega)
     repeat' (conv => whnf); first | (intro h; try exact nZ) | apply And.intro | refine dZ ?_ | refine sZ ?_ | (refine Ret.go (specEnd_ret f ls ho) rfl rfl ?_) | (refine Ret.goQ (specEnd_ret f ls ho) rfl rfl ?_) | fail
     all_goals first | omega | (exact iv (by omega))
theorem specTop_ret (f : Int) (ls : List Int) (r k a n : Int) (hb : okB f ls r) (ha : f ≤ a ∧ a ≤ 151) (hn : 0 ≤ n) (hn2 : k ≠ 0 → a + n ≤ 151) : Rt 185 [Tb f ls, I r, I k, I a, I n] (I (top k (cM f ls r a) (cM f ls r (a + n)) (cD f ls r (a + n)))) := by
 refine bZ Tryz.func185 ?_
 have h0 := hb.1.1
 unfold hdT at h0
 have c1 := inC_all hb (x := a) ha.1
 have c2 := inC_all hb (x := a + n) (by omega)
 obtain ⟨c11, c12, c13⟩ := c1
 obtain ⟨c21, c22, c23⟩ := c2
 unfold top
 by_cases hk : k = 0
 · rw [if_pos hk]
   repeat' (conv => whnf); first | (intro h; try exact nZ) | apply And.intro | refine dZ ?_ | refine sZ ?_ | (refine Ret.go (specM_ret f ls r _ hb.1 hb.2 (by omega)) rfl rfl ?_) | (refine Ret.goQ (specM_ret f ls r _ hb.1 hb.2 (by omega)) rfl rfl ?_) | (refine Ret.go (specD_ret f ls r _ hb.1 hb.2 (by omega)) rfl rfl ?_) | (refine Ret.goQ (specD_ret f ls r _ hb.1 hb.2 (by omega)) rfl rfl ?_) | fail
   all_goals first | exact rZ
 · have hn3 := hn2 hk
   rw [if_neg hk]
   by_cases hk1 : k = 1
   · rw [if_pos hk1]
     repeat' (conv => whnf); first | (intro h; try exact nZ) | apply And.intro | refine dZ ?_ | refine sZ ?_ | (refine Ret.go (specM_ret f ls r _ hb.1 hb.2 (by omega)) rfl rfl ?_) | (refine Ret.goQ (specM_ret f ls r _ hb.1 hb.2 (by omega)) rfl rfl ?_) | (refine Ret.go (specD_ret f ls r _ hb.1 hb.2 (by omega)) rfl rfl ?_) | (refine Ret.goQ (specD_ret f ls r _ hb.1 hb.2 (by omega)) rfl rfl ?_) | fail
     all_goals first | exact rZ
   · rw [if_neg hk1]
     by_cases hk2 : k = 2
     · rw [if_pos hk2]
       repeat' (conv => whnf); first | (intro h; try exact nZ) | apply And.intro | refine dZ ?_ | refine sZ ?_ | (refine Ret.go (specM_ret f ls r _ hb.1 hb.2 (by omega)) rfl rfl ?_) | (refine Ret.goQ (specM_ret f ls r _ hb.1 hb.2 (by omega)) rfl rfl ?_) | (refine Ret.go (specD_ret f ls r _ hb.1 hb.2 (by omega)) rfl rfl ?_) | (refine Ret.goQ (specD_ret f ls r _ hb.1 hb.2 (by omega)) rfl rfl ?_) | fail
       all_goals first | exact rZ
     · rw [if_neg hk2]
       repeat' (conv => whnf); first | (intro h; try exact nZ) | apply And.intro | refine dZ ?_ | refine sZ ?_ | (refine Ret.go (specM_ret f ls r _ hb.1 hb.2 (by omega)) rfl rfl ?_) | (refine Ret.goQ (specM_ret f ls r _ hb.1 hb.2 (by omega)) rfl rfl ?_) | (refine Ret.go (specD_ret f ls r _ hb.1 hb.2 (by omega)) rfl rfl ?_) | (refine Ret.goQ (specD_ret f ls r _ hb.1 hb.2 (by omega)) rfl rfl ?_) | fail
       all_goals first | exact rZ
theorem specBase_ret (f : Int) (ls : List Int) (r k a n : Int) (hb : okB f ls r) (ha : f ≤ a ∧ a ≤ 151) (hn : 0 ≤ n) (hn2 : k ≠ 0 → a + n ≤ 151) : Rt 294 [Tb f ls, I r, I k, I a, I n] (I (base k (cN f ls r a) (cN f ls r (a + n)))) := by
 refine bZ Tryz.func294 ?_
 have h0 := hb.1.1
 unfold hdT at h0
 have c1 := inC_all hb (x := a) ha.1
 have c2 := inC_all hb (x := a + n) (by omega)
 obtain ⟨c11, c12, c13⟩ := c1
 obtain ⟨c21, c22, c23⟩ := c2
 unfold base
 by_cases hk : k = 0
 · rw [if_pos hk]
   repeat' (conv => whnf); first | (intro h; try exact nZ) | apply And.intro | refine dZ ?_ | refine sZ ?_ | (refine Ret.go (specN_ret f ls r _ hb.1 hb.2 (by omega)) rfl rfl ?_) | (refine Ret.goQ (specN_ret f ls r _ hb.1 hb.2 (by omega)) rfl rfl ?_) | fail
   all_goals first | exact rZ
 · have hn3 := hn2 hk
   rw [if_neg hk]
   repeat' (conv => whnf); first | (intro h; try exact nZ) | apply And.intro | refine dZ ?_ | refine sZ ?_ | (refine Ret.go (specN_ret f ls r _ hb.1 hb.2 (by omega)) rfl rfl ?_) | (refine Ret.goQ (specN_ret f ls r _ hb.1 hb.2 (by omega)) rfl rfl ?_) | fail
   all_goals first | exact rZ
theorem pTop_zero (f : Int) (ls : List Int) (r k a y : Int) : pTop f ls r k a y 0 = top k (cM f ls r a) (cM f ls r (a + y)) (cD f ls r (a + y)) := by unfold pTop; rw [Int.add_zero]
theorem pBase_zero (f : Int) (ls : List Int) (r k a y : Int) : pBase f ls r k a y 0 = base k (cN f ls r a) (cN f ls r (a + y)) := by unfold pBase; rw [Int.add_zero]
def netP (f : Int) (ls : List Int) (r k a y s : Int) : Int := cdiv (s * pTop f ls r k a y 0) (pBase f ls r k a y 0)
def offP (f : Int) (ls : List Int) (r k a y s l : Int) : Int := netP f ls r k a y s + cdiv (netP f ls r k a y s * l) 1000
theorem dur_pos {f : Int} {ls : List Int} {r k a y s l : Int} (ho : okP f ls r k a y s l) : 0 < dur f ls k a y ∧ 1 ≤ cD f ls r a := by
 have hd := ho.2.2.2 0 (by omega)
 rw [show a + ((0 : Nat) : Int) = a by omega] at hd
 have hd0 := cD_bd ho.1.1 ho.1.2 a
 have h1 := ho.2.1
 unfold okA at h1
 refine ⟨?_, by omega⟩
 unfold dur
 split
 · by_cases he : f + ls.length - 1 ≤ a
   · exact absurd (cD_end ho.1.1 he) hd
   · omega
 · omega
theorem net_MD {f : Int} {ls : List Int} {r k a y s l : Int} (ho : okP f ls r k a y s l) : MD s (pTop f ls r k a y 0) (pBase f ls r k a y 0) ∧ (0 ≤ netP f ls r k a y s ∧ netP f ls r k a y s ≤ s) ∧ 1 ≤ s ∧ s ≤ 100000000 := by
 have hp := dur_pos ho
 have hb := pt_bd ho (q := 0) ⟨Int.le_refl _, hp.1⟩
 rw [Int.add_zero] at hb
 have hd := cD_bd ho.1.1 ho.1.2 a
 have h1 := ho.2.1
 unfold okA at h1
 exact ⟨⟨by omega, by omega, by omega, by omega⟩, cdiv_le (by omega) (by omega) (by omega) (by omega), by omega, by omega⟩
attribute [local irreducible] pTop pBase netP
end
section
attribute [local irreducible] CallA LoopA DrawA CallQ arithK quoK remK eqK
attribute [local irreducible] cols cN cM cD cC pTop pBase netP top base
theorem checkAss_ret (f : Int) (ls : List Int) (r k a y s l : Int) (ho : okP f ls r k a y s l) : Rt 205 [Tb f ls, I r, I k, I a, I y, I s] (.tup [.agg [I (pTop f ls r k a y 0), I (cD f ls r a), I (pBase f ls r k a y 0)], I 0]) := by
 refine bZ Tryz.func205 ?_
 have h0 := ho.1.1.1
 have h1 := ho.2.1
 have hp := dur_pos ho
 have hT1 := ho.1.1
 have hA := ho.2.1
 unfold hdT at h0
 unfold okA at h1
 have c1 := inC_all ho.1 (x := a) (by omega)
 have c2 := inC_all ho.1 (x := a + y) (by omega)
 have hl := cols_len f ls r
 have hca := cols_at (ls := ls) (r := r) (f := f) (x := a) (by omega) (by omega)
 have hcb := cols_at (ls := ls) (r := r) (f := f) (x := a + y) (by omega) (by omega)
 have n0 : ((cols f ls r).getD (a - f).toNat []).getD 0 0 = cD f ls r a := by rw [hca]; rfl
 have n1 : ((cols f ls r).getD (a - f).toNat []).getD 1 0 = cN f ls r a := by rw [hca]; rfl
 have n2 : ((cols f ls r).getD (a - f).toNat []).getD 2 0 = cC f ls r a := by rw [hca]; rfl
 have n3 : ((cols f ls r).getD (a - f).toNat []).getD 3 0 = cM f ls r a := by rw [hca]; rfl
 have m0 : ((cols f ls r).getD (a + y - f).toNat []).getD 0 0 = cD f ls r (a + y) := by rw [hcb]; rfl
 have m1 : ((cols f ls r).getD (a + y - f).toNat []).getD 1 0 = cN f ls r (a + y) := by rw [hcb]; rfl
 have m2 : ((cols f ls r).getD (a + y - f).toNat []).getD 2 0 = cC f ls r (a + y) := by rw [hcb]; rfl
 have m3 : ((cols f ls r).getD (a + y - f).toNat []).getD 3 0 = cM f ls r (a + y) := by rw [hcb]; rfl
 rw [pTop_zero, pBase_zero]
 have b1 := c1.1
 have b2 := c1.2.1
 rw [← n1] at b1
 rw [← n3] at b2
 have b3 := c2.1
 have b4 := c2.2.1
 have b5 := c2.2.2
 rw [← m1] at b3
 rw [← m3] at b4
 rw [← m0] at b5
 have hbn := benefits_ret k (((cols f ls r).getD (a - f).toNat []).getD 0 0) (((cols f ls r).getD (a - f).toNat []).getD 1 0) (((cols f ls r).getD (a - f).toNat []).getD 2 0) (((cols f ls r).getD (a - f).toNat []).getD 3 0) (((cols f ls r).getD (a + y - f).toNat []).getD 0 0) (((cols f ls r).getD (a + y - f).toNat []).getD 1 0) (((cols f ls r).getD (a + y - f).toNat []).getD 2 0) (((cols f ls r).getD (a + y - f).toNat []).getD 3 0) ⟨b1, b2⟩ ⟨b3, b4, b5⟩
 repeat' (conv => whnf); first | (intro h; try exact nZ) | apply And.intro | refine dZ ?_ | refine sZ ?_ | (refine Ret.goP (implTable_ret f ls (by omega)) rfl ?_) | (refine Ret.goQP (implTable_ret f ls (by omega)) rfl ?_) | (refine Ret.goP (implAssurance_ret f ls r k a y s (by omega)) rfl ?_) | (refine Ret.goQP (implAssurance_ret f ls r k a y s (by omega)) rfl ?_) | refine gZ [] (columns_ro f ls r ho.1.1 ho.1.2) ?_ | (refine Ret.go (hbn) rfl rfl ?_) | (refine Ret.goQ (hbn) rfl rfl ?_) | fail
 all_goals first | omega | (show _ < _; omega) | exact absurd hT1 ‹_› | exact absurd (And.intro ho.1.2 hA : okR r ∧ okA f k a y s) ‹_› | skip
 all_goals first | ((conv => whnf); rw [n0, n1, n3, m0, m1, m3]; rfl) | ((conv => whnf); rw [n0, n1, n3, m0, m1, m3]; done)
theorem level_ret (f : Int) (ls : List Int) (r k a y s l : Int) (ho : okP f ls r k a y s l) : Rt 273 [Tb f ls, I r, I k, I a, I y, I s] (.tup [I (netP f ls r k a y s), I 0]) := by
 refine bZ Tryz.func273 ?_
 have hm := net_MD ho
 have hp := priced_ret s (pTop f ls r k a y 0) (pBase f ls r k a y 0) hm.1
 have he : cdiv (s * pTop f ls r k a y 0) (pBase f ls r k a y 0) = netP f ls r k a y s := by unfold netP; rfl
 rw [he] at hp
 repeat' (conv => whnf); first | (intro h; try exact nZ) | apply And.intro | refine dZ ?_ | refine sZ ?_ | (refine Ret.go (checkAss_ret f ls r k a y s l ho) rfl rfl ?_) | (refine Ret.goQ (checkAss_ret f ls r k a y s l ho) rfl rfl ?_) | (refine Ret.go (hp) rfl rfl ?_) | (refine Ret.goQ (hp) rfl rfl ?_) | fail
 all_goals first | exact rZ
theorem net_ret (f : Int) (ls : List Int) (r k a y s l : Int) (ho : okP f ls r k a y s l) : Rt 211 [Bs f ls r, Po k a y s l] (I (netP f ls r k a y s)) := by
 refine bZ Tryz.func211 ?_
 repeat' (conv => whnf); first | (intro h; try exact nZ) | apply And.intro | refine dZ ?_ | refine sZ ?_ | (refine Ret.go (level_ret f ls r k a y s l ho) rfl rfl ?_) | (refine Ret.goQ (level_ret f ls r k a y s l ho) rfl rfl ?_) | fail
 all_goals first | exact rZ
theorem tdiv_neg' {a b : Int} (ha : 0 ≤ a) : (0 - a).tdiv b = -(a / b) := by
 rw [Int.zero_sub, Int.neg_tdiv, Int.tdiv_eq_ediv_of_nonneg ha]
theorem tmod_neg' {a b : Int} (ha : 0 ≤ a) : (0 - a).tmod b = -(a % b) := by
 rw [Int.zero_sub, Int.neg_tmod, Int.tmod_eq_emod_of_nonneg ha]
theorem quov {k : IntKind} {a b v : Int} {K : Value → Prop} (hb : b ≠ 0) (h : k.wrap (a.tdiv b) = v) (hk : K (.int k v)) : quoK k a b K := quo_any hb fun n _ h2 => by rw [h2, h]; exact hk
theorem remv {k : IntKind} {a b v : Int} {K : Value → Prop} (hb : b ≠ 0) (h : a.tmod b = v) (hk : K (.int k v)) : remK k a b K := rem_any hb fun n _ h2 => by rw [h2, h]; exact hk
theorem down_ret (a b : Int) (ha : 0 ≤ a ∧ a ≤ 1000000000000000000) (hb : 1 ≤ b ∧ b ≤ 1000000000000000000) : Rt 276 [I (0 - a), I b] (I (-(cdiv a b))) := by
 refine bZ Tryz.func276 ?_
 have hf := floor_spec (x := a) (d := b) (by omega)
 have hq0 : 0 ≤ a / b := Int.ediv_nonneg ha.1 (by omega)
 have hq1 : a / b ≤ a := Int.ediv_le_self _ ha.1
 have h1 : IntKind.i64.wrap ((0 - a).tdiv b) = -(a / b) := by rw [tdiv_neg' ha.1, IntKind.wrap_i64]; omega
 have h2 := tmod_neg' (b := b) ha.1
 unfold cdiv
 by_cases hz : a % b = 0
 · rw [if_pos hz]
   repeat' (conv => whnf); first | (intro h; try exact nZ) | apply And.intro | refine dZ ?_ | refine sZ ?_ | (refine quov (by omega) h1 ?_) | (refine remv (by omega) h2 ?_) | fail
   all_goals first | exact rZ | (refine iv ?_; omega)
 · rw [if_neg hz]
   repeat' (conv => whnf); first | (intro h; try exact nZ) | apply And.intro | refine dZ ?_ | refine sZ ?_ | (refine quov (by omega) h1 ?_) | (refine remv (by omega) h2 ?_) | fail
   all_goals first | exact rZ | (refine iv ?_; omega)
theorem up_ret (a b : Int) (ha : 0 ≤ a ∧ a ≤ 1000000000000000000) (hb : 1 ≤ b ∧ b ≤ 1000000000000000000) : Rt 214 [I a, I b] (I (cdiv a b)) := by
 refine bZ Tryz.func214 ?_
 have hf := floor_spec (x := a) (d := b) (by omega)
 have hq0 : 0 ≤ a / b := Int.ediv_nonneg ha.1 (by omega)
 have hq1 : a / b ≤ a := Int.ediv_le_self _ ha.1
 have hc : 0 ≤ cdiv a b ∧ cdiv a b ≤ a / b + 1 := by unfold cdiv; split <;> omega
 repeat' (conv => whnf); first | (intro h; try exact nZ) | apply And.intro | refine dZ ?_ | refine sZ ?_ | (refine Ret.go (down_ret a b ha hb) rfl rfl ?_) | (refine Ret.goQ (down_ret a b ha hb) rfl rfl ?_) | fail
 all_goals first | exact rZ | (refine iv ?_; omega)
theorem sdown_ret (a b : Int) (ha : 0 ≤ a ∧ a ≤ 1000000000000000000) (hb : 1 ≤ b ∧ b ≤ 1000000000000000000) : Rt 295 [I (0 - a), I b] (I (-(cdiv a b))) := by
 refine bZ Tryz.func295 ?_
 have hf := floor_spec (x := a) (d := b) (by omega)
 have hq0 : 0 ≤ a / b := Int.ediv_nonneg ha.1 (by omega)
 have hq1 : a / b ≤ a := Int.ediv_le_self _ ha.1
 have h1 : IntKind.i64.wrap ((0 - a).tdiv b) = -(a / b) := by rw [tdiv_neg' ha.1, IntKind.wrap_i64]; omega
 have h2 := tmod_neg' (b := b) ha.1
 unfold cdiv
 by_cases hz : a % b = 0
 · rw [if_pos hz]
   repeat' (conv => whnf); first | (intro h; try exact nZ) | apply And.intro | refine dZ ?_ | refine sZ ?_ | (refine quov (by omega) h1 ?_) | (refine remv (by omega) h2 ?_) | fail
   all_goals first | exact rZ | (refine iv ?_; omega)
 · rw [if_neg hz]
   repeat' (conv => whnf); first | (intro h; try exact nZ) | apply And.intro | refine dZ ?_ | refine sZ ?_ | (refine quov (by omega) h1 ?_) | (refine remv (by omega) h2 ?_) | fail
   all_goals first | exact rZ | (refine iv ?_; omega)
theorem sup_ret (a b : Int) (ha : 0 ≤ a ∧ a ≤ 1000000000000000000) (hb : 1 ≤ b ∧ b ≤ 1000000000000000000) : Rt 242 [I a, I b] (I (cdiv a b)) := by
 refine bZ Tryz.func242 ?_
 have hf := floor_spec (x := a) (d := b) (by omega)
 have hq0 : 0 ≤ a / b := Int.ediv_nonneg ha.1 (by omega)
 have hq1 : a / b ≤ a := Int.ediv_le_self _ ha.1
 have hc : 0 ≤ cdiv a b ∧ cdiv a b ≤ a / b + 1 := by unfold cdiv; split <;> omega
 repeat' (conv => whnf); first | (intro h; try exact nZ) | apply And.intro | refine dZ ?_ | refine sZ ?_ | (refine Ret.go (sdown_ret a b ha hb) rfl rfl ?_) | (refine Ret.goQ (sdown_ret a b ha hb) rfl rfl ?_) | fail
 all_goals first | exact rZ | (refine iv ?_; omega)
theorem off_bd {n l : Int} (hn : 0 ≤ n ∧ n ≤ 100000000) (hl : 0 ≤ l ∧ l ≤ 1000) : (0 ≤ n * l ∧ n * l ≤ 100000000000) ∧ 0 ≤ cdiv (n * l) 1000 ∧ cdiv (n * l) 1000 ≤ n := ⟨mul_in hn.1 hn.2 hl.1 hl.2, cdiv_le hn.1 hl.1 hl.2 (by decide)⟩
theorem office_ret (f : Int) (ls : List Int) (r k a y s l : Int) (ho : okP f ls r k a y s l) : Rt 265 [Bs f ls r, Po k a y s l] (I (offP f ls r k a y s l)) := by
 refine bZ Tryz.func265 ?_
 have hm := net_MD ho
 have hl := ho.2.2.1
 have hb := off_bd (n := netP f ls r k a y s) (l := l) (by omega) hl
 have hu := up_ret (netP f ls r k a y s * l) 1000 (by omega) (by omega)
 repeat' (conv => whnf); first | (intro h; try exact nZ) | apply And.intro | refine dZ ?_ | refine sZ ?_ | (refine Ret.go (net_ret f ls r k a y s l ho) rfl rfl ?_) | (refine Ret.goQ (net_ret f ls r k a y s l ho) rfl rfl ?_) | (refine Ret.go (hu) rfl rfl ?_) | (refine Ret.goQ (hu) rfl rfl ?_) | fail
 all_goals first | exact rZ | (unfold offP; rfl)
theorem specLevel_ret (f : Int) (ls : List Int) (r k a y s l : Int) (ho : okP f ls r k a y s l) : Rt 241 [Tb f ls, I r, I k, I a, I y, I s] (I (netP f ls r k a y s)) := by
 refine bZ Tryz.func241 ?_
 have h1 := ho.2.1
 unfold okA at h1
 have hm := net_MD ho
 have ht := specTop_ret f ls r k a y ho.1 (by omega) (by omega) (by omega)
 have hb := specBase_ret f ls r k a y ho.1 (by omega) (by omega) (by omega)
 rw [← pTop_zero] at ht
 rw [← pBase_zero] at hb
 have hp := specUp5_ret s (pTop f ls r k a y 0) (pBase f ls r k a y 0) hm.1
 have he : cdiv (s * pTop f ls r k a y 0) (pBase f ls r k a y 0) = netP f ls r k a y s := by unfold netP; rfl
 rw [he] at hp
 repeat' (conv => whnf); first | (intro h; try exact nZ) | apply And.intro | refine dZ ?_ | refine sZ ?_ | (refine Ret.go (ht) rfl rfl ?_) | (refine Ret.goQ (ht) rfl rfl ?_) | (refine Ret.go (hb) rfl rfl ?_) | (refine Ret.goQ (hb) rfl rfl ?_) | (refine Ret.go (hp) rfl rfl ?_) | (refine Ret.goQ (hp) rfl rfl ?_) | fail
 all_goals first | exact rZ
theorem specNet_ret (f : Int) (ls : List Int) (r k a y s l : Int) (ho : okP f ls r k a y s l) : Rt 175 [Bs f ls r, Po k a y s l] (I (netP f ls r k a y s)) := by
 refine bZ Tryz.func175 ?_
 repeat' (conv => whnf); first | (intro h; try exact nZ) | apply And.intro | refine dZ ?_ | refine sZ ?_ | (refine Ret.go (specLevel_ret f ls r k a y s l ho) rfl rfl ?_) | (refine Ret.goQ (specLevel_ret f ls r k a y s l ho) rfl rfl ?_) | fail
 all_goals first | exact rZ
theorem specOffice_ret (f : Int) (ls : List Int) (r k a y s l : Int) (ho : okP f ls r k a y s l) : Rt 176 [Bs f ls r, Po k a y s l] (I (offP f ls r k a y s l)) := by
 refine bZ Tryz.func176 ?_
 have hm := net_MD ho
 have hl := ho.2.2.1
 have hb := off_bd (n := netP f ls r k a y s) (l := l) (by omega) hl
 have hu := sup_ret (netP f ls r k a y s * l) 1000 (by omega) (by omega)
 repeat' (conv => whnf); first | (intro h; try exact nZ) | apply And.intro | refine dZ ?_ | refine sZ ?_ | (refine Ret.go (specNet_ret f ls r k a y s l ho) rfl rfl ?_) | (refine Ret.goQ (specNet_ret f ls r k a y s l ho) rfl rfl ?_) | (refine Ret.go (hu) rfl rfl ?_) | (refine Ret.goQ (hu) rfl rfl ?_) | fail
 all_goals first | exact rZ | (unfold offP; rfl)
end
end Go.Proofs.YtglbamncajileaaGreatDoor
