/-
  Shares of an amount by largest rests: the order of the rests is one, and what is left over is less than the number of shares. Plain facts. Shares of an amount, by the program and by the reference: what the functions return. No conditions but those in the statements.
-/
import Derived.Test.YtglbamncajileaaGreatDoorSyf
import Derived.Test.YtglbamncajileaaGreatDoorMk
import Derived.Test.YtglbamncajileaaGreatDoorSyi
set_option linter.unusedVariables false
set_option linter.unusedSimpArgs false
set_option maxRecDepth 100000
set_option maxHeartbeats 4000000
namespace Go.Proofs.YtglbamncajileaaGreatDoor
open Go.AE
section
theorem Ord.at_mem {rs e : List Int} (h : Ord rs e) {k : Nat} (hk : k < e.length) : 0 ≤ nt e k ∧ nt e k < rs.length := (h.mem _).1 (getD_mem hk)
theorem Ord.uniq {rs e e' : List Int} (h : Ord rs e) (h' : Ord rs e') : e = e' := by
 have hl : e.length = e'.length := h.len.trans h'.len.symm
 have hpre : ∀ k, k ≤ e.length → ∀ i, i < k → nt e i = nt e' i := by
   intro k
   induction k with
   | zero => intro _ i hi; omega
   | succ k ih =>
     intro hk i hi
     have ihk := ih (by omega)
     by_cases hik : i < k
     · exact ihk i hik
     · obtain rfl : i = k := by omega
       obtain ⟨p, hp, hpe⟩ := List.getElem_of_mem ((h.mem _).2 (h'.at_mem (k := i) (by omega)))
       obtain ⟨q, hq, hqe⟩ := List.getElem_of_mem ((h'.mem _).2 (h.at_mem (k := i) (by omega)))
       have hpe : nt e p = nt e' i := by rw [nt_get hp]; exact hpe
       have hqe : nt e' q = nt e i := by rw [nt_get hq]; exact hqe
       rcases Nat.lt_trichotomy p i with c | c | c
       · have := ihk p c
         exact absurd (this.symm.trans hpe) (h'.ne c (by omega))
       · rw [← hpe, c]
       · rcases Nat.lt_trichotomy q i with d | d | d
         · have := ihk q d
           exact absurd (this.trans hqe) (h.ne d (by omega))
         · rw [← hqe, d]
         · have l1 := h.srt i p (Nat.zero_le _) c hp
           have l2 := h'.srt i q (Nat.zero_le _) d hq
           rw [hpe] at l1
           rw [hqe] at l2
           unfold Lf at l1 l2
           omega
 refine List.ext_getElem hl fun i h1 h2 => ?_
 have := hpre e.length (Nat.le_refl _) i h1
 rw [nt_get h1, nt_get h2] at this
 exact this
def leO (rs : List Int) (x y : Int) : Bool := decide (nt rs y.toNat < nt rs x.toNat ∨ (nt rs x.toNat = nt rs y.toNat ∧ x ≤ y))
def oE (rs : List Int) : List Int := (marks rs.length 0).mergeSort (leO rs)
theorem marks_mem {n : Nat} {x : Int} : x ∈ marks n 0 ↔ 0 ≤ x ∧ x < n := by
 unfold marks
 simp only [List.mem_map, List.mem_range]
 constructor
 · rintro ⟨i, hi, rfl⟩; omega
 · rintro ⟨h1, h2⟩; exact ⟨x.toNat, by omega, by omega⟩
theorem marks_up {n i j : Nat} (hij : i < j) (hj : j < n) : nt (marks n 0) i < nt (marks n 0) j := by
 show (marks n 0).getD i 0 < (marks n 0).getD j 0
 rw [marks_get (by omega), marks_get hj]
 omega
theorem marks_nodup (n : Nat) : (marks n 0).Nodup := by
 refine List.pairwise_iff_getElem.2 fun i j hi hj hij => ?_
 have hj' : j < n := by rw [marks_len] at hj; exact hj
 have := marks_up hij hj'
 rw [nt_get hi, nt_get hj] at this
 omega
theorem oE_ord (rs : List Int) : Ord rs (oE rs) := by
 have hp : (oE rs).Perm (marks rs.length 0) := List.mergeSort_perm _ _
 have hs : (oE rs).Pairwise fun x y => leO rs x y = true := List.pairwise_mergeSort (fun a b c h1 h2 => by unfold leO at *; simp only [decide_eq_true_eq] at *; omega) (fun a b => by unfold leO; simp only [Bool.or_eq_true, decide_eq_true_eq]; omega) _
 have hn : (oE rs).Nodup := hp.nodup_iff.2 (marks_nodup _)
 refine ⟨by rw [hp.length_eq, marks_len], fun x => by rw [hp.mem_iff, marks_mem], fun i j _ hij hj => ?_⟩
 have h1 := List.pairwise_iff_getElem.1 hs i j (by omega) hj hij
 have h2 := List.pairwise_iff_getElem.1 hn i j (by omega) hj hij
 rw [← nt_get, ← nt_get] at h1 h2
 unfold leO at h1
 simp only [decide_eq_true_eq] at h1
 unfold Lf
 dsimp only
 omega
theorem ord_of {rs e : List Int} (hm : Mv 0 rs.length (marks rs.length 0) e) (hs : Srt (fun x => nt rs x.toNat) e 0 rs.length) : Ord rs e :=
 ⟨by rw [hm.len, marks_len], fun x => by rw [hm.perm.mem_iff, marks_mem], by rw [hm.len, marks_len]; exact hs⟩
structure ShQ (A : Int) (ws : List Int) : Prop where
 hA : 0 ≤ A ∧ A ≤ 1000000000
 hl : ws.length ≤ 30
 hw : ∀ x ∈ ws, 0 ≤ x ∧ x ≤ 1000000000
 hs : 1 ≤ sumX ws ws.length
abbrev tS (ws : List Int) : Int := sumX ws ws.length
def qsL (A : Int) (ws : List Int) : List Int := ws.map fun w => A * w / tS ws
def rsL (A : Int) (ws : List Int) : List Int := ws.map fun w => A * w % tS ws
theorem qsL_len (A : Int) (ws : List Int) : (qsL A ws).length = ws.length := List.length_map _
theorem rsL_len (A : Int) (ws : List Int) : (rsL A ws).length = ws.length := List.length_map _
theorem qsL_at {A : Int} {ws : List Int} {i : Nat} (h : i < ws.length) : (qsL A ws).getD i 0 = A * ws.getD i 0 / tS ws := by
 rw [List.getD_eq_getElem?_getD, qsL, List.getElem?_map, List.getD_eq_getElem?_getD, List.getElem?_eq_getElem h]; rfl
theorem rsL_at {A : Int} {ws : List Int} {i : Nat} (h : i < ws.length) : (rsL A ws).getD i 0 = A * ws.getD i 0 % tS ws := by
 rw [List.getD_eq_getElem?_getD, rsL, List.getElem?_map, List.getD_eq_getElem?_getD, List.getElem?_eq_getElem h]; rfl
theorem sumX_zero (xs : List Int) : sumX xs 0 = 0 := rfl
theorem ShQ.at_ {A : Int} {ws : List Int} (h : ShQ A ws) {i : Nat} (hi : i < ws.length) : (0 ≤ ws.getD i 0 ∧ ws.getD i 0 ≤ 1000000000) ∧ (0 ≤ A * ws.getD i 0 ∧ A * ws.getD i 0 ≤ 1000000000000000000) ∧ (0 ≤ A * ws.getD i 0 / tS ws ∧ A * ws.getD i 0 / tS ws ≤ 1000000000000000000) ∧ 0 ≤ A * ws.getD i 0 % tS ws ∧ A * ws.getD i 0 % tS ws < tS ws := by
 have h1 := h.hw _ (getD_mem (d := (0 : Int)) hi)
 have h2 := mul_in h.hA.1 h.hA.2 h1.1 h1.2
 have h3 : 1 ≤ tS ws := h.hs
 refine ⟨h1, by omega, ⟨Int.ediv_nonneg h2.1 (by omega), ?_⟩, Int.emod_nonneg _ (by omega), Int.emod_lt_of_pos _ (by omega)⟩
 have := Int.ediv_le_self (tS ws) h2.1
 omega
theorem sum_split {A : Int} {ws : List Int} (h : ShQ A ws) : ∀ i, i ≤ ws.length → sumX (qsL A ws) i * tS ws + sumX (rsL A ws) i = A * sumX ws i ∧ 0 ≤ sumX (rsL A ws) i ∧ sumX (rsL A ws) i ≤ i * (tS ws - 1)
 | 0, _ => by simp [sumX_zero]
 | i + 1, hi => by
   obtain ⟨h1, h2, h3⟩ := sum_split h i (by omega)
   obtain ⟨-, -, -, a4, a5⟩ := h.at_ (i := i) (by omega)
   have hf := Int.mul_ediv_add_emod (A * ws.getD i 0) (tS ws)
   rw [sumX_next, sumX_next, sumX_next, qsL_at (by omega), rsL_at (by omega), Int.add_mul, Int.mul_add, Int.mul_comm (A * ws.getD i 0 / tS ws)]
   have e : ((i + 1 : Nat) : Int) * (tS ws - 1) = (i : Int) * (tS ws - 1) + (tS ws - 1) := by rw [Int.natCast_add, Int.add_mul]; simp
   refine ⟨by omega, by omega, by rw [e]; omega⟩
def lft (A : Int) (ws : List Int) : Int := A - sumX (qsL A ws) ws.length
theorem lft_bd {A : Int} {ws : List Int} (h : ShQ A ws) : 0 ≤ lft A ws ∧ lft A ws ≤ ws.length ∧ 0 < ws.length := by
 obtain ⟨h1, h2, h3⟩ := sum_split h ws.length (Nat.le_refl _)
 have hs : 1 ≤ tS ws := h.hs
 have e : lft A ws * tS ws = sumX (rsL A ws) ws.length := by
   unfold lft
   rw [Int.sub_mul]
   have : A * sumX ws ws.length = A * tS ws := rfl
   omega
 have hp : 0 < ws.length := Nat.pos_of_ne_zero fun e0 => by rw [show tS ws = 0 by rw [List.length_eq_zero_iff.1 e0]; rfl] at hs; omega
 refine ⟨?_, ?_, hp⟩
 · refine Int.not_lt.1 fun hn => ?_
   have : lft A ws * tS ws ≤ (-1) * tS ws := Int.mul_le_mul_of_nonneg_right (by omega) (by omega)
   omega
 · refine Int.not_lt.1 fun hn => ?_
   have h4 : ((ws.length : Int) + 1) * tS ws ≤ lft A ws * tS ws := Int.mul_le_mul_of_nonneg_right (by omega) (by omega)
   have h5 : ((ws.length : Int) + 1) * tS ws = ws.length * tS ws + tS ws := by rw [Int.add_mul]; simp
   have h6 : (ws.length : Int) * (tS ws - 1) = ws.length * tS ws - ws.length := by rw [Int.mul_sub]; simp
   omega
theorem qs_bd {A : Int} {ws : List Int} (h : ShQ A ws) {x : Int} (hx : x ∈ qsL A ws) : 0 ≤ x ∧ x ≤ A := by
 unfold qsL at hx
 obtain ⟨w, hw, rfl⟩ := List.mem_map.1 hx
 have h1 := h.hw w hw
 have hs : 1 ≤ tS ws := h.hs
 refine ⟨Int.ediv_nonneg (Int.mul_nonneg h.hA.1 h1.1) (by omega), Int.ediv_le_of_le_mul (by omega) (Int.mul_le_mul_of_nonneg_left ?_ h.hA.1)⟩
 obtain ⟨i, hi, rfl⟩ := List.getElem_of_mem hw
 have hmono : ∀ m, i + 1 ≤ m → m ≤ ws.length → ws[i] ≤ sumX ws m := by
   intro m
   induction m with
   | zero => intro h; omega
   | succ m ih =>
     intro h1 h2
     have hge : ∀ m, m ≤ ws.length → 0 ≤ sumX ws m := by
       intro m
       induction m with
       | zero => intro _; exact Int.le_refl _
       | succ m ih => intro hm; rw [sumX_next]; have := ih (by omega); have := (h.hw _ (getD_mem (d := (0 : Int)) (show m < ws.length by omega))).1; omega
     rw [sumX_next]
     have h0 := (h.hw _ (getD_mem (d := (0 : Int)) (show m < ws.length by omega))).1
     by_cases e : i = m
     · subst e
       have := hge i (by omega)
       rw [getD_lt hi]
       omega
     · have := ih (by omega) (by omega)
       omega
 exact hmono ws.length (by omega) (Nat.le_refl _)
def shr (A : Int) (ws : List Int) (e : List Int) : List Int := incL (qsL A ws) (e.take (lft A ws).toNat)
end
section
attribute [local irreducible] CallA LoopA DrawA CallQ arithK quoK remK eqK
attribute [local irreducible] sumX
theorem incL_bd (es : List Int) : ∀ (q : List Int) (B : Int), (∀ j, 0 ≤ nt q j ∧ nt q j ≤ B) → ∀ j, 0 ≤ nt (incL q es) j ∧ nt (incL q es) j ≤ B + es.length := by
 induction es with
 | nil => intro q B h j; simpa [incL] using h j
 | cons x es ih =>
   intro q B h j
   have h1 := ih (q.set x.toNat (nt q x.toNat + 1)) (B + 1) (fun j => by
     rw [nt_set]
     have := h j
     have := h x.toNat
     split <;> omega) j
   show 0 ≤ nt (incL (q.set x.toNat (nt q x.toNat + 1)) es) j ∧ nt (incL (q.set x.toNat (nt q x.toNat + 1)) es) j ≤ _
   rw [List.length_cons]
   omega
abbrev shCaps (A : Int) (ws : List Int) : List AV := [.rpc [I A] 0, .rpc [Ri ws] 0, .rpc [I (tS ws)] 0]
abbrev rsF (A : Int) (ws : List Int) : Int → Int := fun x => nt (rsL A ws) x.toNat
theorem shCmp_ret (A : Int) (ws : List Int) (h : ShQ A ws) : CmpOk 314 (shCaps A ws) (rsF A ws) ws.length := fun x y x0 x1 y0 y1 => by
 refine bZ Tryz.func314 ?_
 have hx := h.at_ (i := x.toNat) (by omega)
 have hy := h.at_ (i := y.toNat) (by omega)
 have hs := h.hs
 have hsb : tS ws ≤ 1000000000000000000 := by
   have := (sumX_bd (xs := ws) ⟨h.hl, fun i hi => by have := (h.at_ hi).1; omega⟩ ws.length (Nat.le_refl _)).2
   have := h.hl
   show sumX ws ws.length ≤ _
   omega
 have ex : rsF A ws x = A * ws.getD x.toNat 0 % tS ws := rsL_at (by omega)
 have ey : rsF A ws y = A * ws.getD y.toNat 0 % tS ws := rsL_at (by omega)
 rw [ex, ey]
 unfold cI
 repeat' (conv => whnf); first | (intro h; try exact nZ) | apply And.intro | refine sZ ?_ | fail
 all_goals first | exact rZ | (refine iv ?_; first | (rw [if_pos (by omega)]; done) | (rw [if_neg (by omega), if_pos (by omega)]; done) | (rw [if_neg (by omega), if_neg (by omega)]; done))
theorem rsF_ord {A : Int} {ws e : List Int} (hm : Mv 0 (marks ws.length 0).length (marks ws.length 0) e) (hs : Srt (rsF A ws) e 0 (marks ws.length 0).length) : e = oE (rsL A ws) := by
 rw [marks_len] at hm hs
 have hl := rsL_len A ws
 refine Ord.uniq (rs := rsL A ws) (ord_of ?_ ?_) (oE_ord _)
 · rw [hl]; exact hm
 · rw [hl]; exact hs
theorem shSort_call (A : Int) (ws : List Int) (h : ShQ A ws) : Ca 313 [.sl 0 1 ws.length, .fn 314 (shCaps A ws)] [Di (marks ws.length 0)] (fun v J => v = .tup [] ∧ J = [Di (oE (rsL A ws))]) := by
 have hk := sortPart_call 314 (shCaps A ws) rfl (rsF A ws) ws.length (shCmp_ret A ws h) (marks ws.length 0) (fun x hx => marks_mem.1 hx) (by rw [marks_len]; exact h.hl) (fun i j _ hij hj => marks_up hij (by rwa [marks_len] at hj))
 rw [show [AV.sl 0 1 (marks ws.length 0).length, .fn 314 (shCaps A ws)] = [.sl 0 1 ws.length, .fn 314 (shCaps A ws)] by rw [marks_len]] at hk
 exact hk.mono fun v J ⟨e, x, s, h1, h2, ⟨h3, h4⟩, _⟩ => ⟨h1, by rw [h2, rsF_ord h3 h4]⟩
theorem qs_snoc {A : Int} {ws : List Int} {i : Nat} (hi : i < ws.length) : (qsL A ws).take i ++ [A * ws.getD i 0 / tS ws] = (qsL A ws).take (i + 1) := by
 rw [take_snoc 0 (by rw [qsL_len]; exact hi), qsL_at hi]
theorem rs_snoc {A : Int} {ws : List Int} {i : Nat} (hi : i < ws.length) : (rsL A ws).take i ++ [A * ws.getD i 0 % tS ws] = (rsL A ws).take (i + 1) := by
 rw [take_snoc 0 (by rw [rsL_len]; exact hi), rsL_at hi]
theorem marks_snoc (i : Nat) : marks i 0 ++ [(i : Int)] = marks (i + 1) 0 := by simp [marks, List.range_succ]
theorem tS_bd {A : Int} {ws : List Int} (h : ShQ A ws) : 1 ≤ tS ws ∧ tS ws ≤ 30000000000 := by
 have h0 : ∀ i, i ≤ ws.length → 0 ≤ sumX ws i ∧ sumX ws i ≤ 1000000000 * i := by
   intro i
   induction i with
   | zero => intro _; unfold sumX; omega
   | succ i ih =>
     intro hi
     have := ih (by omega)
     have := (h.at_ (i := i) (by omega)).1
     rw [sumX_next]
     omega
 have := h0 ws.length (Nat.le_refl _)
 have := h.hl
 have := h.hs
 show 1 ≤ sumX ws ws.length ∧ sumX ws ws.length ≤ _
 omega
theorem okX_ws {A : Int} {ws : List Int} (h : ShQ A ws) : okX ws := ⟨h.hl, fun i hi => by have := (h.at_ hi).1; omega⟩
theorem okX_qs {A : Int} {ws : List Int} (h : ShQ A ws) : okX (qsL A ws) := ⟨by rw [qsL_len]; exact h.hl, fun i hi => by
 have := qs_bd h (getD_mem (d := (0 : Int)) hi)
 have := h.hA
 omega⟩
theorem nt_qs {A : Int} {ws : List Int} (h : ShQ A ws) (j : Nat) : 0 ≤ nt (qsL A ws) j ∧ nt (qsL A ws) j ≤ A := by
 by_cases hj : j < (qsL A ws).length
 · exact qs_bd h (getD_mem (d := (0 : Int)) hj)
 · rw [nt_ge (by omega)]
   have := h.hA
   omega
theorem inc_facts {A : Int} {ws : List Int} (h : ShQ A ws) {k : Nat} (hk : (k : Int) < lft A ws) : (oE (rsL A ws)).length = ws.length ∧ k < ws.length ∧ (0 ≤ nt (oE (rsL A ws)) k ∧ nt (oE (rsL A ws)) k < ws.length) ∧
   (0 ≤ nt (incL (qsL A ws) ((oE (rsL A ws)).take k)) (nt (oE (rsL A ws)) k).toNat ∧ nt (incL (qsL A ws) ((oE (rsL A ws)).take k)) (nt (oE (rsL A ws)) k).toNat ≤ 1000000030) ∧
   (incL (qsL A ws) ((oE (rsL A ws)).take k)).set (nt (oE (rsL A ws)) k).toNat (nt (incL (qsL A ws) ((oE (rsL A ws)).take k)) (nt (oE (rsL A ws)) k).toNat + 1) = incL (qsL A ws) ((oE (rsL A ws)).take (k + 1)) := by
 have ho := oE_ord (rsL A ws)
 have hl := rsL_len A ws
 have hol := ho.len
 have hb := lft_bd h
 have hkn : k < ws.length := by omega
 have hm := ho.at_mem (k := k) (by omega)
 have hi := incL_bd ((oE (rsL A ws)).take k) (qsL A ws) A (nt_qs h) (nt (oE (rsL A ws)) k).toNat
 rw [List.length_take] at hi
 have hA := h.hA
 have h30 := h.hl
 refine ⟨by omega, hkn, by omega, by omega, ?_⟩
 rw [incL_next _ (by omega)]
attribute [local irreducible] qsL rsL oE lft incL strL
theorem implShare_call (A : Int) (ws : List Int) (hQ : ShQ A ws) : Ca 275 [I A, Ri ws] [] (fun v J => v = .sl 0 1 ws.length ∧ J = [Di (shr A ws (oE (rsL A ws)))]) := by
 refine cZ Tryz.func275 ?_
 have ht := total_ret ws (okX_ws hQ)
 have htq := total_ret (qsL A ws) (okX_qs hQ)
 have hql := qsL_len A ws
 have hql2 : ws.length = (D.ints .i64 (qsL A ws)).len := hql.symm
 have hSb := tS_bd hQ
 have hA := hQ.hA
 have h30 := hQ.hl
 have hsort := shSort_call A ws hQ
 have hlb := lft_bd hQ
 have ho := oE_ord (rsL A ws)
 have hol : (oE (rsL A ws)).length = ws.length := ho.len.trans (rsL_len A ws)
 rw [hql] at htq
 repeat' (conv => whnf); first | (intro h; try exact nZ) | apply And.intro | refine sZ ?_ | (refine Ret.go (ht) rfl rfl ?_) | fail
 all_goals try exact rZ
 (conv => whnf)
 refine loop_rule hT (fun i : Nat => i ≤ ws.length) 58 5 [2, 3, 5, 6, 7, 16, 17, 18] (fun i => [.ptr 0 0, .ptr 1 0, .ptr 4 0, .sl 5 1 i, .sl 6 1 i, Ri ws, I ws.length, I i]) (fun i => [.cells [I A], .cells [Ri ws], .dead, .dead, .cells [I (tS ws)], Di ((qsL A ws).take i), Di (marks i 0)]) (fun i => ws.length - i) (0) (Nat.le_of_ble_eq_true rfl) ?_ ?_ ?_
 · exact Nat.zero_le _
 · first | (exact endH1 [some 2, some 3])
 · intro i h1
   have hqi : ((qsL A ws).take i).length = i := by rw [List.length_take]; omega
   have hmi : (marks i 0).length = i := marks_len i 0
   by_cases hi : i < ws.length
   · obtain ⟨a1, a2, a3, -⟩ : (0 ≤ ws.getD ((i : Int)).toNat 0 ∧ ws.getD ((i : Int)).toNat 0 ≤ 1000000000) ∧ (0 ≤ A * ws.getD ((i : Int)).toNat 0 ∧ A * ws.getD ((i : Int)).toNat 0 ≤ 1000000000000000000) ∧ (0 ≤ A * ws.getD ((i : Int)).toNat 0 / tS ws ∧ A * ws.getD ((i : Int)).toNat 0 / tS ws ≤ 1000000000000000000) ∧ _ := hQ.at_ hi
     have hs1 : (qsL A ws).take i ++ [A * ws.getD ((i : Int)).toNat 0 / tS ws] = (qsL A ws).take (i + 1) := qs_snoc hi
     have hs2 := marks_snoc i
     have hl1 : ((qsL A ws).take i ++ [A * ws.getD ((i : Int)).toNat 0 / tS ws]).length = i + 1 := by rw [List.length_append, hqi]; rfl
     have hl2 : (marks i 0 ++ [(i : Int)]).length = i + 1 := by rw [List.length_append, hmi]; rfl
     repeat' (conv => whnf); first | (intro h; try exact nZ) | apply And.intro | refine sZ ?_ | fail
     all_goals first | exact rZ | exact hqi.symm | exact hmi.symm | (show (_ : Nat) ≤ _; simp; omega) | skip
     all_goals ((conv => whnf); first | (refine ⟨i + 1, by omega, ?_, by omega⟩; first | (refine ⟨rfl, [some 8, some 10], ?_, ?_⟩; (repeat' first | apply And.intro | exact xZ | first | exact hl1 | exact hl2 | exact congrArg (D.ints .i64) hs1 | exact congrArg (D.ints .i64) hs2 | fail); done)))
   · obtain rfl : i = ws.length := by omega
     have hq0 : (qsL A ws).take ws.length = qsL A ws := take_all (by omega)
     rw [hq0]
     have hlf : A - sumX (qsL A ws) ws.length = lft A ws := by unfold lft; rfl
     repeat' (conv => whnf); first | (intro h; try exact nZ) | apply And.intro | refine sZ ?_ | refine CallA.gM [6] (hsort) ?_ | refine Ret.uA (htq) ?_ | fail
     all_goals try exact rZ
     all_goals
       (conv => whnf)
       obtain ⟨L, hL⟩ : ∃ L : Nat, L = (lft A ws).toNat := ⟨_, rfl⟩
       refine loop_rule hT (fun k : Nat => k ≤ L) 58 7 [6, 44, 45, 46] (fun k => [.sl 5 1 ws.length, .sub 6 1 0 L, I L, I k]) (fun k => [.cells [I A], .cells [Ri ws], .dead, .dead, .cells [I (tS ws)], Di (incL (qsL A ws) ((oE (rsL A ws)).take k)), Di (oE (rsL A ws))]) (fun k => L - k) (0) (Nat.le_of_ble_eq_true rfl) ?_ ?_ ?_
       · exact Nat.zero_le _
       · have hi0 : qsL A ws = incL (qsL A ws) ((oE (rsL A ws)).take 0) := by unfold incL; rfl
         first | (refine ⟨rfl, [], ?_, ?_⟩; (repeat' first | apply And.intro | exact xZ | first | exact congrArg (D.ints .i64) hi0 | (dsimp only; omega) | fail); done)
       · intro k hk
         have hil : (incL (qsL A ws) ((oE (rsL A ws)).take k)).length = ws.length := (incL_len _ _).trans hql
         by_cases hkL : k < L
         · obtain ⟨b1, b2, b3, b4, b5⟩ := inc_facts hQ (k := k) (by omega)
           have b3' : 0 ≤ (oE (rsL A ws)).getD (0 + ((k : Int)).toNat) 0 ∧ (oE (rsL A ws)).getD (0 + ((k : Int)).toNat) 0 < ws.length := by rw [Nat.zero_add]; exact b3
           have e0 : (oE (rsL A ws)).getD (0 + ((k : Int)).toNat) 0 = nt (oE (rsL A ws)) k := by rw [Nat.zero_add]; rfl
           have b4' : 0 ≤ (incL (qsL A ws) ((oE (rsL A ws)).take k)).getD ((oE (rsL A ws)).getD (0 + ((k : Int)).toNat) 0).toNat 0 ∧ (incL (qsL A ws) ((oE (rsL A ws)).take k)).getD ((oE (rsL A ws)).getD (0 + ((k : Int)).toNat) 0).toNat 0 ≤ 1000000030 := by rw [Nat.zero_add]; exact b4
           rw [← e0] at b5
           clear b4
           repeat' (conv => whnf); first | (intro h; try exact nZ) | apply And.intro | refine sZ ?_ | fail
           all_goals first | exact rZ | (show _ < List.length _; omega) | skip
           all_goals ((conv => whnf); first | (refine ⟨k + 1, by omega, ?_, by omega⟩; (refine ⟨rfl, [], ?_, ?_⟩; (repeat' first | apply And.intro | exact xZ | exact congrArg (D.ints .i64) b5 | fail); done)))
         · obtain rfl : k = L := by omega
           repeat' (conv => whnf); first | (intro h; try exact nZ) | apply And.intro | refine sZ ?_ | fail
           all_goals try exact rZ
           subst hL
           all_goals ((conv => whnf); first | (refine ⟨[some 5], .sl 0 1 ws.length, [Di (shr A ws (oE (rsL A ws)))], ?_, ?_, ?_⟩; (repeat' first | apply And.intro | exact xZ | (unfold shr; exact rfl) | fail); done))
end
end Go.Proofs.YtglbamncajileaaGreatDoor
