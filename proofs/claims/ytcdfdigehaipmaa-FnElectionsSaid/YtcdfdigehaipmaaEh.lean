/-
  Those of a slice that are not x, by slices.DeleteFunc. No conditions but those in the statements.
-/
import Derived.Test.YtcdfdigehaipmaaEg
set_option linter.unusedVariables false
set_option linter.unusedSimpArgs false
namespace Go.Proofs.Ytcdfdigehaipmaa
open Go.AE

attribute [local irreducible] CallA LoopA DrawA CallQ arithK quoK remK eqK
def kp (l : List Int) (x : Int) : List Int := l.filter fun y => decide (x ≠ y)
theorem kp_next_eq {l : List Int} {x : Int} {j : Nat} (hj : j < l.length) (h : x = l.getD j 0) : kp (l.take (j + 1)) x = kp (l.take j) x := by
  unfold kp
  rw [take_snoc 0 hj, List.filter_append]
  rw [List.getD_eq_getElem?_getD] at h
  simp [← h]
theorem kp_next_ne {l : List Int} {x : Int} {j : Nat} (hj : j < l.length) (h : x ≠ l.getD j 0) : kp (l.take (j + 1)) x = kp (l.take j) x ++ [l.getD j 0] := by
  unfold kp
  rw [take_snoc 0 hj, List.filter_append]
  rw [List.getD_eq_getElem?_getD] at h
  simp [h]
theorem kp_le (l : List Int) (x : Int) : (kp l x).length ≤ l.length := List.length_filter_le _ _
theorem kp_all {l : List Int} {x : Int} (h : ∀ j, j < l.length → x ≠ l.getD j 0) : kp l x = l := by
  unfold kp
  rw [List.filter_eq_self]
  intro y hy
  obtain ⟨j, hj, rfl⟩ := List.mem_iff_getElem.1 hy
  have := h j hj
  rw [List.getD_eq_getElem?_getD, List.getElem?_eq_getElem hj] at this
  simpa using this
theorem fo_ne {l : List Int} {x : Int} : ∀ j, j < fo l x → x ≠ l.getD j 0 := fun j hj => of_decide_eq_false ((firstOf_spec (fun y => decide (x = y)) 0 l).1 j hj)
theorem fo_at {l : List Int} {x : Int} (h : fo l x < l.length) : x = l.getD (fo l x) 0 := of_decide_eq_true ((firstOf_spec (fun y => decide (x = y)) 0 l).2 h)
theorem kp_fo {l : List Int} {x : Int} (h : fo l x < l.length) : kp (l.take (fo l x + 1)) x = l.take (fo l x) := by
  rw [kp_next_eq h (fo_at h)]
  refine kp_all fun j hj => ?_
  have hj' : j < fo l x := Nat.lt_of_lt_of_le hj (List.length_take_le _ _)
  have := fo_ne j hj'
  rw [List.getD_eq_getElem?_getD] at this ⊢
  rwa [List.getElem?_take_of_lt hj']
theorem drop_getD {l r : List Int} {j : Nat} (h : l.drop j = r.drop j) : l.getD j 0 = r.getD j 0 := by
  have h1 := congrArg (fun z => z[0]?) h
  simp only [List.getElem?_drop, Nat.add_zero] at h1
  rw [List.getD_eq_getElem?_getD, List.getD_eq_getElem?_getD, h1]
theorem drop_next {l r : List Int} {j : Nat} (h : l.drop j = r.drop j) : l.drop (j + 1) = r.drop (j + 1) := by
  have h1 := congrArg (fun z => z.drop 1) h
  simpa [List.drop_drop] using h1
theorem drop_set_lt {l : List Int} {m j : Nat} {v : Int} (h : m < j) : (l.set m v).drop j = l.drop j := by
  rw [List.drop_set_of_lt h]
theorem take_set_next {l : List Int} {m : Nat} {v : Int} {a : List Int} (h : l.take m = a) (hm : m < l.length) : (l.set m v).take (m + 1) = a ++ [v] := by
  rw [take_snoc 0 (by simpa using hm), getD_set_self hm, List.take_set_of_le (Nat.le_refl _), h]
set_option maxRecDepth 100000 in
theorem deleteW_call (ins : List Int) (k : Nat) (x : Int) (hx : x ∈ ins) (hn : ins.length ≤ 1048576) (hk : k ≤ 1048576) : CallA Try.prog G 71 [.sub 0 1 0 ins.length, wF x] [Di (ins ++ List.replicate k 0)]
    (fun v J => v = .sub 0 1 0 (kp ins x).length ∧ J = [Di (kp ins x ++ List.replicate (ins.length + k - (kp ins x).length) 0)]) := by
  refine CallA.ends (callA_of_body hT Try.func71 rfl ?_)
  have hf : fo ins x < ins.length := (fo_mem ins x).2 hx
  have hix : Ret Try.prog G 68 [Ri (((ins ++ List.replicate k 0).drop 0).take ins.length), wF x] (I (fo ins x)) := by
    have h0 : ((ins ++ List.replicate k 0).drop 0).take ins.length = ins := by simp
    rw [h0]
    have := indexW_ret ins x (by omega)
    unfold ixI at this
    rwa [if_pos hf] at this
  have hl : (ins ++ List.replicate k 0).length = ins.length + k := by simp
  have hms : 0 + ins.length ≤ (D.ints .i64 (ins ++ List.replicate k 0)).len := by show 0 + ins.length ≤ (ins ++ List.replicate k 0).length; omega
  have hk0 : (kp (ins.take (fo ins x + 1)) x).length = fo ins x := by rw [kp_fo hf, List.length_take]; omega
  (conv => whnf)
  repeat' (first | (intro h; first | contradiction | omega | (conv => whnf) | skip) | (refine And.intro ?_ ?_) | (refine arith_ok ⟨by omega, by omega⟩ ?_) | (first | (refine draw_quiet hT mixed (by decide +kernel) ?_) | (refine draw_hard hT mixed (by decide +kernel) ?_)) | (refine Ret.use (hix) (by first | ((repeat' (first | exact rfl | exact trivial | (with_reducible assumption) | refine And.intro ?_ ?_ | omega | assumption)); done) | fail) ?_) | (refine Ret.useQ (hix) (by first | ((repeat' (first | exact rfl | exact trivial | (with_reducible assumption) | refine And.intro ?_ ?_ | omega | assumption)); done) | fail) rfl ?_) | (refine Ret.useP (hix) (by first | ((repeat' (first | exact rfl | exact trivial | (with_reducible assumption) | refine And.intro ?_ ?_ | omega | assumption)); done) | fail) ?_) | (refine Ret.useQP (hix) (by first | ((repeat' (first | exact rfl | exact trivial | (with_reducible assumption) | refine And.intro ?_ ?_ | omega | assumption)); done) | fail) ?_))
  all_goals first | omega | rfl | skip
  refine loop_rule hT (fun p : Nat × List Int => fo ins x < p.1 ∧ p.1 ≤ ins.length ∧ p.2.length = ins.length + k ∧ (kp (ins.take p.1) x).length < p.1 ∧ p.2.take (kp (ins.take p.1) x).length = kp (ins.take p.1) x ∧ p.2.drop p.1 = (ins ++ List.replicate k 0).drop p.1) 42 1 [0, 1, 5, 6] (fun p => [.sub 0 1 0 ins.length, wF x, I (kp (ins.take p.1) x).length, I p.1]) (fun p => [Di p.2]) (fun p => ins.length - p.1) ((fo ins x + 1, ins ++ List.replicate k 0)) (Nat.le_of_ble_eq_true rfl) ?_ ?_ ?_
  · refine ⟨Nat.lt_succ_self _, hf, hl, by dsimp only; omega, ?_, rfl⟩
    dsimp only
    rw [hk0, kp_fo hf, List.take_append_of_le_length (by omega)]
  · (first | (refine ⟨rfl, [], ?_, ?_⟩; all_goals (repeat' (first | exact rfl | exact trivial | (with_reducible assumption) | refine And.intro ?_ ?_)); all_goals (first | omega | assumption | ((repeat' (first | (dsimp only; omega) | exact rfl | exact trivial | (with_reducible assumption) | refine And.intro ?_ ?_ | omega | assumption)); done)); done) | (refine ⟨rfl, [some 1], ?_, ?_⟩; all_goals (repeat' (first | exact rfl | exact trivial | (with_reducible assumption) | refine And.intro ?_ ?_)); all_goals (first | omega | assumption | ((repeat' (first | (dsimp only; omega) | exact rfl | exact trivial | (with_reducible assumption) | refine And.intro ?_ ?_ | omega | assumption)); done)); done) | (refine ⟨rfl, [some 2], ?_, ?_⟩; all_goals (repeat' (first | exact rfl | exact trivial | (with_reducible assumption) | refine And.intro ?_ ?_)); all_goals (first | omega | assumption | ((repeat' (first | (dsimp only; omega) | exact rfl | exact trivial | (with_reducible assumption) | refine And.intro ?_ ?_ | omega | assumption)); done)); done) | (refine ⟨rfl, [some 3], ?_, ?_⟩; all_goals (repeat' (first | exact rfl | exact trivial | (with_reducible assumption) | refine And.intro ?_ ?_)); all_goals (first | omega | assumption | ((repeat' (first | (dsimp only; omega) | exact rfl | exact trivial | (with_reducible assumption) | refine And.intro ?_ ?_ | omega | assumption)); done)); done) | (refine ⟨rfl, [some 0], ?_, ?_⟩; all_goals (repeat' (first | exact rfl | exact trivial | (with_reducible assumption) | refine And.intro ?_ ?_)); all_goals (first | omega | assumption | ((repeat' (first | (dsimp only; omega) | exact rfl | exact trivial | (with_reducible assumption) | refine And.intro ?_ ?_ | omega | assumption)); done)); done) | (refine ⟨rfl, [some 4], ?_, ?_⟩; all_goals (repeat' (first | exact rfl | exact trivial | (with_reducible assumption) | refine And.intro ?_ ?_)); all_goals (first | omega | assumption | ((repeat' (first | (dsimp only; omega) | exact rfl | exact trivial | (with_reducible assumption) | refine And.intro ?_ ?_ | omega | assumption)); done)); done) | (refine ⟨rfl, [some 5], ?_, ?_⟩; all_goals (repeat' (first | exact rfl | exact trivial | (with_reducible assumption) | refine And.intro ?_ ?_)); all_goals (first | omega | assumption | ((repeat' (first | (dsimp only; omega) | exact rfl | exact trivial | (with_reducible assumption) | refine And.intro ?_ ?_ | omega | assumption)); done)); done) | (refine ⟨rfl, [some 6], ?_, ?_⟩; all_goals (repeat' (first | exact rfl | exact trivial | (with_reducible assumption) | refine And.intro ?_ ?_)); all_goals (first | omega | assumption | ((repeat' (first | (dsimp only; omega) | exact rfl | exact trivial | (with_reducible assumption) | refine And.intro ?_ ?_ | omega | assumption)); done)); done))
  · rintro ⟨j, ys⟩ ⟨h1, h2, h3, h4, h5, h6⟩
    dsimp only at h1 h2 h3 h4 h5 h6 ⊢
    by_cases hj : j < ins.length
    · have hr := isWorst_ret (ys.getD (0 + ((j : Int)).toNat) 0) x
      have hyj : ys.getD (0 + ((j : Int)).toNat) 0 = ins.getD j 0 := by
        rw [toNat_cast, Nat.zero_add, drop_getD h6, List.getD_eq_getElem?_getD, List.getD_eq_getElem?_getD, List.getElem?_append_left hj]
      by_cases hin : x = ys.getD (0 + ((j : Int)).toNat) 0
      · rw [decide_eq_true hin] at hr
        have hkn : kp (ins.take (j + 1)) x = kp (ins.take j) x := kp_next_eq hj (hin.trans hyj)
        repeat' (first | (intro h; first | contradiction | omega | (conv => whnf) | skip) | (refine And.intro ?_ ?_) | (refine arith_ok ⟨by omega, by omega⟩ ?_) | (first | (refine draw_quiet hT mixed (by decide +kernel) ?_) | (refine draw_hard hT mixed (by decide +kernel) ?_)) | (refine Ret.go (hr) rfl rfl ?_) | (refine Ret.goQ (hr) rfl rfl ?_))
        all_goals first | omega | skip
        all_goals ((conv => whnf); refine ⟨(j + 1, ys), ⟨by dsimp only; omega, by dsimp only; omega, h3, by dsimp only; rw [hkn]; omega, by dsimp only; rw [hkn]; exact h5, drop_next h6⟩, ?_, by dsimp only; omega⟩; (first | (refine ⟨rfl, [], ?_, ?_⟩; all_goals (repeat' (first | exact rfl | exact trivial | (with_reducible assumption) | refine And.intro ?_ ?_)); all_goals (first | omega | assumption | ((repeat' (first | (dsimp only; rw [hkn]) | exact rfl | exact trivial | (with_reducible assumption) | refine And.intro ?_ ?_ | omega | assumption)); done)); done) | (refine ⟨rfl, [some 1], ?_, ?_⟩; all_goals (repeat' (first | exact rfl | exact trivial | (with_reducible assumption) | refine And.intro ?_ ?_)); all_goals (first | omega | assumption | ((repeat' (first | (dsimp only; rw [hkn]) | exact rfl | exact trivial | (with_reducible assumption) | refine And.intro ?_ ?_ | omega | assumption)); done)); done) | (refine ⟨rfl, [some 2], ?_, ?_⟩; all_goals (repeat' (first | exact rfl | exact trivial | (with_reducible assumption) | refine And.intro ?_ ?_)); all_goals (first | omega | assumption | ((repeat' (first | (dsimp only; rw [hkn]) | exact rfl | exact trivial | (with_reducible assumption) | refine And.intro ?_ ?_ | omega | assumption)); done)); done) | (refine ⟨rfl, [some 3], ?_, ?_⟩; all_goals (repeat' (first | exact rfl | exact trivial | (with_reducible assumption) | refine And.intro ?_ ?_)); all_goals (first | omega | assumption | ((repeat' (first | (dsimp only; rw [hkn]) | exact rfl | exact trivial | (with_reducible assumption) | refine And.intro ?_ ?_ | omega | assumption)); done)); done) | (refine ⟨rfl, [some 0], ?_, ?_⟩; all_goals (repeat' (first | exact rfl | exact trivial | (with_reducible assumption) | refine And.intro ?_ ?_)); all_goals (first | omega | assumption | ((repeat' (first | (dsimp only; rw [hkn]) | exact rfl | exact trivial | (with_reducible assumption) | refine And.intro ?_ ?_ | omega | assumption)); done)); done) | (refine ⟨rfl, [some 4], ?_, ?_⟩; all_goals (repeat' (first | exact rfl | exact trivial | (with_reducible assumption) | refine And.intro ?_ ?_)); all_goals (first | omega | assumption | ((repeat' (first | (dsimp only; rw [hkn]) | exact rfl | exact trivial | (with_reducible assumption) | refine And.intro ?_ ?_ | omega | assumption)); done)); done) | (refine ⟨rfl, [some 5], ?_, ?_⟩; all_goals (repeat' (first | exact rfl | exact trivial | (with_reducible assumption) | refine And.intro ?_ ?_)); all_goals (first | omega | assumption | ((repeat' (first | (dsimp only; rw [hkn]) | exact rfl | exact trivial | (with_reducible assumption) | refine And.intro ?_ ?_ | omega | assumption)); done)); done) | (refine ⟨rfl, [some 6], ?_, ?_⟩; all_goals (repeat' (first | exact rfl | exact trivial | (with_reducible assumption) | refine And.intro ?_ ?_)); all_goals (first | omega | assumption | ((repeat' (first | (dsimp only; rw [hkn]) | exact rfl | exact trivial | (with_reducible assumption) | refine And.intro ?_ ?_ | omega | assumption)); done)); done)))
      · rw [decide_eq_false hin] at hr
        have hkn : kp (ins.take (j + 1)) x = kp (ins.take j) x ++ [ins.getD j 0] := kp_next_ne hj (fun e => hin (e.trans hyj.symm))
        have hkl : (kp (ins.take (j + 1)) x).length = (kp (ins.take j) x).length + 1 := by rw [hkn]; simp
        have hms2 : 0 + (((kp (ins.take j) x).length : Int)).toNat < (D.ints .i64 ys).len := by show _ < ys.length; omega
        repeat' (first | (intro h; first | contradiction | omega | (conv => whnf) | skip) | (refine And.intro ?_ ?_) | (refine arith_ok ⟨by omega, by omega⟩ ?_) | (first | (refine draw_quiet hT mixed (by decide +kernel) ?_) | (refine draw_hard hT mixed (by decide +kernel) ?_)) | (refine Ret.go (hr) rfl rfl ?_) | (refine Ret.goQ (hr) rfl rfl ?_))
        all_goals first | omega | skip
        all_goals ((conv => whnf); refine ⟨(j + 1, ys.set (kp (ins.take j) x).length (ins.getD j 0)), ⟨by dsimp only; omega, by dsimp only; omega, by dsimp only; rw [List.length_set]; exact h3, by dsimp only; omega, ?_, ?_⟩, ?_, by dsimp only; omega⟩)
        · dsimp only
          rw [hkl, hkn]
          exact take_set_next h5 (by omega)
        · dsimp only
          rw [drop_set_lt (by omega)]
          exact drop_next h6
        · rw [hyj]
          simp only [Nat.zero_add, toNat_cast]
          (first | (refine ⟨rfl, [], ?_, ?_⟩; all_goals (repeat' (first | exact rfl | exact trivial | (with_reducible assumption) | refine And.intro ?_ ?_)); all_goals (first | omega | assumption | ((repeat' (first | (dsimp only; omega) | exact rfl | exact trivial | (with_reducible assumption) | refine And.intro ?_ ?_ | omega | assumption)); done)); done) | (refine ⟨rfl, [some 1], ?_, ?_⟩; all_goals (repeat' (first | exact rfl | exact trivial | (with_reducible assumption) | refine And.intro ?_ ?_)); all_goals (first | omega | assumption | ((repeat' (first | (dsimp only; omega) | exact rfl | exact trivial | (with_reducible assumption) | refine And.intro ?_ ?_ | omega | assumption)); done)); done) | (refine ⟨rfl, [some 2], ?_, ?_⟩; all_goals (repeat' (first | exact rfl | exact trivial | (with_reducible assumption) | refine And.intro ?_ ?_)); all_goals (first | omega | assumption | ((repeat' (first | (dsimp only; omega) | exact rfl | exact trivial | (with_reducible assumption) | refine And.intro ?_ ?_ | omega | assumption)); done)); done) | (refine ⟨rfl, [some 3], ?_, ?_⟩; all_goals (repeat' (first | exact rfl | exact trivial | (with_reducible assumption) | refine And.intro ?_ ?_)); all_goals (first | omega | assumption | ((repeat' (first | (dsimp only; omega) | exact rfl | exact trivial | (with_reducible assumption) | refine And.intro ?_ ?_ | omega | assumption)); done)); done) | (refine ⟨rfl, [some 0], ?_, ?_⟩; all_goals (repeat' (first | exact rfl | exact trivial | (with_reducible assumption) | refine And.intro ?_ ?_)); all_goals (first | omega | assumption | ((repeat' (first | (dsimp only; omega) | exact rfl | exact trivial | (with_reducible assumption) | refine And.intro ?_ ?_ | omega | assumption)); done)); done) | (refine ⟨rfl, [some 4], ?_, ?_⟩; all_goals (repeat' (first | exact rfl | exact trivial | (with_reducible assumption) | refine And.intro ?_ ?_)); all_goals (first | omega | assumption | ((repeat' (first | (dsimp only; omega) | exact rfl | exact trivial | (with_reducible assumption) | refine And.intro ?_ ?_ | omega | assumption)); done)); done) | (refine ⟨rfl, [some 5], ?_, ?_⟩; all_goals (repeat' (first | exact rfl | exact trivial | (with_reducible assumption) | refine And.intro ?_ ?_)); all_goals (first | omega | assumption | ((repeat' (first | (dsimp only; omega) | exact rfl | exact trivial | (with_reducible assumption) | refine And.intro ?_ ?_ | omega | assumption)); done)); done) | (refine ⟨rfl, [some 6], ?_, ?_⟩; all_goals (repeat' (first | exact rfl | exact trivial | (with_reducible assumption) | refine And.intro ?_ ?_)); all_goals (first | omega | assumption | ((repeat' (first | (dsimp only; omega) | exact rfl | exact trivial | (with_reducible assumption) | refine And.intro ?_ ?_ | omega | assumption)); done)); done))
    · obtain rfl : j = ins.length := by omega
      have ht : ins.take ins.length = ins := List.take_length
      have hms2 : 0 + ((((kp (ins.take ins.length) x).length : Int)).toNat + (ins.length - (((kp (ins.take ins.length) x).length : Int)).toNat)) ≤ ys.length := by omega
      have hz : zeroAt ys (0 + (((kp (ins.take ins.length) x).length : Int)).toNat) (ins.length - (((kp (ins.take ins.length) x).length : Int)).toNat) = kp ins x ++ List.replicate (ins.length + k - (kp ins x).length) 0 := by
        rw [ht] at h4 h5 ⊢
        unfold zeroAt
        rw [toNat_cast, Nat.zero_add, h5, List.append_assoc, show (kp ins x).length + (ins.length - (kp ins x).length) = ins.length by omega, h6, List.drop_left, List.replicate_append_replicate]
        congr 2
        omega
      have hkl : (kp (ins.take ins.length) x).length = (kp ins x).length := by rw [ht]
      repeat' (first | (intro h; first | contradiction | omega | (conv => whnf) | skip) | (refine And.intro ?_ ?_) | (refine arith_ok ⟨by omega, by omega⟩ ?_) | (first | (refine draw_quiet hT mixed (by decide +kernel) ?_) | (refine draw_hard hT mixed (by decide +kernel) ?_)) | fail)
      all_goals first | omega | skip
      (conv => whnf)
      rw [hz]
      refine ⟨[], .sub 0 1 0 (kp ins x).length, [Di (kp ins x ++ List.replicate (ins.length + k - (kp ins x).length) 0)], ?_, ?_, ?_⟩
      all_goals (repeat' (first | exact rfl | exact trivial | omega | refine And.intro ?_ ?_))
end Go.Proofs.Ytcdfdigehaipmaa
