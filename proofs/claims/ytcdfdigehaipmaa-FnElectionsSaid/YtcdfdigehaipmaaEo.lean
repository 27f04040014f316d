/-
  Lists of lists of integers that are owned: their making, their marks. No conditions but those in the statements.
-/
import Derived.Test.YtcdfdigehaipmaaEe
import Derived.Test.YtcdfdigehaipmaaAeNest
set_option linter.unusedVariables false
set_option linter.unusedSimpArgs false
namespace Go.Proofs.Ytcdfdigehaipmaa
open Go.AE

attribute [local irreducible] CallA LoopA DrawA CallQ arithK quoK remK eqK
theorem put_ref {xss : List (List Int)} {i q l : Nat} (hi : i < xss.length) (hq : q = 1 + i) (hl : l = (xss.getD i []).length) :
    (refs 1 (xss.take i) ++ List.replicate (xss.length - i) AV.un).set i (.sl q 1 l) = refs 1 (xss.take (i + 1)) ++ List.replicate (xss.length - (i + 1)) .un := by
  have hr : (refs 1 (xss.take i)).length = i := by rw [refs_len, List.length_take]; omega
  rw [List.set_append_right _ _ (by omega), hr, Nat.sub_self, take_snoc [] hi, refs_snoc, List.append_assoc, List.length_take, Nat.min_eq_left (by omega), ← hl, ← hq]
  congr 1
  rw [show xss.length - i = (xss.length - (i + 1)) + 1 by omega, List.replicate_succ]
  rfl
theorem take_parts {xss : List (List Int)} {i : Nat} (hi : i < xss.length) : (xss.take i).map Pt ++ [Pt (xss.getD i [])] = (xss.take (i + 1)).map Pt := by
  rw [take_snoc [] hi, List.map_append]; rfl
set_option maxRecDepth 100000 in
theorem toOwn_call (xss : List (List Int)) (hp : 0 < xss.length) (hn : xss.length ≤ 1048576) (hr : ∀ r ∈ xss, r.length ≤ 1048576) : CallA Try.prog G 34 [Rn xss] [] (fun v J => v = .sl 0 1 xss.length ∧ J = own 1 xss) := by
  refine callA_of_body hT Try.func34 rfl ?_
  repeat' (first | (intro h; first | contradiction | omega | (conv => whnf) | skip) | (refine And.intro ?_ ?_) | (refine arith_ok ⟨by omega, by omega⟩ ?_) | (first | (refine draw_quiet hT mixed (by decide +kernel) ?_) | (refine draw_hard hT mixed (by decide +kernel) ?_)) | fail)
  · rfl
  · omega
  · omega
  refine loop_rule hT (fun i : Nat => i ≤ xss.length) 23 1 [0, 3, 4] (fun i => [Rn xss, .sl 0 1 xss.length, I i]) (fun i => .cells (refs 1 (xss.take i) ++ List.replicate (xss.length - i) .un) :: (xss.take i).map Pt) (fun i => xss.length - i) 0 (Nat.le_of_ble_eq_true rfl) (Nat.zero_le _) ?_ ?_
  · refine ⟨rfl, [], ⟨rfl, ⟨rfl, rfl, rfl⟩, ⟨rfl, rfl⟩, trivial⟩, rfl, rfl, ⟨⟨rfl, ⟨?_, ?_⟩, ?_⟩, trivial⟩, trivial⟩
    · simpa [zeroD, D.len] using hp
    · simp [zeroD, D.len, D.sz, refs]
    · intro c hc
      rw [List.take_zero] at hc
      exact (List.mem_replicate.1 hc).2
  · intro i h1
    by_cases hi : i < xss.length
    · have hl : (xss.getD ((i : Int)).toNat []).length ≤ 1048576 := hr _ (getD_mem hi)
      have hcl : (refs 1 (xss.take i) ++ List.replicate (xss.length - i) AV.un).length = xss.length := by rw [List.length_append, refs_len, List.length_take, List.length_replicate]; omega
      repeat' (first | (intro h; first | contradiction | omega | (conv => whnf) | skip) | (refine And.intro ?_ ?_) | (refine arith_ok ⟨by omega, by omega⟩ ?_) | (first | (refine draw_quiet hT mixed (by decide +kernel) ?_) | (refine draw_hard hT mixed (by decide +kernel) ?_)) | (refine CallA.goN false (toInt64S_call (xss.getD ((i : Int)).toNat []) hl) (by first | ((repeat' (first | exact rfl | exact trivial | (with_reducible assumption) | refine And.intro ?_ ?_ | omega | assumption)); done) | fail) ?_))
      all_goals first | omega | exact (hcl.symm ▸ hi) | skip
      refine ⟨i + 1, by omega, ⟨rfl, selS 1 (xss.take (i + 1)).length, ⟨rfl, ⟨rfl, rfl, rfl⟩, ⟨rfl, rfl⟩, trivial⟩, ?_⟩, by omega⟩
      have hq : shI [] (Blk.cells (refs 1 (xss.take i) ++ List.replicate (xss.length - i) AV.un) :: (xss.take i).map Pt).length 0 = 1 + i := by
        simp only [shI, List.length_cons, List.length_map, List.length_take]; omega
      show heapM 1 _ (.cells ((refs 1 (xss.take i) ++ List.replicate (xss.length - i) AV.un).set i (.sl (shI [] (Blk.cells (refs 1 (xss.take i) ++ List.replicate (xss.length - i) AV.un) :: (xss.take i).map Pt).length 0) 1 (xss.getD i []).length)) :: ((xss.take i).map Pt ++ [Pt (xss.getD i [])])) _
      rw [take_parts hi, put_ref hi hq rfl]
      exact heap_row (vm_refs (by omega))
    · obtain rfl : i = xss.length := by omega
      repeat' (first | (intro h; first | contradiction | omega | (conv => whnf) | skip) | (refine And.intro ?_ ?_) | (refine arith_ok ⟨by omega, by omega⟩ ?_) | (first | (refine draw_quiet hT mixed (by decide +kernel) ?_) | (refine draw_hard hT mixed (by decide +kernel) ?_)) | fail)
      all_goals first | omega | rfl | skip
      rw [take_all (Nat.le_refl _), Nat.sub_self, List.replicate_zero, List.append_nil]
theorem set_own {yss : List (List Int)} {i : Nat} {zs : List Int} (hl : zs.length = (yss.getD i []).length) : (own 1 yss).set (1 + i) (Pt zs) = own 1 (yss.set i zs) := by
  have h1 : refs 1 (yss.set i zs) = refs 1 yss := refs_same 1 _ _ (by simp) fun j => by
    rw [getD_set]
    split
    · rename_i h; rw [hl, h.1]
    · rfl
  rw [own, own, h1, Nat.add_comm, List.set_cons_succ, List.map_set]
set_option maxRecDepth 100000 in
theorem markOwn_call (xss : List (List Int)) (ht : (tot xss : Int) ≤ 1048576) : CallA Try.prog G 37 [.sl 0 1 xss.length, I 1] (own 1 xss) (fun v J => v = I ((1 + lens xss xss.length : Nat) : Int) ∧ J.length = (own 1 xss).length) := by
  obtain ⟨t1, t2⟩ := tot_row ht
  have ht2 : lens xss xss.length ≤ 1048576 := by unfold tot at ht; omega
  refine callA_of_body hT Try.func37 rfl ?_
  repeat' (first | (intro h; first | contradiction | omega | (conv => whnf) | skip) | (refine And.intro ?_ ?_) | (refine arith_ok ⟨by omega, by omega⟩ ?_) | (first | (refine draw_quiet hT mixed (by decide +kernel) ?_) | (refine draw_hard hT mixed (by decide +kernel) ?_)) | fail)
  all_goals first | omega | skip
  refine loop_rule hT (fun q : Nat × List (List Int) => q.1 ≤ xss.length ∧ q.2.length = xss.length ∧ ∀ i, (q.2.getD i []).length = (xss.getD i []).length) 19 (xss.length + 1) [0, 1, 5] (fun q => [.sl 0 1 xss.length, I ((1 + lens xss q.1 : Nat) : Int), I q.1]) (fun q => own 1 q.2) (fun q => xss.length - q.1) (0, xss) (Nat.le_of_eq (own_len 1 xss)) ⟨Nat.zero_le _, rfl, fun _ => rfl⟩ ?_ ?_
  · exact ⟨rfl, [], ⟨⟨rfl, rfl, rfl⟩, ⟨rfl, rfl⟩, ⟨rfl, rfl⟩, trivial⟩, heap_own⟩
  · rintro ⟨i, yss⟩ ⟨h1, h2, h3⟩
    dsimp only at h1 h2 h3 ⊢
    by_cases hi : i < xss.length
    · have hnx := lens_next hi
      have hmo := lens_mono hi
      have hli := h3 i
      repeat' (first | (intro h; first | contradiction | omega | (conv => whnf) | skip) | (refine And.intro ?_ ?_) | (refine arith_ok ⟨by omega, by omega⟩ ?_) | (first | (refine draw_quiet hT mixed (by decide +kernel) ?_) | (refine draw_hard hT mixed (by decide +kernel) ?_)) | fail)
      all_goals first | omega | skip
      refine ⟨1 + i, _, refs_get 1 yss i (by omega), ?_⟩
      (conv => whnf)
      refine CallA.goW (1 + i) (by rw [own_len]; omega) (markInt64S_call (yss.getD i []) (1 + lens xss i) (by omega) (by omega)) ⟨⟨Nat.beq_refl _, rfl, rfl⟩, ⟨rfl, rfl⟩, trivial⟩ (by rw [own_get (by omega)]; exact rfl) ?_
      repeat' ((first | (conv => whnf) | skip); (first | ((with_reducible intro h); first | contradiction | omega | (conv => whnf) | skip) | (with_reducible refine And.intro ?_ ?_) | ((with_reducible show arithK _ _ _); refine arith_ok ⟨by omega, by omega⟩ ?_) | ((with_reducible show quoK _ _ _ _); refine quo_ok ⟨by omega, by omega⟩ (by omega) (by omega) ?_) | ((with_reducible show remK _ _ _ _); refine rem_ok (by omega) (by omega) ?_) | ((first | (with_reducible show CallA _ _ _ _ _ _) | (with_reducible show CallQ _ _ _ _ _ _)); first | fail) | ((with_reducible show DrawA _ _ _ _ _ _); first | fail)))
      all_goals first | omega | skip
      (conv => whnf)
      refine ⟨(i + 1, yss.set i (marks (yss.getD i []).length (1 + lens xss i))), ⟨by dsimp only; omega, by simpa using h2, fun j => ?_⟩, ?_, by dsimp only; omega⟩
      · dsimp only
        rw [getD_set]
        split
        · rename_i hj; rw [marks_len, ← hj.1, hli]
        · exact h3 j
      · have hl : (yss.set i (marks (yss.getD i []).length (1 + lens xss i))).length + 1 = xss.length + 1 := by simp [h2]
        have hm := heap_own (yss := yss.set i (marks (yss.getD i []).length (1 + lens xss i)))
        rw [hl, ← set_own (marks_len _ _)] at hm
        refine ⟨rfl, [], ⟨⟨rfl, rfl, rfl⟩, ⟨rfl, ?_⟩, ⟨rfl, rfl⟩, trivial⟩, ?_⟩
        · show ((1 + lens xss i + (yss.getD i []).length : Nat) : Int) = ((1 + lens xss (i + 1) : Nat) : Int)
          omega
        · rw [← set_own (marks_len _ _)]
          exact hm
    · obtain rfl : i = xss.length := by omega
      repeat' ((first | (conv => whnf) | skip); (first | ((with_reducible intro h); first | contradiction | omega | (conv => whnf) | skip) | (with_reducible refine And.intro ?_ ?_) | ((with_reducible show arithK _ _ _); refine arith_ok ⟨by omega, by omega⟩ ?_) | ((with_reducible show quoK _ _ _ _); refine quo_ok ⟨by omega, by omega⟩ (by omega) (by omega) ?_) | ((with_reducible show remK _ _ _ _); refine rem_ok (by omega) (by omega) ?_) | ((first | (with_reducible show CallA _ _ _ _ _ _) | (with_reducible show CallQ _ _ _ _ _ _)); first | fail) | ((with_reducible show DrawA _ _ _ _ _ _); first | fail)))
      all_goals first | omega | rfl | (rw [own_len, own_len, h2]) | trace_state
end Go.Proofs.Ytcdfdigehaipmaa
