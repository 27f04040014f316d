/-
  The law on lists of claims drawn from bytes. No conditions but those in the statements.
-/
import Derived.Test.YtgmganleejjeeaaDoorDt
import Derived.Test.YtgmganleejjeeaaDoorGb
import Derived.Test.YtgmganleejjeeaaDoorGc
import Derived.Test.YtgmganleejjeeaaDoorGd
import Derived.Test.YtgmganleejjeeaaDoorPlain
namespace Go.Proofs.YtgmganleejjeeaaDoor
open Go.AE

attribute [local irreducible] CallA LoopA DrawA CallQ arithK quoK remK eqK
theorem idxs_get {q : Nat → Bool} {n i : Nat} (h : i < (idxs q n).length) : 0 ≤ (idxs q n).getD i 0 ∧ (idxs q n).getD i 0 < n ∧ q ((idxs q n).getD i 0).toNat = true := by
  have hm := getD_mem (d := 0) h
  generalize (idxs q n).getD i 0 = e at hm
  unfold idxs at hm
  obtain ⟨j, hj, rfl⟩ := List.mem_map.1 hm
  have := List.mem_filter.1 hj
  have h1 := List.mem_range.1 this.1
  exact ⟨by omega, by omega, this.2⟩
/-- The sum of the amounts of the first claims. -/
def amt (xss : List (List Int)) (i : Nat) : Int := ((xss.take i).map fun r => r.getD 3 0).sum
theorem amt_zero (xss : List (List Int)) : amt xss 0 = 0 := rfl
theorem amt_next {xss : List (List Int)} {i : Nat} (h : i < xss.length) : amt xss (i + 1) = amt xss i + (xss.getD i []).getD 3 0 := by
  unfold amt
  rw [take_snoc [] h, List.map_append, List.sum_append]
  simp
theorem amt_bd {xss : List (List Int)} (h : allCl xss) : ∀ i, i ≤ xss.length → 0 ≤ amt xss i ∧ amt xss i ≤ 100000000 * (i : Int)
  | 0, _ => by rw [amt_zero]; omega
  | i + 1, hi => by
    have ih := amt_bd h i (by omega)
    have hr := (h _ (getD_mem (d := []) (show i < xss.length by omega))).2.2.2.1
    rw [amt_next (by omega)]
    omega
theorem sum_set4 {s : List Int} (hs : s.length = 4) {k : Nat} (hk : k < 4) (a : Int) : (s.set k (s.getD k 0 + a)).sum = s.sum + a := by
  match s, hs with
  | [p, q, r, t], _ =>
    rcases (show k = 0 ∨ k = 1 ∨ k = 2 ∨ k = 3 by omega) with rfl | rfl | rfl | rfl <;> simp <;> omega
theorem sums_amt {xss : List (List Int)} (h : allCl xss) : ∀ i, i ≤ xss.length → (sumsL (xss.take i)).sum = amt xss i
  | 0, _ => by rw [amt_zero]; rfl
  | i + 1, hi => by
    have ih := sums_amt h i (by omega)
    have hr := (h _ (getD_mem (d := []) (show i < xss.length by omega))).2.2.2.2.2.1
    rw [take_snoc [] (by omega), sumsL_snoc, amt_next (by omega), ← ih]
    unfold addCl
    exact sum_set4 (sumsL_len _) (by omega) _
theorem cs_code {xss : List (List Int)} (h : csC xss = 0) : areCl xss := by
  unfold csC at h
  split at h
  · assumption
  · omega
theorem sc_code {xss : List (List Int)} (h : scC xss = 0) : areCl xss := by
  unfold scC at h
  split at h
  · assumption
  · omega
theorem wc_code {xss : List (List Int)} {n : Int} (h : wcC xss n = 0) : areCl xss ∧ 0 ≤ n ∧ n ≤ 35999 := by
  unfold wcC at h
  split at h
  · split at h
    · exact ⟨by assumption, by assumption⟩
    · omega
  · omega
theorem cs_sum {xss : List (List Int)} (h : csC xss = 0) : (csR xss).sum = amt xss xss.length := by
  have ha := cs_code h
  rw [(cs_yes ha).1, ← sums_amt ha.1 xss.length (Nat.le_refl _), take_all (Nat.le_refl _)]
theorem cs_take {xss : List (List Int)} (hl : xss.length ≤ 41) : ∀ i, i ≤ (csR xss).length → -9223372036854775808 ≤ ((csR xss).take i).sum ∧ ((csR xss).take i).sum ≤ 9223372036854775807 := by
  intro i hi
  by_cases ha : areCl xss
  · rw [(cs_yes ha).1] at *
    have hb := sumsL_bd xss ha.1
    have h4 := sumsL_len xss
    generalize sumsL xss = s at *
    match s, h4 with
    | [p, q, r, t], _ =>
      have b0 : 0 ≤ p ∧ p ≤ _ := hb 0
      have b1 : 0 ≤ q ∧ q ≤ _ := hb 1
      have b2 : 0 ≤ r ∧ r ≤ _ := hb 2
      have b3 : 0 ≤ t ∧ t ≤ _ := hb 3
      have hi4 : i ≤ 4 := hi
      rcases (show i = 0 ∨ i = 1 ∨ i = 2 ∨ i = 3 ∨ i = 4 by omega) with rfl | rfl | rfl | rfl | rfl <;> simp <;> omega
  · rw [(cs_no ha).1]
    simp
theorem susp_at {xss : List (List Int)} (h : scC xss = 0) {i : Nat} (hi : i < (scR xss).length) : (0 ≤ (scR xss).getD i 0 ∧ (scR xss).getD i 0 < xss.length) ∧ (xss.getD ((scR xss).getD i 0).toNat []).getD 1 0 ≤ 1 ∧ (xss.getD ((scR xss).getD i 0).toNat []).getD 5 0 ≠ 2 := by
  have ha := sc_code h
  rw [(sc_yes ha).1] at *
  have := idxs_get hi
  obtain ⟨h1, h2, h3⟩ := this
  unfold suspQ at h3
  simp only [Bool.and_eq_true, decide_eq_true_eq] at h3
  exact ⟨⟨h1, h2⟩, h3.1⟩
theorem wait_at {xss : List (List Int)} {n : Int} (h : wcC xss n = 0) {i : Nat} (hi : i < (wcR xss n).length) : (0 ≤ (wcR xss n).getD i 0 ∧ (wcR xss n).getD i 0 < xss.length) ∧ rowCl (xss.getD ((wcR xss n).getD i 0).toNat []) ∧ waits n (xss.getD ((wcR xss n).getD i 0).toNat []) := by
  have ha := wc_code h
  rw [(wc_yes ha.1 ha.2).1] at *
  obtain ⟨h1, h2, h3⟩ := idxs_get hi
  exact ⟨⟨h1, h2⟩, ha.1.1 _ (getD_mem (by omega)), of_decide_eq_true h3⟩
theorem susp_at2 {xss : List (List Int)} (h : scC xss = 0) {i : Nat} (hi : i < (scR xss).length) : (0 ≤ (scR xss).getD ((i : Int)).toNat 0 ∧ (scR xss).getD ((i : Int)).toNat 0 < xss.length) ∧ (xss.getD ((scR xss).getD ((i : Int)).toNat 0).toNat []).getD 1 0 ≤ 1 ∧ (xss.getD ((scR xss).getD ((i : Int)).toNat 0).toNat []).getD 5 0 ≠ 2 := susp_at h hi
theorem wait_at2 {xss : List (List Int)} {n : Int} (h : wcC xss n = 0) {i : Nat} (hi : i < (wcR xss n).length) : (0 ≤ (wcR xss n).getD ((i : Int)).toNat 0 ∧ (wcR xss n).getD ((i : Int)).toNat 0 < xss.length) ∧ rowCl (xss.getD ((wcR xss n).getD ((i : Int)).toNat 0).toNat []) ∧ waits n (xss.getD ((wcR xss n).getD ((i : Int)).toNat 0).toNat []) := wait_at h hi
theorem dec_wait {r : List Int} {n : Int} (h1 : rowCl r) (h2 : waits n r) (hn : 0 ≤ n ∧ n ≤ 35999) (hf : ¬ n < r.getD 2 0) :
    decCode (r.getD 0 0) (r.getD 1 0) (r.getD 2 0) (r.getD 3 0) (r.getD 4 0) (r.getD 5 0) n true = 0 ∧ sel (decOk (r.getD 0 0) (r.getD 1 0) (r.getD 2 0) (r.getD 3 0) (r.getD 4 0) (r.getD 5 0) n true) (if true = true then 1 else 2) = 1 := by
  have hok : decOk (r.getD 0 0) (r.getD 1 0) (r.getD 2 0) (r.getD 3 0) (r.getD 4 0) (r.getD 5 0) n true := ⟨h1, hn, h2.1, by omega, fun _ => h2.2⟩
  unfold decCode sel
  rw [if_neg (fun h => h h1), if_neg (fun h => h hn), if_pos hok, if_pos hok]
  exact ⟨rfl, rfl⟩
theorem sc_cs (xss : List (List Int)) : scC xss = csC xss := rfl
attribute [local irreducible] srcOk csC scC wcC csR scR wcR amt
set_option maxHeartbeats 8000000 in
set_option maxRecDepth 100000 in
theorem lawLists_ret (code : List Int) (hn : code.length ≤ 9223372036854775807) (hb : bytesOk code) : Ret Tryd.prog G 4 [Rb code] (Bo true) := by
  refine ret_of_body hT Tryd.func4 rfl ?_ rfl
  by_cases hbig : (4096 : Int) < code.length
  · repeat' (first | (intro h; first | contradiction | omega | (conv => whnf) | skip) | (refine And.intro ?_ ?_) | (refine arith_ok ⟨by omega, by omega⟩ ?_) | (first | (refine draw_quiet hT mixed (by decide +kernel) ?_) | (refine draw_hard hT mixed (by decide +kernel) ?_)) | (refine Ret.goP (big_ret code) rfl ?_) | (refine Ret.goQP (big_ret code) rfl ?_))
    all_goals first | rfl | omega | trace_state
  · replace hn : code.length ≤ 2305843009213693952 := by omega
    repeat' (first | (intro h; first | contradiction | omega | (conv => whnf) | skip) | (refine And.intro ?_ ?_) | (refine arith_ok ⟨by omega, by omega⟩ ?_) | (first | (refine draw_quiet hT mixed (by decide +kernel) ?_) | (refine draw_hard hT mixed (by decide +kernel) ?_)) | (refine Ret.goP (big_ret code) rfl ?_) | (refine Ret.goQP (big_ret code) rfl ?_) | (refine CallA.goE3 false [] (drawWaiting_call code hn hb) rfl (by first | ((repeat' (first | exact rfl | exact trivial | refine And.intro ?_ ?_ | omega | assumption)); done) | fail) (by first | ((repeat' (first | exact rfl | exact trivial | refine And.intro ?_ ?_ | omega | assumption)); done) | fail) ?_; rintro xss y s2 ⟨⟨hl, hr⟩, _⟩; (first | (conv => whnf) | skip)) | (refine CallA.go [] (implWaiting_call xss y (by omega)) rfl (by first | ((repeat' (first | exact rfl | exact trivial | refine And.intro ?_ ?_ | omega | assumption)); done) | fail) trivial ?_) | (refine CallA.go [] (specWaiting_call xss y (by omega)) rfl (by first | ((repeat' (first | exact rfl | exact trivial | refine And.intro ?_ ?_ | omega | assumption)); done) | fail) trivial ?_) | (refine CallA.goE3 false [] (drawSuspect_call code hn hb) rfl (by first | ((repeat' (first | exact rfl | exact trivial | refine And.intro ?_ ?_ | omega | assumption)); done) | fail) (by first | ((repeat' (first | exact rfl | exact trivial | refine And.intro ?_ ?_ | omega | assumption)); done) | fail) ?_; rintro ass a2 s2 ⟨hc, hr2⟩; (first | (conv => whnf) | skip)) | (refine CallA.go [] (implSuspect_call ass (by omega)) rfl (by first | ((repeat' (first | exact rfl | exact trivial | refine And.intro ?_ ?_ | omega | assumption)); done) | fail) trivial ?_) | (refine CallA.go [] (specSuspect_call ass (by omega)) rfl (by first | ((repeat' (first | exact rfl | exact trivial | refine And.intro ?_ ?_ | omega | assumption)); done) | fail) trivial ?_) | (refine CallA.go [] (implClaimSums_call ass (by omega)) rfl (by first | ((repeat' (first | exact rfl | exact trivial | refine And.intro ?_ ?_ | omega | assumption)); done) | fail) trivial ?_) | (refine CallA.go [] (specClaimSums_call ass (by omega)) rfl (by first | ((repeat' (first | exact rfl | exact trivial | refine And.intro ?_ ?_ | omega | assumption)); done) | fail) trivial ?_) | (refine Ret.useP (likeInts_ret (wcR xss y) (wcR xss y) (Nat.le_trans (wcR_len xss y) (by decide))) (by first | ((repeat' (first | exact rfl | exact trivial | refine And.intro ?_ ?_ | omega | assumption)); done) | fail) ?_) | (refine Ret.useQP (likeInts_ret (wcR xss y) (wcR xss y) (Nat.le_trans (wcR_len xss y) (by decide))) (by first | ((repeat' (first | exact rfl | exact trivial | refine And.intro ?_ ?_ | omega | assumption)); done) | fail) ?_) | (refine Ret.useP (likeInts_ret (scR ass) (scR ass) (Nat.le_trans (scR_len ass) (by decide))) (by first | ((repeat' (first | exact rfl | exact trivial | refine And.intro ?_ ?_ | omega | assumption)); done) | fail) ?_) | (refine Ret.useQP (likeInts_ret (scR ass) (scR ass) (Nat.le_trans (scR_len ass) (by decide))) (by first | ((repeat' (first | exact rfl | exact trivial | refine And.intro ?_ ?_ | omega | assumption)); done) | fail) ?_) | (refine Ret.useP (likeInts_ret (csR ass) (csR ass) (Nat.le_trans (csR_len ass) (by decide))) (by first | ((repeat' (first | exact rfl | exact trivial | refine And.intro ?_ ?_ | omega | assumption)); done) | fail) ?_) | (refine Ret.useQP (likeInts_ret (csR ass) (csR ass) (Nat.le_trans (csR_len ass) (by decide))) (by first | ((repeat' (first | exact rfl | exact trivial | refine And.intro ?_ ?_ | omega | assumption)); done) | fail) ?_))
    all_goals first | rfl | omega | exact absurd (sc_cs ass) h | skip
    · have hcs : csC ass = 0 := h
      have ha := cs_code hcs
      refine loop_rule hT (fun i : Nat => i ≤ ass.length) 185 8 [3, 4, 5, 6, 7, 9, 10, 11, 12, 14, 15, 18, 19] (fun i => [.sl 0 6 xss.length, I y, .sl 1 1 (wcR xss y).length, I (wcC xss y), .sl 2 1 (wcR xss y).length, .sl 3 6 ass.length, .sl 4 1 (scR ass).length, I (scC ass), .sl 5 1 (scR ass).length, .sl 6 1 (csR ass).length, I (csC ass), I (amt ass i), I i]) (fun _ => [DClaim xss, Di (wcR xss y), Di (wcR xss y), DClaim ass, Di (scR ass), Di (scR ass), Di (csR ass), Di (csR ass)]) (fun i => ass.length - i) (0) (Nat.le_of_ble_eq_true rfl) ?_ ?_ ?_
      · exact Nat.zero_le _
      · (first | (refine ⟨rfl, [], ?_, ?_⟩; all_goals (repeat' (first | exact rfl | exact trivial | omega | assumption | exact (amt_zero ass).symm | refine And.intro ?_ ?_)); done) | (refine ⟨rfl, [some 1], ?_, ?_⟩; all_goals (repeat' (first | exact rfl | exact trivial | omega | assumption | exact (amt_zero ass).symm | refine And.intro ?_ ?_)); done) | (refine ⟨rfl, [some 2], ?_, ?_⟩; all_goals (repeat' (first | exact rfl | exact trivial | omega | assumption | exact (amt_zero ass).symm | refine And.intro ?_ ?_)); done) | (refine ⟨rfl, [some 3], ?_, ?_⟩; all_goals (repeat' (first | exact rfl | exact trivial | omega | assumption | exact (amt_zero ass).symm | refine And.intro ?_ ?_)); done) | (refine ⟨rfl, [some 0], ?_, ?_⟩; all_goals (repeat' (first | exact rfl | exact trivial | omega | assumption | exact (amt_zero ass).symm | refine And.intro ?_ ?_)); done) | (refine ⟨rfl, [some 4], ?_, ?_⟩; all_goals (repeat' (first | exact rfl | exact trivial | omega | assumption | exact (amt_zero ass).symm | refine And.intro ?_ ?_)); done) | (refine ⟨rfl, [some 5], ?_, ?_⟩; all_goals (repeat' (first | exact rfl | exact trivial | omega | assumption | exact (amt_zero ass).symm | refine And.intro ?_ ?_)); done) | (refine ⟨rfl, [some 6], ?_, ?_⟩; all_goals (repeat' (first | exact rfl | exact trivial | omega | assumption | exact (amt_zero ass).symm | refine And.intro ?_ ?_)); done))
      · rintro i hi1
        have hbd := amt_bd ha.1 i hi1
        by_cases hi : i < ass.length
        · have hst := amt_next hi
          have hbd2 := amt_bd ha.1 (i + 1) hi
          have hst2 : amt ass (i + 1) = amt ass i + (ass.getD ((i : Int)).toNat []).getD 3 0 := hst
          repeat' (first | (intro h; first | contradiction | omega | (conv => whnf) | skip) | (refine And.intro ?_ ?_) | (refine arith_ok ⟨by omega, by omega⟩ ?_) | (first | (refine draw_quiet hT mixed (by decide +kernel) ?_) | (refine draw_hard hT mixed (by decide +kernel) ?_)) | fail)
          all_goals first | omega | skip
          all_goals (refine ⟨i + 1, by omega, ?_, by omega⟩; (first | (refine ⟨rfl, [], ?_, ?_⟩; all_goals (repeat' (first | exact rfl | exact trivial | omega | assumption | exact hst.symm | refine And.intro ?_ ?_)); done) | (refine ⟨rfl, [some 1], ?_, ?_⟩; all_goals (repeat' (first | exact rfl | exact trivial | omega | assumption | exact hst.symm | refine And.intro ?_ ?_)); done) | (refine ⟨rfl, [some 2], ?_, ?_⟩; all_goals (repeat' (first | exact rfl | exact trivial | omega | assumption | exact hst.symm | refine And.intro ?_ ?_)); done) | (refine ⟨rfl, [some 3], ?_, ?_⟩; all_goals (repeat' (first | exact rfl | exact trivial | omega | assumption | exact hst.symm | refine And.intro ?_ ?_)); done) | (refine ⟨rfl, [some 0], ?_, ?_⟩; all_goals (repeat' (first | exact rfl | exact trivial | omega | assumption | exact hst.symm | refine And.intro ?_ ?_)); done) | (refine ⟨rfl, [some 4], ?_, ?_⟩; all_goals (repeat' (first | exact rfl | exact trivial | omega | assumption | exact hst.symm | refine And.intro ?_ ?_)); done) | (refine ⟨rfl, [some 5], ?_, ?_⟩; all_goals (repeat' (first | exact rfl | exact trivial | omega | assumption | exact hst.symm | refine And.intro ?_ ?_)); done) | (refine ⟨rfl, [some 6], ?_, ?_⟩; all_goals (repeat' (first | exact rfl | exact trivial | omega | assumption | exact hst.symm | refine And.intro ?_ ?_)); done)))
        · obtain rfl : i = ass.length := by omega
          have hsum := cs_sum hcs
          repeat' (first | (intro h; first | contradiction | omega | (conv => whnf) | skip) | (refine And.intro ?_ ?_) | (refine arith_ok ⟨by omega, by omega⟩ ?_) | (first | (refine draw_quiet hT mixed (by decide +kernel) ?_) | (refine draw_hard hT mixed (by decide +kernel) ?_)) | (refine Ret.use (sum_ret (csR ass) (Nat.le_trans (csR_len ass) (by decide)) (cs_take hc)) (by first | ((repeat' (first | exact rfl | exact trivial | refine And.intro ?_ ?_ | omega | assumption)); done) | fail) ?_) | (refine Ret.useQ (sum_ret (csR ass) (Nat.le_trans (csR_len ass) (by decide)) (cs_take hc)) (by first | ((repeat' (first | exact rfl | exact trivial | refine And.intro ?_ ?_ | omega | assumption)); done) | fail) rfl ?_))
          all_goals first | omega | exact absurd hsum (by assumption) | skip
          all_goals
            refine loop_rule hT (fun i : Nat => i ≤ (scR ass).length) 185 8 [3, 4, 5, 6, 7, 9, 10, 11, 12, 14, 15, 20] (fun i => [.sl 0 6 xss.length, I y, .sl 1 1 (wcR xss y).length, I (wcC xss y), .sl 2 1 (wcR xss y).length, .sl 3 6 ass.length, .sl 4 1 (scR ass).length, I (scC ass), .sl 5 1 (scR ass).length, .sl 6 1 (csR ass).length, I (csC ass), I i]) (fun _ => [DClaim xss, Di (wcR xss y), Di (wcR xss y), DClaim ass, Di (scR ass), Di (scR ass), Di (csR ass), Di (csR ass)]) (fun i => (scR ass).length - i) (0) (Nat.le_of_ble_eq_true rfl) ?_ ?_ ?_
            · exact Nat.zero_le _
            · (first | (refine ⟨rfl, [], ?_, ?_⟩; all_goals (repeat' (first | exact rfl | exact trivial | omega | assumption | fail | refine And.intro ?_ ?_)); done) | (refine ⟨rfl, [some 1], ?_, ?_⟩; all_goals (repeat' (first | exact rfl | exact trivial | omega | assumption | fail | refine And.intro ?_ ?_)); done) | (refine ⟨rfl, [some 2], ?_, ?_⟩; all_goals (repeat' (first | exact rfl | exact trivial | omega | assumption | fail | refine And.intro ?_ ?_)); done) | (refine ⟨rfl, [some 3], ?_, ?_⟩; all_goals (repeat' (first | exact rfl | exact trivial | omega | assumption | fail | refine And.intro ?_ ?_)); done) | (refine ⟨rfl, [some 0], ?_, ?_⟩; all_goals (repeat' (first | exact rfl | exact trivial | omega | assumption | fail | refine And.intro ?_ ?_)); done) | (refine ⟨rfl, [some 4], ?_, ?_⟩; all_goals (repeat' (first | exact rfl | exact trivial | omega | assumption | fail | refine And.intro ?_ ?_)); done) | (refine ⟨rfl, [some 5], ?_, ?_⟩; all_goals (repeat' (first | exact rfl | exact trivial | omega | assumption | fail | refine And.intro ?_ ?_)); done) | (refine ⟨rfl, [some 6], ?_, ?_⟩; all_goals (repeat' (first | exact rfl | exact trivial | omega | assumption | fail | refine And.intro ?_ ?_)); done))
            · rintro i hi2
              have hsl := scR_len ass
              by_cases hz : scC ass = 0
              · by_cases hlt : i < (scR ass).length
                · obtain ⟨⟨g1, g2⟩, g3, g4⟩ := susp_at2 hz hlt
                  repeat' (first | (intro h; first | contradiction | omega | (conv => whnf) | skip) | (refine And.intro ?_ ?_) | (refine arith_ok ⟨by omega, by omega⟩ ?_) | (first | (refine draw_quiet hT mixed (by decide +kernel) ?_) | (refine draw_hard hT mixed (by decide +kernel) ?_)) | fail)
                  all_goals first | omega | assumption | (show _ < _; omega) | exact absurd (by assumption) g4 | exact absurd g3 (Int.not_le.2 (by assumption)) | skip
                  all_goals (refine ⟨i + 1, by omega, ?_, by omega⟩; (first | (refine ⟨rfl, [], ?_, ?_⟩; all_goals (repeat' (first | exact rfl | exact trivial | omega | assumption | fail | refine And.intro ?_ ?_)); done) | (refine ⟨rfl, [some 1], ?_, ?_⟩; all_goals (repeat' (first | exact rfl | exact trivial | omega | assumption | fail | refine And.intro ?_ ?_)); done) | (refine ⟨rfl, [some 2], ?_, ?_⟩; all_goals (repeat' (first | exact rfl | exact trivial | omega | assumption | fail | refine And.intro ?_ ?_)); done) | (refine ⟨rfl, [some 3], ?_, ?_⟩; all_goals (repeat' (first | exact rfl | exact trivial | omega | assumption | fail | refine And.intro ?_ ?_)); done) | (refine ⟨rfl, [some 0], ?_, ?_⟩; all_goals (repeat' (first | exact rfl | exact trivial | omega | assumption | fail | refine And.intro ?_ ?_)); done) | (refine ⟨rfl, [some 4], ?_, ?_⟩; all_goals (repeat' (first | exact rfl | exact trivial | omega | assumption | fail | refine And.intro ?_ ?_)); done) | (refine ⟨rfl, [some 5], ?_, ?_⟩; all_goals (repeat' (first | exact rfl | exact trivial | omega | assumption | fail | refine And.intro ?_ ?_)); done) | (refine ⟨rfl, [some 6], ?_, ?_⟩; all_goals (repeat' (first | exact rfl | exact trivial | omega | assumption | fail | refine And.intro ?_ ?_)); done)))
                · repeat' (first | (intro h; first | contradiction | omega | (conv => whnf) | skip) | (refine And.intro ?_ ?_) | (refine arith_ok ⟨by omega, by omega⟩ ?_) | (first | (refine draw_quiet hT mixed (by decide +kernel) ?_) | (refine draw_hard hT mixed (by decide +kernel) ?_)) | fail)
                  all_goals first | omega | rfl | skip
                  all_goals
                    refine loop_rule hT (fun i : Nat => i ≤ (wcR xss y).length) 185 8 [3, 4, 5, 6, 7, 9, 10, 11, 12, 14, 15, 21] (fun i => [.sl 0 6 xss.length, I y, .sl 1 1 (wcR xss y).length, I (wcC xss y), .sl 2 1 (wcR xss y).length, .sl 3 6 ass.length, .sl 4 1 (scR ass).length, I (scC ass), .sl 5 1 (scR ass).length, .sl 6 1 (csR ass).length, I (csC ass), I i]) (fun _ => [DClaim xss, Di (wcR xss y), Di (wcR xss y), DClaim ass, Di (scR ass), Di (scR ass), Di (csR ass), Di (csR ass)]) (fun i => (wcR xss y).length - i) (0) (Nat.le_of_ble_eq_true rfl) ?_ ?_ ?_
                    · exact Nat.zero_le _
                    · (first | (refine ⟨rfl, [], ?_, ?_⟩; all_goals (repeat' (first | exact rfl | exact trivial | omega | assumption | fail | refine And.intro ?_ ?_)); done) | (refine ⟨rfl, [some 1], ?_, ?_⟩; all_goals (repeat' (first | exact rfl | exact trivial | omega | assumption | fail | refine And.intro ?_ ?_)); done) | (refine ⟨rfl, [some 2], ?_, ?_⟩; all_goals (repeat' (first | exact rfl | exact trivial | omega | assumption | fail | refine And.intro ?_ ?_)); done) | (refine ⟨rfl, [some 3], ?_, ?_⟩; all_goals (repeat' (first | exact rfl | exact trivial | omega | assumption | fail | refine And.intro ?_ ?_)); done) | (refine ⟨rfl, [some 0], ?_, ?_⟩; all_goals (repeat' (first | exact rfl | exact trivial | omega | assumption | fail | refine And.intro ?_ ?_)); done) | (refine ⟨rfl, [some 4], ?_, ?_⟩; all_goals (repeat' (first | exact rfl | exact trivial | omega | assumption | fail | refine And.intro ?_ ?_)); done) | (refine ⟨rfl, [some 5], ?_, ?_⟩; all_goals (repeat' (first | exact rfl | exact trivial | omega | assumption | fail | refine And.intro ?_ ?_)); done) | (refine ⟨rfl, [some 6], ?_, ?_⟩; all_goals (repeat' (first | exact rfl | exact trivial | omega | assumption | fail | refine And.intro ?_ ?_)); done))
                    · rintro i hi3
                      have hwl := wcR_len xss y
                      by_cases hz : wcC xss y = 0
                      · by_cases hlt : i < (wcR xss y).length
                        · obtain ⟨⟨g1, g2⟩, g3, g4⟩ := wait_at2 hz hlt
                          have hwc := (wc_code hz).2
                          by_cases hf : y < (xss.getD ((wcR xss y).getD ((i : Int)).toNat 0).toNat []).getD 2 0
                          · repeat' (first | (intro h; first | contradiction | omega | (conv => whnf) | skip) | (refine And.intro ?_ ?_) | (refine arith_ok ⟨by omega, by omega⟩ ?_) | (first | (refine draw_quiet hT mixed (by decide +kernel) ?_) | (refine draw_hard hT mixed (by decide +kernel) ?_)) | fail)
                            all_goals first | omega | assumption | (show _ < _; omega) | skip
                            all_goals (refine ⟨i + 1, by omega, ?_, by omega⟩; (first | (refine ⟨rfl, [], ?_, ?_⟩; all_goals (repeat' (first | exact rfl | exact trivial | omega | assumption | fail | refine And.intro ?_ ?_)); done) | (refine ⟨rfl, [some 1], ?_, ?_⟩; all_goals (repeat' (first | exact rfl | exact trivial | omega | assumption | fail | refine And.intro ?_ ?_)); done) | (refine ⟨rfl, [some 2], ?_, ?_⟩; all_goals (repeat' (first | exact rfl | exact trivial | omega | assumption | fail | refine And.intro ?_ ?_)); done) | (refine ⟨rfl, [some 3], ?_, ?_⟩; all_goals (repeat' (first | exact rfl | exact trivial | omega | assumption | fail | refine And.intro ?_ ?_)); done) | (refine ⟨rfl, [some 0], ?_, ?_⟩; all_goals (repeat' (first | exact rfl | exact trivial | omega | assumption | fail | refine And.intro ?_ ?_)); done) | (refine ⟨rfl, [some 4], ?_, ?_⟩; all_goals (repeat' (first | exact rfl | exact trivial | omega | assumption | fail | refine And.intro ?_ ?_)); done) | (refine ⟨rfl, [some 5], ?_, ?_⟩; all_goals (repeat' (first | exact rfl | exact trivial | omega | assumption | fail | refine And.intro ?_ ?_)); done) | (refine ⟨rfl, [some 6], ?_, ?_⟩; all_goals (repeat' (first | exact rfl | exact trivial | omega | assumption | fail | refine And.intro ?_ ?_)); done)))
                          · obtain ⟨d1, d2⟩ := dec_wait g3 g4 hwc hf
                            repeat' (first | (intro h; first | contradiction | omega | (conv => whnf) | skip) | (refine And.intro ?_ ?_) | (refine arith_ok ⟨by omega, by omega⟩ ?_) | (first | (refine draw_quiet hT mixed (by decide +kernel) ?_) | (refine draw_hard hT mixed (by decide +kernel) ?_)) | (refine Ret.go (implDecide_ret _ _ _ _ _ _ _ true) rfl rfl ?_) | (refine Ret.goQ (implDecide_ret _ _ _ _ _ _ _ true) rfl rfl ?_))
                            all_goals first | omega | assumption | (show _ < _; omega) | exact absurd d1 (by assumption) | exact absurd d2 (by assumption) | skip
                            all_goals (refine ⟨i + 1, by omega, ?_, by omega⟩; (first | (refine ⟨rfl, [], ?_, ?_⟩; all_goals (repeat' (first | exact rfl | exact trivial | omega | assumption | fail | refine And.intro ?_ ?_)); done) | (refine ⟨rfl, [some 1], ?_, ?_⟩; all_goals (repeat' (first | exact rfl | exact trivial | omega | assumption | fail | refine And.intro ?_ ?_)); done) | (refine ⟨rfl, [some 2], ?_, ?_⟩; all_goals (repeat' (first | exact rfl | exact trivial | omega | assumption | fail | refine And.intro ?_ ?_)); done) | (refine ⟨rfl, [some 3], ?_, ?_⟩; all_goals (repeat' (first | exact rfl | exact trivial | omega | assumption | fail | refine And.intro ?_ ?_)); done) | (refine ⟨rfl, [some 0], ?_, ?_⟩; all_goals (repeat' (first | exact rfl | exact trivial | omega | assumption | fail | refine And.intro ?_ ?_)); done) | (refine ⟨rfl, [some 4], ?_, ?_⟩; all_goals (repeat' (first | exact rfl | exact trivial | omega | assumption | fail | refine And.intro ?_ ?_)); done) | (refine ⟨rfl, [some 5], ?_, ?_⟩; all_goals (repeat' (first | exact rfl | exact trivial | omega | assumption | fail | refine And.intro ?_ ?_)); done) | (refine ⟨rfl, [some 6], ?_, ?_⟩; all_goals (repeat' (first | exact rfl | exact trivial | omega | assumption | fail | refine And.intro ?_ ?_)); done)))
                        · repeat' (first | (intro h; first | contradiction | omega | (conv => whnf) | skip) | (refine And.intro ?_ ?_) | (refine arith_ok ⟨by omega, by omega⟩ ?_) | (first | (refine draw_quiet hT mixed (by decide +kernel) ?_) | (refine draw_hard hT mixed (by decide +kernel) ?_)) | fail)
                          all_goals first | omega | rfl | trace_state
                      · repeat' (first | (intro h; first | contradiction | omega | (conv => whnf) | skip) | (refine And.intro ?_ ?_) | (refine arith_ok ⟨by omega, by omega⟩ ?_) | (first | (refine draw_quiet hT mixed (by decide +kernel) ?_) | (refine draw_hard hT mixed (by decide +kernel) ?_)) | fail)
                        all_goals first | omega | rfl | trace_state
              · repeat' (first | (intro h; first | contradiction | omega | (conv => whnf) | skip) | (refine And.intro ?_ ?_) | (refine arith_ok ⟨by omega, by omega⟩ ?_) | (first | (refine draw_quiet hT mixed (by decide +kernel) ?_) | (refine draw_hard hT mixed (by decide +kernel) ?_)) | fail)
                all_goals first | omega | rfl | skip
                all_goals
                  refine loop_rule hT (fun i : Nat => i ≤ (wcR xss y).length) 185 8 [3, 4, 5, 6, 7, 9, 10, 11, 12, 14, 15, 21] (fun i => [.sl 0 6 xss.length, I y, .sl 1 1 (wcR xss y).length, I (wcC xss y), .sl 2 1 (wcR xss y).length, .sl 3 6 ass.length, .sl 4 1 (scR ass).length, I (scC ass), .sl 5 1 (scR ass).length, .sl 6 1 (csR ass).length, I (csC ass), I i]) (fun _ => [DClaim xss, Di (wcR xss y), Di (wcR xss y), DClaim ass, Di (scR ass), Di (scR ass), Di (csR ass), Di (csR ass)]) (fun i => (wcR xss y).length - i) (0) (Nat.le_of_ble_eq_true rfl) ?_ ?_ ?_
                  · exact Nat.zero_le _
                  · (first | (refine ⟨rfl, [], ?_, ?_⟩; all_goals (repeat' (first | exact rfl | exact trivial | omega | assumption | fail | refine And.intro ?_ ?_)); done) | (refine ⟨rfl, [some 1], ?_, ?_⟩; all_goals (repeat' (first | exact rfl | exact trivial | omega | assumption | fail | refine And.intro ?_ ?_)); done) | (refine ⟨rfl, [some 2], ?_, ?_⟩; all_goals (repeat' (first | exact rfl | exact trivial | omega | assumption | fail | refine And.intro ?_ ?_)); done) | (refine ⟨rfl, [some 3], ?_, ?_⟩; all_goals (repeat' (first | exact rfl | exact trivial | omega | assumption | fail | refine And.intro ?_ ?_)); done) | (refine ⟨rfl, [some 0], ?_, ?_⟩; all_goals (repeat' (first | exact rfl | exact trivial | omega | assumption | fail | refine And.intro ?_ ?_)); done) | (refine ⟨rfl, [some 4], ?_, ?_⟩; all_goals (repeat' (first | exact rfl | exact trivial | omega | assumption | fail | refine And.intro ?_ ?_)); done) | (refine ⟨rfl, [some 5], ?_, ?_⟩; all_goals (repeat' (first | exact rfl | exact trivial | omega | assumption | fail | refine And.intro ?_ ?_)); done) | (refine ⟨rfl, [some 6], ?_, ?_⟩; all_goals (repeat' (first | exact rfl | exact trivial | omega | assumption | fail | refine And.intro ?_ ?_)); done))
                  · rintro i hi3
                    have hwl := wcR_len xss y
                    by_cases hz : wcC xss y = 0
                    · by_cases hlt : i < (wcR xss y).length
                      · obtain ⟨⟨g1, g2⟩, g3, g4⟩ := wait_at2 hz hlt
                        have hwc := (wc_code hz).2
                        by_cases hf : y < (xss.getD ((wcR xss y).getD ((i : Int)).toNat 0).toNat []).getD 2 0
                        · repeat' (first | (intro h; first | contradiction | omega | (conv => whnf) | skip) | (refine And.intro ?_ ?_) | (refine arith_ok ⟨by omega, by omega⟩ ?_) | (first | (refine draw_quiet hT mixed (by decide +kernel) ?_) | (refine draw_hard hT mixed (by decide +kernel) ?_)) | fail)
                          all_goals first | omega | assumption | (show _ < _; omega) | skip
                          all_goals (refine ⟨i + 1, by omega, ?_, by omega⟩; (first | (refine ⟨rfl, [], ?_, ?_⟩; all_goals (repeat' (first | exact rfl | exact trivial | omega | assumption | fail | refine And.intro ?_ ?_)); done) | (refine ⟨rfl, [some 1], ?_, ?_⟩; all_goals (repeat' (first | exact rfl | exact trivial | omega | assumption | fail | refine And.intro ?_ ?_)); done) | (refine ⟨rfl, [some 2], ?_, ?_⟩; all_goals (repeat' (first | exact rfl | exact trivial | omega | assumption | fail | refine And.intro ?_ ?_)); done) | (refine ⟨rfl, [some 3], ?_, ?_⟩; all_goals (repeat' (first | exact rfl | exact trivial | omega | assumption | fail | refine And.intro ?_ ?_)); done) | (refine ⟨rfl, [some 0], ?_, ?_⟩; all_goals (repeat' (first | exact rfl | exact trivial | omega | assumption | fail | refine And.intro ?_ ?_)); done) | (refine ⟨rfl, [some 4], ?_, ?_⟩; all_goals (repeat' (first | exact rfl | exact trivial | omega | assumption | fail | refine And.intro ?_ ?_)); done) | (refine ⟨rfl, [some 5], ?_, ?_⟩; all_goals (repeat' (first | exact rfl | exact trivial | omega | assumption | fail | refine And.intro ?_ ?_)); done) | (refine ⟨rfl, [some 6], ?_, ?_⟩; all_goals (repeat' (first | exact rfl | exact trivial | omega | assumption | fail | refine And.intro ?_ ?_)); done)))
                        · obtain ⟨d1, d2⟩ := dec_wait g3 g4 hwc hf
                          repeat' (first | (intro h; first | contradiction | omega | (conv => whnf) | skip) | (refine And.intro ?_ ?_) | (refine arith_ok ⟨by omega, by omega⟩ ?_) | (first | (refine draw_quiet hT mixed (by decide +kernel) ?_) | (refine draw_hard hT mixed (by decide +kernel) ?_)) | (refine Ret.go (implDecide_ret _ _ _ _ _ _ _ true) rfl rfl ?_) | (refine Ret.goQ (implDecide_ret _ _ _ _ _ _ _ true) rfl rfl ?_))
                          all_goals first | omega | assumption | (show _ < _; omega) | exact absurd d1 (by assumption) | exact absurd d2 (by assumption) | skip
                          all_goals (refine ⟨i + 1, by omega, ?_, by omega⟩; (first | (refine ⟨rfl, [], ?_, ?_⟩; all_goals (repeat' (first | exact rfl | exact trivial | omega | assumption | fail | refine And.intro ?_ ?_)); done) | (refine ⟨rfl, [some 1], ?_, ?_⟩; all_goals (repeat' (first | exact rfl | exact trivial | omega | assumption | fail | refine And.intro ?_ ?_)); done) | (refine ⟨rfl, [some 2], ?_, ?_⟩; all_goals (repeat' (first | exact rfl | exact trivial | omega | assumption | fail | refine And.intro ?_ ?_)); done) | (refine ⟨rfl, [some 3], ?_, ?_⟩; all_goals (repeat' (first | exact rfl | exact trivial | omega | assumption | fail | refine And.intro ?_ ?_)); done) | (refine ⟨rfl, [some 0], ?_, ?_⟩; all_goals (repeat' (first | exact rfl | exact trivial | omega | assumption | fail | refine And.intro ?_ ?_)); done) | (refine ⟨rfl, [some 4], ?_, ?_⟩; all_goals (repeat' (first | exact rfl | exact trivial | omega | assumption | fail | refine And.intro ?_ ?_)); done) | (refine ⟨rfl, [some 5], ?_, ?_⟩; all_goals (repeat' (first | exact rfl | exact trivial | omega | assumption | fail | refine And.intro ?_ ?_)); done) | (refine ⟨rfl, [some 6], ?_, ?_⟩; all_goals (repeat' (first | exact rfl | exact trivial | omega | assumption | fail | refine And.intro ?_ ?_)); done)))
                      · repeat' (first | (intro h; first | contradiction | omega | (conv => whnf) | skip) | (refine And.intro ?_ ?_) | (refine arith_ok ⟨by omega, by omega⟩ ?_) | (first | (refine draw_quiet hT mixed (by decide +kernel) ?_) | (refine draw_hard hT mixed (by decide +kernel) ?_)) | fail)
                        all_goals first | omega | rfl | trace_state
                    · repeat' (first | (intro h; first | contradiction | omega | (conv => whnf) | skip) | (refine And.intro ?_ ?_) | (refine arith_ok ⟨by omega, by omega⟩ ?_) | (first | (refine draw_quiet hT mixed (by decide +kernel) ?_) | (refine draw_hard hT mixed (by decide +kernel) ?_)) | fail)
                      all_goals first | omega | rfl | trace_state
    · refine loop_rule hT (fun i : Nat => i ≤ (scR ass).length) 185 8 [3, 4, 5, 6, 7, 9, 10, 11, 12, 14, 15, 20] (fun i => [.sl 0 6 xss.length, I y, .sl 1 1 (wcR xss y).length, I (wcC xss y), .sl 2 1 (wcR xss y).length, .sl 3 6 ass.length, .sl 4 1 (scR ass).length, I (scC ass), .sl 5 1 (scR ass).length, .sl 6 1 (csR ass).length, I (csC ass), I i]) (fun _ => [DClaim xss, Di (wcR xss y), Di (wcR xss y), DClaim ass, Di (scR ass), Di (scR ass), Di (csR ass), Di (csR ass)]) (fun i => (scR ass).length - i) (0) (Nat.le_of_ble_eq_true rfl) ?_ ?_ ?_
      · exact Nat.zero_le _
      · (first | (refine ⟨rfl, [], ?_, ?_⟩; all_goals (repeat' (first | exact rfl | exact trivial | omega | assumption | fail | refine And.intro ?_ ?_)); done) | (refine ⟨rfl, [some 1], ?_, ?_⟩; all_goals (repeat' (first | exact rfl | exact trivial | omega | assumption | fail | refine And.intro ?_ ?_)); done) | (refine ⟨rfl, [some 2], ?_, ?_⟩; all_goals (repeat' (first | exact rfl | exact trivial | omega | assumption | fail | refine And.intro ?_ ?_)); done) | (refine ⟨rfl, [some 3], ?_, ?_⟩; all_goals (repeat' (first | exact rfl | exact trivial | omega | assumption | fail | refine And.intro ?_ ?_)); done) | (refine ⟨rfl, [some 0], ?_, ?_⟩; all_goals (repeat' (first | exact rfl | exact trivial | omega | assumption | fail | refine And.intro ?_ ?_)); done) | (refine ⟨rfl, [some 4], ?_, ?_⟩; all_goals (repeat' (first | exact rfl | exact trivial | omega | assumption | fail | refine And.intro ?_ ?_)); done) | (refine ⟨rfl, [some 5], ?_, ?_⟩; all_goals (repeat' (first | exact rfl | exact trivial | omega | assumption | fail | refine And.intro ?_ ?_)); done) | (refine ⟨rfl, [some 6], ?_, ?_⟩; all_goals (repeat' (first | exact rfl | exact trivial | omega | assumption | fail | refine And.intro ?_ ?_)); done))
      · rintro i hi2
        have hsl := scR_len ass
        by_cases hz : scC ass = 0
        · by_cases hlt : i < (scR ass).length
          · obtain ⟨⟨g1, g2⟩, g3, g4⟩ := susp_at2 hz hlt
            repeat' (first | (intro h; first | contradiction | omega | (conv => whnf) | skip) | (refine And.intro ?_ ?_) | (refine arith_ok ⟨by omega, by omega⟩ ?_) | (first | (refine draw_quiet hT mixed (by decide +kernel) ?_) | (refine draw_hard hT mixed (by decide +kernel) ?_)) | fail)
            all_goals first | omega | assumption | (show _ < _; omega) | exact absurd (by assumption) g4 | exact absurd g3 (Int.not_le.2 (by assumption)) | skip
            all_goals (refine ⟨i + 1, by omega, ?_, by omega⟩; (first | (refine ⟨rfl, [], ?_, ?_⟩; all_goals (repeat' (first | exact rfl | exact trivial | omega | assumption | fail | refine And.intro ?_ ?_)); done) | (refine ⟨rfl, [some 1], ?_, ?_⟩; all_goals (repeat' (first | exact rfl | exact trivial | omega | assumption | fail | refine And.intro ?_ ?_)); done) | (refine ⟨rfl, [some 2], ?_, ?_⟩; all_goals (repeat' (first | exact rfl | exact trivial | omega | assumption | fail | refine And.intro ?_ ?_)); done) | (refine ⟨rfl, [some 3], ?_, ?_⟩; all_goals (repeat' (first | exact rfl | exact trivial | omega | assumption | fail | refine And.intro ?_ ?_)); done) | (refine ⟨rfl, [some 0], ?_, ?_⟩; all_goals (repeat' (first | exact rfl | exact trivial | omega | assumption | fail | refine And.intro ?_ ?_)); done) | (refine ⟨rfl, [some 4], ?_, ?_⟩; all_goals (repeat' (first | exact rfl | exact trivial | omega | assumption | fail | refine And.intro ?_ ?_)); done) | (refine ⟨rfl, [some 5], ?_, ?_⟩; all_goals (repeat' (first | exact rfl | exact trivial | omega | assumption | fail | refine And.intro ?_ ?_)); done) | (refine ⟨rfl, [some 6], ?_, ?_⟩; all_goals (repeat' (first | exact rfl | exact trivial | omega | assumption | fail | refine And.intro ?_ ?_)); done)))
          · repeat' (first | (intro h; first | contradiction | omega | (conv => whnf) | skip) | (refine And.intro ?_ ?_) | (refine arith_ok ⟨by omega, by omega⟩ ?_) | (first | (refine draw_quiet hT mixed (by decide +kernel) ?_) | (refine draw_hard hT mixed (by decide +kernel) ?_)) | fail)
            all_goals first | omega | rfl | skip
            all_goals
              refine loop_rule hT (fun i : Nat => i ≤ (wcR xss y).length) 185 8 [3, 4, 5, 6, 7, 9, 10, 11, 12, 14, 15, 21] (fun i => [.sl 0 6 xss.length, I y, .sl 1 1 (wcR xss y).length, I (wcC xss y), .sl 2 1 (wcR xss y).length, .sl 3 6 ass.length, .sl 4 1 (scR ass).length, I (scC ass), .sl 5 1 (scR ass).length, .sl 6 1 (csR ass).length, I (csC ass), I i]) (fun _ => [DClaim xss, Di (wcR xss y), Di (wcR xss y), DClaim ass, Di (scR ass), Di (scR ass), Di (csR ass), Di (csR ass)]) (fun i => (wcR xss y).length - i) (0) (Nat.le_of_ble_eq_true rfl) ?_ ?_ ?_
              · exact Nat.zero_le _
              · (first | (refine ⟨rfl, [], ?_, ?_⟩; all_goals (repeat' (first | exact rfl | exact trivial | omega | assumption | fail | refine And.intro ?_ ?_)); done) | (refine ⟨rfl, [some 1], ?_, ?_⟩; all_goals (repeat' (first | exact rfl | exact trivial | omega | assumption | fail | refine And.intro ?_ ?_)); done) | (refine ⟨rfl, [some 2], ?_, ?_⟩; all_goals (repeat' (first | exact rfl | exact trivial | omega | assumption | fail | refine And.intro ?_ ?_)); done) | (refine ⟨rfl, [some 3], ?_, ?_⟩; all_goals (repeat' (first | exact rfl | exact trivial | omega | assumption | fail | refine And.intro ?_ ?_)); done) | (refine ⟨rfl, [some 0], ?_, ?_⟩; all_goals (repeat' (first | exact rfl | exact trivial | omega | assumption | fail | refine And.intro ?_ ?_)); done) | (refine ⟨rfl, [some 4], ?_, ?_⟩; all_goals (repeat' (first | exact rfl | exact trivial | omega | assumption | fail | refine And.intro ?_ ?_)); done) | (refine ⟨rfl, [some 5], ?_, ?_⟩; all_goals (repeat' (first | exact rfl | exact trivial | omega | assumption | fail | refine And.intro ?_ ?_)); done) | (refine ⟨rfl, [some 6], ?_, ?_⟩; all_goals (repeat' (first | exact rfl | exact trivial | omega | assumption | fail | refine And.intro ?_ ?_)); done))
              · rintro i hi3
                have hwl := wcR_len xss y
                by_cases hz : wcC xss y = 0
                · by_cases hlt : i < (wcR xss y).length
                  · obtain ⟨⟨g1, g2⟩, g3, g4⟩ := wait_at2 hz hlt
                    have hwc := (wc_code hz).2
                    by_cases hf : y < (xss.getD ((wcR xss y).getD ((i : Int)).toNat 0).toNat []).getD 2 0
                    · repeat' (first | (intro h; first | contradiction | omega | (conv => whnf) | skip) | (refine And.intro ?_ ?_) | (refine arith_ok ⟨by omega, by omega⟩ ?_) | (first | (refine draw_quiet hT mixed (by decide +kernel) ?_) | (refine draw_hard hT mixed (by decide +kernel) ?_)) | fail)
                      all_goals first | omega | assumption | (show _ < _; omega) | skip
                      all_goals (refine ⟨i + 1, by omega, ?_, by omega⟩; (first | (refine ⟨rfl, [], ?_, ?_⟩; all_goals (repeat' (first | exact rfl | exact trivial | omega | assumption | fail | refine And.intro ?_ ?_)); done) | (refine ⟨rfl, [some 1], ?_, ?_⟩; all_goals (repeat' (first | exact rfl | exact trivial | omega | assumption | fail | refine And.intro ?_ ?_)); done) | (refine ⟨rfl, [some 2], ?_, ?_⟩; all_goals (repeat' (first | exact rfl | exact trivial | omega | assumption | fail | refine And.intro ?_ ?_)); done) | (refine ⟨rfl, [some 3], ?_, ?_⟩; all_goals (repeat' (first | exact rfl | exact trivial | omega | assumption | fail | refine And.intro ?_ ?_)); done) | (refine ⟨rfl, [some 0], ?_, ?_⟩; all_goals (repeat' (first | exact rfl | exact trivial | omega | assumption | fail | refine And.intro ?_ ?_)); done) | (refine ⟨rfl, [some 4], ?_, ?_⟩; all_goals (repeat' (first | exact rfl | exact trivial | omega | assumption | fail | refine And.intro ?_ ?_)); done) | (refine ⟨rfl, [some 5], ?_, ?_⟩; all_goals (repeat' (first | exact rfl | exact trivial | omega | assumption | fail | refine And.intro ?_ ?_)); done) | (refine ⟨rfl, [some 6], ?_, ?_⟩; all_goals (repeat' (first | exact rfl | exact trivial | omega | assumption | fail | refine And.intro ?_ ?_)); done)))
                    · obtain ⟨d1, d2⟩ := dec_wait g3 g4 hwc hf
                      repeat' (first | (intro h; first | contradiction | omega | (conv => whnf) | skip) | (refine And.intro ?_ ?_) | (refine arith_ok ⟨by omega, by omega⟩ ?_) | (first | (refine draw_quiet hT mixed (by decide +kernel) ?_) | (refine draw_hard hT mixed (by decide +kernel) ?_)) | (refine Ret.go (implDecide_ret _ _ _ _ _ _ _ true) rfl rfl ?_) | (refine Ret.goQ (implDecide_ret _ _ _ _ _ _ _ true) rfl rfl ?_))
                      all_goals first | omega | assumption | (show _ < _; omega) | exact absurd d1 (by assumption) | exact absurd d2 (by assumption) | skip
                      all_goals (refine ⟨i + 1, by omega, ?_, by omega⟩; (first | (refine ⟨rfl, [], ?_, ?_⟩; all_goals (repeat' (first | exact rfl | exact trivial | omega | assumption | fail | refine And.intro ?_ ?_)); done) | (refine ⟨rfl, [some 1], ?_, ?_⟩; all_goals (repeat' (first | exact rfl | exact trivial | omega | assumption | fail | refine And.intro ?_ ?_)); done) | (refine ⟨rfl, [some 2], ?_, ?_⟩; all_goals (repeat' (first | exact rfl | exact trivial | omega | assumption | fail | refine And.intro ?_ ?_)); done) | (refine ⟨rfl, [some 3], ?_, ?_⟩; all_goals (repeat' (first | exact rfl | exact trivial | omega | assumption | fail | refine And.intro ?_ ?_)); done) | (refine ⟨rfl, [some 0], ?_, ?_⟩; all_goals (repeat' (first | exact rfl | exact trivial | omega | assumption | fail | refine And.intro ?_ ?_)); done) | (refine ⟨rfl, [some 4], ?_, ?_⟩; all_goals (repeat' (first | exact rfl | exact trivial | omega | assumption | fail | refine And.intro ?_ ?_)); done) | (refine ⟨rfl, [some 5], ?_, ?_⟩; all_goals (repeat' (first | exact rfl | exact trivial | omega | assumption | fail | refine And.intro ?_ ?_)); done) | (refine ⟨rfl, [some 6], ?_, ?_⟩; all_goals (repeat' (first | exact rfl | exact trivial | omega | assumption | fail | refine And.intro ?_ ?_)); done)))
                  · repeat' (first | (intro h; first | contradiction | omega | (conv => whnf) | skip) | (refine And.intro ?_ ?_) | (refine arith_ok ⟨by omega, by omega⟩ ?_) | (first | (refine draw_quiet hT mixed (by decide +kernel) ?_) | (refine draw_hard hT mixed (by decide +kernel) ?_)) | fail)
                    all_goals first | omega | rfl | trace_state
                · repeat' (first | (intro h; first | contradiction | omega | (conv => whnf) | skip) | (refine And.intro ?_ ?_) | (refine arith_ok ⟨by omega, by omega⟩ ?_) | (first | (refine draw_quiet hT mixed (by decide +kernel) ?_) | (refine draw_hard hT mixed (by decide +kernel) ?_)) | fail)
                  all_goals first | omega | rfl | trace_state
        · repeat' (first | (intro h; first | contradiction | omega | (conv => whnf) | skip) | (refine And.intro ?_ ?_) | (refine arith_ok ⟨by omega, by omega⟩ ?_) | (first | (refine draw_quiet hT mixed (by decide +kernel) ?_) | (refine draw_hard hT mixed (by decide +kernel) ?_)) | fail)
          all_goals first | omega | rfl | skip
          all_goals
            refine loop_rule hT (fun i : Nat => i ≤ (wcR xss y).length) 185 8 [3, 4, 5, 6, 7, 9, 10, 11, 12, 14, 15, 21] (fun i => [.sl 0 6 xss.length, I y, .sl 1 1 (wcR xss y).length, I (wcC xss y), .sl 2 1 (wcR xss y).length, .sl 3 6 ass.length, .sl 4 1 (scR ass).length, I (scC ass), .sl 5 1 (scR ass).length, .sl 6 1 (csR ass).length, I (csC ass), I i]) (fun _ => [DClaim xss, Di (wcR xss y), Di (wcR xss y), DClaim ass, Di (scR ass), Di (scR ass), Di (csR ass), Di (csR ass)]) (fun i => (wcR xss y).length - i) (0) (Nat.le_of_ble_eq_true rfl) ?_ ?_ ?_
            · exact Nat.zero_le _
            · (first | (refine ⟨rfl, [], ?_, ?_⟩; all_goals (repeat' (first | exact rfl | exact trivial | omega | assumption | fail | refine And.intro ?_ ?_)); done) | (refine ⟨rfl, [some 1], ?_, ?_⟩; all_goals (repeat' (first | exact rfl | exact trivial | omega | assumption | fail | refine And.intro ?_ ?_)); done) | (refine ⟨rfl, [some 2], ?_, ?_⟩; all_goals (repeat' (first | exact rfl | exact trivial | omega | assumption | fail | refine And.intro ?_ ?_)); done) | (refine ⟨rfl, [some 3], ?_, ?_⟩; all_goals (repeat' (first | exact rfl | exact trivial | omega | assumption | fail | refine And.intro ?_ ?_)); done) | (refine ⟨rfl, [some 0], ?_, ?_⟩; all_goals (repeat' (first | exact rfl | exact trivial | omega | assumption | fail | refine And.intro ?_ ?_)); done) | (refine ⟨rfl, [some 4], ?_, ?_⟩; all_goals (repeat' (first | exact rfl | exact trivial | omega | assumption | fail | refine And.intro ?_ ?_)); done) | (refine ⟨rfl, [some 5], ?_, ?_⟩; all_goals (repeat' (first | exact rfl | exact trivial | omega | assumption | fail | refine And.intro ?_ ?_)); done) | (refine ⟨rfl, [some 6], ?_, ?_⟩; all_goals (repeat' (first | exact rfl | exact trivial | omega | assumption | fail | refine And.intro ?_ ?_)); done))
            · rintro i hi3
              have hwl := wcR_len xss y
              by_cases hz : wcC xss y = 0
              · by_cases hlt : i < (wcR xss y).length
                · obtain ⟨⟨g1, g2⟩, g3, g4⟩ := wait_at2 hz hlt
                  have hwc := (wc_code hz).2
                  by_cases hf : y < (xss.getD ((wcR xss y).getD ((i : Int)).toNat 0).toNat []).getD 2 0
                  · repeat' (first | (intro h; first | contradiction | omega | (conv => whnf) | skip) | (refine And.intro ?_ ?_) | (refine arith_ok ⟨by omega, by omega⟩ ?_) | (first | (refine draw_quiet hT mixed (by decide +kernel) ?_) | (refine draw_hard hT mixed (by decide +kernel) ?_)) | fail)
                    all_goals first | omega | assumption | (show _ < _; omega) | skip
                    all_goals (refine ⟨i + 1, by omega, ?_, by omega⟩; (first | (refine ⟨rfl, [], ?_, ?_⟩; all_goals (repeat' (first | exact rfl | exact trivial | omega | assumption | fail | refine And.intro ?_ ?_)); done) | (refine ⟨rfl, [some 1], ?_, ?_⟩; all_goals (repeat' (first | exact rfl | exact trivial | omega | assumption | fail | refine And.intro ?_ ?_)); done) | (refine ⟨rfl, [some 2], ?_, ?_⟩; all_goals (repeat' (first | exact rfl | exact trivial | omega | assumption | fail | refine And.intro ?_ ?_)); done) | (refine ⟨rfl, [some 3], ?_, ?_⟩; all_goals (repeat' (first | exact rfl | exact trivial | omega | assumption | fail | refine And.intro ?_ ?_)); done) | (refine ⟨rfl, [some 0], ?_, ?_⟩; all_goals (repeat' (first | exact rfl | exact trivial | omega | assumption | fail | refine And.intro ?_ ?_)); done) | (refine ⟨rfl, [some 4], ?_, ?_⟩; all_goals (repeat' (first | exact rfl | exact trivial | omega | assumption | fail | refine And.intro ?_ ?_)); done) | (refine ⟨rfl, [some 5], ?_, ?_⟩; all_goals (repeat' (first | exact rfl | exact trivial | omega | assumption | fail | refine And.intro ?_ ?_)); done) | (refine ⟨rfl, [some 6], ?_, ?_⟩; all_goals (repeat' (first | exact rfl | exact trivial | omega | assumption | fail | refine And.intro ?_ ?_)); done)))
                  · obtain ⟨d1, d2⟩ := dec_wait g3 g4 hwc hf
                    repeat' (first | (intro h; first | contradiction | omega | (conv => whnf) | skip) | (refine And.intro ?_ ?_) | (refine arith_ok ⟨by omega, by omega⟩ ?_) | (first | (refine draw_quiet hT mixed (by decide +kernel) ?_) | (refine draw_hard hT mixed (by decide +kernel) ?_)) | (refine Ret.go (implDecide_ret _ _ _ _ _ _ _ true) rfl rfl ?_) | (refine Ret.goQ (implDecide_ret _ _ _ _ _ _ _ true) rfl rfl ?_))
                    all_goals first | omega | assumption | (show _ < _; omega) | exact absurd d1 (by assumption) | exact absurd d2 (by assumption) | skip
                    all_goals (refine ⟨i + 1, by omega, ?_, by omega⟩; (first | (refine ⟨rfl, [], ?_, ?_⟩; all_goals (repeat' (first | exact rfl | exact trivial | omega | assumption | fail | refine And.intro ?_ ?_)); done) | (refine ⟨rfl, [some 1], ?_, ?_⟩; all_goals (repeat' (first | exact rfl | exact trivial | omega | assumption | fail | refine And.intro ?_ ?_)); done) | (refine ⟨rfl, [some 2], ?_, ?_⟩; all_goals (repeat' (first | exact rfl | exact trivial | omega | assumption | fail | refine And.intro ?_ ?_)); done) | (refine ⟨rfl, [some 3], ?_, ?_⟩; all_goals (repeat' (first | exact rfl | exact trivial | omega | assumption | fail | refine And.intro ?_ ?_)); done) | (refine ⟨rfl, [some 0], ?_, ?_⟩; all_goals (repeat' (first | exact rfl | exact trivial | omega | assumption | fail | refine And.intro ?_ ?_)); done) | (refine ⟨rfl, [some 4], ?_, ?_⟩; all_goals (repeat' (first | exact rfl | exact trivial | omega | assumption | fail | refine And.intro ?_ ?_)); done) | (refine ⟨rfl, [some 5], ?_, ?_⟩; all_goals (repeat' (first | exact rfl | exact trivial | omega | assumption | fail | refine And.intro ?_ ?_)); done) | (refine ⟨rfl, [some 6], ?_, ?_⟩; all_goals (repeat' (first | exact rfl | exact trivial | omega | assumption | fail | refine And.intro ?_ ?_)); done)))
                · repeat' (first | (intro h; first | contradiction | omega | (conv => whnf) | skip) | (refine And.intro ?_ ?_) | (refine arith_ok ⟨by omega, by omega⟩ ?_) | (first | (refine draw_quiet hT mixed (by decide +kernel) ?_) | (refine draw_hard hT mixed (by decide +kernel) ?_)) | fail)
                  all_goals first | omega | rfl | trace_state
              · repeat' (first | (intro h; first | contradiction | omega | (conv => whnf) | skip) | (refine And.intro ?_ ?_) | (refine arith_ok ⟨by omega, by omega⟩ ?_) | (first | (refine draw_quiet hT mixed (by decide +kernel) ?_) | (refine draw_hard hT mixed (by decide +kernel) ?_)) | fail)
                all_goals first | omega | rfl | trace_state
end Go.Proofs.YtgmganleejjeeaaDoor
