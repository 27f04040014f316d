/-
  Statutes, their gaps, outcomes and texts, drawn from bytes: the law. No conditions but those in the statements.
-/
import Derived.Test.YtgpgnhadmckmhaaGreatDoorGe
import Derived.Test.YtgpgnhadmckmhaaGreatDoorStr
set_option linter.unusedVariables false
set_option linter.unusedSimpArgs false
namespace Go.Proofs.YtgpgnhadmckmhaaGreatDoor
open Go.AE Go.Lib

attribute [local irreducible] CallA LoopA DrawA CallQ arithK quoK remK eqK
attribute [local irreducible] srcOk stx RS CS cnt fst fstN
/-! ### All cases are counted once -/
def sumO (xss : List (List Int)) (n : Int) : Nat → Int
  | 0 => cnt (gapQ xss) n
  | k + 1 => sumO xss n k + cnt (outQ xss (k : Int)) n
def seen (xss : List (List Int)) (n : Int) (k : Nat) : Prop := fstN xss n < 0 ∨ (0 ≤ fstN xss n ∧ 0 ≤ outAt xss (fstN xss n) ∧ outAt xss (fstN xss n) < (k : Int))
instance (xss : List (List Int)) (n : Int) (k : Nat) : Decidable (seen xss n k) := by unfold seen; infer_instance
theorem sumO_zero (xss : List (List Int)) : ∀ k, sumO xss 0 k = 0
  | 0 => cnt_zero _
  | k + 1 => by
    show sumO xss 0 k + _ = 0
    rw [sumO_zero xss k, cnt_zero]; rfl
theorem sumO_next (xss : List (List Int)) {n : Int} (h0 : 0 ≤ n) (ho : 0 ≤ fstN xss n → 0 ≤ outAt xss (fstN xss n)) : ∀ k, sumO xss (n + 1) k = sumO xss n k + (if seen xss n k then 1 else 0)
  | 0 => by
    show cnt (gapQ xss) (n + 1) = cnt (gapQ xss) n + _
    by_cases hg : fstN xss n < 0
    · rw [cnt_yes h0 (decide_eq_true hg), if_pos (.inl hg)]
    · rw [cnt_no h0 (decide_eq_false hg), if_neg (fun h => by rcases h with h | ⟨_, h1, h2⟩; exact hg h; omega)]; omega
  | k + 1 => by
    show sumO xss (n + 1) k + cnt (outQ xss (k : Int)) (n + 1) = sumO xss n k + cnt (outQ xss (k : Int)) n + _
    rw [sumO_next xss h0 ho k]
    by_cases hq : 0 ≤ fstN xss n ∧ outAt xss (fstN xss n) = (k : Int)
    · rw [cnt_yes h0 (decide_eq_true hq), if_neg (fun h => by rcases h with h | ⟨_, _, h2⟩ <;> omega), if_pos (.inr ⟨hq.1, by omega, by omega⟩)]; omega
    · rw [cnt_no h0 (decide_eq_false hq)]
      by_cases hs : seen xss n k
      · rw [if_pos hs, if_pos (by
          rcases hs with h | ⟨h1, h2, h3⟩
          · exact .inl h
          · exact .inr ⟨h1, h2, by omega⟩)]; omega
      · rw [if_neg hs, if_neg (fun h => by
          rcases h with h | ⟨h1, h2, h3⟩
          · exact hs (.inl h)
          · exact hs (.inr ⟨h1, h2, by
              have : outAt xss (fstN xss n) ≠ (k : Int) := fun e => hq ⟨h1, e⟩
              omega⟩))]; omega
theorem out_in {xss : List (List Int)} (ha : areRl xss) (n : Int) (h : 0 ≤ fstN xss n) : 0 ≤ outAt xss (fstN xss n) ∧ outAt xss (fstN xss n) ≤ 9 := by
  have hi := fstN_in xss n
  have hr := ha.at (i := (fstN xss n).toNat) (by omega)
  unfold rowL rowRl at hr
  unfold outAt
  omega
theorem sumO_all {xss : List (List Int)} (ha : areRl xss) : ∀ m : Nat, sumO xss (m : Int) 10 = (m : Int)
  | 0 => sumO_zero xss 10
  | m + 1 => by
    have h := sumO_next xss (n := (m : Int)) (by omega) (fun h => (out_in ha _ h).1) 10
    rw [sumO_all ha m] at h
    rw [show ((m + 1 : Nat) : Int) = (m : Int) + 1 by omega, h, if_pos (by
      by_cases hg : fstN xss (m : Int) < 0
      · exact .inl hg
      · have := out_in ha (m : Int) (by omega)
        exact .inr ⟨by omega, by omega, by omega⟩)]
theorem sumO_in (xss : List (List Int)) {n : Int} (h : 0 ≤ n) : ∀ k : Nat, 0 ≤ sumO xss n k ∧ sumO xss n k ≤ n * ((k : Int) + 1)
  | 0 => by
    have := cnt_in (gapQ xss) h
    exact ⟨this.1, by show cnt (gapQ xss) n ≤ n * (0 + 1); omega⟩
  | k + 1 => by
    have h1 := sumO_in xss h k
    have h2 := cnt_in (outQ xss (k : Int)) h
    have e : n * (((k + 1 : Nat) : Int) + 1) = n * ((k : Int) + 1) + n := by
      rw [show ((k + 1 : Nat) : Int) + 1 = (k : Int) + 1 + 1 by omega, Int.mul_add n ((k : Int) + 1) 1, Int.mul_one]
    show 0 ≤ sumO xss n k + _ ∧ sumO xss n k + _ ≤ _
    rw [e]
    omega
/-- The sum before outcome k. -/
def tO (xss : List (List Int)) (k : Nat) : Int := sumO xss 60400 k
theorem tO_next {xss : List (List Int)} (ha : areRl xss) {k : Nat} (hk : k < 10) : tO xss (k + 1) = tO xss k + coR xss (k : Int) := by
  rw [(co_yes ha (o := (k : Int)) ⟨by omega, by omega⟩).1]; rfl
theorem tO_zero {xss : List (List Int)} (ha : areRl xss) : tO xss 0 = cgR xss := by rw [(cg_yes ha).1]; rfl
theorem tO_all {xss : List (List Int)} (ha : areRl xss) : tO xss 10 = 60400 := sumO_all ha 60400
theorem tO_in (xss : List (List Int)) {k : Nat} (hk : k ≤ 10) : 0 ≤ tO xss k ∧ tO xss k ≤ 664400 := by
  have := sumO_in xss (n := 60400) (by decide) k
  unfold tO
  omega
theorem coR_in (xss : List (List Int)) (o : Int) : 0 ≤ coR xss o ∧ coR xss o ≤ 60400 := by
  unfold coR
  split
  · exact cnt_in _ (by decide)
  · exact ⟨by decide, by decide⟩
theorem CS_cases (s : List UInt8) : (CS s = 0 ∧ stC (RS s) = 0 ∧ stR (RS s) = s) ∨ CS s = 6 := by
  by_cases he : ∃ x, Acc s x
  · obtain ⟨x, hx⟩ := he
    obtain ⟨e1, e2⟩ := RS_yes hx
    rw [e1, e2]
    exact .inl ⟨rfl, if_pos hx.2.1, (if_pos hx.2.1).trans hx.2.2.symm⟩
  · exact .inr (RS_no fun x hx => he ⟨x, hx⟩).2
theorem st_back {xss : List (List Int)} (hr : ∀ r ∈ xss, r.length = 6) (ha : areRl xss) : RS (stR xss) = xss ∧ CS (stR xss) = 0 := RS_yes ⟨hr, ha, if_pos ha⟩
theorem code_y {xss : List (List Int)} (h : areRl xss) : codeR xss = 0 := if_pos h
theorem code_n {xss : List (List Int)} (h : ¬ areRl xss) : codeR xss = 1 := if_neg h
attribute [local irreducible] stR stC tO sumO coR coC cgR codeR
set_option maxHeartbeats 8000000 in
set_option maxRecDepth 100000 in
theorem lawSts_ret (code : List Int) (hn : code.length ≤ 9223372036854775807) (hb : bytesOk code) : Ret Tryz.prog G2 3 [Rb code] (Bo true) := by
  refine ret_of_body hT Tryz.func3 rfl ?_ rfl
  have hbg := (big_ret code).weak G_G2
  by_cases hbig : (4096 : Int) < code.length
  · rw [decide_eq_true hbig] at hbg
    repeat' ((first | (conv => whnf) | skip); (first | ((with_reducible intro h); first | contradiction | omega | (conv => whnf) | skip) | (with_reducible refine And.intro ?_ ?_) | ((with_reducible show arithK _ _ _); refine arith_ok ⟨by omega, by omega⟩ ?_) | ((with_reducible show quoK _ _ _ _); refine quo_ok ⟨by omega, by omega⟩ (by omega) (by omega) ?_) | ((with_reducible show remK _ _ _ _); refine rem_ok (by omega) (by omega) ?_) | ((first | (with_reducible show CallA _ _ _ _ _ _) | (with_reducible show CallQ _ _ _ _ _ _)); first | (refine Ret.use (hbg) (by first | ((repeat' (first | exact rfl | exact trivial | (with_reducible assumption) | refine And.intro ?_ ?_ | omega | assumption)); done) | fail) ?_) | (refine Ret.useQ (hbg) (by first | ((repeat' (first | exact rfl | exact trivial | (with_reducible assumption) | refine And.intro ?_ ?_ | omega | assumption)); done) | fail) rfl ?_)) | ((with_reducible show DrawA _ _ _ _ _ _); first | (refine draw_hard hT mixed (by decide +kernel) ?_))))
    all_goals first | rfl | omega | contradiction | trace_state
  · rw [decide_eq_false hbig] at hbg
    replace hn : code.length ≤ 2305843009213693952 := by omega
    repeat' ((first | (conv => whnf) | skip); (first | ((with_reducible intro h); first | contradiction | omega | (conv => whnf) | skip) | (with_reducible refine And.intro ?_ ?_) | ((with_reducible show arithK _ _ _); refine arith_ok ⟨by omega, by omega⟩ ?_) | ((with_reducible show quoK _ _ _ _); refine quo_ok ⟨by omega, by omega⟩ (by omega) (by omega) ?_) | ((with_reducible show remK _ _ _ _); refine rem_ok (by omega) (by omega) ?_) | ((first | (with_reducible show CallA _ _ _ _ _ _) | (with_reducible show CallQ _ _ _ _ _ _)); first | (refine Ret.use (hbg) (by first | ((repeat' (first | exact rfl | exact trivial | (with_reducible assumption) | refine And.intro ?_ ?_ | omega | assumption)); done) | fail) ?_) | (refine Ret.useQ (hbg) (by first | ((repeat' (first | exact rfl | exact trivial | (with_reducible assumption) | refine And.intro ?_ ?_ | omega | assumption)); done) | fail) rfl ?_) | (refine CallA.goE3 false [] ((drawCG_call code hn hb).weak G_G2) rfl (by first | ((repeat' (first | exact rfl | exact trivial | (with_reducible assumption) | refine And.intro ?_ ?_ | omega | assumption)); done) | fail) (by first | ((repeat' (first | exact rfl | exact trivial | (with_reducible assumption) | refine And.intro ?_ ?_ | omega | assumption)); done) | fail) ?_; rintro x0 a0 s0 ⟨hx0, _⟩; (first | (conv => whnf) | skip))) | ((with_reducible show DrawA _ _ _ _ _ _); first | (refine draw_hard hT mixed (by decide +kernel) ?_))))
    all_goals first | rfl | omega | contradiction | skip
    have k1 := (implGaps_ret x0 (by omega)).weak G_G2
    have k2 := (specGaps_ret x0 (by omega)).weak G_G2
    repeat' ((first | (conv => whnf) | skip); (first | ((with_reducible intro h); first | contradiction | omega | (conv => whnf) | skip) | (with_reducible refine And.intro ?_ ?_) | ((with_reducible show arithK _ _ _); refine arith_ok ⟨by omega, by omega⟩ ?_) | ((with_reducible show quoK _ _ _ _); refine quo_ok ⟨by omega, by omega⟩ (by omega) (by omega) ?_) | ((with_reducible show remK _ _ _ _); refine rem_ok (by omega) (by omega) ?_) | ((first | (with_reducible show CallA _ _ _ _ _ _) | (with_reducible show CallQ _ _ _ _ _ _)); first | (refine Ret.use (k1) (by first | ((repeat' (first | exact rfl | exact trivial | (with_reducible assumption) | refine And.intro ?_ ?_ | omega | assumption)); done) | fail) ?_) | (refine Ret.useQ (k1) (by first | ((repeat' (first | exact rfl | exact trivial | (with_reducible assumption) | refine And.intro ?_ ?_ | omega | assumption)); done) | fail) rfl ?_) | (refine Ret.use (k2) (by first | ((repeat' (first | exact rfl | exact trivial | (with_reducible assumption) | refine And.intro ?_ ?_ | omega | assumption)); done) | fail) ?_) | (refine Ret.useQ (k2) (by first | ((repeat' (first | exact rfl | exact trivial | (with_reducible assumption) | refine And.intro ?_ ?_ | omega | assumption)); done) | fail) rfl ?_) | (refine CallA.goE3 false [] ((drawCO_call code hn hb).weak G_G2) rfl (by first | ((repeat' (first | exact rfl | exact trivial | (with_reducible assumption) | refine And.intro ?_ ?_ | omega | assumption)); done) | fail) (by first | ((repeat' (first | exact rfl | exact trivial | (with_reducible assumption) | refine And.intro ?_ ?_ | omega | assumption)); done) | fail) ?_; rintro ⟨z0, m0⟩ a3 s3 ⟨hz0, _⟩; (first | (conv => whnf) | skip))) | ((with_reducible show DrawA _ _ _ _ _ _); first | (refine draw_hard hT mixed (by decide +kernel) ?_))))
    all_goals first | rfl | omega | contradiction | skip
    dsimp only at hz0
    have k3 := (implOut_ret z0 m0 (by omega)).weak G_G2
    have k4 := (specOut_ret z0 m0 (by omega)).weak G_G2
    have k5 := (implST_ret x0 (by omega) hx0.2).weak G_G2
    have k6 := (specST_ret x0 (by omega) hx0.2).weak G_G2
    repeat' ((first | (conv => whnf) | skip); (first | ((with_reducible intro h); first | contradiction | omega | (conv => whnf) | skip) | (with_reducible refine And.intro ?_ ?_) | ((with_reducible show arithK _ _ _); refine arith_ok ⟨by omega, by omega⟩ ?_) | ((with_reducible show quoK _ _ _ _); refine quo_ok ⟨by omega, by omega⟩ (by omega) (by omega) ?_) | ((with_reducible show remK _ _ _ _); refine rem_ok (by omega) (by omega) ?_) | ((first | (with_reducible show CallA _ _ _ _ _ _) | (with_reducible show CallQ _ _ _ _ _ _)); first | (refine Ret.use (k3) (by first | ((repeat' (first | exact rfl | exact trivial | (with_reducible assumption) | refine And.intro ?_ ?_ | omega | assumption)); done) | fail) ?_) | (refine Ret.useQ (k3) (by first | ((repeat' (first | exact rfl | exact trivial | (with_reducible assumption) | refine And.intro ?_ ?_ | omega | assumption)); done) | fail) rfl ?_) | (refine Ret.use (k4) (by first | ((repeat' (first | exact rfl | exact trivial | (with_reducible assumption) | refine And.intro ?_ ?_ | omega | assumption)); done) | fail) ?_) | (refine Ret.useQ (k4) (by first | ((repeat' (first | exact rfl | exact trivial | (with_reducible assumption) | refine And.intro ?_ ?_ | omega | assumption)); done) | fail) rfl ?_) | (refine Ret.use (k5) (by first | ((repeat' (first | exact rfl | exact trivial | (with_reducible assumption) | refine And.intro ?_ ?_ | omega | assumption)); done) | fail) ?_) | (refine Ret.useQ (k5) (by first | ((repeat' (first | exact rfl | exact trivial | (with_reducible assumption) | refine And.intro ?_ ?_ | omega | assumption)); done) | fail) rfl ?_) | (refine Ret.use (k6) (by first | ((repeat' (first | exact rfl | exact trivial | (with_reducible assumption) | refine And.intro ?_ ?_ | omega | assumption)); done) | fail) ?_) | (refine Ret.useQ (k6) (by first | ((repeat' (first | exact rfl | exact trivial | (with_reducible assumption) | refine And.intro ?_ ?_ | omega | assumption)); done) | fail) rfl ?_) | (refine CallA.goE3 false [] ((drawRS_call code hn hb).weak G_G2) rfl (by first | ((repeat' (first | exact rfl | exact trivial | (with_reducible assumption) | refine And.intro ?_ ?_ | omega | assumption)); done) | fail) (by first | ((repeat' (first | exact rfl | exact trivial | (with_reducible assumption) | refine And.intro ?_ ?_ | omega | assumption)); done) | fail) ?_; rintro y0 a1 s1 ⟨hy0, _⟩; (first | (conv => whnf) | skip); obtain ⟨l0, rfl⟩ := B_ex y0)) | ((with_reducible show DrawA _ _ _ _ _ _); first | (refine draw_hard hT mixed (by decide +kernel) ?_))))
    all_goals first | rfl | omega | contradiction | skip
    have hl0 : l0.length ≤ 3501 := hy0
    have k7 := implRS_call l0 (by omega)
    have k8 := (specRS_call l0 (by omega)).weak G_G2
    obtain ⟨hrr, hr20⟩ := RS_row l0
    have k9 := (likeR_ret (RS l0) (by omega)).weak G_G2
    have k11 := (implST_ret (RS l0) (by omega) hrr).weak G_G2
    have k10 := (implAre_ret x0 (by omega)).weak G_G2
    have hlr := stR_len (xss := x0) hx0.2
    by_cases ha : areRl x0
    · rw [decide_eq_true ha] at k10
      have b3 := code_y ha
      obtain ⟨b1, b2⟩ := st_back hx0.2 ha
      rcases CS_cases l0 with ⟨c1, c2, c3⟩ | c1
      · rw [c2, c3] at k11
        repeat' ((first | (conv => whnf) | skip); (first | ((with_reducible intro h); first | contradiction | omega | (conv => whnf) | skip) | (with_reducible refine And.intro ?_ ?_) | ((with_reducible show arithK _ _ _); refine arith_ok ⟨by omega, by omega⟩ ?_) | ((with_reducible show quoK _ _ _ _); refine quo_ok ⟨by omega, by omega⟩ (by omega) (by omega) ?_) | ((with_reducible show remK _ _ _ _); refine rem_ok (by omega) (by omega) ?_) | ((first | (with_reducible show CallA _ _ _ _ _ _) | (with_reducible show CallQ _ _ _ _ _ _)); first | (refine CallA.go [] (k7) rfl (by first | ((repeat' (first | exact rfl | exact trivial | (with_reducible assumption) | refine And.intro ?_ ?_ | omega | assumption)); done) | fail) trivial ?_) | (refine CallA.go [] (k8) rfl (by first | ((repeat' (first | exact rfl | exact trivial | (with_reducible assumption) | refine And.intro ?_ ?_ | omega | assumption)); done) | fail) trivial ?_) | (refine Ret.use (k9) (by first | ((repeat' (first | exact rfl | exact trivial | (with_reducible assumption) | refine And.intro ?_ ?_ | omega | assumption)); done) | fail) ?_) | (refine Ret.useQ (k9) (by first | ((repeat' (first | exact rfl | exact trivial | (with_reducible assumption) | refine And.intro ?_ ?_ | omega | assumption)); done) | fail) rfl ?_) | (refine Ret.use (k10) (by first | ((repeat' (first | exact rfl | exact trivial | (with_reducible assumption) | refine And.intro ?_ ?_ | omega | assumption)); done) | fail) ?_) | (refine Ret.useQ (k10) (by first | ((repeat' (first | exact rfl | exact trivial | (with_reducible assumption) | refine And.intro ?_ ?_ | omega | assumption)); done) | fail) rfl ?_) | (refine Ret.use (k11) (by first | ((repeat' (first | exact rfl | exact trivial | (with_reducible assumption) | refine And.intro ?_ ?_ | omega | assumption)); done) | fail) ?_) | (refine Ret.useQ (k11) (by first | ((repeat' (first | exact rfl | exact trivial | (with_reducible assumption) | refine And.intro ?_ ?_ | omega | assumption)); done) | fail) rfl ?_)) | ((with_reducible show DrawA _ _ _ _ _ _); first | (refine draw_hard hT mixed (by decide +kernel) ?_))))
        all_goals first | rfl | omega | contradiction | skip
        (conv => whnf)
        refine loop_rule hT (fun i : Nat => i ≤ 10) 178 4 [3, 14, 25, 26] (fun i => [.sl 0 6 x0.length, Sv (stR x0), I (tO x0 i), I i]) (fun _ => [DRule x0, .dead, .dead, .dead]) (fun i => 10 - i) (0) (Nat.le_of_ble_eq_true rfl) ?_ ?_ ?_
        · exact Nat.zero_le _
        · first | (refine ⟨rfl, [], ?_, ?_⟩; all_goals (repeat' (first | exact rfl | exact trivial | (with_reducible assumption) | refine And.intro ?_ ?_)); all_goals (first | omega | assumption | ((repeat' (first | exact (tO_zero ha).symm | exact rfl | exact trivial | (with_reducible assumption) | refine And.intro ?_ ?_ | omega | assumption)); done)); done) | trace_state
        · intro i h1
          have ht := tO_in x0 h1
          by_cases hi : i < 10
          · have hco := coR_in x0 (i : Int)
            have hcc := (co_yes ha (o := (i : Int)) ⟨by omega, by omega⟩).2
            have hnx := tO_next ha hi
            have kh := (implOut_ret x0 (i : Int) (by omega)).weak G_G2
            repeat' ((first | (conv => whnf) | skip); (first | ((with_reducible intro h); first | contradiction | omega | (conv => whnf) | skip) | (with_reducible refine And.intro ?_ ?_) | ((with_reducible show arithK _ _ _); refine arith_ok ⟨by omega, by omega⟩ ?_) | ((with_reducible show quoK _ _ _ _); refine quo_ok ⟨by omega, by omega⟩ (by omega) (by omega) ?_) | ((with_reducible show remK _ _ _ _); refine rem_ok (by omega) (by omega) ?_) | ((first | (with_reducible show CallA _ _ _ _ _ _) | (with_reducible show CallQ _ _ _ _ _ _)); first | (refine Ret.use (kh) (by first | ((repeat' (first | exact rfl | exact trivial | (with_reducible assumption) | refine And.intro ?_ ?_ | omega | assumption)); done) | fail) ?_) | (refine Ret.useQ (kh) (by first | ((repeat' (first | exact rfl | exact trivial | (with_reducible assumption) | refine And.intro ?_ ?_ | omega | assumption)); done) | fail) rfl ?_)) | ((with_reducible show DrawA _ _ _ _ _ _); first | (refine draw_hard hT mixed (by decide +kernel) ?_))))
            all_goals first | rfl | omega | contradiction | skip
            all_goals ((conv => whnf); first | (refine ⟨i + 1, by omega, ?_, by omega⟩; (refine ⟨rfl, [], ?_, ?_⟩; all_goals (repeat' (first | exact rfl | exact trivial | (with_reducible assumption) | refine And.intro ?_ ?_)); all_goals (first | omega | assumption | ((repeat' (first | exact hnx.symm | exact rfl | exact trivial | (with_reducible assumption) | refine And.intro ?_ ?_ | omega | assumption)); done)); done)) | trace_state)
          · obtain rfl : i = 10 := by omega
            have hall := tO_all ha
            have k16 := implRS_call (stR x0) (by omega)
            rw [b1, b2] at k16
            have k17 := (likeR_ret x0 (by omega)).weak G_G2
            repeat' ((first | (conv => whnf) | skip); (first | ((with_reducible intro h); first | contradiction | omega | (conv => whnf) | skip) | (with_reducible refine And.intro ?_ ?_) | ((with_reducible show arithK _ _ _); refine arith_ok ⟨by omega, by omega⟩ ?_) | ((with_reducible show quoK _ _ _ _); refine quo_ok ⟨by omega, by omega⟩ (by omega) (by omega) ?_) | ((with_reducible show remK _ _ _ _); refine rem_ok (by omega) (by omega) ?_) | ((first | (with_reducible show CallA _ _ _ _ _ _) | (with_reducible show CallQ _ _ _ _ _ _)); first | (refine CallA.go [] (k16) rfl (by first | ((repeat' (first | exact rfl | exact trivial | (with_reducible assumption) | refine And.intro ?_ ?_ | omega | assumption)); done) | fail) trivial ?_) | (refine Ret.use (k17) (by first | ((repeat' (first | exact rfl | exact trivial | (with_reducible assumption) | refine And.intro ?_ ?_ | omega | assumption)); done) | fail) ?_) | (refine Ret.useQ (k17) (by first | ((repeat' (first | exact rfl | exact trivial | (with_reducible assumption) | refine And.intro ?_ ?_ | omega | assumption)); done) | fail) rfl ?_)) | ((with_reducible show DrawA _ _ _ _ _ _); first | (refine draw_hard hT mixed (by decide +kernel) ?_))))
            all_goals first | rfl | omega | contradiction | trace_state
      · repeat' ((first | (conv => whnf) | skip); (first | ((with_reducible intro h); first | contradiction | omega | (conv => whnf) | skip) | (with_reducible refine And.intro ?_ ?_) | ((with_reducible show arithK _ _ _); refine arith_ok ⟨by omega, by omega⟩ ?_) | ((with_reducible show quoK _ _ _ _); refine quo_ok ⟨by omega, by omega⟩ (by omega) (by omega) ?_) | ((with_reducible show remK _ _ _ _); refine rem_ok (by omega) (by omega) ?_) | ((first | (with_reducible show CallA _ _ _ _ _ _) | (with_reducible show CallQ _ _ _ _ _ _)); first | (refine CallA.go [] (k7) rfl (by first | ((repeat' (first | exact rfl | exact trivial | (with_reducible assumption) | refine And.intro ?_ ?_ | omega | assumption)); done) | fail) trivial ?_) | (refine CallA.go [] (k8) rfl (by first | ((repeat' (first | exact rfl | exact trivial | (with_reducible assumption) | refine And.intro ?_ ?_ | omega | assumption)); done) | fail) trivial ?_) | (refine Ret.use (k9) (by first | ((repeat' (first | exact rfl | exact trivial | (with_reducible assumption) | refine And.intro ?_ ?_ | omega | assumption)); done) | fail) ?_) | (refine Ret.useQ (k9) (by first | ((repeat' (first | exact rfl | exact trivial | (with_reducible assumption) | refine And.intro ?_ ?_ | omega | assumption)); done) | fail) rfl ?_) | (refine Ret.use (k10) (by first | ((repeat' (first | exact rfl | exact trivial | (with_reducible assumption) | refine And.intro ?_ ?_ | omega | assumption)); done) | fail) ?_) | (refine Ret.useQ (k10) (by first | ((repeat' (first | exact rfl | exact trivial | (with_reducible assumption) | refine And.intro ?_ ?_ | omega | assumption)); done) | fail) rfl ?_)) | ((with_reducible show DrawA _ _ _ _ _ _); first | (refine draw_hard hT mixed (by decide +kernel) ?_))))
        all_goals first | rfl | omega | contradiction | skip
        (conv => whnf)
        refine loop_rule hT (fun i : Nat => i ≤ 10) 178 4 [3, 14, 25, 26] (fun i => [.sl 0 6 x0.length, Sv (stR x0), I (tO x0 i), I i]) (fun _ => [DRule x0, .dead, .dead, .dead]) (fun i => 10 - i) (0) (Nat.le_of_ble_eq_true rfl) ?_ ?_ ?_
        · exact Nat.zero_le _
        · first | (refine ⟨rfl, [], ?_, ?_⟩; all_goals (repeat' (first | exact rfl | exact trivial | (with_reducible assumption) | refine And.intro ?_ ?_)); all_goals (first | omega | assumption | ((repeat' (first | exact (tO_zero ha).symm | exact rfl | exact trivial | (with_reducible assumption) | refine And.intro ?_ ?_ | omega | assumption)); done)); done) | trace_state
        · intro i h1
          have ht := tO_in x0 h1
          by_cases hi : i < 10
          · have hco := coR_in x0 (i : Int)
            have hcc := (co_yes ha (o := (i : Int)) ⟨by omega, by omega⟩).2
            have hnx := tO_next ha hi
            have kh := (implOut_ret x0 (i : Int) (by omega)).weak G_G2
            repeat' ((first | (conv => whnf) | skip); (first | ((with_reducible intro h); first | contradiction | omega | (conv => whnf) | skip) | (with_reducible refine And.intro ?_ ?_) | ((with_reducible show arithK _ _ _); refine arith_ok ⟨by omega, by omega⟩ ?_) | ((with_reducible show quoK _ _ _ _); refine quo_ok ⟨by omega, by omega⟩ (by omega) (by omega) ?_) | ((with_reducible show remK _ _ _ _); refine rem_ok (by omega) (by omega) ?_) | ((first | (with_reducible show CallA _ _ _ _ _ _) | (with_reducible show CallQ _ _ _ _ _ _)); first | (refine Ret.use (kh) (by first | ((repeat' (first | exact rfl | exact trivial | (with_reducible assumption) | refine And.intro ?_ ?_ | omega | assumption)); done) | fail) ?_) | (refine Ret.useQ (kh) (by first | ((repeat' (first | exact rfl | exact trivial | (with_reducible assumption) | refine And.intro ?_ ?_ | omega | assumption)); done) | fail) rfl ?_)) | ((with_reducible show DrawA _ _ _ _ _ _); first | (refine draw_hard hT mixed (by decide +kernel) ?_))))
            all_goals first | rfl | omega | contradiction | skip
            all_goals ((conv => whnf); first | (refine ⟨i + 1, by omega, ?_, by omega⟩; (refine ⟨rfl, [], ?_, ?_⟩; all_goals (repeat' (first | exact rfl | exact trivial | (with_reducible assumption) | refine And.intro ?_ ?_)); all_goals (first | omega | assumption | ((repeat' (first | exact hnx.symm | exact rfl | exact trivial | (with_reducible assumption) | refine And.intro ?_ ?_ | omega | assumption)); done)); done)) | trace_state)
          · obtain rfl : i = 10 := by omega
            have hall := tO_all ha
            have k16 := implRS_call (stR x0) (by omega)
            rw [b1, b2] at k16
            have k17 := (likeR_ret x0 (by omega)).weak G_G2
            repeat' ((first | (conv => whnf) | skip); (first | ((with_reducible intro h); first | contradiction | omega | (conv => whnf) | skip) | (with_reducible refine And.intro ?_ ?_) | ((with_reducible show arithK _ _ _); refine arith_ok ⟨by omega, by omega⟩ ?_) | ((with_reducible show quoK _ _ _ _); refine quo_ok ⟨by omega, by omega⟩ (by omega) (by omega) ?_) | ((with_reducible show remK _ _ _ _); refine rem_ok (by omega) (by omega) ?_) | ((first | (with_reducible show CallA _ _ _ _ _ _) | (with_reducible show CallQ _ _ _ _ _ _)); first | (refine CallA.go [] (k16) rfl (by first | ((repeat' (first | exact rfl | exact trivial | (with_reducible assumption) | refine And.intro ?_ ?_ | omega | assumption)); done) | fail) trivial ?_) | (refine Ret.use (k17) (by first | ((repeat' (first | exact rfl | exact trivial | (with_reducible assumption) | refine And.intro ?_ ?_ | omega | assumption)); done) | fail) ?_) | (refine Ret.useQ (k17) (by first | ((repeat' (first | exact rfl | exact trivial | (with_reducible assumption) | refine And.intro ?_ ?_ | omega | assumption)); done) | fail) rfl ?_)) | ((with_reducible show DrawA _ _ _ _ _ _); first | (refine draw_hard hT mixed (by decide +kernel) ?_))))
            all_goals first | rfl | omega | contradiction | trace_state
    · rw [decide_eq_false ha] at k10
      have b3 := code_n ha
      rcases CS_cases l0 with ⟨c1, c2, c3⟩ | c1
      · rw [c2, c3] at k11
        repeat' ((first | (conv => whnf) | skip); (first | ((with_reducible intro h); first | contradiction | omega | (conv => whnf) | skip) | (with_reducible refine And.intro ?_ ?_) | ((with_reducible show arithK _ _ _); refine arith_ok ⟨by omega, by omega⟩ ?_) | ((with_reducible show quoK _ _ _ _); refine quo_ok ⟨by omega, by omega⟩ (by omega) (by omega) ?_) | ((with_reducible show remK _ _ _ _); refine rem_ok (by omega) (by omega) ?_) | ((first | (with_reducible show CallA _ _ _ _ _ _) | (with_reducible show CallQ _ _ _ _ _ _)); first | (refine CallA.go [] (k7) rfl (by first | ((repeat' (first | exact rfl | exact trivial | (with_reducible assumption) | refine And.intro ?_ ?_ | omega | assumption)); done) | fail) trivial ?_) | (refine CallA.go [] (k8) rfl (by first | ((repeat' (first | exact rfl | exact trivial | (with_reducible assumption) | refine And.intro ?_ ?_ | omega | assumption)); done) | fail) trivial ?_) | (refine Ret.use (k9) (by first | ((repeat' (first | exact rfl | exact trivial | (with_reducible assumption) | refine And.intro ?_ ?_ | omega | assumption)); done) | fail) ?_) | (refine Ret.useQ (k9) (by first | ((repeat' (first | exact rfl | exact trivial | (with_reducible assumption) | refine And.intro ?_ ?_ | omega | assumption)); done) | fail) rfl ?_) | (refine Ret.use (k10) (by first | ((repeat' (first | exact rfl | exact trivial | (with_reducible assumption) | refine And.intro ?_ ?_ | omega | assumption)); done) | fail) ?_) | (refine Ret.useQ (k10) (by first | ((repeat' (first | exact rfl | exact trivial | (with_reducible assumption) | refine And.intro ?_ ?_ | omega | assumption)); done) | fail) rfl ?_) | (refine Ret.use (k11) (by first | ((repeat' (first | exact rfl | exact trivial | (with_reducible assumption) | refine And.intro ?_ ?_ | omega | assumption)); done) | fail) ?_) | (refine Ret.useQ (k11) (by first | ((repeat' (first | exact rfl | exact trivial | (with_reducible assumption) | refine And.intro ?_ ?_ | omega | assumption)); done) | fail) rfl ?_)) | ((with_reducible show DrawA _ _ _ _ _ _); first | (refine draw_hard hT mixed (by decide +kernel) ?_))))
        all_goals first | rfl | omega | contradiction | trace_state
      · repeat' ((first | (conv => whnf) | skip); (first | ((with_reducible intro h); first | contradiction | omega | (conv => whnf) | skip) | (with_reducible refine And.intro ?_ ?_) | ((with_reducible show arithK _ _ _); refine arith_ok ⟨by omega, by omega⟩ ?_) | ((with_reducible show quoK _ _ _ _); refine quo_ok ⟨by omega, by omega⟩ (by omega) (by omega) ?_) | ((with_reducible show remK _ _ _ _); refine rem_ok (by omega) (by omega) ?_) | ((first | (with_reducible show CallA _ _ _ _ _ _) | (with_reducible show CallQ _ _ _ _ _ _)); first | (refine CallA.go [] (k7) rfl (by first | ((repeat' (first | exact rfl | exact trivial | (with_reducible assumption) | refine And.intro ?_ ?_ | omega | assumption)); done) | fail) trivial ?_) | (refine CallA.go [] (k8) rfl (by first | ((repeat' (first | exact rfl | exact trivial | (with_reducible assumption) | refine And.intro ?_ ?_ | omega | assumption)); done) | fail) trivial ?_) | (refine Ret.use (k9) (by first | ((repeat' (first | exact rfl | exact trivial | (with_reducible assumption) | refine And.intro ?_ ?_ | omega | assumption)); done) | fail) ?_) | (refine Ret.useQ (k9) (by first | ((repeat' (first | exact rfl | exact trivial | (with_reducible assumption) | refine And.intro ?_ ?_ | omega | assumption)); done) | fail) rfl ?_) | (refine Ret.use (k10) (by first | ((repeat' (first | exact rfl | exact trivial | (with_reducible assumption) | refine And.intro ?_ ?_ | omega | assumption)); done) | fail) ?_) | (refine Ret.useQ (k10) (by first | ((repeat' (first | exact rfl | exact trivial | (with_reducible assumption) | refine And.intro ?_ ?_ | omega | assumption)); done) | fail) rfl ?_)) | ((with_reducible show DrawA _ _ _ _ _ _); first | (refine draw_hard hT mixed (by decide +kernel) ?_))))
        all_goals first | rfl | omega | contradiction | trace_state
end Go.Proofs.YtgpgnhadmckmhaaGreatDoor
