/-
  Registers and their texts, drawn from bytes: the law. No conditions but those in the statements.
-/
import Derived.Test.YtgpgnhadmckmhaaGreatDoorMez
set_option linter.unusedVariables false
set_option linter.unusedSimpArgs false
namespace Go.Proofs.YtgpgnhadmckmhaaGreatDoor
open Go.AE Go.Lib

attribute [local irreducible] CallA LoopA DrawA CallQ arithK quoK remK eqK
attribute [local irreducible] srcOk mt mtx rgx RM CM
theorem selL_sub {q1 q2 : Nat → Bool} {g : Nat → Int} {n : Nat} (h : ∀ i, q1 i = true → q2 i = true) : ∀ x ∈ selL q1 g n, x ∈ selL q2 g n := fun x hx => by
  unfold selL at hx ⊢
  obtain ⟨i, hi, rfl⟩ := List.mem_map.1 hx
  rw [List.mem_filter] at hi
  exact List.mem_map.2 ⟨i, List.mem_filter.2 ⟨hi.1, h i hi.2⟩, rfl⟩
theorem mbR_sub {q1 q2 : Nat → Bool} {g : Nat → Int} {xss : List (List Int)} {n : Int} (h : ∀ i, q1 i = true → q2 i = true) : ∀ x ∈ mbR q1 g xss n, x ∈ mbR q2 g xss n := fun x hx => by
  unfold mbR at hx ⊢
  split at hx
  · rename_i ho; rw [if_pos ho]; exact selL_sub h x hx
  · cases hx
theorem tel_sub {w : List Int → Bool} {xss : List (List Int)} {n : Int} (i : Nat) (h : telQ w xss n i = true) : telQ allW xss n i = true := by
  unfold telQ at h ⊢
  rw [Bool.and_eq_true] at h
  rw [h.2]; rfl
theorem mbR_same {q : Nat → Bool} {g1 g2 : Nat → Int} {xss : List (List Int)} {n : Int} : (mbR q g1 xss n).length = (mbR q g2 xss n).length := by
  unfold mbR
  split
  · unfold selL; rw [List.length_map, List.length_map]
  · rfl
abbrev mbM (xss : List (List Int)) (n : Int) : List Int := mbR (telQ allW xss n) (fun i => numOf (xss.getD i [])) xss n
abbrev mbA (xss : List (List Int)) (n : Int) : List Int := mbR (telQ allW xss n) (fun i => (ageOf n) (xss.getD i [])) xss n
abbrev mbS (xss : List (List Int)) (n : Int) : List Int := mbR (telQ (silW n) xss n) (fun i => numOf (xss.getD i [])) xss n
theorem CM_cases (s : List UInt8) : (CM s = 0 ∧ rtC (RM s) = 0 ∧ rtX (RM s) = s) ∨ CM s = 6 := by
  by_cases he : ∃ x, AccM s x
  · obtain ⟨x, hx⟩ := he
    obtain ⟨e1, e2⟩ := RM_yes hx
    rw [e1, e2]
    exact .inl ⟨rfl, if_pos hx.2.1, (if_pos hx.2.1).trans hx.2.2.symm⟩
  · exact .inr (RM_no fun x hx => he ⟨x, hx⟩).2
theorem rt_back {xss : List (List Int)} (hr : ∀ r ∈ xss, r.length = 5) (ha : isReg xss) : RM (rtX xss) = xss ∧ CM (rtX xss) = 0 := RM_yes ⟨hr, ha, if_pos ha⟩
theorem rtC_y {xss : List (List Int)} (ha : isReg xss) : rtC xss = 0 := if_pos ha
theorem rtC_n {xss : List (List Int)} (ha : ¬ isReg xss) : rtC xss = 1 := if_neg ha
attribute [local irreducible] rtX rtC mbR mbC
set_option maxHeartbeats 8000000 in
set_option maxRecDepth 100000 in
theorem lawRTs_ret (code : List Int) (hn : code.length ≤ 9223372036854775807) (hb : bytesOk code) : Ret Tryz.prog G2 4 [Rb code] (Bo true) := by
  refine ret_of_body hT Tryz.func4 rfl ?_ rfl
  have hbg := (big_ret code).weak G_G2
  by_cases hbig : (4096 : Int) < code.length
  · rw [decide_eq_true hbig] at hbg
    repeat' ((first | (conv => whnf) | skip); (first | ((with_reducible intro h); first | contradiction | omega | (conv => whnf) | skip) | (with_reducible refine And.intro ?_ ?_) | ((with_reducible show arithK _ _ _); refine arith_ok ⟨by omega, by omega⟩ ?_) | ((with_reducible show quoK _ _ _ _); refine quo_ok ⟨by omega, by omega⟩ (by omega) (by omega) ?_) | ((with_reducible show remK _ _ _ _); refine rem_ok (by omega) (by omega) ?_) | ((first | (with_reducible show CallA _ _ _ _ _ _) | (with_reducible show CallQ _ _ _ _ _ _)); first | (refine Ret.use (hbg) (by first | ((repeat' (first | exact rfl | exact trivial | (with_reducible assumption) | refine And.intro ?_ ?_ | omega | assumption)); done) | fail) ?_) | (refine Ret.useQ (hbg) (by first | ((repeat' (first | exact rfl | exact trivial | (with_reducible assumption) | refine And.intro ?_ ?_ | omega | assumption)); done) | fail) rfl ?_)) | ((with_reducible show DrawA _ _ _ _ _ _); first | (refine draw_hard hT mixed (by decide +kernel) ?_))))
    all_goals first | rfl | omega | contradiction | trace_state
  · rw [decide_eq_false hbig] at hbg
    replace hn : code.length ≤ 2305843009213693952 := by omega
    repeat' ((first | (conv => whnf) | skip); (first | ((with_reducible intro h); first | contradiction | omega | (conv => whnf) | skip) | (with_reducible refine And.intro ?_ ?_) | ((with_reducible show arithK _ _ _); refine arith_ok ⟨by omega, by omega⟩ ?_) | ((with_reducible show quoK _ _ _ _); refine quo_ok ⟨by omega, by omega⟩ (by omega) (by omega) ?_) | ((with_reducible show remK _ _ _ _); refine rem_ok (by omega) (by omega) ?_) | ((first | (with_reducible show CallA _ _ _ _ _ _) | (with_reducible show CallQ _ _ _ _ _ _)); first | (refine Ret.use (hbg) (by first | ((repeat' (first | exact rfl | exact trivial | (with_reducible assumption) | refine And.intro ?_ ?_ | omega | assumption)); done) | fail) ?_) | (refine Ret.useQ (hbg) (by first | ((repeat' (first | exact rfl | exact trivial | (with_reducible assumption) | refine And.intro ?_ ?_ | omega | assumption)); done) | fail) rfl ?_) | (refine CallA.goE3 false [] ((drawRT_call code hn hb).weak G_G2) rfl (by first | ((repeat' (first | exact rfl | exact trivial | (with_reducible assumption) | refine And.intro ?_ ?_ | omega | assumption)); done) | fail) (by first | ((repeat' (first | exact rfl | exact trivial | (with_reducible assumption) | refine And.intro ?_ ?_ | omega | assumption)); done) | fail) ?_; rintro x0 a0 s0 ⟨hx0, _⟩; (first | (conv => whnf) | skip))) | ((with_reducible show DrawA _ _ _ _ _ _); first | (refine draw_hard hT mixed (by decide +kernel) ?_))))
    all_goals first | rfl | omega | contradiction | skip
    have k1 := (implRTx_ret x0 (by omega)).weak G_G2
    have k2 := (specRT_ret x0 (by omega)).weak G_G2
    repeat' ((first | (conv => whnf) | skip); (first | ((with_reducible intro h); first | contradiction | omega | (conv => whnf) | skip) | (with_reducible refine And.intro ?_ ?_) | ((with_reducible show arithK _ _ _); refine arith_ok ⟨by omega, by omega⟩ ?_) | ((with_reducible show quoK _ _ _ _); refine quo_ok ⟨by omega, by omega⟩ (by omega) (by omega) ?_) | ((with_reducible show remK _ _ _ _); refine rem_ok (by omega) (by omega) ?_) | ((first | (with_reducible show CallA _ _ _ _ _ _) | (with_reducible show CallQ _ _ _ _ _ _)); first | (refine Ret.use (k1) (by first | ((repeat' (first | exact rfl | exact trivial | (with_reducible assumption) | refine And.intro ?_ ?_ | omega | assumption)); done) | fail) ?_) | (refine Ret.useQ (k1) (by first | ((repeat' (first | exact rfl | exact trivial | (with_reducible assumption) | refine And.intro ?_ ?_ | omega | assumption)); done) | fail) rfl ?_) | (refine Ret.use (k2) (by first | ((repeat' (first | exact rfl | exact trivial | (with_reducible assumption) | refine And.intro ?_ ?_ | omega | assumption)); done) | fail) ?_) | (refine Ret.useQ (k2) (by first | ((repeat' (first | exact rfl | exact trivial | (with_reducible assumption) | refine And.intro ?_ ?_ | omega | assumption)); done) | fail) rfl ?_) | (refine CallA.goE3 false [] ((drawRR_call code hn hb).weak G_G2) rfl (by first | ((repeat' (first | exact rfl | exact trivial | (with_reducible assumption) | refine And.intro ?_ ?_ | omega | assumption)); done) | fail) (by first | ((repeat' (first | exact rfl | exact trivial | (with_reducible assumption) | refine And.intro ?_ ?_ | omega | assumption)); done) | fail) ?_; rintro y0 a1 s1 ⟨hy0, _⟩; (first | (conv => whnf) | skip); obtain ⟨l0, rfl⟩ := B_ex y0)) | ((with_reducible show DrawA _ _ _ _ _ _); first | (refine draw_hard hT mixed (by decide +kernel) ?_))))
    all_goals first | rfl | omega | contradiction | skip
    have hl0 : l0.length ≤ 3241 := hy0
    have k3 := implRR_call l0 (by omega)
    have k4 := (specRR_call l0 (by omega)).weak G_G2
    obtain ⟨hrr, hr60⟩ := RM_row l0
    repeat' ((first | (conv => whnf) | skip); (first | ((with_reducible intro h); first | contradiction | omega | (conv => whnf) | skip) | (with_reducible refine And.intro ?_ ?_) | ((with_reducible show arithK _ _ _); refine arith_ok ⟨by omega, by omega⟩ ?_) | ((with_reducible show quoK _ _ _ _); refine quo_ok ⟨by omega, by omega⟩ (by omega) (by omega) ?_) | ((with_reducible show remK _ _ _ _); refine rem_ok (by omega) (by omega) ?_) | ((first | (with_reducible show CallA _ _ _ _ _ _) | (with_reducible show CallQ _ _ _ _ _ _)); first | (refine CallA.go [] (k3) rfl (by first | ((repeat' (first | exact rfl | exact trivial | (with_reducible assumption) | refine And.intro ?_ ?_ | omega | assumption)); done) | fail) trivial ?_) | (refine CallA.go [] (k4) rfl (by first | ((repeat' (first | exact rfl | exact trivial | (with_reducible assumption) | refine And.intro ?_ ?_ | omega | assumption)); done) | fail) trivial ?_) | (refine CallA.goE3 false [] ((drawMM_call code hn hb).weak G_G2) rfl (by first | ((repeat' (first | exact rfl | exact trivial | (with_reducible assumption) | refine And.intro ?_ ?_ | omega | assumption)); done) | fail) (by first | ((repeat' (first | exact rfl | exact trivial | (with_reducible assumption) | refine And.intro ?_ ?_ | omega | assumption)); done) | fail) ?_; rintro ⟨z0, m0⟩ a3 s3 ⟨hz0, _⟩; (first | (conv => whnf) | skip))) | ((with_reducible show DrawA _ _ _ _ _ _); first | (refine draw_hard hT mixed (by decide +kernel) ?_))))
    all_goals first | rfl | omega | contradiction | skip
    dsimp only at hz0
    have k5 := (implMem_call z0 m0 (by omega)).weak G_G2
    have k6 := (specMem_call z0 m0 (by omega)).weak G_G2
    have k7 := (implAge_call z0 m0 (by omega)).weak G_G2
    have k8 := (specAge_call z0 m0 (by omega)).weak G_G2
    have k9 := (implSil_call z0 m0 (by omega)).weak G_G2
    have k10 := (specSil_call z0 m0 (by omega)).weak G_G2
    have n1 : (mbM z0 m0).length ≤ 60 := mbR_len _ _ _ _
    have n2 : (mbA z0 m0).length ≤ 60 := mbR_len _ _ _ _
    have n3 : (mbS z0 m0).length ≤ 60 := mbR_len _ _ _ _
    have n4 : (mbM z0 m0).length = (mbA z0 m0).length := mbR_same
    have k11 := (likeM_ret (RM l0) (by omega)).weak G_G2
    have k12 := (likeInts_ret (mbM z0 m0) (mbM z0 m0) (by omega)).weak G_G2
    have k13 := (likeInts_ret (mbA z0 m0) (mbA z0 m0) (by omega)).weak G_G2
    have k14 := (likeInts_ret (mbS z0 m0) (mbS z0 m0) (by omega)).weak G_G2
    have k15 := (implRTx_ret (RM l0) (by omega)).weak G_G2
    rw [decide_eq_true rfl] at k12 k13 k14
    have hsub : ∀ x ∈ mbS z0 m0, x ∈ mbM z0 m0 := mbR_sub fun i h => tel_sub i h
    have hback := fun ha => rt_back (xss := x0) (rowsB.len hx0.2) ha
    have hlr := rtX_len (xss := x0)
    rcases CM_cases l0 with ⟨c1, c2, c3⟩ | c1
    · rw [c2, c3] at k15
      repeat' ((first | (conv => whnf) | skip); (first | ((with_reducible intro h); first | contradiction | omega | (conv => whnf) | skip) | (with_reducible refine And.intro ?_ ?_) | ((with_reducible show arithK _ _ _); refine arith_ok ⟨by omega, by omega⟩ ?_) | ((with_reducible show quoK _ _ _ _); refine quo_ok ⟨by omega, by omega⟩ (by omega) (by omega) ?_) | ((with_reducible show remK _ _ _ _); refine rem_ok (by omega) (by omega) ?_) | ((first | (with_reducible show CallA _ _ _ _ _ _) | (with_reducible show CallQ _ _ _ _ _ _)); first | (refine CallA.go [] (k5) rfl (by first | ((repeat' (first | exact rfl | exact trivial | (with_reducible assumption) | refine And.intro ?_ ?_ | omega | assumption)); done) | fail) trivial ?_) | (refine CallA.go [] (k6) rfl (by first | ((repeat' (first | exact rfl | exact trivial | (with_reducible assumption) | refine And.intro ?_ ?_ | omega | assumption)); done) | fail) trivial ?_) | (refine CallA.go [] (k7) rfl (by first | ((repeat' (first | exact rfl | exact trivial | (with_reducible assumption) | refine And.intro ?_ ?_ | omega | assumption)); done) | fail) trivial ?_) | (refine CallA.go [] (k8) rfl (by first | ((repeat' (first | exact rfl | exact trivial | (with_reducible assumption) | refine And.intro ?_ ?_ | omega | assumption)); done) | fail) trivial ?_) | (refine CallA.go [] (k9) rfl (by first | ((repeat' (first | exact rfl | exact trivial | (with_reducible assumption) | refine And.intro ?_ ?_ | omega | assumption)); done) | fail) trivial ?_) | (refine CallA.go [] (k10) rfl (by first | ((repeat' (first | exact rfl | exact trivial | (with_reducible assumption) | refine And.intro ?_ ?_ | omega | assumption)); done) | fail) trivial ?_) | (refine Ret.use (k11) (by first | ((repeat' (first | exact rfl | exact trivial | (with_reducible assumption) | refine And.intro ?_ ?_ | omega | assumption)); done) | fail) ?_) | (refine Ret.useQ (k11) (by first | ((repeat' (first | exact rfl | exact trivial | (with_reducible assumption) | refine And.intro ?_ ?_ | omega | assumption)); done) | fail) rfl ?_) | (refine Ret.use (k12) (by first | ((repeat' (first | exact rfl | exact trivial | (with_reducible assumption) | refine And.intro ?_ ?_ | omega | assumption)); done) | fail) ?_) | (refine Ret.useQ (k12) (by first | ((repeat' (first | exact rfl | exact trivial | (with_reducible assumption) | refine And.intro ?_ ?_ | omega | assumption)); done) | fail) rfl ?_) | (refine Ret.use (k13) (by first | ((repeat' (first | exact rfl | exact trivial | (with_reducible assumption) | refine And.intro ?_ ?_ | omega | assumption)); done) | fail) ?_) | (refine Ret.useQ (k13) (by first | ((repeat' (first | exact rfl | exact trivial | (with_reducible assumption) | refine And.intro ?_ ?_ | omega | assumption)); done) | fail) rfl ?_) | (refine Ret.use (k14) (by first | ((repeat' (first | exact rfl | exact trivial | (with_reducible assumption) | refine And.intro ?_ ?_ | omega | assumption)); done) | fail) ?_) | (refine Ret.useQ (k14) (by first | ((repeat' (first | exact rfl | exact trivial | (with_reducible assumption) | refine And.intro ?_ ?_ | omega | assumption)); done) | fail) rfl ?_) | (refine Ret.use (k15) (by first | ((repeat' (first | exact rfl | exact trivial | (with_reducible assumption) | refine And.intro ?_ ?_ | omega | assumption)); done) | fail) ?_) | (refine Ret.useQ (k15) (by first | ((repeat' (first | exact rfl | exact trivial | (with_reducible assumption) | refine And.intro ?_ ?_ | omega | assumption)); done) | fail) rfl ?_)) | ((with_reducible show DrawA _ _ _ _ _ _); first | (refine draw_hard hT mixed (by decide +kernel) ?_))))
      all_goals first | rfl | omega | contradiction | skip
      (conv => whnf)
      refine loop_rule hT (fun i : Nat => i ≤ (mbS z0 m0).length) 197 10 [3, 4, 5, 15, 19, 23, 29] (fun i => [.sl 0 5 x0.length, Sv (rtX x0), I (rtC x0), .sl 4 1 (mbM z0 m0).length, .sl 6 1 (mbA z0 m0).length, .sl 8 1 (mbS z0 m0).length, I i]) (fun _ => [DMember x0, .dead, .dead, .dead, Di (mbM z0 m0), .dead, Di (mbA z0 m0), .dead, Di (mbS z0 m0), .dead]) (fun i => (mbS z0 m0).length - i) (0) (Nat.le_of_ble_eq_true rfl) ?_ ?_ ?_
      · exact Nat.zero_le _
      · first | (refine ⟨rfl, [], ?_, ?_⟩; all_goals (repeat' (first | exact rfl | exact trivial | (with_reducible assumption) | refine And.intro ?_ ?_)); all_goals (first | omega | assumption); done) | trace_state
      · intro i h1
        by_cases hi : i < (mbS z0 m0).length
        · have kh := (hasInt_ret (mbM z0 m0) ((mbS z0 m0).getD ((i : Int)).toNat 0) (by omega)).weak G_G2
          rw [decide_eq_true (hsub _ (getD_mem (show ((i : Int)).toNat < _ from hi)))] at kh
          repeat' ((first | (conv => whnf) | skip); (first | ((with_reducible intro h); first | contradiction | omega | (conv => whnf) | skip) | (with_reducible refine And.intro ?_ ?_) | ((with_reducible show arithK _ _ _); refine arith_ok ⟨by omega, by omega⟩ ?_) | ((with_reducible show quoK _ _ _ _); refine quo_ok ⟨by omega, by omega⟩ (by omega) (by omega) ?_) | ((with_reducible show remK _ _ _ _); refine rem_ok (by omega) (by omega) ?_) | ((first | (with_reducible show CallA _ _ _ _ _ _) | (with_reducible show CallQ _ _ _ _ _ _)); first | (refine Ret.use (kh) (by first | ((repeat' (first | exact rfl | exact trivial | (with_reducible assumption) | refine And.intro ?_ ?_ | omega | assumption)); done) | fail) ?_) | (refine Ret.useQ (kh) (by first | ((repeat' (first | exact rfl | exact trivial | (with_reducible assumption) | refine And.intro ?_ ?_ | omega | assumption)); done) | fail) rfl ?_)) | ((with_reducible show DrawA _ _ _ _ _ _); first | (refine draw_hard hT mixed (by decide +kernel) ?_))))
          all_goals first | rfl | omega | contradiction | (show _ < (mbS z0 m0).length; omega) | skip
          all_goals ((conv => whnf); first | (refine ⟨i + 1, by omega, ?_, by omega⟩; (refine ⟨rfl, [], ?_, ?_⟩; all_goals (repeat' (first | exact rfl | exact trivial | (with_reducible assumption) | refine And.intro ?_ ?_)); all_goals (first | omega | assumption); done)) | trace_state)
        · obtain rfl : i = (mbS z0 m0).length := by omega
          by_cases ha : isReg x0
          · obtain ⟨b1, b2⟩ := hback ha
            have b3 : rtC x0 = 0 := rtC_y ha
            have k16 := implRR_call (rtX x0) (by omega)
            rw [b1, b2] at k16
            have k17 := (likeM_ret x0 (by omega)).weak G_G2
            repeat' ((first | (conv => whnf) | skip); (first | ((with_reducible intro h); first | contradiction | omega | (conv => whnf) | skip) | (with_reducible refine And.intro ?_ ?_) | ((with_reducible show arithK _ _ _); refine arith_ok ⟨by omega, by omega⟩ ?_) | ((with_reducible show quoK _ _ _ _); refine quo_ok ⟨by omega, by omega⟩ (by omega) (by omega) ?_) | ((with_reducible show remK _ _ _ _); refine rem_ok (by omega) (by omega) ?_) | ((first | (with_reducible show CallA _ _ _ _ _ _) | (with_reducible show CallQ _ _ _ _ _ _)); first | (refine CallA.go [] (k16) rfl (by first | ((repeat' (first | exact rfl | exact trivial | (with_reducible assumption) | refine And.intro ?_ ?_ | omega | assumption)); done) | fail) trivial ?_) | (refine Ret.use (k17) (by first | ((repeat' (first | exact rfl | exact trivial | (with_reducible assumption) | refine And.intro ?_ ?_ | omega | assumption)); done) | fail) ?_) | (refine Ret.useQ (k17) (by first | ((repeat' (first | exact rfl | exact trivial | (with_reducible assumption) | refine And.intro ?_ ?_ | omega | assumption)); done) | fail) rfl ?_)) | ((with_reducible show DrawA _ _ _ _ _ _); first | (refine draw_hard hT mixed (by decide +kernel) ?_))))
            all_goals first | rfl | omega | contradiction | trace_state
          · have b3 : rtC x0 = 1 := rtC_n ha
            repeat' ((first | (conv => whnf) | skip); (first | ((with_reducible intro h); first | contradiction | omega | (conv => whnf) | skip) | (with_reducible refine And.intro ?_ ?_) | ((with_reducible show arithK _ _ _); refine arith_ok ⟨by omega, by omega⟩ ?_) | ((with_reducible show quoK _ _ _ _); refine quo_ok ⟨by omega, by omega⟩ (by omega) (by omega) ?_) | ((with_reducible show remK _ _ _ _); refine rem_ok (by omega) (by omega) ?_) | ((first | (with_reducible show CallA _ _ _ _ _ _) | (with_reducible show CallQ _ _ _ _ _ _)); first | fail) | ((with_reducible show DrawA _ _ _ _ _ _); first | (refine draw_hard hT mixed (by decide +kernel) ?_))))
            all_goals first | rfl | omega | contradiction | trace_state
    · repeat' ((first | (conv => whnf) | skip); (first | ((with_reducible intro h); first | contradiction | omega | (conv => whnf) | skip) | (with_reducible refine And.intro ?_ ?_) | ((with_reducible show arithK _ _ _); refine arith_ok ⟨by omega, by omega⟩ ?_) | ((with_reducible show quoK _ _ _ _); refine quo_ok ⟨by omega, by omega⟩ (by omega) (by omega) ?_) | ((with_reducible show remK _ _ _ _); refine rem_ok (by omega) (by omega) ?_) | ((first | (with_reducible show CallA _ _ _ _ _ _) | (with_reducible show CallQ _ _ _ _ _ _)); first | (refine CallA.go [] (k5) rfl (by first | ((repeat' (first | exact rfl | exact trivial | (with_reducible assumption) | refine And.intro ?_ ?_ | omega | assumption)); done) | fail) trivial ?_) | (refine CallA.go [] (k6) rfl (by first | ((repeat' (first | exact rfl | exact trivial | (with_reducible assumption) | refine And.intro ?_ ?_ | omega | assumption)); done) | fail) trivial ?_) | (refine CallA.go [] (k7) rfl (by first | ((repeat' (first | exact rfl | exact trivial | (with_reducible assumption) | refine And.intro ?_ ?_ | omega | assumption)); done) | fail) trivial ?_) | (refine CallA.go [] (k8) rfl (by first | ((repeat' (first | exact rfl | exact trivial | (with_reducible assumption) | refine And.intro ?_ ?_ | omega | assumption)); done) | fail) trivial ?_) | (refine CallA.go [] (k9) rfl (by first | ((repeat' (first | exact rfl | exact trivial | (with_reducible assumption) | refine And.intro ?_ ?_ | omega | assumption)); done) | fail) trivial ?_) | (refine CallA.go [] (k10) rfl (by first | ((repeat' (first | exact rfl | exact trivial | (with_reducible assumption) | refine And.intro ?_ ?_ | omega | assumption)); done) | fail) trivial ?_) | (refine Ret.use (k11) (by first | ((repeat' (first | exact rfl | exact trivial | (with_reducible assumption) | refine And.intro ?_ ?_ | omega | assumption)); done) | fail) ?_) | (refine Ret.useQ (k11) (by first | ((repeat' (first | exact rfl | exact trivial | (with_reducible assumption) | refine And.intro ?_ ?_ | omega | assumption)); done) | fail) rfl ?_) | (refine Ret.use (k12) (by first | ((repeat' (first | exact rfl | exact trivial | (with_reducible assumption) | refine And.intro ?_ ?_ | omega | assumption)); done) | fail) ?_) | (refine Ret.useQ (k12) (by first | ((repeat' (first | exact rfl | exact trivial | (with_reducible assumption) | refine And.intro ?_ ?_ | omega | assumption)); done) | fail) rfl ?_) | (refine Ret.use (k13) (by first | ((repeat' (first | exact rfl | exact trivial | (with_reducible assumption) | refine And.intro ?_ ?_ | omega | assumption)); done) | fail) ?_) | (refine Ret.useQ (k13) (by first | ((repeat' (first | exact rfl | exact trivial | (with_reducible assumption) | refine And.intro ?_ ?_ | omega | assumption)); done) | fail) rfl ?_) | (refine Ret.use (k14) (by first | ((repeat' (first | exact rfl | exact trivial | (with_reducible assumption) | refine And.intro ?_ ?_ | omega | assumption)); done) | fail) ?_) | (refine Ret.useQ (k14) (by first | ((repeat' (first | exact rfl | exact trivial | (with_reducible assumption) | refine And.intro ?_ ?_ | omega | assumption)); done) | fail) rfl ?_)) | ((with_reducible show DrawA _ _ _ _ _ _); first | (refine draw_hard hT mixed (by decide +kernel) ?_))))
      all_goals first | rfl | omega | contradiction | skip
      (conv => whnf)
      refine loop_rule hT (fun i : Nat => i ≤ (mbS z0 m0).length) 197 10 [3, 4, 5, 15, 19, 23, 29] (fun i => [.sl 0 5 x0.length, Sv (rtX x0), I (rtC x0), .sl 4 1 (mbM z0 m0).length, .sl 6 1 (mbA z0 m0).length, .sl 8 1 (mbS z0 m0).length, I i]) (fun _ => [DMember x0, .dead, .dead, .dead, Di (mbM z0 m0), .dead, Di (mbA z0 m0), .dead, Di (mbS z0 m0), .dead]) (fun i => (mbS z0 m0).length - i) (0) (Nat.le_of_ble_eq_true rfl) ?_ ?_ ?_
      · exact Nat.zero_le _
      · first | (refine ⟨rfl, [], ?_, ?_⟩; all_goals (repeat' (first | exact rfl | exact trivial | (with_reducible assumption) | refine And.intro ?_ ?_)); all_goals (first | omega | assumption); done) | trace_state
      · intro i h1
        by_cases hi : i < (mbS z0 m0).length
        · have kh := (hasInt_ret (mbM z0 m0) ((mbS z0 m0).getD ((i : Int)).toNat 0) (by omega)).weak G_G2
          rw [decide_eq_true (hsub _ (getD_mem (show ((i : Int)).toNat < _ from hi)))] at kh
          repeat' ((first | (conv => whnf) | skip); (first | ((with_reducible intro h); first | contradiction | omega | (conv => whnf) | skip) | (with_reducible refine And.intro ?_ ?_) | ((with_reducible show arithK _ _ _); refine arith_ok ⟨by omega, by omega⟩ ?_) | ((with_reducible show quoK _ _ _ _); refine quo_ok ⟨by omega, by omega⟩ (by omega) (by omega) ?_) | ((with_reducible show remK _ _ _ _); refine rem_ok (by omega) (by omega) ?_) | ((first | (with_reducible show CallA _ _ _ _ _ _) | (with_reducible show CallQ _ _ _ _ _ _)); first | (refine Ret.use (kh) (by first | ((repeat' (first | exact rfl | exact trivial | (with_reducible assumption) | refine And.intro ?_ ?_ | omega | assumption)); done) | fail) ?_) | (refine Ret.useQ (kh) (by first | ((repeat' (first | exact rfl | exact trivial | (with_reducible assumption) | refine And.intro ?_ ?_ | omega | assumption)); done) | fail) rfl ?_)) | ((with_reducible show DrawA _ _ _ _ _ _); first | (refine draw_hard hT mixed (by decide +kernel) ?_))))
          all_goals first | rfl | omega | contradiction | (show _ < (mbS z0 m0).length; omega) | skip
          all_goals ((conv => whnf); first | (refine ⟨i + 1, by omega, ?_, by omega⟩; (refine ⟨rfl, [], ?_, ?_⟩; all_goals (repeat' (first | exact rfl | exact trivial | (with_reducible assumption) | refine And.intro ?_ ?_)); all_goals (first | omega | assumption); done)) | trace_state)
        · obtain rfl : i = (mbS z0 m0).length := by omega
          by_cases ha : isReg x0
          · obtain ⟨b1, b2⟩ := hback ha
            have b3 : rtC x0 = 0 := rtC_y ha
            have k16 := implRR_call (rtX x0) (by omega)
            rw [b1, b2] at k16
            have k17 := (likeM_ret x0 (by omega)).weak G_G2
            repeat' ((first | (conv => whnf) | skip); (first | ((with_reducible intro h); first | contradiction | omega | (conv => whnf) | skip) | (with_reducible refine And.intro ?_ ?_) | ((with_reducible show arithK _ _ _); refine arith_ok ⟨by omega, by omega⟩ ?_) | ((with_reducible show quoK _ _ _ _); refine quo_ok ⟨by omega, by omega⟩ (by omega) (by omega) ?_) | ((with_reducible show remK _ _ _ _); refine rem_ok (by omega) (by omega) ?_) | ((first | (with_reducible show CallA _ _ _ _ _ _) | (with_reducible show CallQ _ _ _ _ _ _)); first | (refine CallA.go [] (k16) rfl (by first | ((repeat' (first | exact rfl | exact trivial | (with_reducible assumption) | refine And.intro ?_ ?_ | omega | assumption)); done) | fail) trivial ?_) | (refine Ret.use (k17) (by first | ((repeat' (first | exact rfl | exact trivial | (with_reducible assumption) | refine And.intro ?_ ?_ | omega | assumption)); done) | fail) ?_) | (refine Ret.useQ (k17) (by first | ((repeat' (first | exact rfl | exact trivial | (with_reducible assumption) | refine And.intro ?_ ?_ | omega | assumption)); done) | fail) rfl ?_)) | ((with_reducible show DrawA _ _ _ _ _ _); first | (refine draw_hard hT mixed (by decide +kernel) ?_))))
            all_goals first | rfl | omega | contradiction | trace_state
          · have b3 : rtC x0 = 1 := rtC_n ha
            repeat' ((first | (conv => whnf) | skip); (first | ((with_reducible intro h); first | contradiction | omega | (conv => whnf) | skip) | (with_reducible refine And.intro ?_ ?_) | ((with_reducible show arithK _ _ _); refine arith_ok ⟨by omega, by omega⟩ ?_) | ((with_reducible show quoK _ _ _ _); refine quo_ok ⟨by omega, by omega⟩ (by omega) (by omega) ?_) | ((with_reducible show remK _ _ _ _); refine rem_ok (by omega) (by omega) ?_) | ((first | (with_reducible show CallA _ _ _ _ _ _) | (with_reducible show CallQ _ _ _ _ _ _)); first | fail) | ((with_reducible show DrawA _ _ _ _ _ _); first | (refine draw_hard hT mixed (by decide +kernel) ?_))))
            all_goals first | rfl | omega | contradiction | trace_state
end Go.Proofs.YtgpgnhadmckmhaaGreatDoor
