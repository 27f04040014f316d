/-
  The law on reserves, sources of a surplus and incomes of classes, drawn from bytes. No conditions but those in the statements.
-/
import Derived.Test.YtenofbabiacacaaGreatTg
import Derived.Test.YtenofbabiacacaaGreatTf
import Derived.Test.YtenofbabiacacaaGreatNg
import Derived.Test.YtenofbabiacacaaGreatMn
set_option linter.unusedVariables false
set_option linter.unusedSimpArgs false
namespace Go.Proofs.YtenofbabiacacaaGreat
open Go.AE

attribute [local irreducible] CallA LoopA DrawA CallQ arithK quoK remK eqK
attribute [local irreducible] pTop pBase fwX netP cD okT okP exs lvS pd
theorem top_cases {f : Int} {ls : List Int} {r k a y s l q : Int} :
    (∃ F R g t D : Int, frQ f ls r k a y s l q = (F, R, 0) ∧ gaQ f ls r k a y s l q = (g, t, 0) ∧ deQ f ls r k a y s l q = (D, 0) ∧ bkQ f ls r k a y s l q = (F + g + (R + t) / D, (R + t) % D, 0) ∧
      (1 ≤ D ∧ D ≤ 1000000000000000000) ∧ (-(879609302220803) ≤ F ∧ F ≤ 100000000) ∧ (0 ≤ R ∧ R < D) ∧ (0 ≤ g ∧ g ≤ 1000000000000000000) ∧ (0 ≤ t ∧ t < D) ∧
      (0 ≤ (R + t) / D ∧ (R + t) / D ≤ 2000000000000000000) ∧ 0 ≤ (R + t) / D * D ∧ (R + t) / D * D + (R + t) % D = R + t ∧ 0 ≤ (R + t) % D ∧ (R + t) % D < D) ∨
    (∃ e : Int, e ≠ 0 ∧ frQ f ls r k a y s l q = (0, 0, e) ∧ gaQ f ls r k a y s l q = (0, 0, e) ∧ deQ f ls r k a y s l q = (0, e) ∧ bkQ f ls r k a y s l q = (0, 0, e)) := by
  by_cases hh : hOk f ls r k a y s l q
  · obtain ⟨m1, m2, m3, x1, x2, x3, x4, x5, x6⟩ := fw_facts hh
    have hx := exs_bd hh.1
    have hdd := m1.hc
    have hxb := floor_spec (x := exs f ls r k a y s) (d := cD f ls r (a + q)) (by omega)
    have hxq : 0 ≤ exs f ls r k a y s / cD f ls r (a + q) ∧ exs f ls r k a y s / cD f ls r (a + q) ≤ 1000000000000000000 := ⟨Int.ediv_nonneg hx.1 (by omega), Int.le_trans (Int.ediv_le_self _ hx.1) hx.2⟩
    refine .inl ⟨_, _, _, _, _, if_pos hh, if_pos hh, if_pos hh, if_pos hh, hdd, ⟨x1.1, by omega⟩, ⟨x2, x3⟩, hxq, hxb.2, ?_⟩
    generalize fwX f ls r k a y s q % cD f ls r (a + q) = R at x2 x3 ⊢
    generalize exs f ls r k a y s % cD f ls r (a + q) = t at hxb ⊢
    generalize cD f ls r (a + q) = D at hxb hdd x2 x3 ⊢
    have hf := floor_spec (x := R + t) (d := D) (by omega)
    have hq : 0 ≤ (R + t) / D := Int.ediv_nonneg (by omega) (by omega)
    exact ⟨⟨hq, Int.le_trans (Int.ediv_le_self _ (by omega)) (by omega)⟩, Int.mul_nonneg hq (by omega), hf.1, hf.2.1, hf.2.2⟩
  · exact .inr ⟨_, cR_bad hh, if_neg hh, if_neg hh, if_neg hh, if_neg hh⟩
theorem pi_cases {S E : List Int} {C y : Int} (hS : S.length ≤ 61) :
    (∃ e : Int, e ≠ 0 ∧ piR S E C y = (([], [], []), 0, e)) ∨
    (∃ (P : List Int) (K : Int), piR S E C y = ((S, E, P), K, 0) ∧ P.length = S.length ∧ (∀ i, i ≤ P.length → -9223372036854775808 ≤ (P.take i).sum ∧ (P.take i).sum ≤ 9223372036854775807) ∧ P.sum + K = C + y ∧ (0 ≤ C ∧ C ≤ 1000000000000) ∧ (0 ≤ y ∧ y ≤ 100000000) ∧ 0 ≤ K ∧ K ≤ 1000000000000) := by
  by_cases ho : okC S E C
  · by_cases hy : 0 ≤ y ∧ y ≤ 100000000
    · by_cases hk : keC S E C y ≤ 1000000000000
      · have hc := ho.1.2.2.2
        have hf := pay_facts ho hy
        refine .inr ⟨pd S E (eaC S E C y) S.length, keC S E C y, (if_pos ho).trans ((if_pos hy).trans (if_pos hk)), pd_len _ _ _ _, ?_, ?_, hc, hy, ?_, hk⟩
        · intro i hi
          rw [pd_len] at hi
          rw [pd_sum _ _ _ i hi]
          have hb := lvS_bd (de := E) ho.1.2.1 i hi
          by_cases hp : 0 < lvS S E S.length
          · have h2 := hf.2 hp
            rw [show eaC S E C y = _ from if_pos hp]
            have hm := mul_in (a := (C + y) / lvS S E S.length) (A := 1000100000000) (b := lvS S E i) (B := 61000) h2.1.1 h2.1.2 hb.1 (by omega)
            omega
          · rw [show eaC S E C y = _ from if_neg hp, Int.zero_mul]
            omega
        · have hs := pd_sum S E (eaC S E C y) S.length (Nat.le_refl _)
          rw [take_all (by rw [pd_len]; exact Nat.le_refl _)] at hs
          rw [hs]
          by_cases hp : 0 < lvS S E S.length
          · have h2 := hf.2 hp
            rw [show eaC S E C y = _ from if_pos hp, show keC S E C y = _ from if_pos hp]
            omega
          · rw [show eaC S E C y = _ from if_neg hp, show keC S E C y = _ from if_neg hp, Int.zero_mul]
            omega
        · by_cases hp : 0 < lvS S E S.length
          · have h2 := hf.2 hp
            rw [show keC S E C y = _ from if_pos hp]
            omega
          · rw [show keC S E C y = _ from if_neg hp]
            omega
      · exact .inl ⟨3, by decide, (if_pos ho).trans ((if_pos hy).trans (if_neg hk))⟩
    · exact .inl ⟨2, by decide, (if_pos ho).trans (if_neg hy)⟩
  · exact .inl ⟨1, by decide, if_neg ho⟩
theorem cy_parts {f : Int} {ls : List Int} {r : Int} {hs : List (List Int)} {ds : List Int} {fu ex it : Int} (h : cyQ f ls r hs ds fu ex it) : okF f ls r hs ∧ dOk hs ds ∧ noBad f ls r hs ds hs.length := ⟨h.1.1.1, h.1.1.2, h.2.1⟩
attribute [local irreducible] rowB frQ gaQ deQ bkQ piR srcOk agL nets loads tot clS yrQ clQ cyC eDs okC okF
theorem srcL_sum (a b c d e f g r : Int) : (srcL a b c d e f g r).sum = a + b + c - d + e - f - g := by
  simp only [srcL, List.sum_cons, List.sum_nil]; omega
theorem sumSrc_ret (a b c d e f g r : Int) (h : isYr a b c d e f g) (hr : okR r) : Ret Tryz.prog G 58 [Ri (srcL a b c d e f g r)] (I (a + b + c - d + e - f - g)) := by
  have hb := yr_bd h
  have hm := mul_in (a := a + b) (A := 2000000000000) (b := r) (B := 200) (by omega) (by omega) hr.1 hr.2
  have := sum_ret (srcL a b c d e f g r) (by simp) (fun i hi => by
    have hi : i ≤ 3 := hi
    match i, hi with
    | 0, _ => simp
    | 1, _ => simp only [srcL, List.take_succ_cons, List.take_zero, List.sum_cons, List.sum_nil]; omega
    | 2, _ => simp only [srcL, List.take_succ_cons, List.take_zero, List.sum_cons, List.sum_nil]; omega
    | 3, _ => simp only [srcL, List.take_succ_cons, List.take_zero, List.sum_cons, List.sum_nil]; omega)
  rwa [srcL_sum] at this
theorem okF_R {f : Int} {ls : List Int} {r : Int} {hs : List (List Int)} (h : okF f ls r hs) : okR r := by
  unfold okF at h
  exact h.1.2
set_option maxHeartbeats 16000000 in
set_option maxRecDepth 100000 in
theorem lawTop_ret (code : List Int) (hn : code.length ≤ 9223372036854775807) (hb : bytesOk code) : Ret Tryz.prog G 8 [Rb code] (Bo true) := by
  refine ret_of_body hT Tryz.func8 rfl ?_ rfl
  by_cases hbig : (4096 : Int) < code.length
  · repeat' ((first | (conv => whnf) | skip); (first | ((with_reducible intro h); first | contradiction | omega | (conv => whnf) | skip) | (with_reducible refine And.intro ?_ ?_) | ((with_reducible show arithK _ _ _); refine arith_ok ⟨by omega, by omega⟩ ?_) | ((with_reducible show quoK _ _ _ _); refine quo_ok ⟨by omega, by omega⟩ (by omega) (by omega) ?_) | ((with_reducible show remK _ _ _ _); refine rem_ok (by omega) (by omega) ?_) | ((first | (with_reducible show CallA _ _ _ _ _ _) | (with_reducible show CallQ _ _ _ _ _ _)); first | (refine Ret.goP (big_ret code) rfl ?_) | (refine Ret.goQP (big_ret code) rfl ?_)) | ((with_reducible show DrawA _ _ _ _ _ _); first | (refine draw_hard hT mixed (by decide +kernel) ?_))))
    all_goals first | rfl | omega | trace_state
  replace hn : code.length ≤ 2305843009213693952 := by omega
  repeat' ((first | (conv => whnf) | skip); (first | ((with_reducible intro h); first | contradiction | omega | (conv => whnf) | skip) | (with_reducible refine And.intro ?_ ?_) | ((with_reducible show arithK _ _ _); refine arith_ok ⟨by omega, by omega⟩ ?_) | ((with_reducible show quoK _ _ _ _); refine quo_ok ⟨by omega, by omega⟩ (by omega) (by omega) ?_) | ((with_reducible show remK _ _ _ _); refine rem_ok (by omega) (by omega) ?_) | ((first | (with_reducible show CallA _ _ _ _ _ _) | (with_reducible show CallQ _ _ _ _ _ _)); first | (refine Ret.goP (big_ret code) rfl ?_) | (refine Ret.goQP (big_ret code) rfl ?_) | (refine CallA.goE3 false [] (drawFR_call code hn hb) rfl (by first | ((repeat' (first | exact rfl | exact trivial | (with_reducible assumption) | refine And.intro ?_ ?_ | omega | assumption)); done) | fail) (by first | ((repeat' (first | exact rfl | exact trivial | (with_reducible assumption) | refine And.intro ?_ ?_ | omega | assumption)); done) | fail) ?_; rintro ⟨⟨f, ls, r⟩, ⟨k, a, y, s, l⟩, q⟩ _ _ ⟨hl, _⟩; (first | (conv => whnf) | skip); dsimp only at hl)) | ((with_reducible show DrawA _ _ _ _ _ _); first | (refine draw_hard hT mixed (by decide +kernel) ?_))))
  all_goals first | rfl | omega | skip
  have n1 : ls.length ≤ 1048576 := Nat.le_trans hl (by decide)
  have h1 := implFwd_ret f ls r k a y s l q n1
  have h2 := specFwd_ret f ls r k a y s l q n1
  have h3 := implBack_ret f ls r k a y s l q n1
  have h4 := implGain_ret f ls r k a y s l q n1
  have h5 := implDen_ret f ls r k a y s l q n1
  rcases top_cases (f := f) (ls := ls) (r := r) (k := k) (a := a) (y := y) (s := s) (l := l) (q := q) with ⟨F, R, g, t, D, e1, e2, e3, e4, b1, b2, b3, b4, b5, b6, b7, b8, b9, b10⟩ | ⟨e, he, e1, e2, e3, e4⟩
  · rw [e1] at h1 h2
    rw [e4] at h3
    rw [e2] at h4
    rw [e3] at h5
    dsimp only at h1 h2 h3 h4 h5
    repeat' ((first | (conv => whnf) | skip); (first | ((with_reducible intro h); first | contradiction | omega | (conv => whnf) | skip) | (with_reducible refine And.intro ?_ ?_) | ((with_reducible show arithK _ _ _); refine arith_ok ⟨by omega, by omega⟩ ?_) | ((with_reducible show quoK _ _ _ _); refine quo_ok ⟨by omega, by omega⟩ (by omega) (by omega) ?_) | ((with_reducible show remK _ _ _ _); refine rem_ok (by omega) (by omega) ?_) | ((first | (with_reducible show CallA _ _ _ _ _ _) | (with_reducible show CallQ _ _ _ _ _ _)); first | (refine Ret.use (h1) (by first | ((repeat' (first | exact rfl | exact trivial | (with_reducible assumption) | refine And.intro ?_ ?_ | omega | assumption)); done) | fail) ?_) | (refine Ret.useQ (h1) (by first | ((repeat' (first | exact rfl | exact trivial | (with_reducible assumption) | refine And.intro ?_ ?_ | omega | assumption)); done) | fail) rfl ?_) | (refine Ret.use (h2) (by first | ((repeat' (first | exact rfl | exact trivial | (with_reducible assumption) | refine And.intro ?_ ?_ | omega | assumption)); done) | fail) ?_) | (refine Ret.useQ (h2) (by first | ((repeat' (first | exact rfl | exact trivial | (with_reducible assumption) | refine And.intro ?_ ?_ | omega | assumption)); done) | fail) rfl ?_) | (refine Ret.use (h3) (by first | ((repeat' (first | exact rfl | exact trivial | (with_reducible assumption) | refine And.intro ?_ ?_ | omega | assumption)); done) | fail) ?_) | (refine Ret.useQ (h3) (by first | ((repeat' (first | exact rfl | exact trivial | (with_reducible assumption) | refine And.intro ?_ ?_ | omega | assumption)); done) | fail) rfl ?_) | (refine Ret.use (h4) (by first | ((repeat' (first | exact rfl | exact trivial | (with_reducible assumption) | refine And.intro ?_ ?_ | omega | assumption)); done) | fail) ?_) | (refine Ret.useQ (h4) (by first | ((repeat' (first | exact rfl | exact trivial | (with_reducible assumption) | refine And.intro ?_ ?_ | omega | assumption)); done) | fail) rfl ?_) | (refine Ret.use (h5) (by first | ((repeat' (first | exact rfl | exact trivial | (with_reducible assumption) | refine And.intro ?_ ?_ | omega | assumption)); done) | fail) ?_) | (refine Ret.useQ (h5) (by first | ((repeat' (first | exact rfl | exact trivial | (with_reducible assumption) | refine And.intro ?_ ?_ | omega | assumption)); done) | fail) rfl ?_) | (refine CallA.goE3 false [] (drawCY_call code hn hb) rfl (by first | ((repeat' (first | exact rfl | exact trivial | (with_reducible assumption) | refine And.intro ?_ ?_ | omega | assumption)); done) | fail) (by first | ((repeat' (first | exact rfl | exact trivial | (with_reducible assumption) | refine And.intro ?_ ?_ | omega | assumption)); done) | fail) ?_; rintro ⟨⟨⟨f2, ls2, r2⟩, hp, ds⟩, fu, ex, it⟩ _ _ ⟨⟨hl2, hh2, hw2, hd2⟩, _⟩; (first | (conv => whnf) | skip); dsimp only at hl2 hh2 hw2 hd2)) | ((with_reducible show DrawA _ _ _ _ _ _); first | (refine draw_hard hT mixed (by decide +kernel) ?_))))
    all_goals first | rfl | omega | skip
    all_goals (clear h1 h2 h3 h4 h5 e1 e2 e3 e4 b1 b2 b3 b4 b5 b6 b7 b8 b9 b10)
    have m1 : ls2.length ≤ 1048576 := Nat.le_trans hl2 (by decide)
    have m2 : hp.length ≤ 1048576 := Nat.le_trans hh2 (by decide)
    have m3 : ds.length ≤ 1048576 := Nat.le_trans hd2 (by decide)
    have c1 := implCY_call f2 ls2 r2 hp ds fu ex it m1 m2 m3
    have c2 := specCY_call f2 ls2 r2 hp ds fu ex it m1 m2 m3
    have hlen := (cyL_row (f := f2) (ls := ls2) (r := r2) (hs := hp) (ds := ds) (fu := fu) (ex := ex) (it := it)).2
    by_cases hq : cyQ f2 ls2 r2 hp ds fu ex it
    · have hy := yr_of hq
      have hyb := yr_bd hy
      have hlo := later_ok (cy_parts hq).1 (cy_parts hq).2.1 (cy_parts hq).2.2
      have hrr : okR r2 := okF_R (cy_parts hq).1
      rw [cyT, yT_yes hq, cyC_zero hq, cyL, yL, whL_yes hq] at c1 c2
      rw [cyL, yL, whL_yes hq] at hlen
      generalize later f2 ls2 hp ds = L at c1 c2 hlo hlen hy hyb
      have hsp := implSurp_ret _ _ _ _ _ _ _ hy
      have hso := sources_call _ _ _ _ _ _ _ r2 hy hrr
      have hss := sumSrc_ret _ _ _ _ _ _ _ r2 hy hrr
      have hto := implTotal_ret f2 ls2 r2 L m1 (by omega) hlo
      have hlk := likeHoldings_ret L (by omega)
      generalize nets f2 ls2 r2 hp = v1 at c1 c2 hyb hsp hso hss
      generalize loads f2 ls2 r2 hp = v2 at c1 c2 hyb hsp hso hss
      generalize clm f2 ls2 hp ds = v3 at c1 c2 hyb hsp hso hss
      generalize tot f2 ls2 r2 L = v4 at c1 c2 hyb hsp hso hss hto
      repeat' ((first | (conv => whnf) | skip); (first | ((with_reducible intro h); first | contradiction | omega | (conv => whnf) | skip) | (with_reducible refine And.intro ?_ ?_) | ((with_reducible show arithK _ _ _); refine arith_ok ⟨by omega, by omega⟩ ?_) | ((with_reducible show quoK _ _ _ _); refine quo_ok ⟨by omega, by omega⟩ (by omega) (by omega) ?_) | ((with_reducible show remK _ _ _ _); refine rem_ok (by omega) (by omega) ?_) | ((first | (with_reducible show CallA _ _ _ _ _ _) | (with_reducible show CallQ _ _ _ _ _ _)); first | (refine CallA.go [] (c1) rfl (by first | ((repeat' (first | exact rfl | exact trivial | (with_reducible assumption) | refine And.intro ?_ ?_ | omega | assumption)); done) | fail) trivial ?_) | (refine CallA.go [] (c2) rfl (by first | ((repeat' (first | exact rfl | exact trivial | (with_reducible assumption) | refine And.intro ?_ ?_ | omega | assumption)); done) | fail) trivial ?_) | (refine Ret.use (hlk) (by first | ((repeat' (first | exact rfl | exact trivial | (with_reducible assumption) | refine And.intro ?_ ?_ | omega | assumption)); done) | fail) ?_) | (refine Ret.useQ (hlk) (by first | ((repeat' (first | exact rfl | exact trivial | (with_reducible assumption) | refine And.intro ?_ ?_ | omega | assumption)); done) | fail) rfl ?_) | (refine Ret.use (hsp) (by first | ((repeat' (first | exact rfl | exact trivial | (with_reducible assumption) | refine And.intro ?_ ?_ | omega | assumption)); done) | fail) ?_) | (refine Ret.useQ (hsp) (by first | ((repeat' (first | exact rfl | exact trivial | (with_reducible assumption) | refine And.intro ?_ ?_ | omega | assumption)); done) | fail) rfl ?_) | (refine CallA.go [] (hso) rfl (by first | ((repeat' (first | exact rfl | exact trivial | (with_reducible assumption) | refine And.intro ?_ ?_ | omega | assumption)); done) | fail) trivial ?_) | (refine Ret.use (hss) (by first | ((repeat' (first | exact rfl | exact trivial | (with_reducible assumption) | refine And.intro ?_ ?_ | omega | assumption)); done) | fail) ?_) | (refine Ret.useQ (hss) (by first | ((repeat' (first | exact rfl | exact trivial | (with_reducible assumption) | refine And.intro ?_ ?_ | omega | assumption)); done) | fail) rfl ?_) | (refine Ret.use (hto) (by first | ((repeat' (first | exact rfl | exact trivial | (with_reducible assumption) | refine And.intro ?_ ?_ | omega | assumption)); done) | fail) ?_) | (refine Ret.useQ (hto) (by first | ((repeat' (first | exact rfl | exact trivial | (with_reducible assumption) | refine And.intro ?_ ?_ | omega | assumption)); done) | fail) rfl ?_) | (refine CallA.goE3 false [] (drawPI_call code hn hb) rfl (by first | ((repeat' (first | exact rfl | exact trivial | (with_reducible assumption) | refine And.intro ?_ ?_ | omega | assumption)); done) | fail) (by first | ((repeat' (first | exact rfl | exact trivial | (with_reducible assumption) | refine And.intro ?_ ?_ | omega | assumption)); done) | fail) ?_; rintro ⟨⟨⟨S, E⟩, C⟩, inc⟩ _ _ ⟨⟨hS, hE⟩, _⟩; (first | (conv => whnf) | skip); dsimp only at hS hE)) | ((with_reducible show DrawA _ _ _ _ _ _); first | (refine draw_hard hT mixed (by decide +kernel) ?_))))
      all_goals first | rfl | omega | contradiction | skip
      rcases pi_cases (S := S) (E := E) (C := C) (y := inc) hS with ⟨e3, he3, hpi⟩ | ⟨P, K, hpi, hPl, hPs, hsum, hC, hI, hK⟩
      · have p1 := implPI_call S E C inc (by omega) (by omega)
        have p2 := specPI_call S E C inc (by omega) (by omega)
        rw [piT, hpi] at p1 p2
        dsimp only at p1 p2
        have q1 : (((S, E), C), inc).1.2 = C := rfl
        have q2 : (((S, E), C), inc).2 = inc := rfl
        repeat' ((first | (conv => whnf) | skip); (first | ((with_reducible intro h); first | contradiction | omega | (conv => whnf) | skip) | (with_reducible refine And.intro ?_ ?_) | ((with_reducible show arithK _ _ _); refine arith_ok ⟨by omega, by omega⟩ ?_) | ((with_reducible show quoK _ _ _ _); refine quo_ok ⟨by omega, by omega⟩ (by omega) (by omega) ?_) | ((with_reducible show remK _ _ _ _); refine rem_ok (by omega) (by omega) ?_) | ((first | (with_reducible show CallA _ _ _ _ _ _) | (with_reducible show CallQ _ _ _ _ _ _)); first | (refine CallA.go [] (p1) rfl (by first | ((repeat' (first | exact rfl | exact trivial | (with_reducible assumption) | refine And.intro ?_ ?_ | omega | assumption)); done) | fail) trivial ?_) | (refine CallA.go [] (p2) rfl (by first | ((repeat' (first | exact rfl | exact trivial | (with_reducible assumption) | refine And.intro ?_ ?_ | omega | assumption)); done) | fail) trivial ?_) | (refine Ret.use (likeClasses_ret [] [] 0 (by decide) (by decide)) (by first | ((repeat' (first | exact rfl | exact trivial | (with_reducible assumption) | refine And.intro ?_ ?_ | omega | assumption)); done) | fail) ?_) | (refine Ret.useQ (likeClasses_ret [] [] 0 (by decide) (by decide)) (by first | ((repeat' (first | exact rfl | exact trivial | (with_reducible assumption) | refine And.intro ?_ ?_ | omega | assumption)); done) | fail) rfl ?_) | (refine Ret.useP (likeInts_ret [] [] (by decide)) (by first | ((repeat' (first | exact rfl | exact trivial | (with_reducible assumption) | refine And.intro ?_ ?_ | omega | assumption)); done) | fail) ?_) | (refine Ret.useQP (likeInts_ret [] [] (by decide)) (by first | ((repeat' (first | exact rfl | exact trivial | (with_reducible assumption) | refine And.intro ?_ ?_ | omega | assumption)); done) | fail) ?_)) | ((with_reducible show DrawA _ _ _ _ _ _); first | (refine draw_hard hT mixed (by decide +kernel) ?_))))
        all_goals first | rfl | omega | contradiction | trace_state
      · have p1 := implPI_call S E C inc (by omega) (by omega)
        have p2 := specPI_call S E C inc (by omega) (by omega)
        rw [piT, hpi] at p1 p2
        dsimp only at p1 p2
        have q1 : (((S, E), C), inc).1.2 = C := rfl
        have q2 : (((S, E), C), inc).2 = inc := rfl
        have hsr := sum_ret P (by omega) hPs
        have hsb := hPs P.length (Nat.le_refl _)
        rw [take_all (Nat.le_refl _)] at hsb
        have hlc := likeClasses_ret S E K (by omega) (by omega)
        have hli := likeInts_ret P P (by omega)
        repeat' ((first | (conv => whnf) | skip); (first | ((with_reducible intro h); first | contradiction | omega | (conv => whnf) | skip) | (with_reducible refine And.intro ?_ ?_) | ((with_reducible show arithK _ _ _); refine arith_ok ⟨by omega, by omega⟩ ?_) | ((with_reducible show quoK _ _ _ _); refine quo_ok ⟨by omega, by omega⟩ (by omega) (by omega) ?_) | ((with_reducible show remK _ _ _ _); refine rem_ok (by omega) (by omega) ?_) | ((first | (with_reducible show CallA _ _ _ _ _ _) | (with_reducible show CallQ _ _ _ _ _ _)); first | (refine CallA.go [] (p1) rfl (by first | ((repeat' (first | exact rfl | exact trivial | (with_reducible assumption) | refine And.intro ?_ ?_ | omega | assumption)); done) | fail) trivial ?_) | (refine CallA.go [] (p2) rfl (by first | ((repeat' (first | exact rfl | exact trivial | (with_reducible assumption) | refine And.intro ?_ ?_ | omega | assumption)); done) | fail) trivial ?_) | (refine Ret.use (hlc) (by first | ((repeat' (first | exact rfl | exact trivial | (with_reducible assumption) | refine And.intro ?_ ?_ | omega | assumption)); done) | fail) ?_) | (refine Ret.useQ (hlc) (by first | ((repeat' (first | exact rfl | exact trivial | (with_reducible assumption) | refine And.intro ?_ ?_ | omega | assumption)); done) | fail) rfl ?_) | (refine Ret.useP (hli) (by first | ((repeat' (first | exact rfl | exact trivial | (with_reducible assumption) | refine And.intro ?_ ?_ | omega | assumption)); done) | fail) ?_) | (refine Ret.useQP (hli) (by first | ((repeat' (first | exact rfl | exact trivial | (with_reducible assumption) | refine And.intro ?_ ?_ | omega | assumption)); done) | fail) ?_) | (refine Ret.use (hsr) (by first | ((repeat' (first | exact rfl | exact trivial | (with_reducible assumption) | refine And.intro ?_ ?_ | omega | assumption)); done) | fail) ?_) | (refine Ret.useQ (hsr) (by first | ((repeat' (first | exact rfl | exact trivial | (with_reducible assumption) | refine And.intro ?_ ?_ | omega | assumption)); done) | fail) rfl ?_)) | ((with_reducible show DrawA _ _ _ _ _ _); first | (refine draw_hard hT mixed (by decide +kernel) ?_))))
        all_goals first | rfl | omega | contradiction | trace_state
    · have hcn := cyC_ne hq
      rw [cyT, yT_no hq, cyL, yL, whL_no hq] at c1 c2
      have hlk := likeHoldings_ret [] (by decide)
      repeat' ((first | (conv => whnf) | skip); (first | ((with_reducible intro h); first | contradiction | omega | (conv => whnf) | skip) | (with_reducible refine And.intro ?_ ?_) | ((with_reducible show arithK _ _ _); refine arith_ok ⟨by omega, by omega⟩ ?_) | ((with_reducible show quoK _ _ _ _); refine quo_ok ⟨by omega, by omega⟩ (by omega) (by omega) ?_) | ((with_reducible show remK _ _ _ _); refine rem_ok (by omega) (by omega) ?_) | ((first | (with_reducible show CallA _ _ _ _ _ _) | (with_reducible show CallQ _ _ _ _ _ _)); first | (refine CallA.go [] (c1) rfl (by first | ((repeat' (first | exact rfl | exact trivial | (with_reducible assumption) | refine And.intro ?_ ?_ | omega | assumption)); done) | fail) trivial ?_) | (refine CallA.go [] (c2) rfl (by first | ((repeat' (first | exact rfl | exact trivial | (with_reducible assumption) | refine And.intro ?_ ?_ | omega | assumption)); done) | fail) trivial ?_) | (refine Ret.use (hlk) (by first | ((repeat' (first | exact rfl | exact trivial | (with_reducible assumption) | refine And.intro ?_ ?_ | omega | assumption)); done) | fail) ?_) | (refine Ret.useQ (hlk) (by first | ((repeat' (first | exact rfl | exact trivial | (with_reducible assumption) | refine And.intro ?_ ?_ | omega | assumption)); done) | fail) rfl ?_) | (refine CallA.goE3 false [] (drawPI_call code hn hb) rfl (by first | ((repeat' (first | exact rfl | exact trivial | (with_reducible assumption) | refine And.intro ?_ ?_ | omega | assumption)); done) | fail) (by first | ((repeat' (first | exact rfl | exact trivial | (with_reducible assumption) | refine And.intro ?_ ?_ | omega | assumption)); done) | fail) ?_; rintro ⟨⟨⟨S, E⟩, C⟩, inc⟩ _ _ ⟨⟨hS, hE⟩, _⟩; (first | (conv => whnf) | skip); dsimp only at hS hE)) | ((with_reducible show DrawA _ _ _ _ _ _); first | (refine draw_hard hT mixed (by decide +kernel) ?_))))
      all_goals first | rfl | omega | contradiction | skip
      rcases pi_cases (S := S) (E := E) (C := C) (y := inc) hS with ⟨e3, he3, hpi⟩ | ⟨P, K, hpi, hPl, hPs, hsum, hC, hI, hK⟩
      · have p1 := implPI_call S E C inc (by omega) (by omega)
        have p2 := specPI_call S E C inc (by omega) (by omega)
        rw [piT, hpi] at p1 p2
        dsimp only at p1 p2
        have q1 : (((S, E), C), inc).1.2 = C := rfl
        have q2 : (((S, E), C), inc).2 = inc := rfl
        repeat' ((first | (conv => whnf) | skip); (first | ((with_reducible intro h); first | contradiction | omega | (conv => whnf) | skip) | (with_reducible refine And.intro ?_ ?_) | ((with_reducible show arithK _ _ _); refine arith_ok ⟨by omega, by omega⟩ ?_) | ((with_reducible show quoK _ _ _ _); refine quo_ok ⟨by omega, by omega⟩ (by omega) (by omega) ?_) | ((with_reducible show remK _ _ _ _); refine rem_ok (by omega) (by omega) ?_) | ((first | (with_reducible show CallA _ _ _ _ _ _) | (with_reducible show CallQ _ _ _ _ _ _)); first | (refine CallA.go [] (p1) rfl (by first | ((repeat' (first | exact rfl | exact trivial | (with_reducible assumption) | refine And.intro ?_ ?_ | omega | assumption)); done) | fail) trivial ?_) | (refine CallA.go [] (p2) rfl (by first | ((repeat' (first | exact rfl | exact trivial | (with_reducible assumption) | refine And.intro ?_ ?_ | omega | assumption)); done) | fail) trivial ?_) | (refine Ret.use (likeClasses_ret [] [] 0 (by decide) (by decide)) (by first | ((repeat' (first | exact rfl | exact trivial | (with_reducible assumption) | refine And.intro ?_ ?_ | omega | assumption)); done) | fail) ?_) | (refine Ret.useQ (likeClasses_ret [] [] 0 (by decide) (by decide)) (by first | ((repeat' (first | exact rfl | exact trivial | (with_reducible assumption) | refine And.intro ?_ ?_ | omega | assumption)); done) | fail) rfl ?_) | (refine Ret.useP (likeInts_ret [] [] (by decide)) (by first | ((repeat' (first | exact rfl | exact trivial | (with_reducible assumption) | refine And.intro ?_ ?_ | omega | assumption)); done) | fail) ?_) | (refine Ret.useQP (likeInts_ret [] [] (by decide)) (by first | ((repeat' (first | exact rfl | exact trivial | (with_reducible assumption) | refine And.intro ?_ ?_ | omega | assumption)); done) | fail) ?_)) | ((with_reducible show DrawA _ _ _ _ _ _); first | (refine draw_hard hT mixed (by decide +kernel) ?_))))
        all_goals first | rfl | omega | contradiction | trace_state
      · have p1 := implPI_call S E C inc (by omega) (by omega)
        have p2 := specPI_call S E C inc (by omega) (by omega)
        rw [piT, hpi] at p1 p2
        dsimp only at p1 p2
        have q1 : (((S, E), C), inc).1.2 = C := rfl
        have q2 : (((S, E), C), inc).2 = inc := rfl
        have hsr := sum_ret P (by omega) hPs
        have hsb := hPs P.length (Nat.le_refl _)
        rw [take_all (Nat.le_refl _)] at hsb
        have hlc := likeClasses_ret S E K (by omega) (by omega)
        have hli := likeInts_ret P P (by omega)
        repeat' ((first | (conv => whnf) | skip); (first | ((with_reducible intro h); first | contradiction | omega | (conv => whnf) | skip) | (with_reducible refine And.intro ?_ ?_) | ((with_reducible show arithK _ _ _); refine arith_ok ⟨by omega, by omega⟩ ?_) | ((with_reducible show quoK _ _ _ _); refine quo_ok ⟨by omega, by omega⟩ (by omega) (by omega) ?_) | ((with_reducible show remK _ _ _ _); refine rem_ok (by omega) (by omega) ?_) | ((first | (with_reducible show CallA _ _ _ _ _ _) | (with_reducible show CallQ _ _ _ _ _ _)); first | (refine CallA.go [] (p1) rfl (by first | ((repeat' (first | exact rfl | exact trivial | (with_reducible assumption) | refine And.intro ?_ ?_ | omega | assumption)); done) | fail) trivial ?_) | (refine CallA.go [] (p2) rfl (by first | ((repeat' (first | exact rfl | exact trivial | (with_reducible assumption) | refine And.intro ?_ ?_ | omega | assumption)); done) | fail) trivial ?_) | (refine Ret.use (hlc) (by first | ((repeat' (first | exact rfl | exact trivial | (with_reducible assumption) | refine And.intro ?_ ?_ | omega | assumption)); done) | fail) ?_) | (refine Ret.useQ (hlc) (by first | ((repeat' (first | exact rfl | exact trivial | (with_reducible assumption) | refine And.intro ?_ ?_ | omega | assumption)); done) | fail) rfl ?_) | (refine Ret.useP (hli) (by first | ((repeat' (first | exact rfl | exact trivial | (with_reducible assumption) | refine And.intro ?_ ?_ | omega | assumption)); done) | fail) ?_) | (refine Ret.useQP (hli) (by first | ((repeat' (first | exact rfl | exact trivial | (with_reducible assumption) | refine And.intro ?_ ?_ | omega | assumption)); done) | fail) ?_) | (refine Ret.use (hsr) (by first | ((repeat' (first | exact rfl | exact trivial | (with_reducible assumption) | refine And.intro ?_ ?_ | omega | assumption)); done) | fail) ?_) | (refine Ret.useQ (hsr) (by first | ((repeat' (first | exact rfl | exact trivial | (with_reducible assumption) | refine And.intro ?_ ?_ | omega | assumption)); done) | fail) rfl ?_)) | ((with_reducible show DrawA _ _ _ _ _ _); first | (refine draw_hard hT mixed (by decide +kernel) ?_))))
        all_goals first | rfl | omega | contradiction | trace_state
  · rw [e1] at h1 h2
    rw [e4] at h3
    rw [e2] at h4
    rw [e3] at h5
    dsimp only at h1 h2 h3 h4 h5
    repeat' ((first | (conv => whnf) | skip); (first | ((with_reducible intro h); first | contradiction | omega | (conv => whnf) | skip) | (with_reducible refine And.intro ?_ ?_) | ((with_reducible show arithK _ _ _); refine arith_ok ⟨by omega, by omega⟩ ?_) | ((with_reducible show quoK _ _ _ _); refine quo_ok ⟨by omega, by omega⟩ (by omega) (by omega) ?_) | ((with_reducible show remK _ _ _ _); refine rem_ok (by omega) (by omega) ?_) | ((first | (with_reducible show CallA _ _ _ _ _ _) | (with_reducible show CallQ _ _ _ _ _ _)); first | (refine Ret.use (h1) (by first | ((repeat' (first | exact rfl | exact trivial | (with_reducible assumption) | refine And.intro ?_ ?_ | omega | assumption)); done) | fail) ?_) | (refine Ret.useQ (h1) (by first | ((repeat' (first | exact rfl | exact trivial | (with_reducible assumption) | refine And.intro ?_ ?_ | omega | assumption)); done) | fail) rfl ?_) | (refine Ret.use (h2) (by first | ((repeat' (first | exact rfl | exact trivial | (with_reducible assumption) | refine And.intro ?_ ?_ | omega | assumption)); done) | fail) ?_) | (refine Ret.useQ (h2) (by first | ((repeat' (first | exact rfl | exact trivial | (with_reducible assumption) | refine And.intro ?_ ?_ | omega | assumption)); done) | fail) rfl ?_) | (refine Ret.use (h3) (by first | ((repeat' (first | exact rfl | exact trivial | (with_reducible assumption) | refine And.intro ?_ ?_ | omega | assumption)); done) | fail) ?_) | (refine Ret.useQ (h3) (by first | ((repeat' (first | exact rfl | exact trivial | (with_reducible assumption) | refine And.intro ?_ ?_ | omega | assumption)); done) | fail) rfl ?_) | (refine Ret.use (h4) (by first | ((repeat' (first | exact rfl | exact trivial | (with_reducible assumption) | refine And.intro ?_ ?_ | omega | assumption)); done) | fail) ?_) | (refine Ret.useQ (h4) (by first | ((repeat' (first | exact rfl | exact trivial | (with_reducible assumption) | refine And.intro ?_ ?_ | omega | assumption)); done) | fail) rfl ?_) | (refine Ret.use (h5) (by first | ((repeat' (first | exact rfl | exact trivial | (with_reducible assumption) | refine And.intro ?_ ?_ | omega | assumption)); done) | fail) ?_) | (refine Ret.useQ (h5) (by first | ((repeat' (first | exact rfl | exact trivial | (with_reducible assumption) | refine And.intro ?_ ?_ | omega | assumption)); done) | fail) rfl ?_) | (refine CallA.goE3 false [] (drawCY_call code hn hb) rfl (by first | ((repeat' (first | exact rfl | exact trivial | (with_reducible assumption) | refine And.intro ?_ ?_ | omega | assumption)); done) | fail) (by first | ((repeat' (first | exact rfl | exact trivial | (with_reducible assumption) | refine And.intro ?_ ?_ | omega | assumption)); done) | fail) ?_; rintro ⟨⟨⟨f2, ls2, r2⟩, hp, ds⟩, fu, ex, it⟩ _ _ ⟨⟨hl2, hh2, hw2, hd2⟩, _⟩; (first | (conv => whnf) | skip); dsimp only at hl2 hh2 hw2 hd2)) | ((with_reducible show DrawA _ _ _ _ _ _); first | (refine draw_hard hT mixed (by decide +kernel) ?_))))
    all_goals first | rfl | omega | skip
    all_goals (clear h1 h2 h3 h4 h5 e1 e2 e3 e4)
    have m1 : ls2.length ≤ 1048576 := Nat.le_trans hl2 (by decide)
    have m2 : hp.length ≤ 1048576 := Nat.le_trans hh2 (by decide)
    have m3 : ds.length ≤ 1048576 := Nat.le_trans hd2 (by decide)
    have c1 := implCY_call f2 ls2 r2 hp ds fu ex it m1 m2 m3
    have c2 := specCY_call f2 ls2 r2 hp ds fu ex it m1 m2 m3
    have hlen := (cyL_row (f := f2) (ls := ls2) (r := r2) (hs := hp) (ds := ds) (fu := fu) (ex := ex) (it := it)).2
    by_cases hq : cyQ f2 ls2 r2 hp ds fu ex it
    · have hy := yr_of hq
      have hyb := yr_bd hy
      have hlo := later_ok (cy_parts hq).1 (cy_parts hq).2.1 (cy_parts hq).2.2
      have hrr : okR r2 := okF_R (cy_parts hq).1
      rw [cyT, yT_yes hq, cyC_zero hq, cyL, yL, whL_yes hq] at c1 c2
      rw [cyL, yL, whL_yes hq] at hlen
      generalize later f2 ls2 hp ds = L at c1 c2 hlo hlen hy hyb
      have hsp := implSurp_ret _ _ _ _ _ _ _ hy
      have hso := sources_call _ _ _ _ _ _ _ r2 hy hrr
      have hss := sumSrc_ret _ _ _ _ _ _ _ r2 hy hrr
      have hto := implTotal_ret f2 ls2 r2 L m1 (by omega) hlo
      have hlk := likeHoldings_ret L (by omega)
      generalize nets f2 ls2 r2 hp = v1 at c1 c2 hyb hsp hso hss
      generalize loads f2 ls2 r2 hp = v2 at c1 c2 hyb hsp hso hss
      generalize clm f2 ls2 hp ds = v3 at c1 c2 hyb hsp hso hss
      generalize tot f2 ls2 r2 L = v4 at c1 c2 hyb hsp hso hss hto
      repeat' ((first | (conv => whnf) | skip); (first | ((with_reducible intro h); first | contradiction | omega | (conv => whnf) | skip) | (with_reducible refine And.intro ?_ ?_) | ((with_reducible show arithK _ _ _); refine arith_ok ⟨by omega, by omega⟩ ?_) | ((with_reducible show quoK _ _ _ _); refine quo_ok ⟨by omega, by omega⟩ (by omega) (by omega) ?_) | ((with_reducible show remK _ _ _ _); refine rem_ok (by omega) (by omega) ?_) | ((first | (with_reducible show CallA _ _ _ _ _ _) | (with_reducible show CallQ _ _ _ _ _ _)); first | (refine CallA.go [] (c1) rfl (by first | ((repeat' (first | exact rfl | exact trivial | (with_reducible assumption) | refine And.intro ?_ ?_ | omega | assumption)); done) | fail) trivial ?_) | (refine CallA.go [] (c2) rfl (by first | ((repeat' (first | exact rfl | exact trivial | (with_reducible assumption) | refine And.intro ?_ ?_ | omega | assumption)); done) | fail) trivial ?_) | (refine Ret.use (hlk) (by first | ((repeat' (first | exact rfl | exact trivial | (with_reducible assumption) | refine And.intro ?_ ?_ | omega | assumption)); done) | fail) ?_) | (refine Ret.useQ (hlk) (by first | ((repeat' (first | exact rfl | exact trivial | (with_reducible assumption) | refine And.intro ?_ ?_ | omega | assumption)); done) | fail) rfl ?_) | (refine Ret.use (hsp) (by first | ((repeat' (first | exact rfl | exact trivial | (with_reducible assumption) | refine And.intro ?_ ?_ | omega | assumption)); done) | fail) ?_) | (refine Ret.useQ (hsp) (by first | ((repeat' (first | exact rfl | exact trivial | (with_reducible assumption) | refine And.intro ?_ ?_ | omega | assumption)); done) | fail) rfl ?_) | (refine CallA.go [] (hso) rfl (by first | ((repeat' (first | exact rfl | exact trivial | (with_reducible assumption) | refine And.intro ?_ ?_ | omega | assumption)); done) | fail) trivial ?_) | (refine Ret.use (hss) (by first | ((repeat' (first | exact rfl | exact trivial | (with_reducible assumption) | refine And.intro ?_ ?_ | omega | assumption)); done) | fail) ?_) | (refine Ret.useQ (hss) (by first | ((repeat' (first | exact rfl | exact trivial | (with_reducible assumption) | refine And.intro ?_ ?_ | omega | assumption)); done) | fail) rfl ?_) | (refine Ret.use (hto) (by first | ((repeat' (first | exact rfl | exact trivial | (with_reducible assumption) | refine And.intro ?_ ?_ | omega | assumption)); done) | fail) ?_) | (refine Ret.useQ (hto) (by first | ((repeat' (first | exact rfl | exact trivial | (with_reducible assumption) | refine And.intro ?_ ?_ | omega | assumption)); done) | fail) rfl ?_) | (refine CallA.goE3 false [] (drawPI_call code hn hb) rfl (by first | ((repeat' (first | exact rfl | exact trivial | (with_reducible assumption) | refine And.intro ?_ ?_ | omega | assumption)); done) | fail) (by first | ((repeat' (first | exact rfl | exact trivial | (with_reducible assumption) | refine And.intro ?_ ?_ | omega | assumption)); done) | fail) ?_; rintro ⟨⟨⟨S, E⟩, C⟩, inc⟩ _ _ ⟨⟨hS, hE⟩, _⟩; (first | (conv => whnf) | skip); dsimp only at hS hE)) | ((with_reducible show DrawA _ _ _ _ _ _); first | (refine draw_hard hT mixed (by decide +kernel) ?_))))
      all_goals first | rfl | omega | contradiction | skip
      rcases pi_cases (S := S) (E := E) (C := C) (y := inc) hS with ⟨e3, he3, hpi⟩ | ⟨P, K, hpi, hPl, hPs, hsum, hC, hI, hK⟩
      · have p1 := implPI_call S E C inc (by omega) (by omega)
        have p2 := specPI_call S E C inc (by omega) (by omega)
        rw [piT, hpi] at p1 p2
        dsimp only at p1 p2
        have q1 : (((S, E), C), inc).1.2 = C := rfl
        have q2 : (((S, E), C), inc).2 = inc := rfl
        repeat' ((first | (conv => whnf) | skip); (first | ((with_reducible intro h); first | contradiction | omega | (conv => whnf) | skip) | (with_reducible refine And.intro ?_ ?_) | ((with_reducible show arithK _ _ _); refine arith_ok ⟨by omega, by omega⟩ ?_) | ((with_reducible show quoK _ _ _ _); refine quo_ok ⟨by omega, by omega⟩ (by omega) (by omega) ?_) | ((with_reducible show remK _ _ _ _); refine rem_ok (by omega) (by omega) ?_) | ((first | (with_reducible show CallA _ _ _ _ _ _) | (with_reducible show CallQ _ _ _ _ _ _)); first | (refine CallA.go [] (p1) rfl (by first | ((repeat' (first | exact rfl | exact trivial | (with_reducible assumption) | refine And.intro ?_ ?_ | omega | assumption)); done) | fail) trivial ?_) | (refine CallA.go [] (p2) rfl (by first | ((repeat' (first | exact rfl | exact trivial | (with_reducible assumption) | refine And.intro ?_ ?_ | omega | assumption)); done) | fail) trivial ?_) | (refine Ret.use (likeClasses_ret [] [] 0 (by decide) (by decide)) (by first | ((repeat' (first | exact rfl | exact trivial | (with_reducible assumption) | refine And.intro ?_ ?_ | omega | assumption)); done) | fail) ?_) | (refine Ret.useQ (likeClasses_ret [] [] 0 (by decide) (by decide)) (by first | ((repeat' (first | exact rfl | exact trivial | (with_reducible assumption) | refine And.intro ?_ ?_ | omega | assumption)); done) | fail) rfl ?_) | (refine Ret.useP (likeInts_ret [] [] (by decide)) (by first | ((repeat' (first | exact rfl | exact trivial | (with_reducible assumption) | refine And.intro ?_ ?_ | omega | assumption)); done) | fail) ?_) | (refine Ret.useQP (likeInts_ret [] [] (by decide)) (by first | ((repeat' (first | exact rfl | exact trivial | (with_reducible assumption) | refine And.intro ?_ ?_ | omega | assumption)); done) | fail) ?_)) | ((with_reducible show DrawA _ _ _ _ _ _); first | (refine draw_hard hT mixed (by decide +kernel) ?_))))
        all_goals first | rfl | omega | contradiction | trace_state
      · have p1 := implPI_call S E C inc (by omega) (by omega)
        have p2 := specPI_call S E C inc (by omega) (by omega)
        rw [piT, hpi] at p1 p2
        dsimp only at p1 p2
        have q1 : (((S, E), C), inc).1.2 = C := rfl
        have q2 : (((S, E), C), inc).2 = inc := rfl
        have hsr := sum_ret P (by omega) hPs
        have hsb := hPs P.length (Nat.le_refl _)
        rw [take_all (Nat.le_refl _)] at hsb
        have hlc := likeClasses_ret S E K (by omega) (by omega)
        have hli := likeInts_ret P P (by omega)
        repeat' ((first | (conv => whnf) | skip); (first | ((with_reducible intro h); first | contradiction | omega | (conv => whnf) | skip) | (with_reducible refine And.intro ?_ ?_) | ((with_reducible show arithK _ _ _); refine arith_ok ⟨by omega, by omega⟩ ?_) | ((with_reducible show quoK _ _ _ _); refine quo_ok ⟨by omega, by omega⟩ (by omega) (by omega) ?_) | ((with_reducible show remK _ _ _ _); refine rem_ok (by omega) (by omega) ?_) | ((first | (with_reducible show CallA _ _ _ _ _ _) | (with_reducible show CallQ _ _ _ _ _ _)); first | (refine CallA.go [] (p1) rfl (by first | ((repeat' (first | exact rfl | exact trivial | (with_reducible assumption) | refine And.intro ?_ ?_ | omega | assumption)); done) | fail) trivial ?_) | (refine CallA.go [] (p2) rfl (by first | ((repeat' (first | exact rfl | exact trivial | (with_reducible assumption) | refine And.intro ?_ ?_ | omega | assumption)); done) | fail) trivial ?_) | (refine Ret.use (hlc) (by first | ((repeat' (first | exact rfl | exact trivial | (with_reducible assumption) | refine And.intro ?_ ?_ | omega | assumption)); done) | fail) ?_) | (refine Ret.useQ (hlc) (by first | ((repeat' (first | exact rfl | exact trivial | (with_reducible assumption) | refine And.intro ?_ ?_ | omega | assumption)); done) | fail) rfl ?_) | (refine Ret.useP (hli) (by first | ((repeat' (first | exact rfl | exact trivial | (with_reducible assumption) | refine And.intro ?_ ?_ | omega | assumption)); done) | fail) ?_) | (refine Ret.useQP (hli) (by first | ((repeat' (first | exact rfl | exact trivial | (with_reducible assumption) | refine And.intro ?_ ?_ | omega | assumption)); done) | fail) ?_) | (refine Ret.use (hsr) (by first | ((repeat' (first | exact rfl | exact trivial | (with_reducible assumption) | refine And.intro ?_ ?_ | omega | assumption)); done) | fail) ?_) | (refine Ret.useQ (hsr) (by first | ((repeat' (first | exact rfl | exact trivial | (with_reducible assumption) | refine And.intro ?_ ?_ | omega | assumption)); done) | fail) rfl ?_)) | ((with_reducible show DrawA _ _ _ _ _ _); first | (refine draw_hard hT mixed (by decide +kernel) ?_))))
        all_goals first | rfl | omega | contradiction | trace_state
    · have hcn := cyC_ne hq
      rw [cyT, yT_no hq, cyL, yL, whL_no hq] at c1 c2
      have hlk := likeHoldings_ret [] (by decide)
      repeat' ((first | (conv => whnf) | skip); (first | ((with_reducible intro h); first | contradiction | omega | (conv => whnf) | skip) | (with_reducible refine And.intro ?_ ?_) | ((with_reducible show arithK _ _ _); refine arith_ok ⟨by omega, by omega⟩ ?_) | ((with_reducible show quoK _ _ _ _); refine quo_ok ⟨by omega, by omega⟩ (by omega) (by omega) ?_) | ((with_reducible show remK _ _ _ _); refine rem_ok (by omega) (by omega) ?_) | ((first | (with_reducible show CallA _ _ _ _ _ _) | (with_reducible show CallQ _ _ _ _ _ _)); first | (refine CallA.go [] (c1) rfl (by first | ((repeat' (first | exact rfl | exact trivial | (with_reducible assumption) | refine And.intro ?_ ?_ | omega | assumption)); done) | fail) trivial ?_) | (refine CallA.go [] (c2) rfl (by first | ((repeat' (first | exact rfl | exact trivial | (with_reducible assumption) | refine And.intro ?_ ?_ | omega | assumption)); done) | fail) trivial ?_) | (refine Ret.use (hlk) (by first | ((repeat' (first | exact rfl | exact trivial | (with_reducible assumption) | refine And.intro ?_ ?_ | omega | assumption)); done) | fail) ?_) | (refine Ret.useQ (hlk) (by first | ((repeat' (first | exact rfl | exact trivial | (with_reducible assumption) | refine And.intro ?_ ?_ | omega | assumption)); done) | fail) rfl ?_) | (refine CallA.goE3 false [] (drawPI_call code hn hb) rfl (by first | ((repeat' (first | exact rfl | exact trivial | (with_reducible assumption) | refine And.intro ?_ ?_ | omega | assumption)); done) | fail) (by first | ((repeat' (first | exact rfl | exact trivial | (with_reducible assumption) | refine And.intro ?_ ?_ | omega | assumption)); done) | fail) ?_; rintro ⟨⟨⟨S, E⟩, C⟩, inc⟩ _ _ ⟨⟨hS, hE⟩, _⟩; (first | (conv => whnf) | skip); dsimp only at hS hE)) | ((with_reducible show DrawA _ _ _ _ _ _); first | (refine draw_hard hT mixed (by decide +kernel) ?_))))
      all_goals first | rfl | omega | contradiction | skip
      rcases pi_cases (S := S) (E := E) (C := C) (y := inc) hS with ⟨e3, he3, hpi⟩ | ⟨P, K, hpi, hPl, hPs, hsum, hC, hI, hK⟩
      · have p1 := implPI_call S E C inc (by omega) (by omega)
        have p2 := specPI_call S E C inc (by omega) (by omega)
        rw [piT, hpi] at p1 p2
        dsimp only at p1 p2
        have q1 : (((S, E), C), inc).1.2 = C := rfl
        have q2 : (((S, E), C), inc).2 = inc := rfl
        repeat' ((first | (conv => whnf) | skip); (first | ((with_reducible intro h); first | contradiction | omega | (conv => whnf) | skip) | (with_reducible refine And.intro ?_ ?_) | ((with_reducible show arithK _ _ _); refine arith_ok ⟨by omega, by omega⟩ ?_) | ((with_reducible show quoK _ _ _ _); refine quo_ok ⟨by omega, by omega⟩ (by omega) (by omega) ?_) | ((with_reducible show remK _ _ _ _); refine rem_ok (by omega) (by omega) ?_) | ((first | (with_reducible show CallA _ _ _ _ _ _) | (with_reducible show CallQ _ _ _ _ _ _)); first | (refine CallA.go [] (p1) rfl (by first | ((repeat' (first | exact rfl | exact trivial | (with_reducible assumption) | refine And.intro ?_ ?_ | omega | assumption)); done) | fail) trivial ?_) | (refine CallA.go [] (p2) rfl (by first | ((repeat' (first | exact rfl | exact trivial | (with_reducible assumption) | refine And.intro ?_ ?_ | omega | assumption)); done) | fail) trivial ?_) | (refine Ret.use (likeClasses_ret [] [] 0 (by decide) (by decide)) (by first | ((repeat' (first | exact rfl | exact trivial | (with_reducible assumption) | refine And.intro ?_ ?_ | omega | assumption)); done) | fail) ?_) | (refine Ret.useQ (likeClasses_ret [] [] 0 (by decide) (by decide)) (by first | ((repeat' (first | exact rfl | exact trivial | (with_reducible assumption) | refine And.intro ?_ ?_ | omega | assumption)); done) | fail) rfl ?_) | (refine Ret.useP (likeInts_ret [] [] (by decide)) (by first | ((repeat' (first | exact rfl | exact trivial | (with_reducible assumption) | refine And.intro ?_ ?_ | omega | assumption)); done) | fail) ?_) | (refine Ret.useQP (likeInts_ret [] [] (by decide)) (by first | ((repeat' (first | exact rfl | exact trivial | (with_reducible assumption) | refine And.intro ?_ ?_ | omega | assumption)); done) | fail) ?_)) | ((with_reducible show DrawA _ _ _ _ _ _); first | (refine draw_hard hT mixed (by decide +kernel) ?_))))
        all_goals first | rfl | omega | contradiction | trace_state
      · have p1 := implPI_call S E C inc (by omega) (by omega)
        have p2 := specPI_call S E C inc (by omega) (by omega)
        rw [piT, hpi] at p1 p2
        dsimp only at p1 p2
        have q1 : (((S, E), C), inc).1.2 = C := rfl
        have q2 : (((S, E), C), inc).2 = inc := rfl
        have hsr := sum_ret P (by omega) hPs
        have hsb := hPs P.length (Nat.le_refl _)
        rw [take_all (Nat.le_refl _)] at hsb
        have hlc := likeClasses_ret S E K (by omega) (by omega)
        have hli := likeInts_ret P P (by omega)
        repeat' ((first | (conv => whnf) | skip); (first | ((with_reducible intro h); first | contradiction | omega | (conv => whnf) | skip) | (with_reducible refine And.intro ?_ ?_) | ((with_reducible show arithK _ _ _); refine arith_ok ⟨by omega, by omega⟩ ?_) | ((with_reducible show quoK _ _ _ _); refine quo_ok ⟨by omega, by omega⟩ (by omega) (by omega) ?_) | ((with_reducible show remK _ _ _ _); refine rem_ok (by omega) (by omega) ?_) | ((first | (with_reducible show CallA _ _ _ _ _ _) | (with_reducible show CallQ _ _ _ _ _ _)); first | (refine CallA.go [] (p1) rfl (by first | ((repeat' (first | exact rfl | exact trivial | (with_reducible assumption) | refine And.intro ?_ ?_ | omega | assumption)); done) | fail) trivial ?_) | (refine CallA.go [] (p2) rfl (by first | ((repeat' (first | exact rfl | exact trivial | (with_reducible assumption) | refine And.intro ?_ ?_ | omega | assumption)); done) | fail) trivial ?_) | (refine Ret.use (hlc) (by first | ((repeat' (first | exact rfl | exact trivial | (with_reducible assumption) | refine And.intro ?_ ?_ | omega | assumption)); done) | fail) ?_) | (refine Ret.useQ (hlc) (by first | ((repeat' (first | exact rfl | exact trivial | (with_reducible assumption) | refine And.intro ?_ ?_ | omega | assumption)); done) | fail) rfl ?_) | (refine Ret.useP (hli) (by first | ((repeat' (first | exact rfl | exact trivial | (with_reducible assumption) | refine And.intro ?_ ?_ | omega | assumption)); done) | fail) ?_) | (refine Ret.useQP (hli) (by first | ((repeat' (first | exact rfl | exact trivial | (with_reducible assumption) | refine And.intro ?_ ?_ | omega | assumption)); done) | fail) ?_) | (refine Ret.use (hsr) (by first | ((repeat' (first | exact rfl | exact trivial | (with_reducible assumption) | refine And.intro ?_ ?_ | omega | assumption)); done) | fail) ?_) | (refine Ret.useQ (hsr) (by first | ((repeat' (first | exact rfl | exact trivial | (with_reducible assumption) | refine And.intro ?_ ?_ | omega | assumption)); done) | fail) rfl ?_)) | ((with_reducible show DrawA _ _ _ _ _ _); first | (refine draw_hard hT mixed (by decide +kernel) ?_))))
        all_goals first | rfl | omega | contradiction | trace_state
end Go.Proofs.YtenofbabiacacaaGreat
