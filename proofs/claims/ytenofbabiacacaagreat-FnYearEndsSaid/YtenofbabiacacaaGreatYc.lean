/-
  The law on year ends drawn from bytes. No conditions but those in the statements.
-/
import Derived.Test.YtenofbabiacacaaGreatYb
import Derived.Test.YtenofbabiacacaaGreatNh
set_option linter.unusedVariables false
set_option linter.unusedSimpArgs false
namespace Go.Proofs.YtenofbabiacacaaGreat
open Go.AE

attribute [local irreducible] CallA LoopA DrawA CallQ arithK quoK remK eqK
attribute [local irreducible] rowB enOk
/-- With the interest that breaks even, the year closes, and what is left over is as it should be. -/
theorem be_close {f : Int} {ls : List Int} {r : Int} {hs : List (List Int)} {ds : List Int} {fu ex : Int} (h : beC f ls r hs ds fu ex = 0) :
    cyQ f ls r hs ds fu ex (beV f ls r hs ds fu ex) ∧ (0 ≤ yEnd f ls r hs ds fu ex (beV f ls r hs ds fu ex) - tot f ls r (later f ls hs ds)) ∧ (beV f ls r hs ds fu ex = 0 ∨ yEnd f ls r hs ds fu ex (beV f ls r hs ds fu ex) - tot f ls r (later f ls hs ds) = 0) := by
  have hq : cyQ f ls r hs ds fu ex 0 := by
    refine Classical.byContradiction fun hh => ?_
    have := cyC_ne hh
    unfold beC at h
    rw [if_pos (.inr (by omega))] at h
    omega
  have hm : beN f ls r hs ds fu ex ≤ 1000000000000 := by
    refine Classical.byContradiction fun hh => ?_
    unfold beC at h
    rw [if_neg (fun e => e.elim hh (fun e => e (cyC_zero hq)))] at h
    cases h
  have hv : beV f ls r hs ds fu ex = beN f ls r hs ds fu ex := wh_yes ⟨hq, hm⟩ _
  have hn : beN f ls r hs ds fu ex = max 0 (tot f ls r (later f ls hs ds) - yEnd f ls r hs ds fu ex 0) := rfl
  have he : yEnd f ls r hs ds fu ex (beN f ls r hs ds fu ex) = yEnd f ls r hs ds fu ex 0 + beN f ls r hs ds fu ex := by unfold yEnd; omega
  rw [hv]
  refine ⟨⟨⟨hq.1.1, hq.1.2.1, hq.1.2.2.1, by omega, by omega⟩, hq.2.1, ?_⟩, ?_, ?_⟩
  · have hy := yr_of hq
    unfold yrQ
    intro y hy2
    have hb := yr_bd hy
    simp only [List.mem_cons, List.not_mem_nil, or_false] at hy2
    omega
  · omega
  · omega
set_option maxRecDepth 100000 in
theorem implSurplus_ret (a b c d e f g : Int) (h : isYr a b c d e f g) : Ret Tryz.prog G 47 [V7 a b c d e f g] (.tup [I (a + b + c - d + e - f - g), I 0]) := by
  refine ret_of_body hT Tryz.func47 rfl ?_ rfl
  have hb := yr_bd h
  repeat' ((first | (conv => whnf) | skip); (first | ((with_reducible intro h); first | contradiction | omega | (conv => whnf) | skip) | (with_reducible refine And.intro ?_ ?_) | ((with_reducible show arithK _ _ _); refine arith_ok ⟨by omega, by omega⟩ ?_) | ((with_reducible show quoK _ _ _ _); refine quo_ok ⟨by omega, by omega⟩ (by omega) (by omega) ?_) | ((with_reducible show remK _ _ _ _); refine rem_ok (by omega) (by omega) ?_) | ((first | (with_reducible show CallA _ _ _ _ _ _) | (with_reducible show CallQ _ _ _ _ _ _)); first | (refine Ret.goP (implYear_ret _ _ _ _ _ _ _) rfl ?_) | (refine Ret.goQP (implYear_ret _ _ _ _ _ _ _) rfl ?_) | (refine Ret.go (implEndF_ret _ _ _ _ _ _ _ h) rfl rfl ?_) | (refine Ret.goQ (implEndF_ret _ _ _ _ _ _ _ h) rfl rfl ?_)) | ((with_reducible show DrawA _ _ _ _ _ _); first | (first | (refine draw_quiet hT mixed (by decide +kernel) ?_) | (refine draw_hard hT mixed (by decide +kernel) ?_)))))
  all_goals first | rfl | omega | contradiction | trace_state
set_option maxRecDepth 100000 in
theorem implEnd7_ret (a b c d e f g : Int) (h : isYr a b c d e f g) : Ret Tryz.prog G 34 [V7 a b c d e f g] (.tup [I (a + b + c - d + e - f), I 0]) := by
  refine ret_of_body hT Tryz.func34 rfl ?_ rfl
  have hb := yr_bd h
  repeat' ((first | (conv => whnf) | skip); (first | ((with_reducible intro h); first | contradiction | omega | (conv => whnf) | skip) | (with_reducible refine And.intro ?_ ?_) | ((with_reducible show arithK _ _ _); refine arith_ok ⟨by omega, by omega⟩ ?_) | ((with_reducible show quoK _ _ _ _); refine quo_ok ⟨by omega, by omega⟩ (by omega) (by omega) ?_) | ((with_reducible show remK _ _ _ _); refine rem_ok (by omega) (by omega) ?_) | ((first | (with_reducible show CallA _ _ _ _ _ _) | (with_reducible show CallQ _ _ _ _ _ _)); first | (refine Ret.goP (implYear_ret _ _ _ _ _ _ _) rfl ?_) | (refine Ret.goQP (implYear_ret _ _ _ _ _ _ _) rfl ?_) | (refine Ret.go (implEndF_ret _ _ _ _ _ _ _ h) rfl rfl ?_) | (refine Ret.goQ (implEndF_ret _ _ _ _ _ _ _ h) rfl rfl ?_)) | ((with_reducible show DrawA _ _ _ _ _ _); first | (first | (refine draw_quiet hT mixed (by decide +kernel) ?_) | (refine draw_hard hT mixed (by decide +kernel) ?_)))))
  all_goals first | rfl | omega | contradiction | trace_state
set_option maxRecDepth 100000 in
theorem likeEntries_ret (xss : List (List Int)) (hn : xss.length ≤ 1048576) : Ret Tryz.prog G 44 [REntry xss, REntry xss] (Bo true) := by
  refine ret_of_body hT Tryz.func44 rfl ?_ rfl
  repeat' ((first | (conv => whnf) | skip); (first | ((with_reducible intro h); first | contradiction | omega | (conv => whnf) | skip) | (with_reducible refine And.intro ?_ ?_) | ((with_reducible show arithK _ _ _); refine arith_ok ⟨by omega, by omega⟩ ?_) | ((with_reducible show quoK _ _ _ _); refine quo_ok ⟨by omega, by omega⟩ (by omega) (by omega) ?_) | ((with_reducible show remK _ _ _ _); refine rem_ok (by omega) (by omega) ?_) | ((first | (with_reducible show CallA _ _ _ _ _ _) | (with_reducible show CallQ _ _ _ _ _ _)); first | fail) | ((with_reducible show DrawA _ _ _ _ _ _); first | (first | (refine draw_quiet hT mixed (by decide +kernel) ?_) | (refine draw_hard hT mixed (by decide +kernel) ?_)))))
  all_goals first | omega | skip
  refine loop_rule hT (fun i : Nat => i ≤ xss.length) 26 0 [0, 1, 5] (fun i => [REntry xss, REntry xss, I i]) (fun _ => []) (fun i => xss.length - i) (0) (Nat.le_of_ble_eq_true rfl) ?_ ?_ ?_
  · exact Nat.zero_le _
  · (refine ⟨rfl, [], ?_, ?_⟩; all_goals (repeat' (first | exact rfl | exact trivial | (with_reducible assumption) | refine And.intro ?_ ?_ | omega)))
  · intro i h1
    repeat' ((first | (conv => whnf) | skip); (first | ((with_reducible intro h); first | contradiction | omega | (conv => whnf) | skip) | (with_reducible refine And.intro ?_ ?_) | ((with_reducible show arithK _ _ _); refine arith_ok ⟨by omega, by omega⟩ ?_) | ((with_reducible show quoK _ _ _ _); refine quo_ok ⟨by omega, by omega⟩ (by omega) (by omega) ?_) | ((with_reducible show remK _ _ _ _); refine rem_ok (by omega) (by omega) ?_) | ((first | (with_reducible show CallA _ _ _ _ _ _) | (with_reducible show CallQ _ _ _ _ _ _)); first | fail) | ((with_reducible show DrawA _ _ _ _ _ _); first | (first | (refine draw_quiet hT mixed (by decide +kernel) ?_) | (refine draw_hard hT mixed (by decide +kernel) ?_)))))
    all_goals first | rfl | omega | contradiction | skip
    all_goals ((conv => whnf); refine ⟨i + 1, by omega, ?_, by omega⟩; (refine ⟨rfl, [], ?_, ?_⟩; all_goals (repeat' (first | exact rfl | exact trivial | (with_reducible assumption) | refine And.intro ?_ ?_ | omega))))
attribute [local irreducible] beV beC okF nets loads tot clS agL yC cDt xR yrR yrC cyC wh whL
set_option maxHeartbeats 16000000 in
set_option maxRecDepth 100000 in
theorem lawYEnds_ret (code : List Int) (hn : code.length ≤ 9223372036854775807) (hb : bytesOk code) : Ret Tryz.prog G 7 [Rb code] (Bo true) := by
  refine ret_of_body hT Tryz.func7 rfl ?_ rfl
  by_cases hbig : (4096 : Int) < code.length
  · repeat' ((first | (conv => whnf) | skip); (first | ((with_reducible intro h); first | contradiction | omega | (conv => whnf) | skip) | (with_reducible refine And.intro ?_ ?_) | ((with_reducible show arithK _ _ _); refine arith_ok ⟨by omega, by omega⟩ ?_) | ((with_reducible show quoK _ _ _ _); refine quo_ok ⟨by omega, by omega⟩ (by omega) (by omega) ?_) | ((with_reducible show remK _ _ _ _); refine rem_ok (by omega) (by omega) ?_) | ((first | (with_reducible show CallA _ _ _ _ _ _) | (with_reducible show CallQ _ _ _ _ _ _)); first | (refine Ret.goP (big_ret code) rfl ?_) | (refine Ret.goQP (big_ret code) rfl ?_)) | ((with_reducible show DrawA _ _ _ _ _ _); first | (refine draw_hard hT mixed (by decide +kernel) ?_))))
    all_goals first | rfl | omega | trace_state
  · replace hn : code.length ≤ 2305843009213693952 := by omega
    repeat' ((first | (conv => whnf) | skip); (first | ((with_reducible intro h); first | contradiction | omega | (conv => whnf) | skip) | (with_reducible refine And.intro ?_ ?_) | ((with_reducible show arithK _ _ _); refine arith_ok ⟨by omega, by omega⟩ ?_) | ((with_reducible show quoK _ _ _ _); refine quo_ok ⟨by omega, by omega⟩ (by omega) (by omega) ?_) | ((with_reducible show remK _ _ _ _); refine rem_ok (by omega) (by omega) ?_) | ((first | (with_reducible show CallA _ _ _ _ _ _) | (with_reducible show CallQ _ _ _ _ _ _)); first | (refine Ret.goP (big_ret code) rfl ?_) | (refine Ret.goQP (big_ret code) rfl ?_) | (refine CallA.goE3 false [] (drawBE_call code hn hb) rfl (by first | ((repeat' (first | exact rfl | exact trivial | (with_reducible assumption) | refine And.intro ?_ ?_ | omega | assumption)); done) | fail) (by first | ((repeat' (first | exact rfl | exact trivial | (with_reducible assumption) | refine And.intro ?_ ?_ | omega | assumption)); done) | fail) ?_; rintro ⟨⟨⟨f, ls, r⟩, hs, ds⟩, fu, ex⟩ _ _ ⟨⟨hl, hh, hw, hd⟩, _⟩; (first | (conv => whnf) | skip); dsimp only at hl hh hw hd)) | ((with_reducible show DrawA _ _ _ _ _ _); first | (refine draw_hard hT mixed (by decide +kernel) ?_))))
    all_goals first | rfl | omega | skip
    have n1 : ls.length ≤ 1048576 := Nat.le_trans hl (by decide)
    have n2 : hs.length ≤ 1048576 := Nat.le_trans hh (by decide)
    have n3 : ds.length ≤ 1048576 := Nat.le_trans hd (by decide)
    have b1 := implBE_ret f ls r hs ds fu ex n1 n2 n3
    have b2 := specBE_ret f ls r hs ds fu ex n1 n2 n3
    repeat' ((first | (conv => whnf) | skip); (first | ((with_reducible intro h); first | contradiction | omega | (conv => whnf) | skip) | (with_reducible refine And.intro ?_ ?_) | ((with_reducible show arithK _ _ _); refine arith_ok ⟨by omega, by omega⟩ ?_) | ((with_reducible show quoK _ _ _ _); refine quo_ok ⟨by omega, by omega⟩ (by omega) (by omega) ?_) | ((with_reducible show remK _ _ _ _); refine rem_ok (by omega) (by omega) ?_) | ((first | (with_reducible show CallA _ _ _ _ _ _) | (with_reducible show CallQ _ _ _ _ _ _)); first | (refine Ret.use (b1) (by first | ((repeat' (first | exact rfl | exact trivial | (with_reducible assumption) | refine And.intro ?_ ?_ | omega | assumption)); done) | fail) ?_) | (refine Ret.useQ (b1) (by first | ((repeat' (first | exact rfl | exact trivial | (with_reducible assumption) | refine And.intro ?_ ?_ | omega | assumption)); done) | fail) rfl ?_) | (refine Ret.use (b2) (by first | ((repeat' (first | exact rfl | exact trivial | (with_reducible assumption) | refine And.intro ?_ ?_ | omega | assumption)); done) | fail) ?_) | (refine Ret.useQ (b2) (by first | ((repeat' (first | exact rfl | exact trivial | (with_reducible assumption) | refine And.intro ?_ ?_ | omega | assumption)); done) | fail) rfl ?_) | (refine CallA.goE3 false [] (drawYE_call code hn hb) rfl (by first | ((repeat' (first | exact rfl | exact trivial | (with_reducible assumption) | refine And.intro ?_ ?_ | omega | assumption)); done) | fail) (by first | ((repeat' (first | exact rfl | exact trivial | (with_reducible assumption) | refine And.intro ?_ ?_ | omega | assumption)); done) | fail) ?_; rintro ⟨⟨a, b, c, d, e, k, g⟩, m⟩ _ _ _; (first | (conv => whnf) | skip)) | (refine CallA.go [] (implYE_call m a b c d e k g) rfl (by first | ((repeat' (first | exact rfl | exact trivial | (with_reducible assumption) | refine And.intro ?_ ?_ | omega | assumption)); done) | fail) trivial ?_) | (refine CallA.go [] (specYE_call m a b c d e k g) rfl (by first | ((repeat' (first | exact rfl | exact trivial | (with_reducible assumption) | refine And.intro ?_ ?_ | omega | assumption)); done) | fail) trivial ?_) | (refine CallA.goE3 false [] (drawYC_call code hn hb) rfl (by first | ((repeat' (first | exact rfl | exact trivial | (with_reducible assumption) | refine And.intro ?_ ?_ | omega | assumption)); done) | fail) (by first | ((repeat' (first | exact rfl | exact trivial | (with_reducible assumption) | refine And.intro ?_ ?_ | omega | assumption)); done) | fail) ?_; rintro ⟨⟨f2, ls2, r2⟩, hs2, ds2⟩ _ _ ⟨⟨hl2, hh2, hw2, hd2⟩, _⟩; (first | (conv => whnf) | skip); dsimp only at hl2 hh2 hw2 hd2)) | ((with_reducible show DrawA _ _ _ _ _ _); first | (refine draw_hard hT mixed (by decide +kernel) ?_))))
    all_goals first | rfl | omega | skip
    have m1 : ls2.length ≤ 1048576 := Nat.le_trans hl2 (by decide)
    have m2 : hs2.length ≤ 1048576 := Nat.le_trans hh2 (by decide)
    have m3 : ds2.length ≤ 1048576 := Nat.le_trans hd2 (by decide)
    have hxl := x_len (f := f2) (ls := ls2) (r := r2) (hs := hs2)
    have hyl := yrR_len m a b c d e k g
    have c1 := implYC_ret f2 ls2 r2 hs2 ds2 m1 m2 m3
    have c2 := specYC_ret f2 ls2 r2 hs2 ds2 m1 m2 m3
    have c3 := implYC_ret f2 ls2 r2 hs2 (xR f2 ls2 r2 hs2) m1 m2 (by omega)
    have c4 : xC f2 ls2 r2 hs2 = 0 → cDt f2 ls2 r2 hs2 (xR f2 ls2 r2 hs2) true = 0 := fun h0 => by
      have ho : okF f2 ls2 r2 hs2 := by
        refine Classical.byContradiction fun hh => ?_
        rw [(x_no hh).2] at h0; cases h0
      rw [(x_yes ho).1]
      exact cDt_zero ⟨ho, eDs_ok ho⟩
    have e0 := fun h0 => yr_en (n := m) (a := a) (b := b) (c := c) (d := d) (e := e) (f := k) (g := g) h0
    have hba := fun h0 => balance_ret m (yrR m a b c d e k g) (e0 h0).1.2 (by omega) (e0 h0).2.1
    have hen := fun h0 => implEnd7_ret a b c d e k g (e0 h0).1.1
    have q1 : ((a, b, c, d, e, k, g), m).fst.fst = a := rfl
    by_cases hb0 : beC f ls r hs ds fu ex = 0
    · obtain ⟨hq, hs0, hs1⟩ := be_close hb0
      have hcy := implCY_call f ls r hs ds fu ex (beV f ls r hs ds fu ex) n1 n2 n3
      have hy := yr_of hq
      have hyb := yr_bd hy
      rw [cyT, yT_yes hq, cyC_zero hq] at hcy
      generalize cyL f ls r hs ds fu ex (beV f ls r hs ds fu ex) = L at hcy
      have hsp := implSurplus_ret _ _ _ _ _ _ _ hy
      unfold yEnd at hs0 hs1
      repeat' ((first | (conv => whnf) | skip); (first | ((with_reducible intro h); first | contradiction | omega | (conv => whnf) | skip) | (with_reducible refine And.intro ?_ ?_) | ((with_reducible show arithK _ _ _); refine arith_ok ⟨by omega, by omega⟩ ?_) | ((with_reducible show quoK _ _ _ _); refine quo_ok ⟨by omega, by omega⟩ (by omega) (by omega) ?_) | ((with_reducible show remK _ _ _ _); refine rem_ok (by omega) (by omega) ?_) | ((first | (with_reducible show CallA _ _ _ _ _ _) | (with_reducible show CallQ _ _ _ _ _ _)); first | (refine Ret.use (c1) (by first | ((repeat' (first | exact rfl | exact trivial | (with_reducible assumption) | refine And.intro ?_ ?_ | omega | assumption)); done) | fail) ?_) | (refine Ret.useQ (c1) (by first | ((repeat' (first | exact rfl | exact trivial | (with_reducible assumption) | refine And.intro ?_ ?_ | omega | assumption)); done) | fail) rfl ?_) | (refine Ret.use (c2) (by first | ((repeat' (first | exact rfl | exact trivial | (with_reducible assumption) | refine And.intro ?_ ?_ | omega | assumption)); done) | fail) ?_) | (refine Ret.useQ (c2) (by first | ((repeat' (first | exact rfl | exact trivial | (with_reducible assumption) | refine And.intro ?_ ?_ | omega | assumption)); done) | fail) rfl ?_) | (refine CallA.go [] (implX_call f2 ls2 r2 hs2 m1 m2) rfl (by first | ((repeat' (first | exact rfl | exact trivial | (with_reducible assumption) | refine And.intro ?_ ?_ | omega | assumption)); done) | fail) trivial ?_) | (refine CallA.go [] (specX_call f2 ls2 r2 hs2 m1 m2) rfl (by first | ((repeat' (first | exact rfl | exact trivial | (with_reducible assumption) | refine And.intro ?_ ?_ | omega | assumption)); done) | fail) trivial ?_) | (refine Ret.use (likeEntries_ret (yrR m a b c d e k g) (by omega)) (by first | ((repeat' (first | exact rfl | exact trivial | (with_reducible assumption) | refine And.intro ?_ ?_ | omega | assumption)); done) | fail) ?_) | (refine Ret.useQ (likeEntries_ret (yrR m a b c d e k g) (by omega)) (by first | ((repeat' (first | exact rfl | exact trivial | (with_reducible assumption) | refine And.intro ?_ ?_ | omega | assumption)); done) | fail) rfl ?_) | (refine Ret.useP (likeInts_ret (xR f2 ls2 r2 hs2) (xR f2 ls2 r2 hs2) (by omega)) (by first | ((repeat' (first | exact rfl | exact trivial | (with_reducible assumption) | refine And.intro ?_ ?_ | omega | assumption)); done) | fail) ?_) | (refine Ret.useQP (likeInts_ret (xR f2 ls2 r2 hs2) (xR f2 ls2 r2 hs2) (by omega)) (by first | ((repeat' (first | exact rfl | exact trivial | (with_reducible assumption) | refine And.intro ?_ ?_ | omega | assumption)); done) | fail) ?_) | (refine Ret.use (c3) (by first | ((repeat' (first | exact rfl | exact trivial | (with_reducible assumption) | refine And.intro ?_ ?_ | omega | assumption)); done) | fail) ?_) | (refine Ret.useQ (c3) (by first | ((repeat' (first | exact rfl | exact trivial | (with_reducible assumption) | refine And.intro ?_ ?_ | omega | assumption)); done) | fail) rfl ?_) | (refine Ret.use (hba ‹yrC m a b c d e k g = 0›) (by first | ((repeat' (first | exact rfl | exact trivial | (with_reducible assumption) | refine And.intro ?_ ?_ | omega | assumption)); done) | fail) ?_) | (refine Ret.go (hen ‹yrC m a b c d e k g = 0›) rfl rfl ?_; have y4 := (e0 ‹yrC m a b c d e k g = 0›).2.2; have yb := yr_bd (e0 ‹yrC m a b c d e k g = 0›).1.1) | (refine CallA.go [] (hcy) rfl (by first | ((repeat' (first | exact rfl | exact trivial | (with_reducible assumption) | refine And.intro ?_ ?_ | omega | assumption)); done) | fail) trivial ?_) | (refine Ret.go (hsp) rfl rfl ?_) | (refine Ret.goQ (hsp) rfl rfl ?_)) | ((with_reducible show DrawA _ _ _ _ _ _); first | (refine draw_hard hT mixed (by decide +kernel) ?_))))
      all_goals first | rfl | omega | contradiction | (exact absurd (c4 (by assumption)) (by assumption)) | trace_state
    · repeat' ((first | (conv => whnf) | skip); (first | ((with_reducible intro h); first | contradiction | omega | (conv => whnf) | skip) | (with_reducible refine And.intro ?_ ?_) | ((with_reducible show arithK _ _ _); refine arith_ok ⟨by omega, by omega⟩ ?_) | ((with_reducible show quoK _ _ _ _); refine quo_ok ⟨by omega, by omega⟩ (by omega) (by omega) ?_) | ((with_reducible show remK _ _ _ _); refine rem_ok (by omega) (by omega) ?_) | ((first | (with_reducible show CallA _ _ _ _ _ _) | (with_reducible show CallQ _ _ _ _ _ _)); first | (refine Ret.use (c1) (by first | ((repeat' (first | exact rfl | exact trivial | (with_reducible assumption) | refine And.intro ?_ ?_ | omega | assumption)); done) | fail) ?_) | (refine Ret.useQ (c1) (by first | ((repeat' (first | exact rfl | exact trivial | (with_reducible assumption) | refine And.intro ?_ ?_ | omega | assumption)); done) | fail) rfl ?_) | (refine Ret.use (c2) (by first | ((repeat' (first | exact rfl | exact trivial | (with_reducible assumption) | refine And.intro ?_ ?_ | omega | assumption)); done) | fail) ?_) | (refine Ret.useQ (c2) (by first | ((repeat' (first | exact rfl | exact trivial | (with_reducible assumption) | refine And.intro ?_ ?_ | omega | assumption)); done) | fail) rfl ?_) | (refine CallA.go [] (implX_call f2 ls2 r2 hs2 m1 m2) rfl (by first | ((repeat' (first | exact rfl | exact trivial | (with_reducible assumption) | refine And.intro ?_ ?_ | omega | assumption)); done) | fail) trivial ?_) | (refine CallA.go [] (specX_call f2 ls2 r2 hs2 m1 m2) rfl (by first | ((repeat' (first | exact rfl | exact trivial | (with_reducible assumption) | refine And.intro ?_ ?_ | omega | assumption)); done) | fail) trivial ?_) | (refine Ret.use (likeEntries_ret (yrR m a b c d e k g) (by omega)) (by first | ((repeat' (first | exact rfl | exact trivial | (with_reducible assumption) | refine And.intro ?_ ?_ | omega | assumption)); done) | fail) ?_) | (refine Ret.useQ (likeEntries_ret (yrR m a b c d e k g) (by omega)) (by first | ((repeat' (first | exact rfl | exact trivial | (with_reducible assumption) | refine And.intro ?_ ?_ | omega | assumption)); done) | fail) rfl ?_) | (refine Ret.useP (likeInts_ret (xR f2 ls2 r2 hs2) (xR f2 ls2 r2 hs2) (by omega)) (by first | ((repeat' (first | exact rfl | exact trivial | (with_reducible assumption) | refine And.intro ?_ ?_ | omega | assumption)); done) | fail) ?_) | (refine Ret.useQP (likeInts_ret (xR f2 ls2 r2 hs2) (xR f2 ls2 r2 hs2) (by omega)) (by first | ((repeat' (first | exact rfl | exact trivial | (with_reducible assumption) | refine And.intro ?_ ?_ | omega | assumption)); done) | fail) ?_) | (refine Ret.use (c3) (by first | ((repeat' (first | exact rfl | exact trivial | (with_reducible assumption) | refine And.intro ?_ ?_ | omega | assumption)); done) | fail) ?_) | (refine Ret.useQ (c3) (by first | ((repeat' (first | exact rfl | exact trivial | (with_reducible assumption) | refine And.intro ?_ ?_ | omega | assumption)); done) | fail) rfl ?_) | (refine Ret.use (hba ‹yrC m a b c d e k g = 0›) (by first | ((repeat' (first | exact rfl | exact trivial | (with_reducible assumption) | refine And.intro ?_ ?_ | omega | assumption)); done) | fail) ?_) | (refine Ret.go (hen ‹yrC m a b c d e k g = 0›) rfl rfl ?_; have y4 := (e0 ‹yrC m a b c d e k g = 0›).2.2; have yb := yr_bd (e0 ‹yrC m a b c d e k g = 0›).1.1) | fail) | ((with_reducible show DrawA _ _ _ _ _ _); first | (refine draw_hard hT mixed (by decide +kernel) ?_))))
      all_goals first | rfl | omega | contradiction | (exact absurd (c4 (by assumption)) (by assumption)) | trace_state
end Go.Proofs.YtenofbabiacacaaGreat
