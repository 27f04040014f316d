/-
  The law on claims drawn from bytes. No conditions but those in the statements.
-/
import Derived.Test.YtidlaiaiomilhaaDoorCd
import Derived.Test.YtidlaiaiomilhaaDoorPlain
set_option linter.unusedVariables false
set_option linter.unusedSimpArgs false
namespace Go.Proofs.YtidlaiaiomilhaaDoor
open Go.AE

attribute [local irreducible] CallA LoopA DrawA CallQ arithK quoK remK eqK
attribute [local irreducible] srcOk
theorem bits_all : ∀ k : Fin 4, ∀ p q : Fin 32, (0 ≤ bitsI .or .i64 (p.val : Nat) (q.val : Nat) ∧ bitsI .or .i64 (p.val : Nat) (q.val : Nat) ≤ 31) ∧ (0 ≤ miss (k.val : Nat) (p.val : Nat) ∧ miss (k.val : Nat) (p.val : Nat) ≤ 31) ∧ miss (k.val : Nat) (bitsI .or .i64 (p.val : Nat) (q.val : Nat)) ≤ miss (k.val : Nat) (p.val : Nat) ∧
    miss (k.val : Nat) (bitsI .or .i64 (p.val : Nat) (miss (k.val : Nat) (q.val : Nat))) ≤ 31 := by decide +kernel
theorem bits_fill : ∀ k : Fin 4, ∀ p q : Fin 32, miss (k.val : Nat) (bitsI .or .i64 (bitsI .or .i64 (p.val : Nat) (q.val : Nat)) (miss (k.val : Nat) (p.val : Nat))) = 0 := by decide +kernel
theorem fin_of {x n : Int} (h : 0 ≤ x ∧ x < n) (m : Nat) (hm : n = m) : ∃ f : Fin m, x = ((f.val : Nat) : Int) := by
  obtain ⟨a, rfl⟩ := Int.eq_ofNat_of_zero_le h.1
  exact ⟨⟨a, by omega⟩, rfl⟩
theorem bits_or {k p q : Int} (hk : 0 ≤ k ∧ k ≤ 3) (hp : 0 ≤ p ∧ p ≤ 31) (hq : 0 ≤ q ∧ q ≤ 31) : (0 ≤ bitsI .or .i64 p q ∧ bitsI .or .i64 p q ≤ 31) ∧ (0 ≤ miss k p ∧ miss k p ≤ 31) ∧ miss k (bitsI .or .i64 p q) ≤ miss k p ∧ miss k (bitsI .or .i64 (bitsI .or .i64 p q) (miss k p)) = 0 := by
  obtain ⟨a, rfl⟩ := fin_of (n := 4) ⟨hk.1, by omega⟩ 4 rfl
  obtain ⟨b, rfl⟩ := fin_of (n := 32) ⟨hp.1, by omega⟩ 32 rfl
  obtain ⟨c, rfl⟩ := fin_of (n := 32) ⟨hq.1, by omega⟩ 32 rfl
  have h := bits_all a b c
  exact ⟨h.1, h.2.1, h.2.2.1, bits_fill a b c⟩
theorem sel_pos {c : Prop} [Decidable c] {x : Int} (h : c) : sel c x = x := if_pos h
theorem pay_code {m k f a p s : Int} (h : (if isCl m k f a p s then (if s = 1 then (0 : Int) else 5) else 1) = 0) : payOk m k f a p s := by
  split at h
  · split at h
    · exact ⟨by assumption, by assumption⟩
    · omega
  · omega
theorem hand_code {m k f a p s q : Int} (h : (if isCl m k f a p s then (if 0 ≤ q ∧ q ≤ 31 then (if s = 0 then (0 : Int) else 5) else 2) else 1) = 0) : handOk m k f a p s q := by
  split at h
  · split at h
    · split at h
      · exact ⟨by assumption, by assumption, by assumption⟩
      · omega
    · omega
  · omega
theorem dec_code {m k f a p s n : Int} {g : Bool} (h : decCode m k f a p s n g = 0) : decOk m k f a p s n g := by
  unfold decCode at h
  split at h
  · omega
  · split at h
    · omega
    · split at h
      · assumption
      · omega
theorem pay_is {m k f a p s : Int} (h : payOk m k f a p s) : isCl (sel (payOk m k f a p s) m) (sel (payOk m k f a p s) k) (sel (payOk m k f a p s) f) (sel (payOk m k f a p s) a) (sel (payOk m k f a p s) p) (sel (payOk m k f a p s) 3) := by
  rw [sel_pos h, sel_pos h, sel_pos h, sel_pos h, sel_pos h, sel_pos h]
  obtain ⟨⟨h1, h2, h3, h4, h5, h6, h7⟩, h8⟩ := h
  exact ⟨h1, h2, h3, h4, h5, by omega, by right; right; omega⟩
theorem hand_is {m k f a p s q : Int} (h : handOk m k f a p s q) : isCl m k f a (bitsI .or .i64 p q) s := by
  obtain ⟨⟨h1, h2, h3, h4, h5, h6, h7⟩, hq, h8⟩ := h
  exact ⟨h1, h2, h3, h4, (bits_or h2 h5 hq).1, h6, .inl h8⟩
abbrev hC (m k f a p s q : Int) : AV := C6 (sel (handOk m k f a p s q) m) (sel (handOk m k f a p s q) k) (sel (handOk m k f a p s q) f) (sel (handOk m k f a p s q) a) (sel (handOk m k f a p s q) (bitsI .or .i64 p q)) (sel (handOk m k f a p s q) s)
theorem hC_eq {m k f a p s q : Int} (h : handOk m k f a p s q) : hC m k f a p s q = C6 m k f a (bitsI .or .i64 p q) s := by
  unfold hC
  rw [sel_pos h, sel_pos h, sel_pos h, sel_pos h, sel_pos h, sel_pos h]
theorem left_ret {m k f a p s q : Int} (h : handOk m k f a p s q) : Ret Tryd.prog G 16 [hC m k f a p s q] (.tup [I (miss k (bitsI .or .i64 p q)), I 0]) := by
  rw [hC_eq h]
  have := implMissing_ret m k f a (bitsI .or .i64 p q) s
  rwa [missR, if_pos (hand_is h), if_pos (hand_is h)] at this
theorem all_ret {m k f a p s q : Int} (h : handOk m k f a p s q) : Ret Tryd.prog G 14 [hC m k f a p s q, I (if isCl m k f a p s then miss k p else 0)] (.tup [C6 m k f a (bitsI .or .i64 (bitsI .or .i64 p q) (miss k p)) s, I 0]) := by
  rw [hC_eq h, if_pos h.1]
  have hb := bits_or h.1.2.1 h.1.2.2.2.2.1 h.2.1
  have hh : handOk m k f a (bitsI .or .i64 p q) s (miss k p) := ⟨hand_is h, hb.2.1, h.2.2⟩
  have := implHand_ret m k f a (bitsI .or .i64 p q) s (miss k p)
  rwa [handR, sel_pos hh, sel_pos hh, sel_pos hh, sel_pos hh, sel_pos hh, sel_pos hh, if_pos hh.1, if_pos hh.2.1, if_pos hh.2.2] at this
theorem none_ret {m k f a p s q : Int} (h : handOk m k f a p s q) : Ret Tryd.prog G 16 [C6 m k f a (bitsI .or .i64 (bitsI .or .i64 p q) (miss k p)) s] (.tup [I 0, I 0]) := by
  have hb := bits_or h.1.2.1 h.1.2.2.2.2.1 h.2.1
  have hh : handOk m k f a (bitsI .or .i64 p q) s (miss k p) := ⟨hand_is h, hb.2.1, h.2.2⟩
  have := implMissing_ret m k f a (bitsI .or .i64 (bitsI .or .i64 p q) (miss k p)) s
  rwa [missR, if_pos (hand_is hh), if_pos (hand_is hh), hb.2.2.2] at this
abbrev dC (m k f a p s n : Int) (g : Bool) : AV := C6 (sel (decOk m k f a p s n g) m) (sel (decOk m k f a p s n g) k) (sel (decOk m k f a p s n g) f) (sel (decOk m k f a p s n g) a) (sel (decOk m k f a p s n g) p) (sel (decOk m k f a p s n g) (if g then 1 else 2))
theorem final_ret {m k f a p s n : Int} {g : Bool} (h : decOk m k f a p s n g) (hg : g = true) : Ret Tryd.prog G 16 [dC m k f a p s n g] (.tup [I 0, I 0]) := by
  subst hg
  unfold dC
  rw [sel_pos h, sel_pos h, sel_pos h, sel_pos h, sel_pos h, sel_pos h]
  have hm := (h.2.2.2.2 rfl).1
  have hi : isCl m k f a p 1 := ⟨h.1.1, h.1.2.1, h.1.2.2.1, h.1.2.2.2.1, h.1.2.2.2.2.1, by decide, .inr (.inr hm)⟩
  have := implMissing_ret m k f a p 1
  rwa [missR, if_pos hi, if_pos hi, hm] at this
set_option maxHeartbeats 8000000 in
set_option maxRecDepth 100000 in
theorem lawClaims_ret (code : List Int) (hn : code.length ≤ 9223372036854775807) (hb : bytesOk code) : Ret Tryd.prog G 3 [Rb code] (Bo true) := by
  refine ret_of_body hT Tryd.func3 rfl ?_ rfl
  by_cases hbig : (4096 : Int) < code.length
  · repeat' (first | (intro h; first | contradiction | omega | (conv => whnf) | skip) | (refine And.intro ?_ ?_) | (refine arith_ok ⟨by omega, by omega⟩ ?_) | (first | (refine draw_quiet hT mixed (by decide +kernel) ?_) | (refine draw_hard hT mixed (by decide +kernel) ?_)) | (refine Ret.goP (big_ret code) rfl ?_) | (refine Ret.goQP (big_ret code) rfl ?_))
    all_goals first | rfl | omega | trace_state
  · replace hn : code.length ≤ 2305843009213693952 := by omega
    repeat' (first | (intro h; first | contradiction | omega | (conv => whnf) | skip) | (refine And.intro ?_ ?_) | (refine arith_ok ⟨by omega, by omega⟩ ?_) | (first | (refine draw_quiet hT mixed (by decide +kernel) ?_) | (refine draw_hard hT mixed (by decide +kernel) ?_)) | (refine Ret.goP (big_ret code) rfl ?_) | (refine Ret.goQP (big_ret code) rfl ?_) | (refine CallA.goE3 false [] (drawDecide_call code hn hb) rfl (by first | ((repeat' (first | exact rfl | exact trivial | (with_reducible assumption) | refine And.intro ?_ ?_ | omega | assumption)); done) | fail) (by first | ((repeat' (first | exact rfl | exact trivial | (with_reducible assumption) | refine And.intro ?_ ?_ | omega | assumption)); done) | fail) ?_; rintro ⟨c1, c2, c3, c4, c5, c6⟩ mo gr _; (first | (conv => whnf) | skip)) | (refine CallA.goE3 false [] (drawPay_call code hn hb) rfl (by first | ((repeat' (first | exact rfl | exact trivial | (with_reducible assumption) | refine And.intro ?_ ?_ | omega | assumption)); done) | fail) (by first | ((repeat' (first | exact rfl | exact trivial | (with_reducible assumption) | refine And.intro ?_ ?_ | omega | assumption)); done) | fail) ?_; rintro ⟨p1, p2, p3, p4, p5, p6⟩ a2 s2 _; (first | (conv => whnf) | skip)) | (refine CallA.goE3 false [] (drawHand_call code hn hb) rfl (by first | ((repeat' (first | exact rfl | exact trivial | (with_reducible assumption) | refine And.intro ?_ ?_ | omega | assumption)); done) | fail) (by first | ((repeat' (first | exact rfl | exact trivial | (with_reducible assumption) | refine And.intro ?_ ?_ | omega | assumption)); done) | fail) ?_; rintro ⟨h1, h2, h3, h4, h5, h6⟩ q s2 _; (first | (conv => whnf) | skip)) | (refine CallA.goE3 false [] (drawNeeded_call code hn hb) rfl (by first | ((repeat' (first | exact rfl | exact trivial | (with_reducible assumption) | refine And.intro ?_ ?_ | omega | assumption)); done) | fail) (by first | ((repeat' (first | exact rfl | exact trivial | (with_reducible assumption) | refine And.intro ?_ ?_ | omega | assumption)); done) | fail) ?_; rintro k a2 s2 _; (first | (conv => whnf) | skip)) | (refine Ret.go (implDecide_ret c1 c2 c3 c4 c5 c6 mo (decide (gr = 1))) rfl rfl ?_) | (refine Ret.goQ (implDecide_ret c1 c2 c3 c4 c5 c6 mo (decide (gr = 1))) rfl rfl ?_) | (refine Ret.go (specDecide_ret c1 c2 c3 c4 c5 c6 mo (decide (gr = 1))) rfl rfl ?_) | (refine Ret.goQ (specDecide_ret c1 c2 c3 c4 c5 c6 mo (decide (gr = 1))) rfl rfl ?_) | (refine Ret.go (implPay_ret p1 p2 p3 p4 p5 p6) rfl rfl ?_) | (refine Ret.goQ (implPay_ret p1 p2 p3 p4 p5 p6) rfl rfl ?_) | (refine Ret.go (specPay_ret p1 p2 p3 p4 p5 p6) rfl rfl ?_) | (refine Ret.goQ (specPay_ret p1 p2 p3 p4 p5 p6) rfl rfl ?_) | (refine Ret.go (implHand_ret h1 h2 h3 h4 h5 h6 q) rfl rfl ?_) | (refine Ret.goQ (implHand_ret h1 h2 h3 h4 h5 h6 q) rfl rfl ?_) | (refine Ret.go (specHand_ret h1 h2 h3 h4 h5 h6 q) rfl rfl ?_) | (refine Ret.goQ (specHand_ret h1 h2 h3 h4 h5 h6 q) rfl rfl ?_) | (refine Ret.go (implMissing_ret h1 h2 h3 h4 h5 h6) rfl rfl ?_) | (refine Ret.goQ (implMissing_ret h1 h2 h3 h4 h5 h6) rfl rfl ?_) | (refine Ret.go (specMissing_ret h1 h2 h3 h4 h5 h6) rfl rfl ?_) | (refine Ret.goQ (specMissing_ret h1 h2 h3 h4 h5 h6) rfl rfl ?_) | (refine Ret.go (implNeeded_ret k) rfl rfl ?_) | (refine Ret.goQ (implNeeded_ret k) rfl rfl ?_) | (refine Ret.go (specNeeded_ret k) rfl rfl ?_) | (refine Ret.goQ (specNeeded_ret k) rfl rfl ?_) | (refine Ret.goP (implIsClaim_ret h1 h2 h3 h4 h5 h6) rfl ?_) | (refine Ret.goQP (implIsClaim_ret h1 h2 h3 h4 h5 h6) rfl ?_))
    all_goals first | rfl | omega | skip
    all_goals (try (have hp := pay_code (m := p1) (k := p2) (f := p3) (a := p4) (p := p5) (s := p6) (by assumption)))
    all_goals first | exact absurd hp.2 h | exact absurd (sel_pos hp) h | skip
    repeat' (first | (intro h; first | contradiction | omega | (conv => whnf) | skip) | (refine And.intro ?_ ?_) | (refine arith_ok ⟨by omega, by omega⟩ ?_) | (first | (refine draw_quiet hT mixed (by decide +kernel) ?_) | (refine draw_hard hT mixed (by decide +kernel) ?_)) | (refine Ret.goP (implIsClaim_ret _ _ _ _ _ _) rfl ?_) | (refine Ret.goQP (implIsClaim_ret _ _ _ _ _ _) rfl ?_))
    all_goals first | rfl | omega | exact absurd (pay_is hp) h | skip
    all_goals (try (have hh := hand_code (m := h1) (k := h2) (f := h3) (a := h4) (p := h5) (s := h6) (q := q) (by assumption)))
    all_goals (try (have hbo := bits_or hh.1.2.1 hh.1.2.2.2.2.1 hh.2.1))
    repeat' (first | (intro h; first | contradiction | omega | (conv => whnf) | skip) | (refine And.intro ?_ ?_) | (refine arith_ok ⟨by omega, by omega⟩ ?_) | (first | (refine draw_quiet hT mixed (by decide +kernel) ?_) | (refine draw_hard hT mixed (by decide +kernel) ?_)) | (refine Ret.go (left_ret hh) rfl rfl ?_) | (refine Ret.goQ (left_ret hh) rfl rfl ?_) | (refine Ret.go (all_ret hh) rfl rfl ?_) | (refine Ret.goQ (all_ret hh) rfl rfl ?_) | (refine Ret.go (none_ret hh) rfl rfl ?_) | (refine Ret.goQ (none_ret hh) rfl rfl ?_))
    all_goals first | rfl | omega | exact absurd hbo.2.2.1 (Int.not_le.2 (by have := h; rwa [if_pos hh.1] at this)) | skip
    all_goals first
      | (exact absurd (show (if isCl h1 h2 h3 h4 h5 h6 then (0 : Int) else 1) = 0 from if_pos (by assumption)) (by assumption))
      | (have h9 : (if isCl h1 h2 h3 h4 h5 h6 then (0 : Int) else 1) = 0 := by assumption
         rw [if_neg (by assumption)] at h9
         omega)
      | skip
    all_goals (have hd := dec_code (Decidable.of_not_not h))
    all_goals (rcases hg : decide (gr = 1))
    all_goals (try ((conv => whnf); rw [hg]))
    all_goals (try rw [hg] at hd)
    repeat' (first | (intro h; first | contradiction | omega | (conv => whnf) | skip) | (refine And.intro ?_ ?_) | (refine arith_ok ⟨by omega, by omega⟩ ?_) | (first | (refine draw_quiet hT mixed (by decide +kernel) ?_) | (refine draw_hard hT mixed (by decide +kernel) ?_)) | (refine Ret.go (final_ret hd rfl) rfl rfl ?_) | (refine Ret.goQ (final_ret hd rfl) rfl rfl ?_))
    all_goals first | rfl | omega | exact absurd (sel_pos hd) h | skip
    all_goals
      have hb1 := hd.2.1
      have hb2 := hd.1.2.2.1
      have hdl := (hd.2.2.2.2 rfl).2
    repeat' (first | (intro h; first | contradiction | omega | (conv => whnf) | skip) | (refine And.intro ?_ ?_) | (refine arith_ok ⟨by omega, by omega⟩ ?_) | (first | (refine draw_quiet hT mixed (by decide +kernel) ?_) | (refine draw_hard hT mixed (by decide +kernel) ?_)) | (refine arith_ok (show inb .i64 (mo - c3) from ⟨by omega, by omega⟩) ?_))
    all_goals first | rfl | omega | exact absurd hdl h | trace_state
end Go.Proofs.YtidlaiaiomilhaaDoor
