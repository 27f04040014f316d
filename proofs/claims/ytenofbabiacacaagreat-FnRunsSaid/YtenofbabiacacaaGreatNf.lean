/-
  Runs of years: each begins with the fund of the one before; and runs drawn. No conditions but those in the statements.
-/
import Derived.Test.YtenofbabiacacaaGreatNo
import Derived.Test.YtenofbabiacacaaGreatMp
set_option linter.unusedVariables false
set_option linter.unusedSimpArgs false
namespace Go.Proofs.YtenofbabiacacaaGreat
open Go.AE

attribute [local irreducible] CallA LoopA DrawA CallQ arithK quoK remK eqK
/-- Rows that run one after the other from a fund. -/
def chn (co : Int) : Int → List (List Int) → Prop
  | _, [] => True
  | fu, h :: t => (h.length = 7 ∧ h.getD 0 0 = fu ∧ h.getD 3 0 = co ∧ isYr (h.getD 0 0) (h.getD 1 0) (h.getD 2 0) (h.getD 3 0) (h.getD 4 0) (h.getD 5 0) (h.getD 6 0)) ∧ chn co (h.getD 0 0 + h.getD 1 0 + h.getD 2 0 - h.getD 3 0 + h.getD 4 0 - h.getD 5 0) t
theorem run_chn {f : Int} {ls : List Int} {r co rt : Int} : ∀ (n : Nat) (hs : List (List Int)) (fu : Int), chn co fu (run f ls r co rt n hs fu).1 ∧ (run f ls r co rt n hs fu).1.length ≤ n
  | 0, _, _ => ⟨trivial, Nat.le_refl _⟩
  | n + 1, hs, fu => by
    refine ⟨?_, (run_row (f := f) (ls := ls) (r := r) (co := co) (rt := rt) (n + 1) hs fu).2⟩
    by_cases h : hs.length = 0
    · rw [run_nil h]; trivial
    · by_cases hg : goX f ls r hs fu co rt
      · have ih := run_chn (f := f) (ls := ls) (r := r) (co := co) (rt := rt) n (laterX f ls hs) (endX f ls r hs fu co rt)
        rw [show run f ls r co rt (n + 1) hs fu = glue [rowX f ls r hs fu co rt] (run f ls r co rt n (laterX f ls hs) (endX f ls r hs fu co rt)) from (if_neg h).trans (if_pos hg)]
        unfold glue
        split
        · have hy := hg.2.1.2
          unfold yrQ at hy
          exact ⟨⟨rfl, rfl, rfl, hy⟩, ih.1⟩
        · trivial
      · rw [show run f ls r co rt (n + 1) hs fu = ([], cdX f ls r hs fu co rt) from (if_neg h).trans (if_neg hg)]; trivial
theorem ry_chn {f : Int} {ls : List Int} {r : Int} {hs : List (List Int)} {fu co rt ys : Int} : chn co fu (ryP f ls r hs fu co rt ys).1 ∧ ((ryP f ls r hs fu co rt ys).2 = 0 → ((ryP f ls r hs fu co rt ys).1.length : Int) ≤ ys) := by
  unfold ryP
  by_cases hg : ryG f ls r hs fu co rt ys
  · rw [if_pos hg]
    have h1 := run_chn (f := f) (ls := ls) (r := r) (co := co) (rt := rt) ys.toNat hs fu
    have h2 := hg.2.2.2.2
    exact ⟨h1.1, fun _ => by omega⟩
  · rw [if_neg hg]
    refine ⟨trivial, fun h => ?_⟩
    exfalso
    dsimp only at h
    split at h <;> omega
theorem chn_at {co : Int} {i : Nat} {fu : Int} {l : List (List Int)} (h : chn co fu (l.drop i)) (hi : i < l.length) :
    (l.getD i []).getD 0 0 = fu ∧ (l.getD i []).getD 3 0 = co ∧ isYr ((l.getD i []).getD 0 0) ((l.getD i []).getD 1 0) ((l.getD i []).getD 2 0) ((l.getD i []).getD 3 0) ((l.getD i []).getD 4 0) ((l.getD i []).getD 5 0) ((l.getD i []).getD 6 0) ∧ chn co ((l.getD i []).getD 0 0 + (l.getD i []).getD 1 0 + (l.getD i []).getD 2 0 - (l.getD i []).getD 3 0 + (l.getD i []).getD 4 0 - (l.getD i []).getD 5 0) (l.drop (i + 1)) := by
  rw [List.drop_eq_getElem_cons hi] at h
  rw [getD_lt hi]
  exact ⟨h.1.2.1, h.1.2.2.1, h.1.2.2.2, h.2⟩
set_option maxRecDepth 100000 in
theorem implEnd_ret7 (h : List Int) (hy : isYr (h.getD 0 0) (h.getD 1 0) (h.getD 2 0) (h.getD 3 0) (h.getD 4 0) (h.getD 5 0) (h.getD 6 0)) : Ret Tryz.prog G 34 [WH h] (.tup [I (h.getD 0 0 + h.getD 1 0 + h.getD 2 0 - h.getD 3 0 + h.getD 4 0 - h.getD 5 0), I 0]) := by
  refine ret_of_body hT Tryz.func34 rfl ?_ rfl
  have hb := yr_bd hy
  repeat' ((first | (conv => whnf) | skip); (first | ((with_reducible intro h); first | contradiction | omega | (conv => whnf) | skip) | (with_reducible refine And.intro ?_ ?_) | ((with_reducible show arithK _ _ _); refine arith_ok ⟨by omega, by omega⟩ ?_) | ((with_reducible show quoK _ _ _ _); refine quo_ok ⟨by omega, by omega⟩ (by omega) (by omega) ?_) | ((with_reducible show remK _ _ _ _); refine rem_ok (by omega) (by omega) ?_) | ((first | (with_reducible show CallA _ _ _ _ _ _) | (with_reducible show CallQ _ _ _ _ _ _)); first | (refine Ret.goP (implYear_ret _ _ _ _ _ _ _) rfl ?_) | (refine Ret.goQP (implYear_ret _ _ _ _ _ _ _) rfl ?_) | (refine Ret.go (implEndF_ret _ _ _ _ _ _ _ hy) rfl rfl ?_) | (refine Ret.goQ (implEndF_ret _ _ _ _ _ _ _ hy) rfl rfl ?_)) | ((with_reducible show DrawA _ _ _ _ _ _); first | (first | (refine draw_quiet hT mixed (by decide +kernel) ?_) | (refine draw_hard hT mixed (by decide +kernel) ?_)))))
  all_goals first | rfl | omega | contradiction | trace_state
set_option maxRecDepth 100000 in
theorem likeYears_ret (xss : List (List Int)) (hn : xss.length ≤ 1048576) (_ : ∀ r ∈ xss, r.length = 7) : Ret Tryz.prog G 33 [.ro (.recs 7 xss), .ro (.recs 7 xss)] (Bo true) := by
  refine ret_of_body hT Tryz.func33 rfl ?_ rfl
  repeat' ((first | (conv => whnf) | skip); (first | ((with_reducible intro h); first | contradiction | omega | (conv => whnf) | skip) | (with_reducible refine And.intro ?_ ?_) | ((with_reducible show arithK _ _ _); refine arith_ok ⟨by omega, by omega⟩ ?_) | ((with_reducible show quoK _ _ _ _); refine quo_ok ⟨by omega, by omega⟩ (by omega) (by omega) ?_) | ((with_reducible show remK _ _ _ _); refine rem_ok (by omega) (by omega) ?_) | ((first | (with_reducible show CallA _ _ _ _ _ _) | (with_reducible show CallQ _ _ _ _ _ _)); first | fail) | ((with_reducible show DrawA _ _ _ _ _ _); first | (first | (refine draw_quiet hT mixed (by decide +kernel) ?_) | (refine draw_hard hT mixed (by decide +kernel) ?_)))))
  all_goals first | omega | skip
  refine loop_rule hT (fun i : Nat => i ≤ xss.length) 26 0 [0, 1, 5] (fun i => [.ro (.recs 7 xss), .ro (.recs 7 xss), I i]) (fun _ => []) (fun i => xss.length - i) (0) (Nat.le_of_ble_eq_true rfl) ?_ ?_ ?_
  · exact Nat.zero_le _
  · (refine ⟨rfl, [], ?_, ?_⟩; all_goals (repeat' (first | exact rfl | exact trivial | (with_reducible assumption) | refine And.intro ?_ ?_ | omega)))
  · intro i h1
    repeat' ((first | (conv => whnf) | skip); (first | ((with_reducible intro h); first | contradiction | omega | (conv => whnf) | skip) | (with_reducible refine And.intro ?_ ?_) | ((with_reducible show arithK _ _ _); refine arith_ok ⟨by omega, by omega⟩ ?_) | ((with_reducible show quoK _ _ _ _); refine quo_ok ⟨by omega, by omega⟩ (by omega) (by omega) ?_) | ((with_reducible show remK _ _ _ _); refine rem_ok (by omega) (by omega) ?_) | ((first | (with_reducible show CallA _ _ _ _ _ _) | (with_reducible show CallQ _ _ _ _ _ _)); first | fail) | ((with_reducible show DrawA _ _ _ _ _ _); first | (first | (refine draw_quiet hT mixed (by decide +kernel) ?_) | (refine draw_hard hT mixed (by decide +kernel) ?_)))))
    all_goals first | rfl | omega | contradiction | skip
    all_goals ((conv => whnf); refine ⟨i + 1, by omega, ?_, by omega⟩; (refine ⟨rfl, [], ?_, ?_⟩; all_goals (repeat' (first | exact rfl | exact trivial | (with_reducible assumption) | refine And.intro ?_ ?_ | omega))))
theorem ends_ry {v : AV} {H : List Blk} (f : Int) (ls : List Int) (r : Int) (hp : List (List Int)) (fu co rt ys : Int) (sel : List (Option Nat)) (h1 : vmV 0 sel v (.tup [.agg [I f, .sl 0 1 ls.length, I r], .sl 1 7 hp.length, I fu, I co, I rt, I ys])) (h2 : heapM 0 sel H [Di ls, Dh hp]) (h3 : ls.length ≤ 27 ∧ hp.length ≤ 40 ∧ rowB hp) :
    ∃ sel v' J, vmV 0 sel v v' ∧ heapM 0 sel H J ∧ (∃ (x : ((Int × List Int × Int) × List (List Int)) × Int × Int × Int × Int) (a' s' : Int), v' = .tup [.agg [I x.1.1.1, .sl 0 1 x.1.1.2.1.length, I x.1.1.2.2], .sl 1 7 x.1.2.length, I x.2.1, I x.2.2.1, I x.2.2.2.1, I x.2.2.2.2] ∧ J = [Di x.1.1.2.1, Dh x.1.2] ∧ (x.1.1.2.1.length ≤ 27 ∧ x.1.2.length ≤ 40 ∧ rowB x.1.2) ∧ a' = 0 ∧ s' = 0) :=
  ⟨sel, _, _, h1, h2, (((f, ls, r), hp), fu, co, rt, ys), 0, 0, rfl, rfl, h3, rfl, rfl⟩
set_option maxHeartbeats 8000000 in
set_option maxRecDepth 100000 in
theorem drawRY_call (code : List Int) (hn : code.length ≤ 2305843009213693952) (hb : bytesOk code) : CallA Tryz.prog G 32 [Rb code] [] (fun v J => ∃ (x : ((Int × List Int × Int) × List (List Int)) × Int × Int × Int × Int) (a' s' : Int), v = .tup [.agg [I x.1.1.1, .sl 0 1 x.1.1.2.1.length, I x.1.1.2.2], .sl 1 7 x.1.2.length, I x.2.1, I x.2.2.1, I x.2.2.2.1, I x.2.2.2.2] ∧ J = [Di x.1.1.2.1, Dh x.1.2] ∧ (x.1.1.2.1.length ≤ 27 ∧ x.1.2.length ≤ 40 ∧ rowB x.1.2) ∧ a' = 0 ∧ s' = 0) := by
  refine CallA.ends (callA_of_body hT Tryz.func32 rfl ?_)
  repeat' ((first | (conv => whnf) | skip); (first | ((with_reducible intro h); first | contradiction | omega | (conv => whnf) | skip) | (with_reducible refine And.intro ?_ ?_) | ((with_reducible show arithK _ _ _); refine arith_ok ⟨by omega, by omega⟩ ?_) | ((with_reducible show quoK _ _ _ _); refine quo_ok ⟨by omega, by omega⟩ (by omega) (by omega) ?_) | ((with_reducible show remK _ _ _ _); refine rem_ok (by omega) (by omega) ?_) | ((first | (with_reducible show CallA _ _ _ _ _ _) | (with_reducible show CallQ _ _ _ _ _ _)); first | (refine CallA.goE3 false [] (l01From_call code hn hb) rfl (by first | ((repeat' (first | exact rfl | exact trivial | (with_reducible assumption) | refine And.intro ?_ ?_ | omega | assumption)); done) | fail) (by first | ((repeat' (first | exact rfl | exact trivial | (with_reducible assumption) | refine And.intro ?_ ?_ | omega | assumption)); done) | fail) ?_; rintro x a2 s2 ⟨_, hs⟩; (first | (conv => whnf) | skip)) | (refine CallA.goE3 false [1] (l17Draw_call code hn hb _ _ ‹srcOk code _ _›) rfl (by first | ((repeat' (first | exact rfl | exact trivial | (with_reducible assumption) | refine And.intro ?_ ?_ | omega | assumption)); done) | fail) (by first | ((repeat' (first | exact rfl | exact trivial | (with_reducible assumption) | refine And.intro ?_ ?_ | omega | assumption)); done) | fail) ?_; rintro ⟨⟨f, ls, r⟩, hp⟩ a2 s2 ⟨⟨⟨hf, hl, hr⟩, hh, hw⟩, hs⟩; (first | (conv => whnf) | skip); dsimp only at hf hl hr hh hw) | (refine CallA.goE3 false [1] (nextP_call code hn hb _ _ (20) (by first | decide | omega) ‹srcOk code _ _›) rfl (by first | ((repeat' (first | exact rfl | exact trivial | refine And.intro ?_ ?_)); done) | fail) (by first | ((repeat' (first | exact rfl | exact trivial | refine And.intro ?_ ?_)); done) | fail) ?_; rintro t a2 s2 ⟨ht, hs⟩; (first | (conv => whnf) | skip)) | (refine CallA.goE3 false [1] (nextP_call code hn hb _ _ (1000000000) (by first | decide | omega) ‹srcOk code _ _›) rfl (by first | ((repeat' (first | exact rfl | exact trivial | refine And.intro ?_ ?_)); done) | fail) (by first | ((repeat' (first | exact rfl | exact trivial | refine And.intro ?_ ?_)); done) | fail) ?_; rintro y1 a2 s2 ⟨hy1, hs⟩; (first | (conv => whnf) | skip)) | (refine CallA.goE3 false [1] (nextP_call code hn hb _ _ (20000) (by first | decide | omega) ‹srcOk code _ _›) rfl (by first | ((repeat' (first | exact rfl | exact trivial | refine And.intro ?_ ?_)); done) | fail) (by first | ((repeat' (first | exact rfl | exact trivial | refine And.intro ?_ ?_)); done) | fail) ?_; rintro y2 a2 s2 ⟨hy2, hs⟩; (first | (conv => whnf) | skip)) | (refine CallA.goE3 false [1] (nextP_call code hn hb _ _ (8) (by first | decide | omega) ‹srcOk code _ _›) rfl (by first | ((repeat' (first | exact rfl | exact trivial | refine And.intro ?_ ?_)); done) | fail) (by first | ((repeat' (first | exact rfl | exact trivial | refine And.intro ?_ ?_)); done) | fail) ?_; rintro y3 a2 s2 ⟨hy3, hs⟩; (first | (conv => whnf) | skip)) | (refine CallA.goE3 false [1] (l04DrawRate_call code hn hb _ _ ‹srcOk code _ _›) rfl (by first | ((repeat' (first | exact rfl | exact trivial | (with_reducible assumption) | refine And.intro ?_ ?_ | omega | assumption)); done) | fail) (by first | ((repeat' (first | exact rfl | exact trivial | (with_reducible assumption) | refine And.intro ?_ ?_ | omega | assumption)); done) | fail) ?_; rintro rt a2 s2 ⟨hrt, hs⟩; (first | (conv => whnf) | skip)) | (refine CallA.goE3 false [1] (l21DrawFund_call code hn hb _ _ ‹srcOk code _ _›) rfl (by first | ((repeat' (first | exact rfl | exact trivial | (with_reducible assumption) | refine And.intro ?_ ?_ | omega | assumption)); done) | fail) (by first | ((repeat' (first | exact rfl | exact trivial | (with_reducible assumption) | refine And.intro ?_ ?_ | omega | assumption)); done) | fail) ?_; rintro fu a2 s2 ⟨hfu, hs⟩; (first | (conv => whnf) | skip)) | (refine CallA.goE3 false [1, 5] (pickB_call code hn hb _ _ [-1, 0, 40, 41] (Nat.le_of_ble_eq_true rfl) (Nat.le_of_ble_eq_true rfl) ‹srcOk code _ _› (-1) 41 (fun y hy => by simp only [List.mem_cons, List.not_mem_nil, or_false] at hy; omega)) rfl (by first | ((repeat' (first | exact rfl | exact trivial | refine And.intro ?_ ?_)); done) | fail) (by first | ((repeat' (first | exact rfl | exact trivial | refine And.intro ?_ ?_)); done) | fail) ?_; rintro z a2 s2 ⟨hz, hs⟩; (first | (conv => whnf) | skip))) | ((with_reducible show DrawA _ _ _ _ _ _); first | (refine draw_hard hT mixed (by decide +kernel) ?_))))
  all_goals first | rfl | omega | skip
  all_goals ((conv => whnf); apply ends_ry f ls r hp _ _ _ _ [some 2, some 3])
  all_goals first | (exact ⟨hl.2, hh, hw⟩) | (repeat' (first | exact rfl | exact trivial | refine And.intro ?_ ?_))
attribute [local irreducible] ryP okF nets loads tot clS agL
set_option maxHeartbeats 8000000 in
set_option maxRecDepth 100000 in
theorem lawRuns_ret (code : List Int) (hn : code.length ≤ 9223372036854775807) (hb : bytesOk code) : Ret Tryz.prog G 6 [Rb code] (Bo true) := by
  refine ret_of_body hT Tryz.func6 rfl ?_ rfl
  by_cases hbig : (4096 : Int) < code.length
  · repeat' ((first | (conv => whnf) | skip); (first | ((with_reducible intro h); first | contradiction | omega | (conv => whnf) | skip) | (with_reducible refine And.intro ?_ ?_) | ((with_reducible show arithK _ _ _); refine arith_ok ⟨by omega, by omega⟩ ?_) | ((with_reducible show quoK _ _ _ _); refine quo_ok ⟨by omega, by omega⟩ (by omega) (by omega) ?_) | ((with_reducible show remK _ _ _ _); refine rem_ok (by omega) (by omega) ?_) | ((first | (with_reducible show CallA _ _ _ _ _ _) | (with_reducible show CallQ _ _ _ _ _ _)); first | (refine Ret.goP (big_ret code) rfl ?_) | (refine Ret.goQP (big_ret code) rfl ?_)) | ((with_reducible show DrawA _ _ _ _ _ _); first | (refine draw_hard hT mixed (by decide +kernel) ?_))))
    all_goals first | rfl | omega | trace_state
  · replace hn : code.length ≤ 2305843009213693952 := by omega
    repeat' ((first | (conv => whnf) | skip); (first | ((with_reducible intro h); first | contradiction | omega | (conv => whnf) | skip) | (with_reducible refine And.intro ?_ ?_) | ((with_reducible show arithK _ _ _); refine arith_ok ⟨by omega, by omega⟩ ?_) | ((with_reducible show quoK _ _ _ _); refine quo_ok ⟨by omega, by omega⟩ (by omega) (by omega) ?_) | ((with_reducible show remK _ _ _ _); refine rem_ok (by omega) (by omega) ?_) | ((first | (with_reducible show CallA _ _ _ _ _ _) | (with_reducible show CallQ _ _ _ _ _ _)); first | (refine Ret.goP (big_ret code) rfl ?_) | (refine Ret.goQP (big_ret code) rfl ?_) | (refine CallA.goE3 false [] (drawRY_call code hn hb) rfl (by first | ((repeat' (first | exact rfl | exact trivial | (with_reducible assumption) | refine And.intro ?_ ?_ | omega | assumption)); done) | fail) (by first | ((repeat' (first | exact rfl | exact trivial | (with_reducible assumption) | refine And.intro ?_ ?_ | omega | assumption)); done) | fail) ?_; rintro ⟨⟨⟨f, ls, r⟩, hs⟩, fu, co, rt, ys⟩ a2 s2 ⟨⟨hl, hh, hw⟩, _⟩; (first | (conv => whnf) | skip); dsimp only at hl hh hw)) | ((with_reducible show DrawA _ _ _ _ _ _); first | (refine draw_hard hT mixed (by decide +kernel) ?_))))
    all_goals first | rfl | omega | skip
    have hc1 := specRY_call f ls r hs fu co rt ys (by omega) (by omega)
    have hc2 := implRY_call f ls r hs fu co rt ys (by omega) (by omega)
    obtain ⟨hR, hRl⟩ := ry_row (f := f) (ls := ls) (r := r) (hs := hs) (fu := fu) (co := co) (rt := rt) (ys := ys)
    obtain ⟨hch, hcl⟩ := ry_chn (f := f) (ls := ls) (r := r) (hs := hs) (fu := fu) (co := co) (rt := rt) (ys := ys)
    generalize ryP f ls r hs fu co rt ys = p at hc1 hc2 hR hRl hch hcl
    obtain ⟨L, c⟩ := p
    rw [ryT] at hc1 hc2
    dsimp only at hc1 hc2 hR hRl hch hcl
    repeat' ((first | (conv => whnf) | skip); (first | ((with_reducible intro h); first | contradiction | omega | (conv => whnf) | skip) | (with_reducible refine And.intro ?_ ?_) | ((with_reducible show arithK _ _ _); refine arith_ok ⟨by omega, by omega⟩ ?_) | ((with_reducible show quoK _ _ _ _); refine quo_ok ⟨by omega, by omega⟩ (by omega) (by omega) ?_) | ((with_reducible show remK _ _ _ _); refine rem_ok (by omega) (by omega) ?_) | ((first | (with_reducible show CallA _ _ _ _ _ _) | (with_reducible show CallQ _ _ _ _ _ _)); first | (refine CallA.go [] (hc1) rfl (by first | ((repeat' (first | exact rfl | exact trivial | (with_reducible assumption) | refine And.intro ?_ ?_ | omega | assumption)); done) | fail) trivial ?_) | (refine CallA.go [] (hc2) rfl (by first | ((repeat' (first | exact rfl | exact trivial | (with_reducible assumption) | refine And.intro ?_ ?_ | omega | assumption)); done) | fail) trivial ?_) | (refine Ret.use (likeYears_ret L (by omega) hR) (by first | ((repeat' (first | exact rfl | exact trivial | (with_reducible assumption) | refine And.intro ?_ ?_ | omega | assumption)); done) | fail) ?_) | (refine Ret.useQ (likeYears_ret L (by omega) hR) (by first | ((repeat' (first | exact rfl | exact trivial | (with_reducible assumption) | refine And.intro ?_ ?_ | omega | assumption)); done) | fail) rfl ?_)) | ((with_reducible show DrawA _ _ _ _ _ _); first | (refine draw_hard hT mixed (by decide +kernel) ?_))))
    all_goals first | rfl | omega | contradiction | skip
    (conv => whnf)
    refine loop_rule hT (fun q : Nat × Int => q.1 ≤ L.length ∧ (c = 0 → chn co q.2 (L.drop q.1))) 101 5 [0, 5, 6, 8, 9, 10, 13] (fun q => [Rb code, I q.2, I co, I ys, .sl 3 7 L.length, I c, I q.1]) (fun _ => [Di ls, Dh hs, .cells [I f, .sl 0 1 ls.length, I r], Dy L, Dy L]) (fun q => L.length - q.1) ((0, fu)) (Nat.le_of_ble_eq_true rfl) ?_ ?_ ?_
    · exact ⟨Nat.zero_le _, fun _ => hch⟩
    · (refine ⟨rfl, [], ?_, ?_⟩; all_goals (repeat' (first | exact rfl | exact trivial | (with_reducible assumption) | refine And.intro ?_ ?_)); all_goals (first | omega | assumption); done)
    · rintro ⟨i, fk⟩ ⟨h1, h2⟩
      dsimp only at h1 h2 ⊢
      by_cases hc0 : c = 0
      · by_cases hi : i < L.length
        · obtain ⟨a1, a2, a3, a4⟩ := chn_at (h2 hc0) hi
          have a1' : (L.getD ((i : Int)).toNat []).getD 0 0 = fk := a1
          have a2' : (L.getD ((i : Int)).toNat []).getD 3 0 = co := a2
          repeat' ((first | (conv => whnf) | skip); (first | ((with_reducible intro h); first | contradiction | omega | (conv => whnf) | skip) | (with_reducible refine And.intro ?_ ?_) | ((with_reducible show arithK _ _ _); refine arith_ok ⟨by omega, by omega⟩ ?_) | ((with_reducible show quoK _ _ _ _); refine quo_ok ⟨by omega, by omega⟩ (by omega) (by omega) ?_) | ((with_reducible show remK _ _ _ _); refine rem_ok (by omega) (by omega) ?_) | ((first | (with_reducible show CallA _ _ _ _ _ _) | (with_reducible show CallQ _ _ _ _ _ _)); first | (refine Ret.go (implEnd_ret7 (L.getD ((i : Int)).toNat []) a3) rfl rfl ?_) | (refine Ret.goQ (implEnd_ret7 (L.getD ((i : Int)).toNat []) a3) rfl rfl ?_)) | ((with_reducible show DrawA _ _ _ _ _ _); first | (refine draw_hard hT mixed (by decide +kernel) ?_))))
          all_goals first | rfl | omega | skip
          all_goals ((conv => whnf); refine ⟨(i + 1, _), ⟨by dsimp only; omega, fun _ => a4⟩, ?_, by dsimp only; omega⟩; first | (refine ⟨rfl, [], ?_, ?_⟩; all_goals (repeat' (first | exact rfl | exact trivial | (with_reducible assumption) | refine And.intro ?_ ?_)); all_goals (first | omega | assumption); done) | trace_state)
        · have hcl0 := hcl hc0
          repeat' ((first | (conv => whnf) | skip); (first | ((with_reducible intro h); first | contradiction | omega | (conv => whnf) | skip) | (with_reducible refine And.intro ?_ ?_) | ((with_reducible show arithK _ _ _); refine arith_ok ⟨by omega, by omega⟩ ?_) | ((with_reducible show quoK _ _ _ _); refine quo_ok ⟨by omega, by omega⟩ (by omega) (by omega) ?_) | ((with_reducible show remK _ _ _ _); refine rem_ok (by omega) (by omega) ?_) | ((first | (with_reducible show CallA _ _ _ _ _ _) | (with_reducible show CallQ _ _ _ _ _ _)); first | fail) | ((with_reducible show DrawA _ _ _ _ _ _); first | (refine draw_hard hT mixed (by decide +kernel) ?_))))
          all_goals first | rfl | omega | trace_state
      · repeat' ((first | (conv => whnf) | skip); (first | ((with_reducible intro h); first | contradiction | omega | (conv => whnf) | skip) | (with_reducible refine And.intro ?_ ?_) | ((with_reducible show arithK _ _ _); refine arith_ok ⟨by omega, by omega⟩ ?_) | ((with_reducible show quoK _ _ _ _); refine quo_ok ⟨by omega, by omega⟩ (by omega) (by omega) ?_) | ((with_reducible show remK _ _ _ _); refine rem_ok (by omega) (by omega) ?_) | ((first | (with_reducible show CallA _ _ _ _ _ _) | (with_reducible show CallQ _ _ _ _ _ _)); first | fail) | ((with_reducible show DrawA _ _ _ _ _ _); first | (refine draw_hard hT mixed (by decide +kernel) ?_))))
        all_goals first | rfl | omega | trace_state
end Go.Proofs.YtenofbabiacacaaGreat
