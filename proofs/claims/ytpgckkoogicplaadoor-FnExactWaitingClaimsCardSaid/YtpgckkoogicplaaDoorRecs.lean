/-
  Lists of structs (Claim): copies, equality, marks. No conditions but those in the statements.
-/
import Derived.Test.YtpgckkoogicplaaDoorInts
import Derived.Test.YtpgckkoogicplaaDoorFb
set_option linter.unusedVariables false
set_option linter.unusedSimpArgs false
namespace Go.Proofs.YtpgckkoogicplaaDoor
open Go.AE

attribute [local irreducible] CallA LoopA DrawA CallQ arithK quoK remK eqK
abbrev VClaim (a0 a1 a2 a3 a4 a5 : Int) : AV := .agg [I a0, I a1, I a2, I a3, I a4, I a5]
abbrev WClaim (r : List Int) : AV := .agg [I (r.getD 0 0), I (r.getD 1 0), I (r.getD 2 0), I (r.getD 3 0), I (r.getD 4 0), I (r.getD 5 0)]
abbrev RClaim (xss : List (List Int)) : AV := .ro (.recs 6 xss)
abbrev DClaim (xss : List (List Int)) : Blk := .data (.recs 6 xss)
theorem lenClaim {r : List Int} (h : r.length = 6) : ∃ a0 a1 a2 a3 a4 a5, r = [a0, a1, a2, a3, a4, a5] := by
  match r, h with
  | [a0, a1, a2, a3, a4, a5], _ => exact ⟨_, _, _, _, _, _, rfl⟩
theorem etaClaim {r : List Int} (h : r.length = 6) : [r.getD 0 0, r.getD 1 0, r.getD 2 0, r.getD 3 0, r.getD 4 0, r.getD 5 0] = r := by
  obtain ⟨a0, a1, a2, a3, a4, a5, rfl⟩ := lenClaim h
  rfl
set_option maxRecDepth 100000 in
theorem toClaimS_call (xss : List (List Int)) (hn : xss.length ≤ 1048576) (hr : ∀ r ∈ xss, r.length = 6) : CallA Tryd.prog G 28 [RClaim xss] [] (fun v J => v = .sl 0 6 xss.length ∧ J = [DClaim xss]) := by
  refine CallA.ends (callA_of_body hT Tryd.func28 rfl ?_)
  repeat' (first | (intro h; first | contradiction | omega | (conv => whnf) | skip) | (refine And.intro ?_ ?_) | (refine arith_ok ⟨by omega, by omega⟩ ?_) | (first | (refine draw_quiet hT mixed (by decide +kernel) ?_) | (refine draw_hard hT mixed (by decide +kernel) ?_)) | fail)
  · rfl
  · omega
  · omega
  refine loop_rule hT (fun p : Nat × List (List Int) => p.1 ≤ xss.length ∧ p.2.length = xss.length ∧ p.2.take p.1 = xss.take p.1 ∧ ∀ r ∈ p.2, r.length = 6) 23 1 [0, 3, 4] (fun p => [RClaim xss, .sl 0 6 xss.length, I p.1]) (fun p => [DClaim p.2]) (fun p => xss.length - p.1) ((0, List.replicate xss.length (List.replicate 6 0))) (Nat.le_of_ble_eq_true rfl) ?_ ?_ ?_
  · exact ⟨Nat.zero_le _, by simp, rfl, fun r hr => by rw [List.eq_of_mem_replicate hr]; rfl⟩
  · (refine ⟨rfl, [], ?_, ?_⟩; all_goals (repeat' (first | exact rfl | exact trivial | (with_reducible assumption) | refine And.intro ?_ ?_ | omega)))
  · rintro ⟨i, yss⟩ ⟨h1, h2, h3, h4⟩
    dsimp only at h1 h2 h3 h4 ⊢
    by_cases hi : i < xss.length
    · obtain ⟨a0, a1, a2, a3, a4, a5, ha⟩ := lenClaim (hr (xss.getD i []) (getD_mem hi))
      obtain ⟨b0, b1, b2, b3, b4, b5, hb⟩ := lenClaim (h4 (yss.getD i []) (getD_mem (by omega)))
      have hx : setInts (yss.getD ((i : Int)).toNat []) 0 [(xss.getD ((i : Int)).toNat []).getD 0 0, (xss.getD ((i : Int)).toNat []).getD 1 0, (xss.getD ((i : Int)).toNat []).getD 2 0, (xss.getD ((i : Int)).toNat []).getD 3 0, (xss.getD ((i : Int)).toNat []).getD 4 0, (xss.getD ((i : Int)).toNat []).getD 5 0] = xss.getD i [] := by
        show setInts (yss.getD i []) 0 [(xss.getD i []).getD 0 0, (xss.getD i []).getD 1 0, (xss.getD i []).getD 2 0, (xss.getD i []).getD 3 0, (xss.getD i []).getD 4 0, (xss.getD i []).getD 5 0] = xss.getD i []
        rw [ha, hb]; rfl
      have hl : (yss.getD ((i : Int)).toNat []).length = 6 := h4 (yss.getD i []) (getD_mem (by omega))
      repeat' (first | (intro h; first | contradiction | omega | (conv => whnf) | skip) | (refine And.intro ?_ ?_) | (refine arith_ok ⟨by omega, by omega⟩ ?_) | (first | (refine draw_quiet hT mixed (by decide +kernel) ?_) | (refine draw_hard hT mixed (by decide +kernel) ?_)) | (refine Ret.go (toClaim_ret _ _ _ _ _ _) rfl rfl ?_) | (refine Ret.goQ (toClaim_ret _ _ _ _ _ _) rfl rfl ?_))
      all_goals first | omega | assumption | skip
      refine ⟨(i + 1, yss.set i (xss.getD i [])), ⟨by dsimp only; omega, by simpa using h2, set_snoc [] h3 (by omega) h2, fun r hm => ?_⟩, ?_, by dsimp only; omega⟩
      · rcases List.mem_or_eq_of_mem_set hm with hm | rfl
        · exact h4 r hm
        · exact hr _ (getD_mem hi)
      · (refine ⟨rfl, [], ?_, ?_⟩; all_goals (repeat' (first | exact rfl | exact trivial | (with_reducible assumption) | refine And.intro ?_ ?_ | omega | exact congrArg (fun r => D.recs 6 (yss.set i r)) hx)))
    · repeat' (first | (intro h; first | contradiction | omega | (conv => whnf) | skip) | (refine And.intro ?_ ?_) | (refine arith_ok ⟨by omega, by omega⟩ ?_) | (first | (refine draw_quiet hT mixed (by decide +kernel) ?_) | (refine draw_hard hT mixed (by decide +kernel) ?_)) | fail)
      all_goals first | omega | skip
      obtain rfl : yss = xss := by rwa [take_all (by omega), take_all (by omega)] at h3
      (refine ⟨[some 0], .sl 0 6 yss.length, [DClaim yss], ?_, ?_, ?_⟩; all_goals (repeat' (first | exact rfl | exact trivial | (with_reducible assumption) | refine And.intro ?_ ?_ | omega)))
set_option maxRecDepth 100000 in
theorem eqClaimS_ret (xss yss : List (List Int)) (hn : xss.length ≤ 2305843009213693952) (hx : ∀ r ∈ xss, r.length = 6) (hy : ∀ r ∈ yss, r.length = 6) : Ret Tryd.prog G 31 [RClaim xss, RClaim yss] (Bo (decide (xss = yss))) := by
  refine ret_of_body hT Tryd.func31 rfl ?_ rfl
  repeat' (first | (intro h; first | contradiction | omega | (conv => whnf) | skip) | (refine And.intro ?_ ?_) | (refine arith_ok ⟨by omega, by omega⟩ ?_) | (first | (refine draw_quiet hT mixed (by decide +kernel) ?_) | (refine draw_hard hT mixed (by decide +kernel) ?_)) | fail)
  · exact bv_false (fun e => by subst e; omega)
  refine loop_rule hT (fun i : Nat => i ≤ xss.length ∧ xss.take i = yss.take i) 27 0 [0, 1, 5] (fun i => [RClaim xss, RClaim yss, I i]) (fun _ => []) (fun i => xss.length - i) (0) (Nat.le_of_ble_eq_true rfl) ?_ ?_ ?_
  · exact ⟨Nat.zero_le _, rfl⟩
  · (refine ⟨rfl, [], ?_, ?_⟩; all_goals (repeat' (first | exact rfl | exact trivial | (with_reducible assumption) | refine And.intro ?_ ?_ | omega)))
  · rintro i ⟨h1, h2⟩
    repeat' (first | (intro h; first | contradiction | omega | (conv => whnf) | skip) | (refine And.intro ?_ ?_) | (refine arith_ok ⟨by omega, by omega⟩ ?_) | (first | (refine draw_quiet hT mixed (by decide +kernel) ?_) | (refine draw_hard hT mixed (by decide +kernel) ?_)) | (refine Ret.goP (eqClaim_ret _ _ _ _ _ _ _ _ _ _ _ _) rfl ?_) | (refine Ret.goQP (eqClaim_ret _ _ _ _ _ _ _ _ _ _ _ _) rfl ?_))
    all_goals first | omega | skip
    · have he : xss.getD i [] = yss.getD i [] := by
        rw [← etaClaim (hx _ (getD_mem (by omega))), ← etaClaim (hy (yss.getD i []) (getD_mem (by omega)))]
        obtain ⟨e0, e1, e2, e3, e4, e5⟩ := h
        simp only [toNat_cast] at e0 e1 e2 e3 e4 e5
        rw [e0, e1, e2, e3, e4, e5]
      refine ⟨i + 1, ⟨by omega, ?_⟩, ?_, by omega⟩
      · rw [take_snoc [] (by omega), take_snoc [] (by omega), h2, he]
      · (refine ⟨rfl, [], ?_, ?_⟩; all_goals (repeat' (first | exact rfl | exact trivial | (with_reducible assumption) | refine And.intro ?_ ?_ | omega)))
    · refine bv_false (fun e => ?_)
      subst e
      exact h ⟨rfl, rfl, rfl, rfl, rfl, rfl⟩
    · refine bv_true ?_
      rwa [take_all (by omega), take_all (by omega)] at h2
def marksClaim (m k : Nat) : List (List Int) := (List.range m).map fun i => [((k + i * 6 + 0 : Nat) : Int), ((k + i * 6 + 1 : Nat) : Int), ((k + i * 6 + 2 : Nat) : Int), ((k + i * 6 + 3 : Nat) : Int), ((k + i * 6 + 4 : Nat) : Int), ((k + i * 6 + 5 : Nat) : Int)]
theorem marksClaim_len (m k : Nat) : (marksClaim m k).length = m := by simp [marksClaim]
theorem marksClaim_get {m k i : Nat} (h : i < m) : (marksClaim m k).getD i [] = [((k + i * 6 + 0 : Nat) : Int), ((k + i * 6 + 1 : Nat) : Int), ((k + i * 6 + 2 : Nat) : Int), ((k + i * 6 + 3 : Nat) : Int), ((k + i * 6 + 4 : Nat) : Int), ((k + i * 6 + 5 : Nat) : Int)] := by
  rw [marksClaim, List.getD_eq_getElem?_getD, List.getElem?_map, List.getElem?_range h]; rfl
theorem marksClaim_row (m k : Nat) : ∀ r ∈ marksClaim m k, r.length = 6 := fun r hr => by
  obtain ⟨i, _, rfl⟩ := List.mem_map.1 hr
  rfl
set_option maxRecDepth 100000 in
theorem markClaimS_call (xss : List (List Int)) (k : Nat) (hn : xss.length ≤ 1048576) (hk : k ≤ 1048576) (hr : ∀ r ∈ xss, r.length = 6) :
    CallA Tryd.prog G 32 [.sl 0 6 xss.length, I k] [DClaim xss] (fun v J => v = I ((k + xss.length * 6 : Nat) : Int) ∧ J = [DClaim (marksClaim xss.length k)]) := by
  refine CallA.ends (callA_of_body hT Tryd.func32 rfl ?_)
  repeat' (first | (intro h; first | contradiction | omega | (conv => whnf) | skip) | (refine And.intro ?_ ?_) | (refine arith_ok ⟨by omega, by omega⟩ ?_) | (first | (refine draw_quiet hT mixed (by decide +kernel) ?_) | (refine draw_hard hT mixed (by decide +kernel) ?_)) | fail)
  refine loop_rule hT (fun p : Nat × List (List Int) => p.1 ≤ xss.length ∧ p.2.length = xss.length ∧ p.2.take p.1 = (marksClaim xss.length k).take p.1 ∧ ∀ r ∈ p.2, r.length = 6) 55 1 [0, 1, 5] (fun p => [.sl 0 6 xss.length, I ((k + p.1 * 6 : Nat) : Int), I p.1]) (fun p => [DClaim p.2]) (fun p => xss.length - p.1) ((0, xss)) (Nat.le_of_ble_eq_true rfl) ?_ ?_ ?_
  · exact ⟨Nat.zero_le _, rfl, rfl, hr⟩
  · (refine ⟨rfl, [], ?_, ?_⟩; all_goals (repeat' (first | exact rfl | exact trivial | (with_reducible assumption) | refine And.intro ?_ ?_ | omega)))
  · rintro ⟨i, yss⟩ ⟨h1, h2, h3, h4⟩
    dsimp only at h1 h2 h3 h4 ⊢
    by_cases hi : i < xss.length
    · obtain ⟨b0, b1, b2, b3, b4, b5, hb⟩ := lenClaim (h4 (yss.getD i []) (getD_mem (by omega)))
      have hb' : yss.getD ((i : Int)).toNat [] = [b0, b1, b2, b3, b4, b5] := hb
      have hlt : ((i : Int)).toNat < yss.length := by omega
      repeat' (first | (intro h; first | contradiction | omega | (conv => whnf) | skip) | (refine And.intro ?_ ?_) | (refine arith_ok ⟨by omega, by omega⟩ ?_) | (first | (refine draw_quiet hT mixed (by decide +kernel) ?_) | (refine draw_hard hT mixed (by decide +kernel) ?_)) | fail)
      all_goals first | omega | (simp only [List.length_set]; exact hlt) | (simp only [getD_set_self, List.length_set, setInts_len, hlt, hb', List.length_cons, List.length_nil]; done) | skip
      refine ⟨(i + 1, yss.set i [((k + i * 6 + 0 : Nat) : Int), ((k + i * 6 + 1 : Nat) : Int), ((k + i * 6 + 2 : Nat) : Int), ((k + i * 6 + 3 : Nat) : Int), ((k + i * 6 + 4 : Nat) : Int), ((k + i * 6 + 5 : Nat) : Int)]), ⟨by dsimp only; omega, by simpa using h2, ?_, fun r hm => ?_⟩, ?_, by dsimp only; omega⟩
      · have := set_snoc [] h3 (by rw [marksClaim_len]; omega) (by rw [marksClaim_len]; exact h2)
        rwa [marksClaim_get (by omega)] at this
      · rcases List.mem_or_eq_of_mem_set hm with hm | rfl
        · exact h4 r hm
        · rfl
      · (refine ⟨rfl, [], ?_, ?_⟩; all_goals (repeat' (first | exact rfl | exact trivial | (with_reducible assumption) | refine And.intro ?_ ?_ | omega | (refine congrArg (fun l => D.recs 6 l) ?_; simp only [getD_set_self, List.set_set, hlt, hb', setInts, List.set_cons_zero, List.set_cons_succ]; exact congrArg _ (by simp only [List.cons.injEq, and_true]; omega)))))
    · repeat' (first | (intro h; first | contradiction | omega | (conv => whnf) | skip) | (refine And.intro ?_ ?_) | (refine arith_ok ⟨by omega, by omega⟩ ?_) | (first | (refine draw_quiet hT mixed (by decide +kernel) ?_) | (refine draw_hard hT mixed (by decide +kernel) ?_)) | fail)
      all_goals first | omega | skip
      obtain rfl : i = xss.length := by omega
      obtain rfl : yss = marksClaim xss.length k := by rwa [take_all (by omega), take_all (by rw [marksClaim_len]; omega)] at h3
      (refine ⟨[], I ((k + xss.length * 6 : Nat) : Int), [DClaim (marksClaim xss.length k)], ?_, ?_, ?_⟩; all_goals (repeat' (first | exact rfl | exact trivial | (with_reducible assumption) | refine And.intro ?_ ?_ | omega)))
set_option maxRecDepth 100000 in
theorem szClaimS_ret (xss : List (List Int)) (l : Int) (hn : xss.length ≤ 9223372036854775807) (hl : -1 ≤ l ∧ l ≤ 1048576) : Ret Tryd.prog G 26 [RClaim xss, I l] (I (if (xss.length : Int) ≤ l then l - xss.length else -1)) := by
  refine ret_of_body hT Tryd.func26 rfl ?_ rfl
  repeat' (first | (intro h; first | contradiction | omega | (conv => whnf) | skip) | (refine And.intro ?_ ?_) | (refine arith_ok ⟨by omega, by omega⟩ ?_) | (first | (refine draw_quiet hT mixed (by decide +kernel) ?_) | (refine draw_hard hT mixed (by decide +kernel) ?_)) | fail)
  all_goals (refine iv ?_; first | (rw [if_pos (by omega)]; done) | (rw [if_neg (by omega)]; done))
def idxClaim (p : List Int → Bool) (xss : List (List Int)) : Int := if firstOf p xss < xss.length then (firstOf p xss : Int) else -1
set_option maxRecDepth 100000 in
theorem indexFuncClaim_ret (f : FuncId) (caps : List AV) (p : List Int → Bool) (xss : List (List Int)) (hn : xss.length ≤ 2305843009213693952) (hc : capsOk caps = true) (hp : ∀ i, i < xss.length → Ret Tryd.prog G f (WClaim (xss.getD i []) :: caps) (Bo (p (xss.getD i [])))) :
    Ret Tryd.prog G 62 [RClaim xss, .fn f caps] (I (idxClaim p xss)) := by
  refine ret_of_body hT Tryd.func62 rfl ?_ rfl
  repeat' (first | (intro h; first | contradiction | omega | (conv => whnf) | skip) | (refine And.intro ?_ ?_) | (refine arith_ok ⟨by omega, by omega⟩ ?_) | (first | (refine draw_quiet hT mixed (by decide +kernel) ?_) | (refine draw_hard hT mixed (by decide +kernel) ?_)) | fail)
  refine loop_rule hT (fun i : Nat => i ≤ xss.length ∧ ∀ j, j < i → p (xss.getD j []) = false) 19 0 [0, 1, 7, 8] (fun i => [RClaim xss, .fn f caps, I xss.length, I i]) (fun _ => []) (fun i => xss.length - i) (0) (Nat.le_of_ble_eq_true rfl) ?_ ?_ ?_
  · exact ⟨Nat.zero_le _, fun j h => absurd h (Nat.not_lt_zero j)⟩
  · (refine ⟨rfl, [], ?_, ?_⟩; all_goals (repeat' (first | exact rfl | exact trivial | (with_reducible assumption) | refine And.intro ?_ ?_ | omega)))
    all_goals exact caps_vm hc
  · rintro i ⟨h1, h2⟩
    repeat' (first | (intro h; first | contradiction | omega | (conv => whnf) | skip) | (refine And.intro ?_ ?_) | (refine arith_ok ⟨by omega, by omega⟩ ?_) | (first | (refine draw_quiet hT mixed (by decide +kernel) ?_) | (refine draw_hard hT mixed (by decide +kernel) ?_)) | (refine Ret.goB (hp i (by omega)) (caps_self hc) ?_))
    all_goals first | omega | skip
    · have : firstOf p xss = i := firstOf_eq [] (by omega) h2 fun _ => h
      exact iv (by unfold idxClaim; rw [if_pos (by omega), this])
    · refine ⟨i + 1, ⟨by omega, fun j hj => ?_⟩, ?_, by omega⟩
      · by_cases hji : j = i
        · rw [hji]; exact h
        · exact h2 j (by omega)
      · (refine ⟨rfl, [], ?_, ?_⟩; all_goals (repeat' (first | exact rfl | exact trivial | (with_reducible assumption) | refine And.intro ?_ ?_ | omega)))
        all_goals exact caps_vm hc
    · have : firstOf p xss = xss.length := firstOf_eq [] (Nat.le_refl _) (fun j hj => h2 j (by omega)) fun h => absurd h (Nat.lt_irrefl _)
      exact iv (by unfold idxClaim; rw [if_neg (by omega)])
set_option maxRecDepth 100000 in
theorem containsFuncClaim_ret (f : FuncId) (caps : List AV) (p : List Int → Bool) (xss : List (List Int)) (hn : xss.length ≤ 2305843009213693952) (hc : capsOk caps = true) (hp : ∀ i, i < xss.length → Ret Tryd.prog G f (WClaim (xss.getD i []) :: caps) (Bo (p (xss.getD i [])))) :
    Ret Tryd.prog G 59 [RClaim xss, .fn f caps] (Bo (xss.any p)) := by
  refine ret_of_body hT Tryd.func59 rfl ?_ rfl
  have h0 := indexFuncClaim_ret f caps p xss hn hc hp
  have hiff := firstOf_lt_iff p xss
  have hs : ([RClaim xss, .fn f caps] : List AV).all selfV = true := by
    simp only [List.all_cons, List.all_nil, Bool.and_true, Bool.and_eq_true]
    exact ⟨rfl, List.all_eq_true.2 fun c h => by have := List.all_eq_true.1 hc c h; simp only [Bool.and_eq_true] at this; exact this.1⟩
  repeat' (first | (intro h; first | contradiction | omega | (conv => whnf) | skip) | (refine And.intro ?_ ?_) | (refine arith_ok ⟨by omega, by omega⟩ ?_) | (first | (refine draw_quiet hT mixed (by decide +kernel) ?_) | (refine draw_hard hT mixed (by decide +kernel) ?_)) | (refine Ret.go h0 hs rfl ?_))
  all_goals
    refine bv ?_
    unfold idxClaim at h
    split at h
    · rename_i hlt
      first | omega | (symm; rw [List.any_eq_true]; exact hiff.1 hlt)
    · rename_i hlt
      first | omega | (symm; rw [Bool.eq_false_iff]; intro hany; exact hlt (hiff.2 (List.any_eq_true.1 hany)))
end Go.Proofs.YtpgckkoogicplaaDoor
