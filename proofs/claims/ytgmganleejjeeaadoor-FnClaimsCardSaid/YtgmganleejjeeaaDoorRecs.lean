/-
  Lists of structs (Claim): copies, equality, marks. No conditions but those in the statements.
-/
import Derived.Test.YtgmganleejjeeaaDoorInts
import Derived.Test.YtgmganleejjeeaaDoorFb
namespace Go.Proofs.YtgmganleejjeeaaDoor
open Go.AE

attribute [local irreducible] CallA LoopA DrawA CallQ arithK quoK remK eqK
abbrev VClaim (a0 a1 a2 a3 a4 a5 : Int) : AV := .agg [I a0, I a1, I a2, I a3, I a4, I a5]
abbrev WClaim (r : List Int) : AV := .agg [I (r.getD 0 0), I (r.getD 1 0), I (r.getD 2 0), I (r.getD 3 0), I (r.getD 4 0), I (r.getD 5 0)]
abbrev RClaim (xss : List (List Int)) : AV := .ro (.recs 6 xss)
abbrev DClaim (xss : List (List Int)) : Blk := .data (.recs 6 xss)
theorem lenClaim {r : List Int} (h : r.length = 6) : ∃ a0 a1 a2 a3 a4 a5, r = [a0, a1, a2, a3, a4, a5] := by
  match r, h with
  | [a0, a1, a2, a3, a4, a5], _ => exact ⟨_, _, _, _, _, _, rfl⟩
theorem etaClaim {r : List Int} (h : r.length = 6) : [r.getD 0 0, r.getD 1 0, r.getD 2 0, r.getD 3 0, r.getD 4 0, r.getD 5 0] = r := by
  obtain ⟨a0, a1, a2, a3, a4, a5, rfl⟩ := lenClaim h
  rfl
def marksClaim (m k : Nat) : List (List Int) := (List.range m).map fun i => [((k + i * 6 + 0 : Nat) : Int), ((k + i * 6 + 1 : Nat) : Int), ((k + i * 6 + 2 : Nat) : Int), ((k + i * 6 + 3 : Nat) : Int), ((k + i * 6 + 4 : Nat) : Int), ((k + i * 6 + 5 : Nat) : Int)]
theorem marksClaim_len (m k : Nat) : (marksClaim m k).length = m := by simp [marksClaim]
theorem marksClaim_get {m k i : Nat} (h : i < m) : (marksClaim m k).getD i [] = [((k + i * 6 + 0 : Nat) : Int), ((k + i * 6 + 1 : Nat) : Int), ((k + i * 6 + 2 : Nat) : Int), ((k + i * 6 + 3 : Nat) : Int), ((k + i * 6 + 4 : Nat) : Int), ((k + i * 6 + 5 : Nat) : Int)] := by
  rw [marksClaim, List.getD_eq_getElem?_getD, List.getElem?_map, List.getElem?_range h]; rfl
theorem marksClaim_row (m k : Nat) : ∀ r ∈ marksClaim m k, r.length = 6 := fun r hr => by
  obtain ⟨i, _, rfl⟩ := List.mem_map.1 hr
  rfl
def idxClaim (p : List Int → Bool) (xss : List (List Int)) : Int := if firstOf p xss < xss.length then (firstOf p xss : Int) else -1
set_option maxRecDepth 100000 in
theorem indexFuncClaim_ret (f : FuncId) (caps : List AV) (p : List Int → Bool) (xss : List (List Int)) (hn : xss.length ≤ 2305843009213693952) (hc : capsOk caps = true) (hp : ∀ i, i < xss.length → Ret Tryd.prog G f (WClaim (xss.getD i []) :: caps) (Bo (p (xss.getD i [])))) :
    Ret Tryd.prog G 54 [RClaim xss, .fn f caps] (I (idxClaim p xss)) := by
  refine ret_of_body hT Tryd.func54 rfl ?_ rfl
  repeat' (first | (intro h; first | contradiction | omega | (conv => whnf) | skip) | (refine And.intro ?_ ?_) | (refine arith_ok ⟨by omega, by omega⟩ ?_) | (first | (refine draw_quiet hT mixed (by decide +kernel) ?_) | (refine draw_hard hT mixed (by decide +kernel) ?_)) | fail)
  refine loop_rule hT (fun i : Nat => i ≤ xss.length ∧ ∀ j, j < i → p (xss.getD j []) = false) 19 0 [0, 1, 7, 8] (fun i => [RClaim xss, .fn f caps, I xss.length, I i]) (fun _ => []) (fun i => xss.length - i) (0) (Nat.le_of_ble_eq_true rfl) ?_ ?_ ?_
  · exact ⟨Nat.zero_le _, fun j h => absurd h (Nat.not_lt_zero j)⟩
  · (refine ⟨rfl, [], ?_, ?_⟩; all_goals (repeat' (first | exact rfl | exact trivial | omega | refine And.intro ?_ ?_)))
    all_goals exact caps_vm hc
  · rintro i ⟨h1, h2⟩
    repeat' (first | (intro h; first | contradiction | omega | (conv => whnf) | skip) | (refine And.intro ?_ ?_) | (refine arith_ok ⟨by omega, by omega⟩ ?_) | (first | (refine draw_quiet hT mixed (by decide +kernel) ?_) | (refine draw_hard hT mixed (by decide +kernel) ?_)) | (refine Ret.goB (hp i (by omega)) (caps_self hc) ?_))
    all_goals first | omega | skip
    · have : firstOf p xss = i := firstOf_eq [] (by omega) h2 fun _ => h
      exact iv (by unfold idxClaim; rw [if_pos (by omega), this])
    · refine ⟨i + 1, ⟨by omega, fun j hj => ?_⟩, ?_, by omega⟩
      · by_cases hji : j = i
        · rw [hji]; exact h
        · exact h2 j (by omega)
      · (refine ⟨rfl, [], ?_, ?_⟩; all_goals (repeat' (first | exact rfl | exact trivial | omega | refine And.intro ?_ ?_)))
        all_goals exact caps_vm hc
    · have : firstOf p xss = xss.length := firstOf_eq [] (Nat.le_refl _) (fun j hj => h2 j (by omega)) fun h => absurd h (Nat.lt_irrefl _)
      exact iv (by unfold idxClaim; rw [if_neg (by omega)])
set_option maxRecDepth 100000 in
theorem containsFuncClaim_ret (f : FuncId) (caps : List AV) (p : List Int → Bool) (xss : List (List Int)) (hn : xss.length ≤ 2305843009213693952) (hc : capsOk caps = true) (hp : ∀ i, i < xss.length → Ret Tryd.prog G f (WClaim (xss.getD i []) :: caps) (Bo (p (xss.getD i [])))) :
    Ret Tryd.prog G 49 [RClaim xss, .fn f caps] (Bo (xss.any p)) := by
  refine ret_of_body hT Tryd.func49 rfl ?_ rfl
  have h0 := indexFuncClaim_ret f caps p xss hn hc hp
  have hiff := firstOf_lt_iff p xss
  have hs : ([RClaim xss, .fn f caps] : List AV).all selfV = true := by
    simp only [List.all_cons, List.all_nil, Bool.and_true, Bool.and_eq_true]
    exact ⟨rfl, List.all_eq_true.2 fun c h => by have := List.all_eq_true.1 hc c h; simp only [Bool.and_eq_true] at this; exact this.1⟩
  repeat' (first | (intro h; first | contradiction | omega | (conv => whnf) | skip) | (refine And.intro ?_ ?_) | (refine arith_ok ⟨by omega, by omega⟩ ?_) | (first | (refine draw_quiet hT mixed (by decide +kernel) ?_) | (refine draw_hard hT mixed (by decide +kernel) ?_)) | (refine Ret.go h0 hs rfl ?_))
  all_goals
    refine bv ?_
    unfold idxClaim at h
    split at h
    · rename_i hlt
      first | omega | (symm; rw [List.any_eq_true]; exact hiff.1 hlt)
    · rename_i hlt
      first | omega | (symm; rw [Bool.eq_false_iff]; intro hany; exact hlt (hiff.2 (List.any_eq_true.1 hany)))
end Go.Proofs.YtgmganleejjeeaaDoor
