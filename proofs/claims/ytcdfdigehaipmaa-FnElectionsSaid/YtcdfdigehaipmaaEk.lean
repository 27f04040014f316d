/-
  The reference's ElectedByRounds: what it returns; the law. No conditions but those in the statements.
-/
import Derived.Test.YtcdfdigehaipmaaEj
import Derived.Test.YtcdfdigehaipmaaEe
set_option linter.unusedVariables false
set_option linter.unusedSimpArgs false
namespace Go.Proofs.Ytcdfdigehaipmaa
open Go.AE

attribute [local irreducible] CallA LoopA DrawA CallQ arithK quoK remK eqK
def rest (c : Nat) (gone : List Int) : List Int := (marks c 0).filter fun x => decide (x ∉ gone)
theorem rest_in {c : Nat} {gone : List Int} (h : (c : Int) ∈ gone) : rest (c + 1) gone = rest c gone := by
  unfold rest
  rw [← marks_next, List.filter_append]
  simp [h]
theorem rest_out {c : Nat} {gone : List Int} (h : (c : Int) ∉ gone) : rest (c + 1) gone = rest c gone ++ [(c : Int)] := by
  unfold rest
  rw [← marks_next, List.filter_append]
  simp [h]
theorem mem_marks {c : Nat} {x : Int} : x ∈ marks c 0 ↔ 0 ≤ x ∧ x < c := by
  unfold marks
  rw [List.mem_map]
  constructor
  · rintro ⟨i, h1, h2⟩
    have := List.mem_range.1 h1
    omega
  · rintro ⟨h1, h2⟩
    exact ⟨x.toNat, List.mem_range.2 (by omega), by omega⟩
theorem mem_rest {c : Nat} {gone : List Int} {x : Int} : x ∈ rest c gone ↔ (0 ≤ x ∧ x < c) ∧ x ∉ gone := by
  unfold rest
  rw [List.mem_filter, mem_marks]
  simp
theorem rest_nil (n : Nat) : rest n [] = marks n 0 := by
  unfold rest
  rw [List.filter_eq_self]
  intro x _
  simp
theorem rest_kp (n : Nat) (gone : List Int) (w : Int) : rest n (gone ++ [w]) = kp (rest n gone) w := by
  unfold rest kp
  rw [List.filter_filter]
  refine List.filter_congr fun x _ => ?_
  simp only [List.mem_append, List.mem_singleton, not_or]
  by_cases h1 : x ∈ gone
  · simp [h1]
  · by_cases h2 : x = w
    · simp [h2]
    · simp [h1, h2, Ne.symm h2]
theorem rest_len (c : Nat) (gone : List Int) : (rest c gone).length ≤ c := by
  unfold rest
  have := List.length_filter_le (fun x => decide (x ∉ gone)) (marks c 0)
  rwa [marks_len] at this
theorem sm_le {v : Int → Nat} {B : Nat} (h : ∀ c, v c ≤ B) : ∀ l : List Int, sm v l ≤ B * l.length
  | [] => Nat.zero_le _
  | c :: l => by
    rw [sm_cons, List.length_cons, Nat.mul_succ]
    have := sm_le h l
    have := h c
    omega
/-- The counts of the first ballots: -1 for those who are gone. -/
def vf (n : Nat) (gone : List Int) (xss : List (List Int)) (i : Nat) : List Int := tb n fun c => if (c : Int) ∈ gone then -1 else (vt (rest n gone) xss i c : Int)
def lo (n : Nat) (gone : List Int) (k : Nat) : List Int := tb n fun c => if (c : Int) ∈ gone ∧ c < k then -1 else 0
theorem lo_zero (n : Nat) (gone : List Int) : List.replicate n (0 : Int) = lo n gone 0 := by
  rw [tb_zero]
  exact tb_ext fun c _ => (if_neg (by omega)).symm
theorem lo_in {n k : Nat} {gone : List Int} (h : (k : Int) ∈ gone) : (lo n gone k).set k (-1) = lo n gone (k + 1) := by
  unfold lo
  rw [tb_set]
  refine tb_ext fun c _ => ?_
  by_cases he : c = k
  · subst he; rw [if_pos rfl, if_pos ⟨h, by omega⟩]
  · rw [if_neg he]
    by_cases hc : (c : Int) ∈ gone ∧ c < k
    · rw [if_pos hc, if_pos ⟨hc.1, by omega⟩]
    · rw [if_neg hc, if_neg (fun e => hc ⟨e.1, by omega⟩)]
theorem lo_out {n k : Nat} {gone : List Int} (h : (k : Int) ∉ gone) : lo n gone k = lo n gone (k + 1) := by
  unfold lo
  refine tb_ext fun c _ => ?_
  by_cases hc : (c : Int) ∈ gone ∧ c < k
  · rw [if_pos hc, if_pos ⟨hc.1, by omega⟩]
  · rw [if_neg hc, if_neg (fun e => hc ⟨e.1, by
      rcases Nat.lt_or_ge c k with h1 | h1
      · exact h1
      · obtain rfl : c = k := by omega
        exact absurd e.1 h⟩)]
theorem lo_vf (n : Nat) (gone : List Int) (xss : List (List Int)) : lo n gone n = vf n gone xss 0 := by
  unfold lo vf
  refine tb_ext fun c hc => ?_
  by_cases h : (c : Int) ∈ gone
  · rw [if_pos h, if_pos ⟨h, hc⟩]
  · rw [if_neg h, if_neg (fun e => h e.1), vt_zero]; rfl
theorem lo_len (n : Nat) (gone : List Int) (k : Nat) : (lo n gone k).length = n := tb_len _ _
theorem vf_len (n : Nat) (gone : List Int) (xss : List (List Int)) (i : Nat) : (vf n gone xss i).length = n := tb_len _ _
theorem vf_at {n : Nat} {gone : List Int} {xss : List (List Int)} {i : Nat} {x : Int} (h : x ∈ rest n gone) : (vf n gone xss i).getD x.toNat 0 = (vt (rest n gone) xss i x : Int) := by
  have h1 := mem_rest.1 h
  unfold vf
  rw [tb_get (by omega), show ((x.toNat : Nat) : Int) = x by omega, if_neg h1.2]
theorem vf_gone {n : Nat} {gone : List Int} {xss : List (List Int)} {i c : Nat} (hc : c < n) (h : (c : Int) ∈ gone) : (vf n gone xss i).getD c 0 = -1 := by
  unfold vf
  rw [tb_get hc, if_pos h]
theorem vf_hit {n : Nat} {gone : List Int} {xss : List (List Int)} {i : Nat} {x : Int} (h : i < xss.length) (hx : x ∈ rest n gone) (hf : fI (rest n gone) (xss.getD i []) = x) :
    (vf n gone xss i).set x.toNat ((vf n gone xss i).getD x.toNat 0 + 1) = vf n gone xss (i + 1) := by
  have h1 := mem_rest.1 hx
  rw [vf_at hx]
  unfold vf
  rw [tb_set]
  refine tb_ext fun c _ => ?_
  by_cases hc : c = x.toNat
  · rw [if_pos hc, show ((c : Nat) : Int) = x by omega, if_neg h1.2, vt_next _ h, if_pos hf]; rfl
  · rw [if_neg hc]
    by_cases hg : (c : Int) ∈ gone
    · rw [if_pos hg, if_pos hg]
    · rw [if_neg hg, if_neg hg, vt_next _ h, if_neg (by omega)]; rfl
theorem vf_miss {n : Nat} {gone : List Int} {xss : List (List Int)} {i : Nat} (h : i < xss.length) (hf : fI (rest n gone) (xss.getD i []) = -1) : vf n gone xss i = vf n gone xss (i + 1) := by
  unfold vf
  refine tb_ext fun c _ => ?_
  by_cases hg : (c : Int) ∈ gone
  · rw [if_pos hg, if_pos hg]
  · rw [if_neg hg, if_neg hg, vt_next _ h, if_neg (by omega)]; rfl
theorem fI_hit {n : Nat} {gone b : List Int} {k : Nat} (hk : k < b.length) (h : ∀ j, j < k → b.getD j 0 ∈ gone) (hr : b.getD k 0 ∈ rest n gone) : fI (rest n gone) b = b.getD k 0 := by
  have he : fin (rest n gone) b = k := fin_eq (by omega) (fun j hj hm => (mem_rest.1 hm).2 (h j hj)) fun _ => hr
  unfold fI
  rw [he, if_pos hk]
theorem fI_miss {n : Nat} {gone b : List Int} (h : ∀ j, j < b.length → b.getD j 0 ∈ gone) : fI (rest n gone) b = -1 := by
  have he : fin (rest n gone) b = b.length := fin_eq (Nat.le_refl _) (fun j hj hm => (mem_rest.1 hm).2 (h j hj)) fun hk => absurd hk (Nat.lt_irrefl _)
  unfold fI
  rw [he, if_neg (Nat.lt_irrefl _)]
theorem gone_step {gone b : List Int} {k : Nat} (h : ∀ j, j < k → b.getD j 0 ∈ gone) (hi : b.getD k 0 ∈ gone) : ∀ j, j < k + 1 → b.getD j 0 ∈ gone := fun j hj => by
  rcases Nat.lt_or_ge j k with h1 | h1
  · exact h j h1
  · obtain rfl : j = k := by omega
    exact hi
attribute [local irreducible] vf lo
set_option maxHeartbeats 4000000 in
set_option maxRecDepth 100000 in
theorem firsts_call (n : Int) (xss : List (List Int)) (gone : List Int) (ho : okB n xss) (hg : gone.length ≤ 1048576) : CallA Try.prog G 67 [I n, Rn xss, Ri gone] [] (fun v J => v = .sl 0 1 n.toNat ∧ J = [Di (vf n.toNat gone xss xss.length)]) := by
  refine CallA.ends (callA_of_body hT Try.func67 rfl ?_)
  have hc := ho.1
  have hl := ho.2.1
  repeat' (first | (intro h; first | contradiction | omega | (conv => whnf) | skip) | (refine And.intro ?_ ?_) | (refine arith_ok ⟨by omega, by omega⟩ ?_) | (first | (refine draw_quiet hT mixed (by decide +kernel) ?_) | (refine draw_hard hT mixed (by decide +kernel) ?_)) | fail)
  all_goals first | rfl | omega | skip
  refine loop_rule hT (fun c : Nat => (c : Int) ≤ n) 70 1 [0, 1, 2, 7, 8] (fun c => [I n, Rn xss, Ri gone, .sl 0 1 n.toNat, I c]) (fun c => [Di (lo n.toNat gone c)]) (fun c => n.toNat - c) (0) (Nat.le_of_ble_eq_true rfl) ?_ ?_ ?_
  · omega
  · (first | (refine ⟨rfl, [], ?_, ?_⟩; all_goals (repeat' (first | exact rfl | exact trivial | (with_reducible assumption) | refine And.intro ?_ ?_)); all_goals (first | omega | assumption | ((repeat' (first | exact congrArg (D.ints .i64) (lo_zero _ _) | exact rfl | exact trivial | (with_reducible assumption) | refine And.intro ?_ ?_ | omega | assumption)); done)); done) | (refine ⟨rfl, [some 1], ?_, ?_⟩; all_goals (repeat' (first | exact rfl | exact trivial | (with_reducible assumption) | refine And.intro ?_ ?_)); all_goals (first | omega | assumption | ((repeat' (first | exact congrArg (D.ints .i64) (lo_zero _ _) | exact rfl | exact trivial | (with_reducible assumption) | refine And.intro ?_ ?_ | omega | assumption)); done)); done) | (refine ⟨rfl, [some 2], ?_, ?_⟩; all_goals (repeat' (first | exact rfl | exact trivial | (with_reducible assumption) | refine And.intro ?_ ?_)); all_goals (first | omega | assumption | ((repeat' (first | exact congrArg (D.ints .i64) (lo_zero _ _) | exact rfl | exact trivial | (with_reducible assumption) | refine And.intro ?_ ?_ | omega | assumption)); done)); done) | (refine ⟨rfl, [some 3], ?_, ?_⟩; all_goals (repeat' (first | exact rfl | exact trivial | (with_reducible assumption) | refine And.intro ?_ ?_)); all_goals (first | omega | assumption | ((repeat' (first | exact congrArg (D.ints .i64) (lo_zero _ _) | exact rfl | exact trivial | (with_reducible assumption) | refine And.intro ?_ ?_ | omega | assumption)); done)); done) | (refine ⟨rfl, [some 0], ?_, ?_⟩; all_goals (repeat' (first | exact rfl | exact trivial | (with_reducible assumption) | refine And.intro ?_ ?_)); all_goals (first | omega | assumption | ((repeat' (first | exact congrArg (D.ints .i64) (lo_zero _ _) | exact rfl | exact trivial | (with_reducible assumption) | refine And.intro ?_ ?_ | omega | assumption)); done)); done) | (refine ⟨rfl, [some 4], ?_, ?_⟩; all_goals (repeat' (first | exact rfl | exact trivial | (with_reducible assumption) | refine And.intro ?_ ?_)); all_goals (first | omega | assumption | ((repeat' (first | exact congrArg (D.ints .i64) (lo_zero _ _) | exact rfl | exact trivial | (with_reducible assumption) | refine And.intro ?_ ?_ | omega | assumption)); done)); done) | (refine ⟨rfl, [some 5], ?_, ?_⟩; all_goals (repeat' (first | exact rfl | exact trivial | (with_reducible assumption) | refine And.intro ?_ ?_)); all_goals (first | omega | assumption | ((repeat' (first | exact congrArg (D.ints .i64) (lo_zero _ _) | exact rfl | exact trivial | (with_reducible assumption) | refine And.intro ?_ ?_ | omega | assumption)); done)); done) | (refine ⟨rfl, [some 6], ?_, ?_⟩; all_goals (repeat' (first | exact rfl | exact trivial | (with_reducible assumption) | refine And.intro ?_ ?_)); all_goals (first | omega | assumption | ((repeat' (first | exact congrArg (D.ints .i64) (lo_zero _ _) | exact rfl | exact trivial | (with_reducible assumption) | refine And.intro ?_ ?_ | omega | assumption)); done)); done))
  · rintro c hcn
    have hol := lo_len n.toNat gone c
    by_cases hcc : (c : Int) < n
    · by_cases hm : (c : Int) ∈ gone
      · have hst := lo_in (n := n.toNat) hm
        repeat' (first | (intro h; first | contradiction | omega | (conv => whnf) | skip) | (refine And.intro ?_ ?_) | (refine arith_ok ⟨by omega, by omega⟩ ?_) | (first | (refine draw_quiet hT mixed (by decide +kernel) ?_) | (refine draw_hard hT mixed (by decide +kernel) ?_)) | (refine Ret.goP (l01Has_ret gone c (by omega)) rfl ?_) | (refine Ret.goQP (l01Has_ret gone c (by omega)) rfl ?_))
        all_goals first | omega | exact absurd hm (by assumption) | (show _ < _; omega) | skip
        all_goals first | (refine ⟨c + 1, by omega, ?_, by omega⟩; (first | (refine ⟨rfl, [], ?_, ?_⟩; all_goals (repeat' (first | exact rfl | exact trivial | (with_reducible assumption) | refine And.intro ?_ ?_)); all_goals (first | omega | assumption | ((repeat' (first | exact congrArg (D.ints .i64) hst | exact rfl | exact trivial | (with_reducible assumption) | refine And.intro ?_ ?_ | omega | assumption)); done)); done) | (refine ⟨rfl, [some 1], ?_, ?_⟩; all_goals (repeat' (first | exact rfl | exact trivial | (with_reducible assumption) | refine And.intro ?_ ?_)); all_goals (first | omega | assumption | ((repeat' (first | exact congrArg (D.ints .i64) hst | exact rfl | exact trivial | (with_reducible assumption) | refine And.intro ?_ ?_ | omega | assumption)); done)); done) | (refine ⟨rfl, [some 2], ?_, ?_⟩; all_goals (repeat' (first | exact rfl | exact trivial | (with_reducible assumption) | refine And.intro ?_ ?_)); all_goals (first | omega | assumption | ((repeat' (first | exact congrArg (D.ints .i64) hst | exact rfl | exact trivial | (with_reducible assumption) | refine And.intro ?_ ?_ | omega | assumption)); done)); done) | (refine ⟨rfl, [some 3], ?_, ?_⟩; all_goals (repeat' (first | exact rfl | exact trivial | (with_reducible assumption) | refine And.intro ?_ ?_)); all_goals (first | omega | assumption | ((repeat' (first | exact congrArg (D.ints .i64) hst | exact rfl | exact trivial | (with_reducible assumption) | refine And.intro ?_ ?_ | omega | assumption)); done)); done) | (refine ⟨rfl, [some 0], ?_, ?_⟩; all_goals (repeat' (first | exact rfl | exact trivial | (with_reducible assumption) | refine And.intro ?_ ?_)); all_goals (first | omega | assumption | ((repeat' (first | exact congrArg (D.ints .i64) hst | exact rfl | exact trivial | (with_reducible assumption) | refine And.intro ?_ ?_ | omega | assumption)); done)); done) | (refine ⟨rfl, [some 4], ?_, ?_⟩; all_goals (repeat' (first | exact rfl | exact trivial | (with_reducible assumption) | refine And.intro ?_ ?_)); all_goals (first | omega | assumption | ((repeat' (first | exact congrArg (D.ints .i64) hst | exact rfl | exact trivial | (with_reducible assumption) | refine And.intro ?_ ?_ | omega | assumption)); done)); done) | (refine ⟨rfl, [some 5], ?_, ?_⟩; all_goals (repeat' (first | exact rfl | exact trivial | (with_reducible assumption) | refine And.intro ?_ ?_)); all_goals (first | omega | assumption | ((repeat' (first | exact congrArg (D.ints .i64) hst | exact rfl | exact trivial | (with_reducible assumption) | refine And.intro ?_ ?_ | omega | assumption)); done)); done) | (refine ⟨rfl, [some 6], ?_, ?_⟩; all_goals (repeat' (first | exact rfl | exact trivial | (with_reducible assumption) | refine And.intro ?_ ?_)); all_goals (first | omega | assumption | ((repeat' (first | exact congrArg (D.ints .i64) hst | exact rfl | exact trivial | (with_reducible assumption) | refine And.intro ?_ ?_ | omega | assumption)); done)); done))) | trace_state
      · have hst := lo_out (n := n.toNat) hm
        repeat' (first | (intro h; first | contradiction | omega | (conv => whnf) | skip) | (refine And.intro ?_ ?_) | (refine arith_ok ⟨by omega, by omega⟩ ?_) | (first | (refine draw_quiet hT mixed (by decide +kernel) ?_) | (refine draw_hard hT mixed (by decide +kernel) ?_)) | (refine Ret.goP (l01Has_ret gone c (by omega)) rfl ?_) | (refine Ret.goQP (l01Has_ret gone c (by omega)) rfl ?_))
        all_goals first | omega | exact absurd (by assumption) hm | (show _ < _; omega) | skip
        all_goals first | (refine ⟨c + 1, by omega, ?_, by omega⟩; (first | (refine ⟨rfl, [], ?_, ?_⟩; all_goals (repeat' (first | exact rfl | exact trivial | (with_reducible assumption) | refine And.intro ?_ ?_)); all_goals (first | omega | assumption | ((repeat' (first | exact congrArg (D.ints .i64) hst | exact rfl | exact trivial | (with_reducible assumption) | refine And.intro ?_ ?_ | omega | assumption)); done)); done) | (refine ⟨rfl, [some 1], ?_, ?_⟩; all_goals (repeat' (first | exact rfl | exact trivial | (with_reducible assumption) | refine And.intro ?_ ?_)); all_goals (first | omega | assumption | ((repeat' (first | exact congrArg (D.ints .i64) hst | exact rfl | exact trivial | (with_reducible assumption) | refine And.intro ?_ ?_ | omega | assumption)); done)); done) | (refine ⟨rfl, [some 2], ?_, ?_⟩; all_goals (repeat' (first | exact rfl | exact trivial | (with_reducible assumption) | refine And.intro ?_ ?_)); all_goals (first | omega | assumption | ((repeat' (first | exact congrArg (D.ints .i64) hst | exact rfl | exact trivial | (with_reducible assumption) | refine And.intro ?_ ?_ | omega | assumption)); done)); done) | (refine ⟨rfl, [some 3], ?_, ?_⟩; all_goals (repeat' (first | exact rfl | exact trivial | (with_reducible assumption) | refine And.intro ?_ ?_)); all_goals (first | omega | assumption | ((repeat' (first | exact congrArg (D.ints .i64) hst | exact rfl | exact trivial | (with_reducible assumption) | refine And.intro ?_ ?_ | omega | assumption)); done)); done) | (refine ⟨rfl, [some 0], ?_, ?_⟩; all_goals (repeat' (first | exact rfl | exact trivial | (with_reducible assumption) | refine And.intro ?_ ?_)); all_goals (first | omega | assumption | ((repeat' (first | exact congrArg (D.ints .i64) hst | exact rfl | exact trivial | (with_reducible assumption) | refine And.intro ?_ ?_ | omega | assumption)); done)); done) | (refine ⟨rfl, [some 4], ?_, ?_⟩; all_goals (repeat' (first | exact rfl | exact trivial | (with_reducible assumption) | refine And.intro ?_ ?_)); all_goals (first | omega | assumption | ((repeat' (first | exact congrArg (D.ints .i64) hst | exact rfl | exact trivial | (with_reducible assumption) | refine And.intro ?_ ?_ | omega | assumption)); done)); done) | (refine ⟨rfl, [some 5], ?_, ?_⟩; all_goals (repeat' (first | exact rfl | exact trivial | (with_reducible assumption) | refine And.intro ?_ ?_)); all_goals (first | omega | assumption | ((repeat' (first | exact congrArg (D.ints .i64) hst | exact rfl | exact trivial | (with_reducible assumption) | refine And.intro ?_ ?_ | omega | assumption)); done)); done) | (refine ⟨rfl, [some 6], ?_, ?_⟩; all_goals (repeat' (first | exact rfl | exact trivial | (with_reducible assumption) | refine And.intro ?_ ?_)); all_goals (first | omega | assumption | ((repeat' (first | exact congrArg (D.ints .i64) hst | exact rfl | exact trivial | (with_reducible assumption) | refine And.intro ?_ ?_ | omega | assumption)); done)); done))) | trace_state
    · obtain rfl : c = n.toNat := by omega
      rw [lo_vf n.toNat gone xss]
      repeat' (first | (intro h; first | contradiction | omega | (conv => whnf) | skip) | (refine And.intro ?_ ?_) | (refine arith_ok ⟨by omega, by omega⟩ ?_) | (first | (refine draw_quiet hT mixed (by decide +kernel) ?_) | (refine draw_hard hT mixed (by decide +kernel) ?_)) | fail)
      all_goals first | omega | skip
      refine loop_rule hT (fun i : Nat => i ≤ xss.length) 70 1 [0, 1, 2, 7, 9] (fun i => [I n, Rn xss, Ri gone, .sl 0 1 n.toNat, I i]) (fun i => [Di (vf n.toNat gone xss i)]) (fun i => xss.length - i) (0) (Nat.le_of_ble_eq_true rfl) ?_ ?_ ?_
      · exact Nat.zero_le _
      · (first | (refine ⟨rfl, [], ?_, ?_⟩; all_goals (repeat' (first | exact rfl | exact trivial | (with_reducible assumption) | refine And.intro ?_ ?_)); all_goals (first | omega | assumption); done) | (refine ⟨rfl, [some 1], ?_, ?_⟩; all_goals (repeat' (first | exact rfl | exact trivial | (with_reducible assumption) | refine And.intro ?_ ?_)); all_goals (first | omega | assumption); done) | (refine ⟨rfl, [some 2], ?_, ?_⟩; all_goals (repeat' (first | exact rfl | exact trivial | (with_reducible assumption) | refine And.intro ?_ ?_)); all_goals (first | omega | assumption); done) | (refine ⟨rfl, [some 3], ?_, ?_⟩; all_goals (repeat' (first | exact rfl | exact trivial | (with_reducible assumption) | refine And.intro ?_ ?_)); all_goals (first | omega | assumption); done) | (refine ⟨rfl, [some 0], ?_, ?_⟩; all_goals (repeat' (first | exact rfl | exact trivial | (with_reducible assumption) | refine And.intro ?_ ?_)); all_goals (first | omega | assumption); done) | (refine ⟨rfl, [some 4], ?_, ?_⟩; all_goals (repeat' (first | exact rfl | exact trivial | (with_reducible assumption) | refine And.intro ?_ ?_)); all_goals (first | omega | assumption); done) | (refine ⟨rfl, [some 5], ?_, ?_⟩; all_goals (repeat' (first | exact rfl | exact trivial | (with_reducible assumption) | refine And.intro ?_ ?_)); all_goals (first | omega | assumption); done) | (refine ⟨rfl, [some 6], ?_, ?_⟩; all_goals (repeat' (first | exact rfl | exact trivial | (with_reducible assumption) | refine And.intro ?_ ?_)); all_goals (first | omega | assumption); done))
      · rintro i hi
        by_cases hil : i < xss.length
        · have hrow : ok1 n (xss.getD ((i : Int)).toNat []) := ho.2.2 _ (getD_mem hil)
          have hlb : (xss.getD ((i : Int)).toNat []).length ≤ 12 := ok1_len hc hrow
          have hvl := vf_len n.toNat gone xss i
          repeat' (first | (intro h; first | contradiction | omega | (conv => whnf) | skip) | (refine And.intro ?_ ?_) | (refine arith_ok ⟨by omega, by omega⟩ ?_) | (first | (refine draw_quiet hT mixed (by decide +kernel) ?_) | (refine draw_hard hT mixed (by decide +kernel) ?_)) | fail)
          all_goals first | omega | skip
          refine loop_rule hT (fun k : Nat => k ≤ (xss.getD ((i : Int)).toNat []).length ∧ ∀ j, j < k → (xss.getD ((i : Int)).toNat []).getD j 0 ∈ gone) 70 1 [0, 1, 2, 7, 9, 10] (fun k => [I n, Rn xss, Ri gone, .sl 0 1 n.toNat, I i, I k]) (fun _ => [Di (vf n.toNat gone xss i)]) (fun k => (xss.getD ((i : Int)).toNat []).length - k) (0) (Nat.le_of_ble_eq_true rfl) ?_ ?_ ?_
          · exact ⟨Nat.zero_le _, fun j hj => absurd hj (Nat.not_lt_zero j)⟩
          · (first | (refine ⟨rfl, [], ?_, ?_⟩; all_goals (repeat' (first | exact rfl | exact trivial | (with_reducible assumption) | refine And.intro ?_ ?_)); all_goals (first | omega | assumption); done) | (refine ⟨rfl, [some 1], ?_, ?_⟩; all_goals (repeat' (first | exact rfl | exact trivial | (with_reducible assumption) | refine And.intro ?_ ?_)); all_goals (first | omega | assumption); done) | (refine ⟨rfl, [some 2], ?_, ?_⟩; all_goals (repeat' (first | exact rfl | exact trivial | (with_reducible assumption) | refine And.intro ?_ ?_)); all_goals (first | omega | assumption); done) | (refine ⟨rfl, [some 3], ?_, ?_⟩; all_goals (repeat' (first | exact rfl | exact trivial | (with_reducible assumption) | refine And.intro ?_ ?_)); all_goals (first | omega | assumption); done) | (refine ⟨rfl, [some 0], ?_, ?_⟩; all_goals (repeat' (first | exact rfl | exact trivial | (with_reducible assumption) | refine And.intro ?_ ?_)); all_goals (first | omega | assumption); done) | (refine ⟨rfl, [some 4], ?_, ?_⟩; all_goals (repeat' (first | exact rfl | exact trivial | (with_reducible assumption) | refine And.intro ?_ ?_)); all_goals (first | omega | assumption); done) | (refine ⟨rfl, [some 5], ?_, ?_⟩; all_goals (repeat' (first | exact rfl | exact trivial | (with_reducible assumption) | refine And.intro ?_ ?_)); all_goals (first | omega | assumption); done) | (refine ⟨rfl, [some 6], ?_, ?_⟩; all_goals (repeat' (first | exact rfl | exact trivial | (with_reducible assumption) | refine And.intro ?_ ?_)); all_goals (first | omega | assumption); done))
          · rintro k ⟨hk, hkg⟩
            by_cases hkl : k < (xss.getD ((i : Int)).toNat []).length
            · have hv : 0 ≤ (xss.getD ((i : Int)).toNat []).getD ((k : Int)).toNat 0 ∧ (xss.getD ((i : Int)).toNat []).getD ((k : Int)).toNat 0 ≤ n - 1 := hrow.1 _ (getD_mem hkl)
              by_cases hm : (xss.getD ((i : Int)).toNat []).getD ((k : Int)).toNat 0 ∈ gone
              · repeat' (first | (intro h; first | contradiction | omega | (conv => whnf) | skip) | (refine And.intro ?_ ?_) | (refine arith_ok ⟨by omega, by omega⟩ ?_) | (first | (refine draw_quiet hT mixed (by decide +kernel) ?_) | (refine draw_hard hT mixed (by decide +kernel) ?_)) | (refine Ret.goP (l01Has_ret gone _ (by omega)) rfl ?_) | (refine Ret.goQP (l01Has_ret gone _ (by omega)) rfl ?_))
                all_goals first | omega | exact absurd hm (by assumption) | (show _ < _; omega) | skip
                all_goals first | (refine ⟨k + 1, ⟨by omega, gone_step hkg hm⟩, ?_, by omega⟩; (first | (refine ⟨rfl, [], ?_, ?_⟩; all_goals (repeat' (first | exact rfl | exact trivial | (with_reducible assumption) | refine And.intro ?_ ?_)); all_goals (first | omega | assumption); done) | (refine ⟨rfl, [some 1], ?_, ?_⟩; all_goals (repeat' (first | exact rfl | exact trivial | (with_reducible assumption) | refine And.intro ?_ ?_)); all_goals (first | omega | assumption); done) | (refine ⟨rfl, [some 2], ?_, ?_⟩; all_goals (repeat' (first | exact rfl | exact trivial | (with_reducible assumption) | refine And.intro ?_ ?_)); all_goals (first | omega | assumption); done) | (refine ⟨rfl, [some 3], ?_, ?_⟩; all_goals (repeat' (first | exact rfl | exact trivial | (with_reducible assumption) | refine And.intro ?_ ?_)); all_goals (first | omega | assumption); done) | (refine ⟨rfl, [some 0], ?_, ?_⟩; all_goals (repeat' (first | exact rfl | exact trivial | (with_reducible assumption) | refine And.intro ?_ ?_)); all_goals (first | omega | assumption); done) | (refine ⟨rfl, [some 4], ?_, ?_⟩; all_goals (repeat' (first | exact rfl | exact trivial | (with_reducible assumption) | refine And.intro ?_ ?_)); all_goals (first | omega | assumption); done) | (refine ⟨rfl, [some 5], ?_, ?_⟩; all_goals (repeat' (first | exact rfl | exact trivial | (with_reducible assumption) | refine And.intro ?_ ?_)); all_goals (first | omega | assumption); done) | (refine ⟨rfl, [some 6], ?_, ?_⟩; all_goals (repeat' (first | exact rfl | exact trivial | (with_reducible assumption) | refine And.intro ?_ ?_)); all_goals (first | omega | assumption); done))) | trace_state
              · have hmr : (xss.getD ((i : Int)).toNat []).getD ((k : Int)).toNat 0 ∈ rest n.toNat gone := mem_rest.2 ⟨by omega, hm⟩
                have hfi := fI_hit hkl hkg hmr
                have hst := vf_hit hil hmr hfi
                have hva := vf_at (xss := xss) (i := i) hmr
                have hvb := vt_le (rest n.toNat gone) xss i ((xss.getD ((i : Int)).toNat []).getD ((k : Int)).toNat 0)
                repeat' (first | (intro h; first | contradiction | omega | (conv => whnf) | skip) | (refine And.intro ?_ ?_) | (refine arith_ok ⟨by omega, by omega⟩ ?_) | (first | (refine draw_quiet hT mixed (by decide +kernel) ?_) | (refine draw_hard hT mixed (by decide +kernel) ?_)) | (refine Ret.goP (l01Has_ret gone _ (by omega)) rfl ?_) | (refine Ret.goQP (l01Has_ret gone _ (by omega)) rfl ?_))
                all_goals first | omega | exact absurd (by assumption) hm | (show _ < _; omega) | skip
                all_goals first | (refine ⟨i + 1, by omega, ?_, by omega⟩; (first | (refine ⟨rfl, [], ?_, ?_⟩; all_goals (repeat' (first | exact rfl | exact trivial | (with_reducible assumption) | refine And.intro ?_ ?_)); all_goals (first | omega | assumption | ((repeat' (first | exact congrArg (D.ints .i64) hst | exact rfl | exact trivial | (with_reducible assumption) | refine And.intro ?_ ?_ | omega | assumption)); done)); done) | (refine ⟨rfl, [some 1], ?_, ?_⟩; all_goals (repeat' (first | exact rfl | exact trivial | (with_reducible assumption) | refine And.intro ?_ ?_)); all_goals (first | omega | assumption | ((repeat' (first | exact congrArg (D.ints .i64) hst | exact rfl | exact trivial | (with_reducible assumption) | refine And.intro ?_ ?_ | omega | assumption)); done)); done) | (refine ⟨rfl, [some 2], ?_, ?_⟩; all_goals (repeat' (first | exact rfl | exact trivial | (with_reducible assumption) | refine And.intro ?_ ?_)); all_goals (first | omega | assumption | ((repeat' (first | exact congrArg (D.ints .i64) hst | exact rfl | exact trivial | (with_reducible assumption) | refine And.intro ?_ ?_ | omega | assumption)); done)); done) | (refine ⟨rfl, [some 3], ?_, ?_⟩; all_goals (repeat' (first | exact rfl | exact trivial | (with_reducible assumption) | refine And.intro ?_ ?_)); all_goals (first | omega | assumption | ((repeat' (first | exact congrArg (D.ints .i64) hst | exact rfl | exact trivial | (with_reducible assumption) | refine And.intro ?_ ?_ | omega | assumption)); done)); done) | (refine ⟨rfl, [some 0], ?_, ?_⟩; all_goals (repeat' (first | exact rfl | exact trivial | (with_reducible assumption) | refine And.intro ?_ ?_)); all_goals (first | omega | assumption | ((repeat' (first | exact congrArg (D.ints .i64) hst | exact rfl | exact trivial | (with_reducible assumption) | refine And.intro ?_ ?_ | omega | assumption)); done)); done) | (refine ⟨rfl, [some 4], ?_, ?_⟩; all_goals (repeat' (first | exact rfl | exact trivial | (with_reducible assumption) | refine And.intro ?_ ?_)); all_goals (first | omega | assumption | ((repeat' (first | exact congrArg (D.ints .i64) hst | exact rfl | exact trivial | (with_reducible assumption) | refine And.intro ?_ ?_ | omega | assumption)); done)); done) | (refine ⟨rfl, [some 5], ?_, ?_⟩; all_goals (repeat' (first | exact rfl | exact trivial | (with_reducible assumption) | refine And.intro ?_ ?_)); all_goals (first | omega | assumption | ((repeat' (first | exact congrArg (D.ints .i64) hst | exact rfl | exact trivial | (with_reducible assumption) | refine And.intro ?_ ?_ | omega | assumption)); done)); done) | (refine ⟨rfl, [some 6], ?_, ?_⟩; all_goals (repeat' (first | exact rfl | exact trivial | (with_reducible assumption) | refine And.intro ?_ ?_)); all_goals (first | omega | assumption | ((repeat' (first | exact congrArg (D.ints .i64) hst | exact rfl | exact trivial | (with_reducible assumption) | refine And.intro ?_ ?_ | omega | assumption)); done)); done))) | trace_state
            · obtain rfl : k = (xss.getD ((i : Int)).toNat []).length := by omega
              have hst := vf_miss (n := n.toNat) hil (fI_miss hkg)
              repeat' (first | (intro h; first | contradiction | omega | (conv => whnf) | skip) | (refine And.intro ?_ ?_) | (refine arith_ok ⟨by omega, by omega⟩ ?_) | (first | (refine draw_quiet hT mixed (by decide +kernel) ?_) | (refine draw_hard hT mixed (by decide +kernel) ?_)) | fail)
              all_goals first | omega | skip
              all_goals first | (refine ⟨i + 1, by omega, ?_, by omega⟩; (first | (refine ⟨rfl, [], ?_, ?_⟩; all_goals (repeat' (first | exact rfl | exact trivial | (with_reducible assumption) | refine And.intro ?_ ?_)); all_goals (first | omega | assumption | ((repeat' (first | exact congrArg (D.ints .i64) hst | exact rfl | exact trivial | (with_reducible assumption) | refine And.intro ?_ ?_ | omega | assumption)); done)); done) | (refine ⟨rfl, [some 1], ?_, ?_⟩; all_goals (repeat' (first | exact rfl | exact trivial | (with_reducible assumption) | refine And.intro ?_ ?_)); all_goals (first | omega | assumption | ((repeat' (first | exact congrArg (D.ints .i64) hst | exact rfl | exact trivial | (with_reducible assumption) | refine And.intro ?_ ?_ | omega | assumption)); done)); done) | (refine ⟨rfl, [some 2], ?_, ?_⟩; all_goals (repeat' (first | exact rfl | exact trivial | (with_reducible assumption) | refine And.intro ?_ ?_)); all_goals (first | omega | assumption | ((repeat' (first | exact congrArg (D.ints .i64) hst | exact rfl | exact trivial | (with_reducible assumption) | refine And.intro ?_ ?_ | omega | assumption)); done)); done) | (refine ⟨rfl, [some 3], ?_, ?_⟩; all_goals (repeat' (first | exact rfl | exact trivial | (with_reducible assumption) | refine And.intro ?_ ?_)); all_goals (first | omega | assumption | ((repeat' (first | exact congrArg (D.ints .i64) hst | exact rfl | exact trivial | (with_reducible assumption) | refine And.intro ?_ ?_ | omega | assumption)); done)); done) | (refine ⟨rfl, [some 0], ?_, ?_⟩; all_goals (repeat' (first | exact rfl | exact trivial | (with_reducible assumption) | refine And.intro ?_ ?_)); all_goals (first | omega | assumption | ((repeat' (first | exact congrArg (D.ints .i64) hst | exact rfl | exact trivial | (with_reducible assumption) | refine And.intro ?_ ?_ | omega | assumption)); done)); done) | (refine ⟨rfl, [some 4], ?_, ?_⟩; all_goals (repeat' (first | exact rfl | exact trivial | (with_reducible assumption) | refine And.intro ?_ ?_)); all_goals (first | omega | assumption | ((repeat' (first | exact congrArg (D.ints .i64) hst | exact rfl | exact trivial | (with_reducible assumption) | refine And.intro ?_ ?_ | omega | assumption)); done)); done) | (refine ⟨rfl, [some 5], ?_, ?_⟩; all_goals (repeat' (first | exact rfl | exact trivial | (with_reducible assumption) | refine And.intro ?_ ?_)); all_goals (first | omega | assumption | ((repeat' (first | exact congrArg (D.ints .i64) hst | exact rfl | exact trivial | (with_reducible assumption) | refine And.intro ?_ ?_ | omega | assumption)); done)); done) | (refine ⟨rfl, [some 6], ?_, ?_⟩; all_goals (repeat' (first | exact rfl | exact trivial | (with_reducible assumption) | refine And.intro ?_ ?_)); all_goals (first | omega | assumption | ((repeat' (first | exact congrArg (D.ints .i64) hst | exact rfl | exact trivial | (with_reducible assumption) | refine And.intro ?_ ?_ | omega | assumption)); done)); done))) | trace_state
        · obtain rfl : i = xss.length := by omega
          repeat' (first | (intro h; first | contradiction | omega | (conv => whnf) | skip) | (refine And.intro ?_ ?_) | (refine arith_ok ⟨by omega, by omega⟩ ?_) | (first | (refine draw_quiet hT mixed (by decide +kernel) ?_) | (refine draw_hard hT mixed (by decide +kernel) ?_)) | fail)
          all_goals first | omega | skip
          (first | (refine ⟨[], .sl 0 1 n.toNat, [Di (vf n.toNat gone xss xss.length)], ?_, ?_, ?_⟩; all_goals (repeat' (first | exact rfl | exact trivial | (with_reducible assumption) | refine And.intro ?_ ?_)); all_goals (first | omega | assumption); done) | (refine ⟨[some 1], .sl 0 1 n.toNat, [Di (vf n.toNat gone xss xss.length)], ?_, ?_, ?_⟩; all_goals (repeat' (first | exact rfl | exact trivial | (with_reducible assumption) | refine And.intro ?_ ?_)); all_goals (first | omega | assumption); done) | (refine ⟨[some 0], .sl 0 1 n.toNat, [Di (vf n.toNat gone xss xss.length)], ?_, ?_, ?_⟩; all_goals (repeat' (first | exact rfl | exact trivial | (with_reducible assumption) | refine And.intro ?_ ?_)); all_goals (first | omega | assumption); done) | (refine ⟨[some 2], .sl 0 1 n.toNat, [Di (vf n.toNat gone xss xss.length)], ?_, ?_, ?_⟩; all_goals (repeat' (first | exact rfl | exact trivial | (with_reducible assumption) | refine And.intro ?_ ?_)); all_goals (first | omega | assumption); done) | (refine ⟨[some 3], .sl 0 1 n.toNat, [Di (vf n.toNat gone xss xss.length)], ?_, ?_, ?_⟩; all_goals (repeat' (first | exact rfl | exact trivial | (with_reducible assumption) | refine And.intro ?_ ?_)); all_goals (first | omega | assumption); done) | (refine ⟨[some 4], .sl 0 1 n.toNat, [Di (vf n.toNat gone xss xss.length)], ?_, ?_, ?_⟩; all_goals (repeat' (first | exact rfl | exact trivial | (with_reducible assumption) | refine And.intro ?_ ?_)); all_goals (first | omega | assumption); done) | (refine ⟨[some 5], .sl 0 1 n.toNat, [Di (vf n.toNat gone xss xss.length)], ?_, ?_, ?_⟩; all_goals (repeat' (first | exact rfl | exact trivial | (with_reducible assumption) | refine And.intro ?_ ?_)); all_goals (first | omega | assumption); done))
end Go.Proofs.Ytcdfdigehaipmaa
