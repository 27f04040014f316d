/-
  The text of a register: what the program's function returns; the law. No conditions but those in the statements.
-/
import Derived.Test.YtgpgnhadmckmhaaGreatDoorMte
set_option linter.unusedVariables false
set_option linter.unusedSimpArgs false
namespace Go.Proofs.YtgpgnhadmckmhaaGreatDoor
open Go.AE Go.Lib

attribute [local irreducible] CallA LoopA DrawA CallQ arithK quoK remK eqK
/-- The builder's blocks: fresh, or with what has been written. -/
def bst (x : Option (Nat × Nat)) (l : List UInt8) : List Blk := match x with
  | none => [bldF, .dead]
  | some p => [bldU p.1 p.2 l.length, bldR p.1 p.2 l]
theorem rgx_ne {xss : List (List Int)} (h : 0 < xss.length) : rgx xss ≠ [] := by
  cases xss with
  | nil => cases h
  | cons r q => rw [rgx_cons]; simp
theorem joinM_ret (r : List Int) (h : okI (r.getD 0 0)) : Ret Tryz.prog G 80 [.ro (.strs [B (itoa (r.getD 0 0)), B (mt (r.getD 1 0)), B (mt (r.getD 2 0)), B (mt (r.getD 4 0)), B (lft (r.getD 3 0))]), Sv [32]] (Sv (mtx r)) :=
  join_ret (mws r) [32] (by show 5 ≤ _; omega) (by have := mtx_len h; show (mtx r).length ≤ _; omega)
theorem mln_sv (r : List Int) : Sv (mln r) = .v (.string (B (mtx r) ++ ⟨#[10]⟩)) := by
  unfold mln
  show AV.v (.string (B (mtx r ++ [10]))) = _
  rw [← B_app]
theorem mln_next {xss : List (List Int)} {i : Nat} (h : i < xss.length) : rgx (xss.take i) ++ mln (xss.getD ((i : Int)).toNat []) = rgx (xss.take (i + 1)) := by
  rw [rgx_snoc h, List.append_assoc]; rfl
theorem mln_len {r : List Int} (h : okI (r.getD 0 0)) : 0 < (mln r).length ∧ (mln r).length ≤ 54 := by
  unfold mln
  rw [List.length_append]
  have := mtx_len h
  exact ⟨by show 0 < _ + 1; omega, by show _ + 1 ≤ _; omega⟩
attribute [local irreducible] mt mtx rgx mln bldP rowP_
set_option maxHeartbeats 4000000 in
set_option maxRecDepth 100000 in
theorem implRT_ret (xss : List (List Int)) (ha : isReg xss) : Ret Tryz.prog G 60 [RMember xss] (Sv (rgx xss)) := by
  refine ret_of_body hT Tryz.func60 rfl ?_ rfl
  have h60 := ha.2
  repeat' ((first | (conv => whnf) | skip); (first | ((with_reducible intro h); first | contradiction | omega | (conv => whnf) | skip) | (with_reducible refine And.intro ?_ ?_) | ((with_reducible show arithK _ _ _); refine arith_ok ⟨by omega, by omega⟩ ?_) | ((with_reducible show quoK _ _ _ _); refine quo_ok ⟨by omega, by omega⟩ (by omega) (by omega) ?_) | ((with_reducible show remK _ _ _ _); refine rem_ok (by omega) (by omega) ?_) | ((first | (with_reducible show CallA _ _ _ _ _ _) | (with_reducible show CallQ _ _ _ _ _ _)); first | fail) | ((with_reducible show DrawA _ _ _ _ _ _); first | (refine draw_hard hT mixed (by decide +kernel) ?_))))
  all_goals first | rfl | omega | skip
  (conv => whnf)
  refine loop_rule hT (fun q : Nat × Option (Nat × Nat) => q.1 ≤ xss.length ∧ (q.2.isNone = true ↔ q.1 = 0)) 38 1 [0, 3, 7, 8, 9] (fun q => [RMember xss, .ptr 0 0, RMember xss, I xss.length, I q.1]) (fun q => bst q.2 (rgx (xss.take q.1))) (fun q => xss.length - q.1) ((0, none)) (Nat.le_of_ble_eq_true rfl) ?_ ?_ ?_
  · exact ⟨Nat.zero_le _, by simp⟩
  · first | (refine ⟨rfl, [none], ?_, ?_⟩; all_goals (repeat' (first | exact rfl | exact trivial | (with_reducible assumption) | refine And.intro ?_ ?_)); all_goals (first | omega | assumption); done) | trace_state
  · rintro ⟨i, x⟩ ⟨h1, h2⟩
    dsimp only at h1 h2 ⊢
    have hl := rgx_len (xss := xss) (fun r hr => rowR_ok (rowR_of ha hr)) i h1
    by_cases hi : i < xss.length
    · have hrow : rowR (xss.getD ((i : Int)).toNat []) := rowR_of ha (getD_mem (d := ([] : List Int)) hi)
      have hok := rowR_ok hrow
      obtain ⟨m1, m2, m3, m4⟩ := rowR_mon hrow
      have hd := decimal_ret ((xss.getD ((i : Int)).toNat []).getD 0 0) (by unfold okI at hok; omega)
      have t1 := monthText_ret _ m1
      have t2 := monthText_ret _ m2
      have t3 := monthText_ret _ m3
      have hj := joinM_ret (xss.getD ((i : Int)).toNat []) hok
      have hml := mtx_len hok
      have hmz := B_size (mtx (xss.getD ((i : Int)).toNat []))
      have hnl := mln_len hok
      have hnx := mln_next hi
      rcases x with _ | ⟨g, c⟩
      · have i0 : i = 0 := h2.1 rfl
        have hw := writeString_new (mln (xss.getD ((i : Int)).toNat [])) hnl.1 (by omega)
        have e0 : mln (xss.getD ((i : Int)).toNat []) = rgx (xss.take (i + 1)) := by rw [← hnx, i0, List.take_zero, rgx_nil]; rfl
        rw [mln_sv, e0] at hw
        by_cases hn : (xss.getD ((i : Int)).toNat []).getD 3 0 = -1
        · rw [show lft ((xss.getD ((i : Int)).toNat []).getD 3 0) = [45] from by unfold lft; rw [if_pos hn]] at hj
          repeat' ((first | (conv => whnf) | skip); (first | ((with_reducible intro h); first | contradiction | omega | (conv => whnf) | skip) | (with_reducible refine And.intro ?_ ?_) | ((with_reducible show arithK _ _ _); refine arith_ok ⟨by omega, by omega⟩ ?_) | ((with_reducible show quoK _ _ _ _); refine quo_ok ⟨by omega, by omega⟩ (by omega) (by omega) ?_) | ((with_reducible show remK _ _ _ _); refine rem_ok (by omega) (by omega) ?_) | ((first | (with_reducible show CallA _ _ _ _ _ _) | (with_reducible show CallQ _ _ _ _ _ _)); first | (refine Ret.go (hd) rfl rfl ?_) | (refine Ret.goQ (hd) rfl rfl ?_) | (refine Ret.go (t1) rfl rfl ?_) | (refine Ret.goQ (t1) rfl rfl ?_) | (refine Ret.go (t2) rfl rfl ?_) | (refine Ret.goQ (t2) rfl rfl ?_) | (refine Ret.go (t3) rfl rfl ?_) | (refine Ret.goQ (t3) rfl rfl ?_) | (refine Ret.use (hj) (by first | ((repeat' (first | exact rfl | exact trivial | (with_reducible assumption) | refine And.intro ?_ ?_ | omega | assumption)); done) | fail) ?_) | (refine Ret.useQ (hj) (by first | ((repeat' (first | exact rfl | exact trivial | (with_reducible assumption) | refine And.intro ?_ ?_ | omega | assumption)); done) | fail) rfl ?_) | (refine CallA.goE3 false [0] (hw) rfl (by first | ((repeat' (first | exact rfl | exact trivial | (with_reducible assumption) | refine And.intro ?_ ?_ | omega | assumption)); done) | fail) (by first | ((repeat' (first | exact rfl | exact trivial | (with_reducible assumption) | refine And.intro ?_ ?_ | omega | assumption)); done) | fail) ?_; rintro ⟨g', c'⟩ a' b' ⟨ha', hb'⟩; (first | (conv => whnf) | skip))) | ((with_reducible show DrawA _ _ _ _ _ _); first | (refine draw_hard hT mixed (by decide +kernel) ?_))))
          all_goals first | rfl | omega | contradiction | (show _ < xss.length; omega) | (show (B (mtx (xss.getD ((i : Int)).toNat []))).size + 1 ≤ _; omega) | skip
          all_goals ((conv => whnf); first | (refine ⟨(i + 1, some (g', c')), ⟨by dsimp only; omega, by simp⟩, ?_, by dsimp only; omega⟩; first | (refine ⟨rfl, [some 4], ?_, ?_⟩; all_goals (repeat' (first | exact rfl | exact trivial | (with_reducible assumption) | refine And.intro ?_ ?_)); all_goals (first | omega | assumption); done) | trace_state) | trace_state)
        · have t4 := monthText_ret ((xss.getD ((i : Int)).toNat []).getD 3 0) (by rcases m4 with h | h; exact absurd h hn; exact h)
          rw [show lft ((xss.getD ((i : Int)).toNat []).getD 3 0) = mt ((xss.getD ((i : Int)).toNat []).getD 3 0) from by unfold lft; rw [if_neg hn]] at hj
          repeat' ((first | (conv => whnf) | skip); (first | ((with_reducible intro h); first | contradiction | omega | (conv => whnf) | skip) | (with_reducible refine And.intro ?_ ?_) | ((with_reducible show arithK _ _ _); refine arith_ok ⟨by omega, by omega⟩ ?_) | ((with_reducible show quoK _ _ _ _); refine quo_ok ⟨by omega, by omega⟩ (by omega) (by omega) ?_) | ((with_reducible show remK _ _ _ _); refine rem_ok (by omega) (by omega) ?_) | ((first | (with_reducible show CallA _ _ _ _ _ _) | (with_reducible show CallQ _ _ _ _ _ _)); first | (refine Ret.go (hd) rfl rfl ?_) | (refine Ret.goQ (hd) rfl rfl ?_) | (refine Ret.go (t1) rfl rfl ?_) | (refine Ret.goQ (t1) rfl rfl ?_) | (refine Ret.go (t2) rfl rfl ?_) | (refine Ret.goQ (t2) rfl rfl ?_) | (refine Ret.go (t3) rfl rfl ?_) | (refine Ret.goQ (t3) rfl rfl ?_) | (refine Ret.go (t4) rfl rfl ?_) | (refine Ret.goQ (t4) rfl rfl ?_) | (refine Ret.use (hj) (by first | ((repeat' (first | exact rfl | exact trivial | (with_reducible assumption) | refine And.intro ?_ ?_ | omega | assumption)); done) | fail) ?_) | (refine Ret.useQ (hj) (by first | ((repeat' (first | exact rfl | exact trivial | (with_reducible assumption) | refine And.intro ?_ ?_ | omega | assumption)); done) | fail) rfl ?_) | (refine CallA.goE3 false [0] (hw) rfl (by first | ((repeat' (first | exact rfl | exact trivial | (with_reducible assumption) | refine And.intro ?_ ?_ | omega | assumption)); done) | fail) (by first | ((repeat' (first | exact rfl | exact trivial | (with_reducible assumption) | refine And.intro ?_ ?_ | omega | assumption)); done) | fail) ?_; rintro ⟨g', c'⟩ a' b' ⟨ha', hb'⟩; (first | (conv => whnf) | skip))) | ((with_reducible show DrawA _ _ _ _ _ _); first | (refine draw_hard hT mixed (by decide +kernel) ?_))))
          all_goals first | rfl | omega | contradiction | (show _ < xss.length; omega) | (show (B (mtx (xss.getD ((i : Int)).toNat []))).size + 1 ≤ _; omega) | skip
          all_goals ((conv => whnf); first | (refine ⟨(i + 1, some (g', c')), ⟨by dsimp only; omega, by simp⟩, ?_, by dsimp only; omega⟩; first | (refine ⟨rfl, [some 4], ?_, ?_⟩; all_goals (repeat' (first | exact rfl | exact trivial | (with_reducible assumption) | refine And.intro ?_ ?_)); all_goals (first | omega | assumption); done) | trace_state) | trace_state)
      · have hw := writeString_more g c (rgx (xss.take i)) (mln (xss.getD ((i : Int)).toNat [])) (by omega)
        rw [hnx, mln_sv] at hw
        by_cases hn : (xss.getD ((i : Int)).toNat []).getD 3 0 = -1
        · rw [show lft ((xss.getD ((i : Int)).toNat []).getD 3 0) = [45] from by unfold lft; rw [if_pos hn]] at hj
          repeat' ((first | (conv => whnf) | skip); (first | ((with_reducible intro h); first | contradiction | omega | (conv => whnf) | skip) | (with_reducible refine And.intro ?_ ?_) | ((with_reducible show arithK _ _ _); refine arith_ok ⟨by omega, by omega⟩ ?_) | ((with_reducible show quoK _ _ _ _); refine quo_ok ⟨by omega, by omega⟩ (by omega) (by omega) ?_) | ((with_reducible show remK _ _ _ _); refine rem_ok (by omega) (by omega) ?_) | ((first | (with_reducible show CallA _ _ _ _ _ _) | (with_reducible show CallQ _ _ _ _ _ _)); first | (refine Ret.go (hd) rfl rfl ?_) | (refine Ret.goQ (hd) rfl rfl ?_) | (refine Ret.go (t1) rfl rfl ?_) | (refine Ret.goQ (t1) rfl rfl ?_) | (refine Ret.go (t2) rfl rfl ?_) | (refine Ret.goQ (t2) rfl rfl ?_) | (refine Ret.go (t3) rfl rfl ?_) | (refine Ret.goQ (t3) rfl rfl ?_) | (refine Ret.use (hj) (by first | ((repeat' (first | exact rfl | exact trivial | (with_reducible assumption) | refine And.intro ?_ ?_ | omega | assumption)); done) | fail) ?_) | (refine Ret.useQ (hj) (by first | ((repeat' (first | exact rfl | exact trivial | (with_reducible assumption) | refine And.intro ?_ ?_ | omega | assumption)); done) | fail) rfl ?_) | (refine CallA.goE3 false [0, 1] (hw) rfl (by first | ((repeat' (first | exact rfl | exact trivial | (with_reducible assumption) | refine And.intro ?_ ?_ | omega | assumption)); done) | fail) (by first | ((repeat' (first | exact rfl | exact trivial | (with_reducible assumption) | refine And.intro ?_ ?_ | omega | assumption)); done) | fail) ?_; rintro ⟨g', c'⟩ a' b' ⟨ha', hb'⟩; (first | (conv => whnf) | skip))) | ((with_reducible show DrawA _ _ _ _ _ _); first | (refine draw_hard hT mixed (by decide +kernel) ?_))))
          all_goals first | rfl | omega | contradiction | (show _ < xss.length; omega) | (show (B (mtx (xss.getD ((i : Int)).toNat []))).size + 1 ≤ _; omega) | skip
          all_goals ((conv => whnf); first | (refine ⟨(i + 1, some (g', c')), ⟨by dsimp only; omega, by simp⟩, ?_, by dsimp only; omega⟩; first | (refine ⟨rfl, [some 4], ?_, ?_⟩; all_goals (repeat' (first | exact rfl | exact trivial | (with_reducible assumption) | refine And.intro ?_ ?_)); all_goals (first | omega | assumption); done) | trace_state) | trace_state)
        · have t4 := monthText_ret ((xss.getD ((i : Int)).toNat []).getD 3 0) (by rcases m4 with h | h; exact absurd h hn; exact h)
          rw [show lft ((xss.getD ((i : Int)).toNat []).getD 3 0) = mt ((xss.getD ((i : Int)).toNat []).getD 3 0) from by unfold lft; rw [if_neg hn]] at hj
          repeat' ((first | (conv => whnf) | skip); (first | ((with_reducible intro h); first | contradiction | omega | (conv => whnf) | skip) | (with_reducible refine And.intro ?_ ?_) | ((with_reducible show arithK _ _ _); refine arith_ok ⟨by omega, by omega⟩ ?_) | ((with_reducible show quoK _ _ _ _); refine quo_ok ⟨by omega, by omega⟩ (by omega) (by omega) ?_) | ((with_reducible show remK _ _ _ _); refine rem_ok (by omega) (by omega) ?_) | ((first | (with_reducible show CallA _ _ _ _ _ _) | (with_reducible show CallQ _ _ _ _ _ _)); first | (refine Ret.go (hd) rfl rfl ?_) | (refine Ret.goQ (hd) rfl rfl ?_) | (refine Ret.go (t1) rfl rfl ?_) | (refine Ret.goQ (t1) rfl rfl ?_) | (refine Ret.go (t2) rfl rfl ?_) | (refine Ret.goQ (t2) rfl rfl ?_) | (refine Ret.go (t3) rfl rfl ?_) | (refine Ret.goQ (t3) rfl rfl ?_) | (refine Ret.go (t4) rfl rfl ?_) | (refine Ret.goQ (t4) rfl rfl ?_) | (refine Ret.use (hj) (by first | ((repeat' (first | exact rfl | exact trivial | (with_reducible assumption) | refine And.intro ?_ ?_ | omega | assumption)); done) | fail) ?_) | (refine Ret.useQ (hj) (by first | ((repeat' (first | exact rfl | exact trivial | (with_reducible assumption) | refine And.intro ?_ ?_ | omega | assumption)); done) | fail) rfl ?_) | (refine CallA.goE3 false [0, 1] (hw) rfl (by first | ((repeat' (first | exact rfl | exact trivial | (with_reducible assumption) | refine And.intro ?_ ?_ | omega | assumption)); done) | fail) (by first | ((repeat' (first | exact rfl | exact trivial | (with_reducible assumption) | refine And.intro ?_ ?_ | omega | assumption)); done) | fail) ?_; rintro ⟨g', c'⟩ a' b' ⟨ha', hb'⟩; (first | (conv => whnf) | skip))) | ((with_reducible show DrawA _ _ _ _ _ _); first | (refine draw_hard hT mixed (by decide +kernel) ?_))))
          all_goals first | rfl | omega | contradiction | (show _ < xss.length; omega) | (show (B (mtx (xss.getD ((i : Int)).toNat []))).size + 1 ≤ _; omega) | skip
          all_goals ((conv => whnf); first | (refine ⟨(i + 1, some (g', c')), ⟨by dsimp only; omega, by simp⟩, ?_, by dsimp only; omega⟩; first | (refine ⟨rfl, [some 4], ?_, ?_⟩; all_goals (repeat' (first | exact rfl | exact trivial | (with_reducible assumption) | refine And.intro ?_ ?_)); all_goals (first | omega | assumption); done) | trace_state) | trace_state)
    · obtain rfl : i = xss.length := by omega
      rw [take_all (Nat.le_refl _)]
      rcases x with _ | ⟨g, c⟩
      · have i0 : xss.length = 0 := h2.1 rfl
        have e0 : rgx xss = [] := by rw [List.eq_nil_of_length_eq_zero i0, rgx_nil]
        rw [e0]
        repeat' ((first | (conv => whnf) | skip); (first | ((with_reducible intro h); first | contradiction | omega | (conv => whnf) | skip) | (with_reducible refine And.intro ?_ ?_) | ((with_reducible show arithK _ _ _); refine arith_ok ⟨by omega, by omega⟩ ?_) | ((with_reducible show quoK _ _ _ _); refine quo_ok ⟨by omega, by omega⟩ (by omega) (by omega) ?_) | ((with_reducible show remK _ _ _ _); refine rem_ok (by omega) (by omega) ?_) | ((first | (with_reducible show CallA _ _ _ _ _ _) | (with_reducible show CallQ _ _ _ _ _ _)); first | (refine CallA.go [0] (string_new) rfl (by first | ((repeat' (first | exact rfl | exact trivial | (with_reducible assumption) | refine And.intro ?_ ?_ | omega | assumption)); done) | fail) (by first | ((repeat' (first | exact rfl | exact trivial | (with_reducible assumption) | refine And.intro ?_ ?_ | omega | assumption)); done) | fail) ?_)) | ((with_reducible show DrawA _ _ _ _ _ _); first | (refine draw_hard hT mixed (by decide +kernel) ?_))))
        all_goals first | rfl | omega | trace_state
      · have hne := rgx_ne (xss := xss) (by have : ¬ xss.length = 0 := fun e => (by have := h2.2 e; cases this); omega)
        repeat' ((first | (conv => whnf) | skip); (first | ((with_reducible intro h); first | contradiction | omega | (conv => whnf) | skip) | (with_reducible refine And.intro ?_ ?_) | ((with_reducible show arithK _ _ _); refine arith_ok ⟨by omega, by omega⟩ ?_) | ((with_reducible show quoK _ _ _ _); refine quo_ok ⟨by omega, by omega⟩ (by omega) (by omega) ?_) | ((with_reducible show remK _ _ _ _); refine rem_ok (by omega) (by omega) ?_) | ((first | (with_reducible show CallA _ _ _ _ _ _) | (with_reducible show CallQ _ _ _ _ _ _)); first | (refine CallA.go [0, 1] (string_more g c (rgx xss) hne) rfl (by first | ((repeat' (first | exact rfl | exact trivial | (with_reducible assumption) | refine And.intro ?_ ?_ | omega | assumption)); done) | fail) (by first | ((repeat' (first | exact rfl | exact trivial | (with_reducible assumption) | refine And.intro ?_ ?_ | omega | assumption)); done) | fail) ?_)) | ((with_reducible show DrawA _ _ _ _ _ _); first | (refine draw_hard hT mixed (by decide +kernel) ?_))))
        all_goals first | rfl | omega | trace_state
end Go.Proofs.YtgpgnhadmckmhaaGreatDoor
