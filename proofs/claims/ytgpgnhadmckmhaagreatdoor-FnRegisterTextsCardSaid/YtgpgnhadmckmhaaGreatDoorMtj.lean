/-
  A member's line read by the program: what the function returns. No conditions but those in the statements.
-/
import Derived.Test.YtgpgnhadmckmhaaGreatDoorMtc
import Derived.Test.YtgpgnhadmckmhaaGreatDoorStp
set_option linter.unusedVariables false
set_option linter.unusedSimpArgs false
namespace Go.Proofs.YtgpgnhadmckmhaaGreatDoor
open Go.AE Go.Lib

attribute [local irreducible] CallA LoopA DrawA CallQ arithK quoK remK eqK
theorem readDecimal_ret (w : List UInt8) (hw : w.length ≤ 1048576) : Ret Tryz.prog G2 83 [Sv w] (.tup [I (dcV w), Bo (dcB w)]) := by
  by_cases hg : ∃ n, rg n ∧ w = itoa n
  · obtain ⟨n, h1, h2⟩ := hg
    obtain ⟨e1, e2⟩ := dc_yes h1 h2
    rw [e1, e2, h2]
    exact readDecimal_yes n h1.1 h1.2
  · obtain ⟨e1, e2⟩ := dc_no fun n h1 h2 => hg ⟨n, h1, h2⟩
    rw [e1, e2]
    exact readDecimal_no w hw fun n h0 h9 he => hg ⟨n, ⟨h0, h9⟩, he⟩
/-- The member's cells, and whether all is fine, after so many rounds. -/
def mcl (a b c d e : Int) : Nat → List AV
  | 0 => [I a, I 0, I 0, I (-1), I 0]
  | 1 => [I a, I b, I 0, I (-1), I 0]
  | 2 => [I a, I b, I c, I (-1), I 0]
  | 3 => [I a, I b, I c, I (-1), I e]
  | _ => [I a, I b, I c, I d, I e]
def okl (p q r s t : Bool) : Nat → Bool
  | 0 => p
  | 1 => p && q
  | 2 => p && (q && r)
  | 3 => p && (q && (r && s))
  | _ => p && (q && (r && (s && t)))
set_option maxHeartbeats 4000000 in
set_option maxRecDepth 100000 in
theorem readMember_ret (l : List UInt8) (hn : l.length ≤ 1048576) : Ret Tryz.prog G2 63 [Sv l] (.tup [WMember (rowP l), Bo (okP l)]) := by
  refine ret_of_body hT Tryz.func63 rfl ?_ rfl
  have hps := sp_short (c := 32) hn
  have hsc := (split_call l 32 (by omega)).weak G_G2
  unfold rowP okP
  generalize sp 32 l = ws at *
  by_cases h5 : ws.length = 5
  · obtain ⟨w0, w1, w2, w3, w4, rfl⟩ : ∃ w0 w1 w2 w3 w4, ws = [w0, w1, w2, w3, w4] := by
      match ws, h5 with
      | [w0, w1, w2, w3, w4], _ => exact ⟨_, _, _, _, _, rfl⟩
    have k0 := hps w0 (by simp)
    have k1 := hps w1 (by simp)
    have k2 := hps w2 (by simp)
    have k3 := hps w3 (by simp)
    have k4 := hps w4 (by simp)
    have hd := readDecimal_ret w0 k0
    rw [if_pos h5]
    have e0 : ([w0, w1, w2, w3, w4] : List (List UInt8)).getD 0 [] = w0 := rfl
    have e1 : ([w0, w1, w2, w3, w4] : List (List UInt8)).getD 1 [] = w1 := rfl
    have e2 : ([w0, w1, w2, w3, w4] : List (List UInt8)).getD 2 [] = w2 := rfl
    have e3 : ([w0, w1, w2, w3, w4] : List (List UInt8)).getD 3 [] = w3 := rfl
    have e4 : ([w0, w1, w2, w3, w4] : List (List UInt8)).getD 4 [] = w4 := rfl
    rw [e0, e1, e2, e3, e4, decide_eq_true h5, Bool.true_and]
    repeat' ((first | (conv => whnf) | skip); (first | ((with_reducible intro h); first | contradiction | omega | (conv => whnf) | skip) | (with_reducible refine And.intro ?_ ?_) | ((with_reducible show arithK _ _ _); refine arith_ok ⟨by omega, by omega⟩ ?_) | ((with_reducible show quoK _ _ _ _); refine quo_ok ⟨by omega, by omega⟩ (by omega) (by omega) ?_) | ((with_reducible show remK _ _ _ _); refine rem_ok (by omega) (by omega) ?_) | ((first | (with_reducible show CallA _ _ _ _ _ _) | (with_reducible show CallQ _ _ _ _ _ _)); first | (refine CallA.go [] (hsc) rfl (by first | ((repeat' (first | exact rfl | exact trivial | (with_reducible assumption) | refine And.intro ?_ ?_ | omega | assumption)); done) | fail) trivial ?_) | (refine Ret.go (hd) rfl rfl ?_) | (refine Ret.goQ (hd) rfl rfl ?_)) | ((with_reducible show DrawA _ _ _ _ _ _); first | (refine draw_hard hT mixed (by decide +kernel) ?_))))
    all_goals first | rfl | omega | contradiction | skip
    (conv => whnf)
    refine loop_rule hT (fun q : Nat × Bool => q.1 ≤ 4 ∧ q.2 = okl (dcB w0) (rmB w1) (rmB w2) (rmB w3) (lfB w4) q.1) 65 4 [2, 4, 6, 7, 31, 32, 33] (fun q => [.ptr 0 0, .sl 1 1 5, Bo q.2, .ptr 2 0, .sl 3 1 4, I 4, I q.1]) (fun q => [.cells [I 0, I 0, I 0, I 0, I 0], .data (.strs [B w0, B w1, B w2, B w3, B w4]), .cells (mcl (dcV w0) (rmN w1) (rmN w2) (lfV w4) (rmN w3) q.1), .cells [.ptr 2 1, .ptr 2 2, .ptr 2 4, .ptr 2 3]]) (fun q => 4 - q.1) ((0, dcB w0)) (Nat.le_of_ble_eq_true rfl) ?_ ?_ ?_
    · exact ⟨Nat.zero_le _, rfl⟩
    · first | (refine ⟨rfl, [], ?_, ?_⟩; all_goals (repeat' (first | exact rfl | exact trivial | (with_reducible assumption) | refine And.intro ?_ ?_)); all_goals (first | omega | assumption); done) | trace_state
    · rintro ⟨i, ok⟩ ⟨h1, h2⟩
      dsimp only at h1 h2 ⊢
      rcases (show i = 0 ∨ i = 1 ∨ i = 2 ∨ i = 3 ∨ i = 4 by omega) with rfl | rfl | rfl | rfl | rfl
      · skip
        have hrm := readMonth_ret w1 (by omega)
        obtain ⟨fb, hfb⟩ : ∃ fb, fb = rmB w1 := ⟨_, rfl⟩
        rw [← hfb] at hrm
        cases ok <;> cases fb
        all_goals (repeat' ((first | (conv => whnf) | skip); (first | ((with_reducible intro h); first | contradiction | omega | (conv => whnf) | skip) | (with_reducible refine And.intro ?_ ?_) | ((with_reducible show arithK _ _ _); refine arith_ok ⟨by omega, by omega⟩ ?_) | ((with_reducible show quoK _ _ _ _); refine quo_ok ⟨by omega, by omega⟩ (by omega) (by omega) ?_) | ((with_reducible show remK _ _ _ _); refine rem_ok (by omega) (by omega) ?_) | ((first | (with_reducible show CallA _ _ _ _ _ _) | (with_reducible show CallQ _ _ _ _ _ _)); first | (refine Ret.go (hrm) rfl rfl ?_) | (refine Ret.goQ (hrm) rfl rfl ?_)) | ((with_reducible show DrawA _ _ _ _ _ _); first | (refine draw_hard hT mixed (by decide +kernel) ?_)))))
        all_goals first | rfl | omega | contradiction | exact Nat.le_of_ble_eq_true rfl | skip
        all_goals ((conv => whnf); first | (refine ⟨(1, true), ⟨by dsimp only; omega, by dsimp only; simp only [okl] at h2 ⊢; rw [← h2, ← hfb]; rfl⟩, ?_, by dsimp only; omega⟩; (refine ⟨rfl, [], ?_, ?_⟩; all_goals (repeat' (first | exact rfl | exact trivial | (with_reducible assumption) | refine And.intro ?_ ?_)); all_goals (first | omega | assumption); done)) | (refine ⟨(1, false), ⟨by dsimp only; omega, by dsimp only; simp only [okl] at h2 ⊢; rw [← h2, ← hfb]; rfl⟩, ?_, by dsimp only; omega⟩; (refine ⟨rfl, [], ?_, ?_⟩; all_goals (repeat' (first | exact rfl | exact trivial | (with_reducible assumption) | refine And.intro ?_ ?_)); all_goals (first | omega | assumption); done)) | trace_state)
      · skip
        have hrm := readMonth_ret w2 (by omega)
        obtain ⟨fb, hfb⟩ : ∃ fb, fb = rmB w2 := ⟨_, rfl⟩
        rw [← hfb] at hrm
        cases ok <;> cases fb
        all_goals (repeat' ((first | (conv => whnf) | skip); (first | ((with_reducible intro h); first | contradiction | omega | (conv => whnf) | skip) | (with_reducible refine And.intro ?_ ?_) | ((with_reducible show arithK _ _ _); refine arith_ok ⟨by omega, by omega⟩ ?_) | ((with_reducible show quoK _ _ _ _); refine quo_ok ⟨by omega, by omega⟩ (by omega) (by omega) ?_) | ((with_reducible show remK _ _ _ _); refine rem_ok (by omega) (by omega) ?_) | ((first | (with_reducible show CallA _ _ _ _ _ _) | (with_reducible show CallQ _ _ _ _ _ _)); first | (refine Ret.go (hrm) rfl rfl ?_) | (refine Ret.goQ (hrm) rfl rfl ?_)) | ((with_reducible show DrawA _ _ _ _ _ _); first | (refine draw_hard hT mixed (by decide +kernel) ?_)))))
        all_goals first | rfl | omega | contradiction | exact Nat.le_of_ble_eq_true rfl | skip
        all_goals ((conv => whnf); first | (refine ⟨(2, true), ⟨by dsimp only; omega, by dsimp only; simp only [okl, ← Bool.and_assoc] at h2 ⊢; rw [← h2, ← hfb]; rfl⟩, ?_, by dsimp only; omega⟩; (refine ⟨rfl, [], ?_, ?_⟩; all_goals (repeat' (first | exact rfl | exact trivial | (with_reducible assumption) | refine And.intro ?_ ?_)); all_goals (first | omega | assumption); done)) | (refine ⟨(2, false), ⟨by dsimp only; omega, by dsimp only; simp only [okl, ← Bool.and_assoc] at h2 ⊢; rw [← h2, ← hfb]; rfl⟩, ?_, by dsimp only; omega⟩; (refine ⟨rfl, [], ?_, ?_⟩; all_goals (repeat' (first | exact rfl | exact trivial | (with_reducible assumption) | refine And.intro ?_ ?_)); all_goals (first | omega | assumption); done)) | trace_state)
      · skip
        have hrm := readMonth_ret w3 (by omega)
        obtain ⟨fb, hfb⟩ : ∃ fb, fb = rmB w3 := ⟨_, rfl⟩
        rw [← hfb] at hrm
        cases ok <;> cases fb
        all_goals (repeat' ((first | (conv => whnf) | skip); (first | ((with_reducible intro h); first | contradiction | omega | (conv => whnf) | skip) | (with_reducible refine And.intro ?_ ?_) | ((with_reducible show arithK _ _ _); refine arith_ok ⟨by omega, by omega⟩ ?_) | ((with_reducible show quoK _ _ _ _); refine quo_ok ⟨by omega, by omega⟩ (by omega) (by omega) ?_) | ((with_reducible show remK _ _ _ _); refine rem_ok (by omega) (by omega) ?_) | ((first | (with_reducible show CallA _ _ _ _ _ _) | (with_reducible show CallQ _ _ _ _ _ _)); first | (refine Ret.go (hrm) rfl rfl ?_) | (refine Ret.goQ (hrm) rfl rfl ?_)) | ((with_reducible show DrawA _ _ _ _ _ _); first | (refine draw_hard hT mixed (by decide +kernel) ?_)))))
        all_goals first | rfl | omega | contradiction | exact Nat.le_of_ble_eq_true rfl | skip
        all_goals ((conv => whnf); first | (refine ⟨(3, true), ⟨by dsimp only; omega, by dsimp only; simp only [okl, ← Bool.and_assoc] at h2 ⊢; rw [← h2, ← hfb]; rfl⟩, ?_, by dsimp only; omega⟩; (refine ⟨rfl, [], ?_, ?_⟩; all_goals (repeat' (first | exact rfl | exact trivial | (with_reducible assumption) | refine And.intro ?_ ?_)); all_goals (first | omega | assumption); done)) | (refine ⟨(3, false), ⟨by dsimp only; omega, by dsimp only; simp only [okl, ← Bool.and_assoc] at h2 ⊢; rw [← h2, ← hfb]; rfl⟩, ?_, by dsimp only; omega⟩; (refine ⟨rfl, [], ?_, ?_⟩; all_goals (repeat' (first | exact rfl | exact trivial | (with_reducible assumption) | refine And.intro ?_ ?_)); all_goals (first | omega | assumption); done)) | trace_state)
      · by_cases h45 : w4 = [45]
        · have hE : B w4 = (⟨#[45]⟩ : ByteArray) := by rw [h45]
          have hlv : lfV w4 = -1 := if_pos h45
          have hfb : true = lfB w4 := (if_pos h45).symm
          cases ok
          all_goals (repeat' ((first | (conv => whnf) | skip); (first | ((with_reducible intro h); first | contradiction | omega | (conv => whnf) | skip) | (with_reducible refine And.intro ?_ ?_) | ((with_reducible show arithK _ _ _); refine arith_ok ⟨by omega, by omega⟩ ?_) | ((with_reducible show quoK _ _ _ _); refine quo_ok ⟨by omega, by omega⟩ (by omega) (by omega) ?_) | ((with_reducible show remK _ _ _ _); refine rem_ok (by omega) (by omega) ?_) | ((first | (with_reducible show CallA _ _ _ _ _ _) | (with_reducible show CallQ _ _ _ _ _ _)); first | fail) | ((with_reducible show DrawA _ _ _ _ _ _); first | (refine draw_hard hT mixed (by decide +kernel) ?_)))))
          all_goals first | rfl | omega | contradiction | exact Nat.le_of_ble_eq_true rfl | skip
          all_goals ((conv => whnf); first | (refine ⟨(4, true), ⟨by dsimp only; omega, by dsimp only; simp only [okl, ← Bool.and_assoc] at h2 ⊢; rw [← h2, ← hfb]; rfl⟩, ?_, by dsimp only; omega⟩; (refine ⟨rfl, [], ?_, ?_⟩; all_goals (repeat' (first | exact rfl | exact trivial | (with_reducible assumption) | refine And.intro ?_ ?_)); all_goals (first | omega | assumption); done)) | (refine ⟨(4, false), ⟨by dsimp only; omega, by dsimp only; simp only [okl, ← Bool.and_assoc] at h2 ⊢; rw [← h2, ← hfb]; rfl⟩, ?_, by dsimp only; omega⟩; (refine ⟨rfl, [], ?_, ?_⟩; all_goals (repeat' (first | exact rfl | exact trivial | (with_reducible assumption) | refine And.intro ?_ ?_)); all_goals (first | omega | assumption); done)) | trace_state)
        · have hE : ¬ B w4 = (⟨#[45]⟩ : ByteArray) := fun e => h45 (B_inj.1 e)
          have hrm := readMonth_ret w4 (by omega)
          have hlv : lfV w4 = rmN w4 := if_neg h45
          have hfb0 : lfB w4 = rmB w4 := if_neg h45
          rw [← hlv, ← hfb0] at hrm
          obtain ⟨fb, hfb⟩ : ∃ fb, fb = lfB w4 := ⟨_, rfl⟩
          rw [← hfb] at hrm
          cases ok <;> cases fb
          all_goals (repeat' ((first | (conv => whnf) | skip); (first | ((with_reducible intro h); first | contradiction | omega | (conv => whnf) | skip) | (with_reducible refine And.intro ?_ ?_) | ((with_reducible show arithK _ _ _); refine arith_ok ⟨by omega, by omega⟩ ?_) | ((with_reducible show quoK _ _ _ _); refine quo_ok ⟨by omega, by omega⟩ (by omega) (by omega) ?_) | ((with_reducible show remK _ _ _ _); refine rem_ok (by omega) (by omega) ?_) | ((first | (with_reducible show CallA _ _ _ _ _ _) | (with_reducible show CallQ _ _ _ _ _ _)); first | (refine Ret.go (hrm) rfl rfl ?_) | (refine Ret.goQ (hrm) rfl rfl ?_)) | ((with_reducible show DrawA _ _ _ _ _ _); first | (refine draw_hard hT mixed (by decide +kernel) ?_)))))
          all_goals first | rfl | omega | contradiction | exact Nat.le_of_ble_eq_true rfl | skip
          all_goals ((conv => whnf); first | (refine ⟨(4, true), ⟨by dsimp only; omega, by dsimp only; simp only [okl, ← Bool.and_assoc] at h2 ⊢; rw [← h2, ← hfb]; rfl⟩, ?_, by dsimp only; omega⟩; (refine ⟨rfl, [], ?_, ?_⟩; all_goals (repeat' (first | exact rfl | exact trivial | (with_reducible assumption) | refine And.intro ?_ ?_)); all_goals (first | omega | assumption); done)) | (refine ⟨(4, false), ⟨by dsimp only; omega, by dsimp only; simp only [okl, ← Bool.and_assoc] at h2 ⊢; rw [← h2, ← hfb]; rfl⟩, ?_, by dsimp only; omega⟩; (refine ⟨rfl, [], ?_, ?_⟩; all_goals (repeat' (first | exact rfl | exact trivial | (with_reducible assumption) | refine And.intro ?_ ?_)); all_goals (first | omega | assumption); done)) | trace_state)
      · simp only [okl] at h2
        rw [← h2]
        repeat' ((first | (conv => whnf) | skip); (first | ((with_reducible intro h); first | contradiction | omega | (conv => whnf) | skip) | (with_reducible refine And.intro ?_ ?_) | ((with_reducible show arithK _ _ _); refine arith_ok ⟨by omega, by omega⟩ ?_) | ((with_reducible show quoK _ _ _ _); refine quo_ok ⟨by omega, by omega⟩ (by omega) (by omega) ?_) | ((with_reducible show remK _ _ _ _); refine rem_ok (by omega) (by omega) ?_) | ((first | (with_reducible show CallA _ _ _ _ _ _) | (with_reducible show CallQ _ _ _ _ _ _)); first | fail) | ((with_reducible show DrawA _ _ _ _ _ _); first | (refine draw_hard hT mixed (by decide +kernel) ?_))))
        all_goals first | rfl | omega | contradiction | trace_state
  · rw [if_neg h5, decide_eq_false h5, Bool.false_and]
    have hml : (ws.map B).length = ws.length := List.length_map _
    repeat' ((first | (conv => whnf) | skip); (first | ((with_reducible intro h); first | contradiction | omega | (conv => whnf) | skip) | (with_reducible refine And.intro ?_ ?_) | ((with_reducible show arithK _ _ _); refine arith_ok ⟨by omega, by omega⟩ ?_) | ((with_reducible show quoK _ _ _ _); refine quo_ok ⟨by omega, by omega⟩ (by omega) (by omega) ?_) | ((with_reducible show remK _ _ _ _); refine rem_ok (by omega) (by omega) ?_) | ((first | (with_reducible show CallA _ _ _ _ _ _) | (with_reducible show CallQ _ _ _ _ _ _)); first | (refine CallA.go [] (hsc) rfl (by first | ((repeat' (first | exact rfl | exact trivial | (with_reducible assumption) | refine And.intro ?_ ?_ | omega | assumption)); done) | fail) trivial ?_)) | ((with_reducible show DrawA _ _ _ _ _ _); first | (refine draw_hard hT mixed (by decide +kernel) ?_))))
    all_goals first | rfl | omega | contradiction | trace_state
end Go.Proofs.YtgpgnhadmckmhaaGreatDoor
