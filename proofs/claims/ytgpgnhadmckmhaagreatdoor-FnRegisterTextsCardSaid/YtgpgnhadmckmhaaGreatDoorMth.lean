/-
  Months read by the reference, a member's line read by the program: what the functions return. No conditions but those in the statements.
-/
import Derived.Test.YtgpgnhadmckmhaaGreatDoorMtc
set_option linter.unusedVariables false
set_option linter.unusedSimpArgs false
namespace Go.Proofs.YtgpgnhadmckmhaaGreatDoor
open Go.AE Go.Lib

attribute [local irreducible] CallA LoopA DrawA CallQ arithK quoK remK eqK
theorem dl_mt (n : Int) : (mt n).take 4 ++ (mt n).drop 5 = mt4 (n.toNat / 12) ++ mt2 (n.toNat % 12 + 1) := by rw [mt_take, mt_drop]
theorem dl_dgt {n : Int} (h : mon n) : ∀ b ∈ (mt n).take 4 ++ (mt n).drop 5, dgt b := by
  unfold mon at h
  rw [dl_mt]
  intro b hb
  rcases List.mem_append.1 hb with hb | hb
  · exact mt4_dgt (by omega) b hb
  · exact mt2_dgt (by omega) b hb
theorem dl_val {n : Int} (h : mon n) : (val ((mt n).take 4 ++ (mt n).drop 5) : Int) = n / 12 * 100 + (n % 12 + 1) := by
  unfold mon at h
  rw [dl_mt, val_mt6 (by omega) (by omega)]
  omega
attribute [local irreducible] mt rmN rmB
set_option maxHeartbeats 1000000 in
set_option maxRecDepth 100000 in
theorem specReadMonth_ret (l : List UInt8) : Ret Tryz.prog G 65 [Sv l] (.tup [I (rmN l), Bo (rmB l)]) := by
  have hz := B_size l
  have x4 : (B l).extract 0 4 = B (l.take 4) := by rw [B_extract]; rfl
  have x5 : (B l).extract 5 l.length = B (l.drop 5) := by rw [B_extract, take_all (Nat.le_refl _)]
  refine ret_of_body hT Tryz.func65 rfl ?_ rfl
  by_cases h7 : l.length = 7
  · obtain ⟨dl, hdl⟩ : ∃ dl, dl = l.take 4 ++ l.drop 5 := ⟨_, rfl⟩
    have dlen : dl.length = 6 := by rw [hdl, List.length_append, List.length_take, List.length_drop]; omega
    have hraw : (B l).extract 0 4 ++ (B l).extract 5 l.length = B dl := by rw [x4, x5, B_app, hdl]
    have hrz : (B dl).size = 6 := dlen
    repeat' ((first | (conv => whnf) | skip); (first | ((with_reducible intro h); first | contradiction | omega | (conv => whnf) | skip) | (with_reducible refine And.intro ?_ ?_) | ((with_reducible show arithK _ _ _); refine arith_ok ⟨by omega, by omega⟩ ?_) | ((with_reducible show quoK _ _ _ _); refine quo_ok ⟨by omega, by omega⟩ (by omega) (by omega) ?_) | ((with_reducible show remK _ _ _ _); refine rem_ok (by omega) (by omega) ?_) | ((first | (with_reducible show CallA _ _ _ _ _ _) | (with_reducible show CallQ _ _ _ _ _ _)); first | fail) | ((with_reducible show DrawA _ _ _ _ _ _); first | (refine draw_hard hT mixed (by decide +kernel) ?_))))
    all_goals first | rfl | omega | contradiction | (show ((B l).extract 0 4).size + ((B l).extract 5 l.length).size ≤ _; rw [x4, x5, B_size, B_size, List.length_take, List.length_drop]; omega) | skip
    (conv => whnf)
    refine loop_rule hT (fun i : Nat => i ≤ dl.length ∧ ∀ b ∈ dl.take i, dgt b) 52 0 [0, 4, 5, 6] (fun i => [Sv l, Sv dl, I (val (dl.take i) : Int), I i]) (fun _ => []) (fun i => dl.length - i) (0) (Nat.le_of_ble_eq_true rfl) ?_ ?_ ?_
    · exact ⟨Nat.zero_le _, by simp⟩
    · first | (refine ⟨rfl, [], ?_, ?_⟩; all_goals (repeat' (first | exact rfl | exact trivial | (with_reducible assumption) | refine And.intro ?_ ?_)); all_goals (first | omega | assumption | ((repeat' (first | (exact hraw) | exact rfl | exact trivial | (with_reducible assumption) | refine And.intro ?_ ?_ | omega | assumption)); done)); done) | trace_state
    · rintro i ⟨h1, h2⟩
      have hv := val_13 h2 (by rw [List.length_take]; omega)
      have hby : byteAt (B dl) ((i : Int)).toNat = ((dl.getD i 0).toNat : Int) := byteAt_B dl i
      by_cases hi : i < dl.length
      · have hc0 : 0 ≤ ((dl.getD i 0).toNat : Int) ∧ ((dl.getD i 0).toNat : Int) ≤ 255 := by have := (dl.getD i 0).toNat_lt; omega
        have hvt := val_take hi
        by_cases hd : dgt (dl.getD i 0)
        · have h3 := getD_dgt hi h2 hd
          have hv3 := val_13 h3 (by rw [List.length_take]; omega)
          unfold dgt at hd
          repeat' ((first | (conv => whnf) | skip); (first | ((with_reducible intro h); first | contradiction | omega | (conv => whnf) | skip) | (with_reducible refine And.intro ?_ ?_) | ((with_reducible show arithK _ _ _); refine arith_ok ⟨by omega, by omega⟩ ?_) | ((with_reducible show quoK _ _ _ _); refine quo_ok ⟨by omega, by omega⟩ (by omega) (by omega) ?_) | ((with_reducible show remK _ _ _ _); refine rem_ok (by omega) (by omega) ?_) | ((first | (with_reducible show CallA _ _ _ _ _ _) | (with_reducible show CallQ _ _ _ _ _ _)); first | fail) | ((with_reducible show DrawA _ _ _ _ _ _); first | (refine draw_hard hT mixed (by decide +kernel) ?_))))
          all_goals first | rfl | omega | (show (i : Int) < ((B dl).size : Int); omega) | (exfalso; have h5 := h; rw [hby] at h5; omega) | skip
          all_goals ((conv => whnf); first | (refine ⟨i + 1, ⟨by omega, h3⟩, ?_, by omega⟩; (refine ⟨rfl, [], ?_, ?_⟩; all_goals (repeat' (first | exact rfl | exact trivial | (with_reducible assumption) | refine And.intro ?_ ?_)); all_goals (first | omega | assumption); done)) | trace_state)
        · obtain ⟨e1, e2⟩ := rm_no (l := l) fun n hm he => hd (by
            have := dl_dgt hm
            rw [← he, ← hdl] at this
            exact this _ (getD_mem hi))
          rw [e1, e2]
          unfold dgt at hd
          repeat' ((first | (conv => whnf) | skip); (first | ((with_reducible intro h); first | contradiction | omega | (conv => whnf) | skip) | (with_reducible refine And.intro ?_ ?_) | ((with_reducible show arithK _ _ _); refine arith_ok ⟨by omega, by omega⟩ ?_) | ((with_reducible show quoK _ _ _ _); refine quo_ok ⟨by omega, by omega⟩ (by omega) (by omega) ?_) | ((with_reducible show remK _ _ _ _); refine rem_ok (by omega) (by omega) ?_) | ((first | (with_reducible show CallA _ _ _ _ _ _) | (with_reducible show CallQ _ _ _ _ _ _)); first | fail) | ((with_reducible show DrawA _ _ _ _ _ _); first | (refine draw_hard hT mixed (by decide +kernel) ?_))))
          all_goals first | rfl | omega | (show (i : Int) < ((B dl).size : Int); omega) | (exfalso; omega) | trace_state
      · obtain rfl : i = dl.length := by omega
        have hall : dl.take dl.length = dl := take_all (Nat.le_refl _)
        rw [hall] at h2 hv ⊢
        have hmt := specMonthText_ret (12 * ((val dl : Int) / 100) + (val dl : Int) % 100 - 1)
        by_cases hx : mon (12 * ((val dl : Int) / 100) + (val dl : Int) % 100 - 1) ∧ l = mt (12 * ((val dl : Int) / 100) + (val dl : Int) % 100 - 1)
        · obtain ⟨e1, e2⟩ := rm_yes hx.1 hx.2
          rw [e1, e2]
          rw [if_pos hx.1, ← hx.2] at hmt
          repeat' ((first | (conv => whnf) | skip); (first | ((with_reducible intro h); first | contradiction | omega | (conv => whnf) | skip) | (with_reducible refine And.intro ?_ ?_) | ((with_reducible show arithK _ _ _); refine arith_ok ⟨by omega, by omega⟩ ?_) | ((with_reducible show quoK _ _ _ _); refine quo_ok ⟨by omega, by omega⟩ (by omega) (by omega) ?_) | ((with_reducible show remK _ _ _ _); refine rem_ok (by omega) (by omega) ?_) | ((first | (with_reducible show CallA _ _ _ _ _ _) | (with_reducible show CallQ _ _ _ _ _ _)); first | (refine Ret.go (hmt) rfl rfl ?_) | (refine Ret.goQ (hmt) rfl rfl ?_)) | ((with_reducible show DrawA _ _ _ _ _ _); first | (refine draw_hard hT mixed (by decide +kernel) ?_))))
          all_goals first | rfl | omega | contradiction | trace_state
        · obtain ⟨e1, e2⟩ := rm_no (l := l) fun n hm he => hx (by
            have h9 := dl_val hm
            rw [← he, ← hdl] at h9
            have e : 12 * ((val dl : Int) / 100) + (val dl : Int) % 100 - 1 = n := by unfold mon at hm; rw [h9]; omega
            rw [e]
            exact ⟨hm, he⟩)
          rw [e1, e2]
          have hne : ¬ B (if mon (12 * ((val dl : Int) / 100) + (val dl : Int) % 100 - 1) then mt (12 * ((val dl : Int) / 100) + (val dl : Int) % 100 - 1) else []) = B l := fun e => by
            have e := B_inj.1 e
            split at e
            · rename_i hm; exact hx ⟨hm, e.symm⟩
            · rw [← e] at h7; cases h7
          repeat' ((first | (conv => whnf) | skip); (first | ((with_reducible intro h); first | contradiction | omega | (conv => whnf) | skip) | (with_reducible refine And.intro ?_ ?_) | ((with_reducible show arithK _ _ _); refine arith_ok ⟨by omega, by omega⟩ ?_) | ((with_reducible show quoK _ _ _ _); refine quo_ok ⟨by omega, by omega⟩ (by omega) (by omega) ?_) | ((with_reducible show remK _ _ _ _); refine rem_ok (by omega) (by omega) ?_) | ((first | (with_reducible show CallA _ _ _ _ _ _) | (with_reducible show CallQ _ _ _ _ _ _)); first | (refine Ret.go (hmt) rfl rfl ?_) | (refine Ret.goQ (hmt) rfl rfl ?_)) | ((with_reducible show DrawA _ _ _ _ _ _); first | (refine draw_hard hT mixed (by decide +kernel) ?_))))
          all_goals first | rfl | omega | contradiction | trace_state
  · obtain ⟨e1, e2⟩ := rm_no (l := l) fun n _ he => h7 (by rw [he, mt_len])
    rw [e1, e2]
    repeat' ((first | (conv => whnf) | skip); (first | ((with_reducible intro h); first | contradiction | omega | (conv => whnf) | skip) | (with_reducible refine And.intro ?_ ?_) | ((with_reducible show arithK _ _ _); refine arith_ok ⟨by omega, by omega⟩ ?_) | ((with_reducible show quoK _ _ _ _); refine quo_ok ⟨by omega, by omega⟩ (by omega) (by omega) ?_) | ((with_reducible show remK _ _ _ _); refine rem_ok (by omega) (by omega) ?_) | ((first | (with_reducible show CallA _ _ _ _ _ _) | (with_reducible show CallQ _ _ _ _ _ _)); first | fail) | ((with_reducible show DrawA _ _ _ _ _ _); first | (refine draw_hard hT mixed (by decide +kernel) ?_))))
    all_goals first | rfl | omega | contradiction | (exfalso; (try simp at *); omega) | trace_state
end Go.Proofs.YtgpgnhadmckmhaaGreatDoor
