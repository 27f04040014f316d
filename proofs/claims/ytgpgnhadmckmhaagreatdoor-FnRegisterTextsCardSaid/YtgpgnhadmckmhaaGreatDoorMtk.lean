/-
  Months read by the reference, a member's line read by the program: what the functions return. No conditions but those in the statements. Registers read by the reference: what the function returns. No conditions but those in the statements. A member's line read by the program: what the function returns. No conditions but those in the statements. Registers read by the program, and the law: what the functions return. No conditions but those in the statements.
-/
import Derived.Test.YtgpgnhadmckmhaaGreatDoorMtc
import Derived.Test.YtgpgnhadmckmhaaGreatDoorMtg
import Derived.Test.YtgpgnhadmckmhaaGreatDoorStr
namespace Go.Proofs.YtgpgnhadmckmhaaGreatDoor
open Go.AE Go.Lib

attribute [local irreducible] CallA LoopA DrawA CallQ arithK quoK remK eqK
theorem dl_mt (n : Int) : (mt n).take 4 ++ (mt n).drop 5 = mt4 (n.toNat / 12) ++ mt2 (n.toNat % 12 + 1) := by rw [mt_take, mt_drop]
theorem dl_dgt {n : Int} (h : mon n) : ∀ b ∈ (mt n).take 4 ++ (mt n).drop 5, dgt b := by
  unfold mon at h
  rw [dl_mt]
  intro b hb
  rcases List.mem_append.1 hb with hb | hb
  · exact mt4_dgt (by omega) b hb
  · exact mt2_dgt (by omega) b hb
theorem dl_val {n : Int} (h : mon n) : (val ((mt n).take 4 ++ (mt n).drop 5) : Int) = n / 12 * 100 + (n % 12 + 1) := by
  unfold mon at h
  rw [dl_mt, val_mt6 (by omega) (by omega)]
  omega
attribute [local irreducible] mt rmN rmB
set_option maxHeartbeats 1000000 in
set_option maxRecDepth 100000 in
theorem specReadMonth_ret (l : List UInt8) : Ret Tryz.prog G 65 [Sv l] (.tup [I (rmN l), Bo (rmB l)]) := by
  have hz := B_size l
  have x4 : (B l).extract 0 4 = B (l.take 4) := by rw [B_extract]; rfl
  have x5 : (B l).extract 5 l.length = B (l.drop 5) := by rw [B_extract, take_all (Nat.le_refl _)]
  refine ret_of_body hT Tryz.func65 rfl ?_ rfl
  by_cases h7 : l.length = 7
  · obtain ⟨dl, hdl⟩ : ∃ dl, dl = l.take 4 ++ l.drop 5 := ⟨_, rfl⟩
    have dlen : dl.length = 6 := by rw [hdl, List.length_append, List.length_take, List.length_drop]; omega
    have hraw : (B l).extract 0 4 ++ (B l).extract 5 l.length = B dl := by rw [x4, x5, B_app, hdl]
    have hrz : (B dl).size = 6 := dlen
    repeat' ((first | (conv => whnf) | skip); (first | ((with_reducible intro h); first | contradiction | omega | (conv => whnf) | skip) | (with_reducible refine And.intro ?_ ?_) | ((with_reducible show arithK _ _ _); refine arith_ok ⟨by omega, by omega⟩ ?_) | ((with_reducible show quoK _ _ _ _); refine quo_ok ⟨by omega, by omega⟩ (by omega) (by omega) ?_) | ((with_reducible show remK _ _ _ _); refine rem_ok (by omega) (by omega) ?_) | ((first | (with_reducible show CallA _ _ _ _ _ _) | (with_reducible show CallQ _ _ _ _ _ _)); first | fail) | ((with_reducible show DrawA _ _ _ _ _ _); first | (refine draw_hard hT mixed (by decide +kernel) ?_))))
    all_goals first | rfl | omega | contradiction | (show ((B l).extract 0 4).size + ((B l).extract 5 l.length).size ≤ _; rw [x4, x5, B_size, B_size, List.length_take, List.length_drop]; omega) | skip
    (conv => whnf)
    refine loop_rule hT (fun i : Nat => i ≤ dl.length ∧ ∀ b ∈ dl.take i, dgt b) 52 0 [0, 4, 5, 6] (fun i => [Sv l, Sv dl, I (val (dl.take i) : Int), I i]) (fun _ => []) (fun i => dl.length - i) (0) (Nat.le_of_ble_eq_true rfl) ?_ ?_ ?_
    · exact ⟨Nat.zero_le _, by simp⟩
    · first | (refine ⟨rfl, [], ?_, ?_⟩; all_goals (repeat' (first | exact rfl | exact trivial | (with_reducible assumption) | refine And.intro ?_ ?_)); all_goals (first | omega | assumption | ((repeat' (first | (exact hraw) | exact rfl | exact trivial | (with_reducible assumption) | refine And.intro ?_ ?_ | omega | assumption)); done)); done) | trace_state
    · rintro i ⟨h1, h2⟩
      have hv := val_13 h2 (by rw [List.length_take]; omega)
      have hby : byteAt (B dl) ((i : Int)).toNat = ((dl.getD i 0).toNat : Int) := byteAt_B dl i
      by_cases hi : i < dl.length
      · have hc0 : 0 ≤ ((dl.getD i 0).toNat : Int) ∧ ((dl.getD i 0).toNat : Int) ≤ 255 := by have := (dl.getD i 0).toNat_lt; omega
        have hvt := val_take hi
        by_cases hd : dgt (dl.getD i 0)
        · have h3 := getD_dgt hi h2 hd
          have hv3 := val_13 h3 (by rw [List.length_take]; omega)
          unfold dgt at hd
          repeat' ((first | (conv => whnf) | skip); (first | ((with_reducible intro h); first | contradiction | omega | (conv => whnf) | skip) | (with_reducible refine And.intro ?_ ?_) | ((with_reducible show arithK _ _ _); refine arith_ok ⟨by omega, by omega⟩ ?_) | ((with_reducible show quoK _ _ _ _); refine quo_ok ⟨by omega, by omega⟩ (by omega) (by omega) ?_) | ((with_reducible show remK _ _ _ _); refine rem_ok (by omega) (by omega) ?_) | ((first | (with_reducible show CallA _ _ _ _ _ _) | (with_reducible show CallQ _ _ _ _ _ _)); first | fail) | ((with_reducible show DrawA _ _ _ _ _ _); first | (refine draw_hard hT mixed (by decide +kernel) ?_))))
          all_goals first | rfl | omega | (show (i : Int) < ((B dl).size : Int); omega) | (exfalso; have h5 := h; rw [hby] at h5; omega) | skip
          all_goals ((conv => whnf); first | (refine ⟨i + 1, ⟨by omega, h3⟩, ?_, by omega⟩; (refine ⟨rfl, [], ?_, ?_⟩; all_goals (repeat' (first | exact rfl | exact trivial | (with_reducible assumption) | refine And.intro ?_ ?_)); all_goals (first | omega | assumption); done)) | trace_state)
        · obtain ⟨e1, e2⟩ := rm_no (l := l) fun n hm he => hd (by
            have := dl_dgt hm
            rw [← he, ← hdl] at this
            exact this _ (getD_mem hi))
          rw [e1, e2]
          unfold dgt at hd
          repeat' ((first | (conv => whnf) | skip); (first | ((with_reducible intro h); first | contradiction | omega | (conv => whnf) | skip) | (with_reducible refine And.intro ?_ ?_) | ((with_reducible show arithK _ _ _); refine arith_ok ⟨by omega, by omega⟩ ?_) | ((with_reducible show quoK _ _ _ _); refine quo_ok ⟨by omega, by omega⟩ (by omega) (by omega) ?_) | ((with_reducible show remK _ _ _ _); refine rem_ok (by omega) (by omega) ?_) | ((first | (with_reducible show CallA _ _ _ _ _ _) | (with_reducible show CallQ _ _ _ _ _ _)); first | fail) | ((with_reducible show DrawA _ _ _ _ _ _); first | (refine draw_hard hT mixed (by decide +kernel) ?_))))
          all_goals first | rfl | omega | (show (i : Int) < ((B dl).size : Int); omega) | (exfalso; omega) | trace_state
      · obtain rfl : i = dl.length := by omega
        have hall : dl.take dl.length = dl := take_all (Nat.le_refl _)
        rw [hall] at h2 hv ⊢
        have hmt := specMonthText_ret (12 * ((val dl : Int) / 100) + (val dl : Int) % 100 - 1)
        by_cases hx : mon (12 * ((val dl : Int) / 100) + (val dl : Int) % 100 - 1) ∧ l = mt (12 * ((val dl : Int) / 100) + (val dl : Int) % 100 - 1)
        · obtain ⟨e1, e2⟩ := rm_yes hx.1 hx.2
          rw [e1, e2]
          rw [if_pos hx.1, ← hx.2] at hmt
          repeat' ((first | (conv => whnf) | skip); (first | ((with_reducible intro h); first | contradiction | omega | (conv => whnf) | skip) | (with_reducible refine And.intro ?_ ?_) | ((with_reducible show arithK _ _ _); refine arith_ok ⟨by omega, by omega⟩ ?_) | ((with_reducible show quoK _ _ _ _); refine quo_ok ⟨by omega, by omega⟩ (by omega) (by omega) ?_) | ((with_reducible show remK _ _ _ _); refine rem_ok (by omega) (by omega) ?_) | ((first | (with_reducible show CallA _ _ _ _ _ _) | (with_reducible show CallQ _ _ _ _ _ _)); first | (refine Ret.go (hmt) rfl rfl ?_) | (refine Ret.goQ (hmt) rfl rfl ?_)) | ((with_reducible show DrawA _ _ _ _ _ _); first | (refine draw_hard hT mixed (by decide +kernel) ?_))))
          all_goals first | rfl | omega | contradiction | trace_state
        · obtain ⟨e1, e2⟩ := rm_no (l := l) fun n hm he => hx (by
            have h9 := dl_val hm
            rw [← he, ← hdl] at h9
            have e : 12 * ((val dl : Int) / 100) + (val dl : Int) % 100 - 1 = n := by unfold mon at hm; rw [h9]; omega
            rw [e]
            exact ⟨hm, he⟩)
          rw [e1, e2]
          have hne : ¬ B (if mon (12 * ((val dl : Int) / 100) + (val dl : Int) % 100 - 1) then mt (12 * ((val dl : Int) / 100) + (val dl : Int) % 100 - 1) else []) = B l := fun e => by
            have e := B_inj.1 e
            split at e
            · rename_i hm; exact hx ⟨hm, e.symm⟩
            · rw [← e] at h7; cases h7
          repeat' ((first | (conv => whnf) | skip); (first | ((with_reducible intro h); first | contradiction | omega | (conv => whnf) | skip) | (with_reducible refine And.intro ?_ ?_) | ((with_reducible show arithK _ _ _); refine arith_ok ⟨by omega, by omega⟩ ?_) | ((with_reducible show quoK _ _ _ _); refine quo_ok ⟨by omega, by omega⟩ (by omega) (by omega) ?_) | ((with_reducible show remK _ _ _ _); refine rem_ok (by omega) (by omega) ?_) | ((first | (with_reducible show CallA _ _ _ _ _ _) | (with_reducible show CallQ _ _ _ _ _ _)); first | (refine Ret.go (hmt) rfl rfl ?_) | (refine Ret.goQ (hmt) rfl rfl ?_)) | ((with_reducible show DrawA _ _ _ _ _ _); first | (refine draw_hard hT mixed (by decide +kernel) ?_))))
          all_goals first | rfl | omega | contradiction | trace_state
  · obtain ⟨e1, e2⟩ := rm_no (l := l) fun n _ he => h7 (by rw [he, mt_len])
    rw [e1, e2]
    repeat' ((first | (conv => whnf) | skip); (first | ((with_reducible intro h); first | contradiction | omega | (conv => whnf) | skip) | (with_reducible refine And.intro ?_ ?_) | ((with_reducible show arithK _ _ _); refine arith_ok ⟨by omega, by omega⟩ ?_) | ((with_reducible show quoK _ _ _ _); refine quo_ok ⟨by omega, by omega⟩ (by omega) (by omega) ?_) | ((with_reducible show remK _ _ _ _); refine rem_ok (by omega) (by omega) ?_) | ((first | (with_reducible show CallA _ _ _ _ _ _) | (with_reducible show CallQ _ _ _ _ _ _)); first | fail) | ((with_reducible show DrawA _ _ _ _ _ _); first | (refine draw_hard hT mixed (by decide +kernel) ?_))))
    all_goals first | rfl | omega | contradiction | (exfalso; (try simp at *); omega) | trace_state
end Go.Proofs.YtgpgnhadmckmhaaGreatDoor
namespace Go.Proofs.YtgpgnhadmckmhaaGreatDoor
open Go.AE Go.Lib

attribute [local irreducible] CallA LoopA DrawA CallQ arithK quoK remK eqK
/-- The lines of a text, the last one apart. -/
structure Lns (s : List UInt8) (Ls : List ByteArray) (ps : List (List UInt8)) (l : List UInt8) : Prop where
  e : sp 10 s = ps ++ [l]
  d : Ls = (sp 10 s).map B
theorem Lns.len {s : List UInt8} {Ls : List ByteArray} {ps : List (List UInt8)} {l : List UInt8} (h : Lns s Ls ps l) : Ls.length = ps.length + 1 := by rw [h.d, h.e, List.length_map, List.length_append]; rfl
theorem Lns.at {s : List UInt8} {Ls : List ByteArray} {ps : List (List UInt8)} {l : List UInt8} (h : Lns s Ls ps l) {i : Nat} (hi : i < ps.length) : Ls.getD i ByteArray.empty = B (ps.getD i []) := by
  rw [h.d, strs_getD, h.e, List.getD_eq_getElem?_getD, List.getElem?_append_left hi, ← List.getD_eq_getElem?_getD]
theorem Lns.last {s : List UInt8} {Ls : List ByteArray} {ps : List (List UInt8)} {l : List UInt8} (h : Lns s Ls ps l) : Ls.getD ps.length ByteArray.empty = B l := by
  rw [h.d, strs_getD, h.e, List.getD_eq_getElem?_getD, List.getElem?_append_right (Nat.le_refl _), Nat.sub_self]; rfl
theorem Lns.short {s : List UInt8} {Ls : List ByteArray} {ps : List (List UInt8)} {l : List UInt8} (h : Lns s Ls ps l) (hn : s.length ≤ 1048576) : (∀ i, i < ps.length → (ps.getD i []).length ≤ 1048576) ∧ ps.length ≤ 1048576 := by
  have h1 := sp_short (c := 10) hn
  have h2 := sp_many (c := 10) (l := s)
  rw [h.e] at h1 h2
  rw [List.length_append] at h2
  exact ⟨fun i hi => h1 _ (List.mem_append_left _ (getD_mem hi)), by have : [l].length = 1 := rfl; omega⟩
theorem lns_of (s : List UInt8) : ∃ Ls ps l, Lns s Ls ps l := by
  obtain ⟨ps, l, h⟩ := sp_lastE s
  exact ⟨_, ps, l, h, rfl⟩
theorem rowS_of {p w0 w1 w2 w3 w4 : List UInt8} (h : sp 32 p = [w0, w1, w2, w3, w4]) : rowS p = [digN w0, rmN w1, rmN w2, lfV w4, rmN w3] := by
  unfold rowS
  rw [h]; rfl
theorem lfV_y {w : List UInt8} (h : w = [45]) : lfV w = -1 := if_pos h
theorem lfV_n {w : List UInt8} (h : ¬ w = [45]) : lfV w = rmN w := if_neg h
attribute [local irreducible] mt mtx rgx RM CM rmN rmB digN digB lfV
set_option maxHeartbeats 4000000 in
set_option maxRecDepth 100000 in
theorem specRR_call (s : List UInt8) (hn : s.length ≤ 1048576) : CallA Tryz.prog G 24 [Sv s] [] (fun v J => v = .tup [.sl 0 5 (RM s).length, I (CM s)] ∧ J = [DMember (RM s)]) := by
  refine CallA.ends (callA_of_body hT Tryz.func24 rfl ?_)
  obtain ⟨Ls, ps, l, hL⟩ := lns_of s
  have hsc : CallA Tryz.prog G 54 [Sv s, .v (.int .u8 10)] [] (fun v J => v = .sl 0 1 ((sp 10 s).map B).length ∧ J = [.data (.strs ((sp 10 s).map B))]) := l01Split_call s 10 hn
  rw [← hL.d] at hsc
  have hll := hL.len
  have hla := hL.last
  have hidx : ((Ls.length : Int) - 1).toNat = ps.length := by omega
  rw [← hidx] at hla
  obtain ⟨hsh, hpl⟩ := hL.short hn
  by_cases hl : l = []
  · rw [hl] at hla
    repeat' ((first | (conv => whnf) | skip); (first | ((with_reducible intro h); first | contradiction | omega | (conv => whnf) | skip) | (with_reducible refine And.intro ?_ ?_) | ((with_reducible show arithK _ _ _); refine arith_ok ⟨by omega, by omega⟩ ?_) | ((with_reducible show quoK _ _ _ _); refine quo_ok ⟨by omega, by omega⟩ (by omega) (by omega) ?_) | ((with_reducible show remK _ _ _ _); refine rem_ok (by omega) (by omega) ?_) | ((first | (with_reducible show CallA _ _ _ _ _ _) | (with_reducible show CallQ _ _ _ _ _ _)); first | (refine CallA.go [] (hsc) rfl (by first | ((repeat' (first | exact rfl | exact trivial | (with_reducible assumption) | refine And.intro ?_ ?_ | omega | assumption)); done) | fail) trivial ?_)) | ((with_reducible show DrawA _ _ _ _ _ _); first | (refine draw_hard hT mixed (by decide +kernel) ?_))))
    all_goals first | rfl | omega | contradiction | skip
    (conv => whnf)
    have he0 := hL.e
    rw [hl] at he0
    refine loop_rule hT (fun q : Nat × List (List Int) => RdS ps q.1 q.2) 99 2 [4, 5, 6] (fun q => [.sl 0 1 Ls.length, .sl 2 5 q.2.length, I q.1]) (fun q => [.data (.strs Ls), .dead, DMember q.2]) (fun q => ps.length - q.1) ((0, [])) (Nat.le_of_ble_eq_true rfl) ?_ ?_ ?_
    · exact RdS.start ps
    · first | (refine ⟨rfl, [some 1], ?_, ?_⟩; all_goals (repeat' (first | exact rfl | exact trivial | (with_reducible assumption) | refine And.intro ?_ ?_)); all_goals (first | omega | assumption); done) | trace_state
    · rintro ⟨i, out⟩ hR
      dsimp only at hR ⊢
      have hle := hR.le
      have hol := hR.len
      by_cases hi : i < ps.length
      · have hraw : Ls.getD ((i : Int)).toNat ByteArray.empty = B (ps.getD i []) := hL.at hi
        have hs2 := l01Split_call (ps.getD i []) 32 (hsh i hi)
        rw [show Sv (ps.getD i []) = .v (.string (Ls.getD ((i : Int)).toNat ByteArray.empty)) from congrArg (fun b => AV.v (.string b)) hraw.symm] at hs2
        have hws := sp_short (c := 32) (hsh i hi)
        have hno := fun hh => RM_no (nacc_row he0 hi hh)
        by_cases h5 : (sp 32 (ps.getD i [])).length = 5
        · obtain ⟨w0, w1, w2, w3, w4, hw⟩ : ∃ w0 w1 w2 w3 w4, sp 32 (ps.getD i []) = [w0, w1, w2, w3, w4] := by
            match sp 32 (ps.getD i []), h5 with
            | [w0, w1, w2, w3, w4], _ => exact ⟨_, _, _, _, _, rfl⟩
          have hrs := rowS_of hw
          rw [hw] at hs2 hws
          have hdg := l01Digits_ret w0 (hws w0 (by simp))
          have hm1 := specReadMonth_ret w1
          have hm2 := specReadMonth_ret w2
          have hm3 := specReadMonth_ret w3
          have hm4 := specReadMonth_ret w4
          have hdi := digN_in w0
          have hmem := l26Member_ret (digN w0) (rmN w1) (rmN w2) (lfV w4) (rmN w3)
          by_cases h45 : w4 = [45]
          · have hE : B w4 = (⟨#[45]⟩ : ByteArray) := by rw [h45]
            have hlv : lfV w4 = -1 := lfV_y h45
            rw [hlv] at hmem hrs
            by_cases hrow : rowM (digN w0) (rmN w1) (rmN w2) (-1) (rmN w3)
            · rw [decide_eq_true hrow] at hmem
              have hrow2 : rowR (rowS (ps.getD i [])) := by rw [hrs]; exact hrow
              have htx := l26Text_ret (rowS (ps.getD i [])) hrow2
              have htx : Ret Tryz.prog G 62 [.agg [I (digN w0), I (rmN w1), I (rmN w2), I (-1), I (rmN w3)]] (Sv (mtx (rowS (ps.getD i [])))) := by rw [hrs] at htx ⊢; exact htx
              by_cases hte : mtx (rowS (ps.getD i [])) = ps.getD i []
              · have hnx := hR.next hi hrow2 hte
                rw [hrs] at hnx
                have hte2 : B (mtx (rowS (ps.getD i []))) = Ls.getD ((i : Int)).toNat ByteArray.empty := by rw [hraw, hte]
                repeat' ((first | (conv => whnf) | skip); (first | ((with_reducible intro h); first | contradiction | omega | (conv => whnf) | skip) | (with_reducible refine And.intro ?_ ?_) | ((with_reducible show arithK _ _ _); refine arith_ok ⟨by omega, by omega⟩ ?_) | ((with_reducible show quoK _ _ _ _); refine quo_ok ⟨by omega, by omega⟩ (by omega) (by omega) ?_) | ((with_reducible show remK _ _ _ _); refine rem_ok (by omega) (by omega) ?_) | ((first | (with_reducible show CallA _ _ _ _ _ _) | (with_reducible show CallQ _ _ _ _ _ _)); first | (refine CallA.go [] (hs2) rfl (by first | ((repeat' (first | exact rfl | exact trivial | (with_reducible assumption) | refine And.intro ?_ ?_ | omega | assumption)); done) | fail) trivial ?_) | (refine Ret.go (hdg) rfl rfl ?_) | (refine Ret.goQ (hdg) rfl rfl ?_) | (refine Ret.go (hm1) rfl rfl ?_) | (refine Ret.goQ (hm1) rfl rfl ?_) | (refine Ret.go (hm2) rfl rfl ?_) | (refine Ret.goQ (hm2) rfl rfl ?_) | (refine Ret.go (hm3) rfl rfl ?_) | (refine Ret.goQ (hm3) rfl rfl ?_) | (refine Ret.go (hm4) rfl rfl ?_) | (refine Ret.goQ (hm4) rfl rfl ?_) | (refine Ret.go (hmem) rfl rfl ?_) | (refine Ret.goQ (hmem) rfl rfl ?_) | (refine Ret.go (htx) rfl rfl ?_) | (refine Ret.goQ (htx) rfl rfl ?_)) | ((with_reducible show DrawA _ _ _ _ _ _); first | (refine draw_hard hT mixed (by decide +kernel) ?_))))
                all_goals first | rfl | omega | contradiction | (show _ < Ls.length; omega) | (show (_ : Int) < (Ls.length : Int); omega) | (show (_ : Nat) ≤ _; simp; omega) | exact Nat.le_of_ble_eq_true rfl | skip
                all_goals ((conv => whnf); first | (refine ⟨(i + 1, _), hnx, ?_, by dsimp only; omega⟩; first | (refine ⟨rfl, [some 6], ?_, ?_⟩; all_goals (repeat' (first | exact rfl | exact trivial | (with_reducible assumption) | refine And.intro ?_ ?_)); all_goals (first | omega | assumption); done) | (refine ⟨rfl, [some 5], ?_, ?_⟩; all_goals (repeat' (first | exact rfl | exact trivial | (with_reducible assumption) | refine And.intro ?_ ?_)); all_goals (first | omega | assumption); done) | trace_state) | trace_state)
              · have hne : ¬ B (mtx (rowS (ps.getD i []))) = Ls.getD ((i : Int)).toNat ByteArray.empty := fun e => hte (by rw [hraw] at e; exact B_inj.1 e)
                obtain ⟨k1, k2⟩ := hno fun hh => hte hh.2.2
                rw [k1, k2]
                repeat' ((first | (conv => whnf) | skip); (first | ((with_reducible intro h); first | contradiction | omega | (conv => whnf) | skip) | (with_reducible refine And.intro ?_ ?_) | ((with_reducible show arithK _ _ _); refine arith_ok ⟨by omega, by omega⟩ ?_) | ((with_reducible show quoK _ _ _ _); refine quo_ok ⟨by omega, by omega⟩ (by omega) (by omega) ?_) | ((with_reducible show remK _ _ _ _); refine rem_ok (by omega) (by omega) ?_) | ((first | (with_reducible show CallA _ _ _ _ _ _) | (with_reducible show CallQ _ _ _ _ _ _)); first | (refine CallA.go [] (hs2) rfl (by first | ((repeat' (first | exact rfl | exact trivial | (with_reducible assumption) | refine And.intro ?_ ?_ | omega | assumption)); done) | fail) trivial ?_) | (refine Ret.go (hdg) rfl rfl ?_) | (refine Ret.goQ (hdg) rfl rfl ?_) | (refine Ret.go (hm1) rfl rfl ?_) | (refine Ret.goQ (hm1) rfl rfl ?_) | (refine Ret.go (hm2) rfl rfl ?_) | (refine Ret.goQ (hm2) rfl rfl ?_) | (refine Ret.go (hm3) rfl rfl ?_) | (refine Ret.goQ (hm3) rfl rfl ?_) | (refine Ret.go (hm4) rfl rfl ?_) | (refine Ret.goQ (hm4) rfl rfl ?_) | (refine Ret.go (hmem) rfl rfl ?_) | (refine Ret.goQ (hmem) rfl rfl ?_) | (refine Ret.go (htx) rfl rfl ?_) | (refine Ret.goQ (htx) rfl rfl ?_)) | ((with_reducible show DrawA _ _ _ _ _ _); first | (refine draw_hard hT mixed (by decide +kernel) ?_))))
                all_goals first | rfl | omega | contradiction | (show _ < Ls.length; omega) | (show (_ : Int) < (Ls.length : Int); omega) | (show (_ : Nat) ≤ _; simp; omega) | exact Nat.le_of_ble_eq_true rfl | skip
                all_goals ((conv => whnf); first | (refine ⟨[none], .tup [.sl 0 5 ([] : List (List Int)).length, I 6], [DMember []], ?_, ?_, ?_⟩; all_goals (repeat' (first | exact rfl | exact trivial | (with_reducible assumption) | refine And.intro ?_ ?_)); all_goals (first | omega | assumption); done) | trace_state)
            · rw [decide_eq_false hrow] at hmem
              obtain ⟨k1, k2⟩ := hno fun hh => hrow (by have := hh.2.1; rw [hrs] at this; exact this)
              rw [k1, k2]
              have htx := hm1
              repeat' ((first | (conv => whnf) | skip); (first | ((with_reducible intro h); first | contradiction | omega | (conv => whnf) | skip) | (with_reducible refine And.intro ?_ ?_) | ((with_reducible show arithK _ _ _); refine arith_ok ⟨by omega, by omega⟩ ?_) | ((with_reducible show quoK _ _ _ _); refine quo_ok ⟨by omega, by omega⟩ (by omega) (by omega) ?_) | ((with_reducible show remK _ _ _ _); refine rem_ok (by omega) (by omega) ?_) | ((first | (with_reducible show CallA _ _ _ _ _ _) | (with_reducible show CallQ _ _ _ _ _ _)); first | (refine CallA.go [] (hs2) rfl (by first | ((repeat' (first | exact rfl | exact trivial | (with_reducible assumption) | refine And.intro ?_ ?_ | omega | assumption)); done) | fail) trivial ?_) | (refine Ret.go (hdg) rfl rfl ?_) | (refine Ret.goQ (hdg) rfl rfl ?_) | (refine Ret.go (hm1) rfl rfl ?_) | (refine Ret.goQ (hm1) rfl rfl ?_) | (refine Ret.go (hm2) rfl rfl ?_) | (refine Ret.goQ (hm2) rfl rfl ?_) | (refine Ret.go (hm3) rfl rfl ?_) | (refine Ret.goQ (hm3) rfl rfl ?_) | (refine Ret.go (hm4) rfl rfl ?_) | (refine Ret.goQ (hm4) rfl rfl ?_) | (refine Ret.go (hmem) rfl rfl ?_) | (refine Ret.goQ (hmem) rfl rfl ?_) | (refine Ret.go (htx) rfl rfl ?_) | (refine Ret.goQ (htx) rfl rfl ?_)) | ((with_reducible show DrawA _ _ _ _ _ _); first | (refine draw_hard hT mixed (by decide +kernel) ?_))))
              all_goals first | rfl | omega | contradiction | (show _ < Ls.length; omega) | (show (_ : Int) < (Ls.length : Int); omega) | (show (_ : Nat) ≤ _; simp; omega) | exact Nat.le_of_ble_eq_true rfl | skip
              all_goals ((conv => whnf); first | (refine ⟨[none], .tup [.sl 0 5 ([] : List (List Int)).length, I 6], [DMember []], ?_, ?_, ?_⟩; all_goals (repeat' (first | exact rfl | exact trivial | (with_reducible assumption) | refine And.intro ?_ ?_)); all_goals (first | omega | assumption); done) | trace_state)
          · have hE : ¬ B w4 = (⟨#[45]⟩ : ByteArray) := fun e => h45 (B_inj.1 e)
            have hlv : lfV w4 = rmN w4 := lfV_n h45
            rw [hlv] at hmem hrs
            by_cases hrow : rowM (digN w0) (rmN w1) (rmN w2) (rmN w4) (rmN w3)
            · rw [decide_eq_true hrow] at hmem
              have hrow2 : rowR (rowS (ps.getD i [])) := by rw [hrs]; exact hrow
              have htx := l26Text_ret (rowS (ps.getD i [])) hrow2
              have htx : Ret Tryz.prog G 62 [.agg [I (digN w0), I (rmN w1), I (rmN w2), I (rmN w4), I (rmN w3)]] (Sv (mtx (rowS (ps.getD i [])))) := by rw [hrs] at htx ⊢; exact htx
              by_cases hte : mtx (rowS (ps.getD i [])) = ps.getD i []
              · have hnx := hR.next hi hrow2 hte
                rw [hrs] at hnx
                have hte2 : B (mtx (rowS (ps.getD i []))) = Ls.getD ((i : Int)).toNat ByteArray.empty := by rw [hraw, hte]
                repeat' ((first | (conv => whnf) | skip); (first | ((with_reducible intro h); first | contradiction | omega | (conv => whnf) | skip) | (with_reducible refine And.intro ?_ ?_) | ((with_reducible show arithK _ _ _); refine arith_ok ⟨by omega, by omega⟩ ?_) | ((with_reducible show quoK _ _ _ _); refine quo_ok ⟨by omega, by omega⟩ (by omega) (by omega) ?_) | ((with_reducible show remK _ _ _ _); refine rem_ok (by omega) (by omega) ?_) | ((first | (with_reducible show CallA _ _ _ _ _ _) | (with_reducible show CallQ _ _ _ _ _ _)); first | (refine CallA.go [] (hs2) rfl (by first | ((repeat' (first | exact rfl | exact trivial | (with_reducible assumption) | refine And.intro ?_ ?_ | omega | assumption)); done) | fail) trivial ?_) | (refine Ret.go (hdg) rfl rfl ?_) | (refine Ret.goQ (hdg) rfl rfl ?_) | (refine Ret.go (hm1) rfl rfl ?_) | (refine Ret.goQ (hm1) rfl rfl ?_) | (refine Ret.go (hm2) rfl rfl ?_) | (refine Ret.goQ (hm2) rfl rfl ?_) | (refine Ret.go (hm3) rfl rfl ?_) | (refine Ret.goQ (hm3) rfl rfl ?_) | (refine Ret.go (hm4) rfl rfl ?_) | (refine Ret.goQ (hm4) rfl rfl ?_) | (refine Ret.go (hmem) rfl rfl ?_) | (refine Ret.goQ (hmem) rfl rfl ?_) | (refine Ret.go (htx) rfl rfl ?_) | (refine Ret.goQ (htx) rfl rfl ?_)) | ((with_reducible show DrawA _ _ _ _ _ _); first | (refine draw_hard hT mixed (by decide +kernel) ?_))))
                all_goals first | rfl | omega | contradiction | (show _ < Ls.length; omega) | (show (_ : Int) < (Ls.length : Int); omega) | (show (_ : Nat) ≤ _; simp; omega) | exact Nat.le_of_ble_eq_true rfl | skip
                all_goals ((conv => whnf); first | (refine ⟨(i + 1, _), hnx, ?_, by dsimp only; omega⟩; first | (refine ⟨rfl, [some 6], ?_, ?_⟩; all_goals (repeat' (first | exact rfl | exact trivial | (with_reducible assumption) | refine And.intro ?_ ?_)); all_goals (first | omega | assumption); done) | (refine ⟨rfl, [some 5], ?_, ?_⟩; all_goals (repeat' (first | exact rfl | exact trivial | (with_reducible assumption) | refine And.intro ?_ ?_)); all_goals (first | omega | assumption); done) | trace_state) | trace_state)
              · have hne : ¬ B (mtx (rowS (ps.getD i []))) = Ls.getD ((i : Int)).toNat ByteArray.empty := fun e => hte (by rw [hraw] at e; exact B_inj.1 e)
                obtain ⟨k1, k2⟩ := hno fun hh => hte hh.2.2
                rw [k1, k2]
                repeat' ((first | (conv => whnf) | skip); (first | ((with_reducible intro h); first | contradiction | omega | (conv => whnf) | skip) | (with_reducible refine And.intro ?_ ?_) | ((with_reducible show arithK _ _ _); refine arith_ok ⟨by omega, by omega⟩ ?_) | ((with_reducible show quoK _ _ _ _); refine quo_ok ⟨by omega, by omega⟩ (by omega) (by omega) ?_) | ((with_reducible show remK _ _ _ _); refine rem_ok (by omega) (by omega) ?_) | ((first | (with_reducible show CallA _ _ _ _ _ _) | (with_reducible show CallQ _ _ _ _ _ _)); first | (refine CallA.go [] (hs2) rfl (by first | ((repeat' (first | exact rfl | exact trivial | (with_reducible assumption) | refine And.intro ?_ ?_ | omega | assumption)); done) | fail) trivial ?_) | (refine Ret.go (hdg) rfl rfl ?_) | (refine Ret.goQ (hdg) rfl rfl ?_) | (refine Ret.go (hm1) rfl rfl ?_) | (refine Ret.goQ (hm1) rfl rfl ?_) | (refine Ret.go (hm2) rfl rfl ?_) | (refine Ret.goQ (hm2) rfl rfl ?_) | (refine Ret.go (hm3) rfl rfl ?_) | (refine Ret.goQ (hm3) rfl rfl ?_) | (refine Ret.go (hm4) rfl rfl ?_) | (refine Ret.goQ (hm4) rfl rfl ?_) | (refine Ret.go (hmem) rfl rfl ?_) | (refine Ret.goQ (hmem) rfl rfl ?_) | (refine Ret.go (htx) rfl rfl ?_) | (refine Ret.goQ (htx) rfl rfl ?_)) | ((with_reducible show DrawA _ _ _ _ _ _); first | (refine draw_hard hT mixed (by decide +kernel) ?_))))
                all_goals first | rfl | omega | contradiction | (show _ < Ls.length; omega) | (show (_ : Int) < (Ls.length : Int); omega) | (show (_ : Nat) ≤ _; simp; omega) | exact Nat.le_of_ble_eq_true rfl | skip
                all_goals ((conv => whnf); first | (refine ⟨[none], .tup [.sl 0 5 ([] : List (List Int)).length, I 6], [DMember []], ?_, ?_, ?_⟩; all_goals (repeat' (first | exact rfl | exact trivial | (with_reducible assumption) | refine And.intro ?_ ?_)); all_goals (first | omega | assumption); done) | trace_state)
            · rw [decide_eq_false hrow] at hmem
              obtain ⟨k1, k2⟩ := hno fun hh => hrow (by have := hh.2.1; rw [hrs] at this; exact this)
              rw [k1, k2]
              have htx := hm1
              repeat' ((first | (conv => whnf) | skip); (first | ((with_reducible intro h); first | contradiction | omega | (conv => whnf) | skip) | (with_reducible refine And.intro ?_ ?_) | ((with_reducible show arithK _ _ _); refine arith_ok ⟨by omega, by omega⟩ ?_) | ((with_reducible show quoK _ _ _ _); refine quo_ok ⟨by omega, by omega⟩ (by omega) (by omega) ?_) | ((with_reducible show remK _ _ _ _); refine rem_ok (by omega) (by omega) ?_) | ((first | (with_reducible show CallA _ _ _ _ _ _) | (with_reducible show CallQ _ _ _ _ _ _)); first | (refine CallA.go [] (hs2) rfl (by first | ((repeat' (first | exact rfl | exact trivial | (with_reducible assumption) | refine And.intro ?_ ?_ | omega | assumption)); done) | fail) trivial ?_) | (refine Ret.go (hdg) rfl rfl ?_) | (refine Ret.goQ (hdg) rfl rfl ?_) | (refine Ret.go (hm1) rfl rfl ?_) | (refine Ret.goQ (hm1) rfl rfl ?_) | (refine Ret.go (hm2) rfl rfl ?_) | (refine Ret.goQ (hm2) rfl rfl ?_) | (refine Ret.go (hm3) rfl rfl ?_) | (refine Ret.goQ (hm3) rfl rfl ?_) | (refine Ret.go (hm4) rfl rfl ?_) | (refine Ret.goQ (hm4) rfl rfl ?_) | (refine Ret.go (hmem) rfl rfl ?_) | (refine Ret.goQ (hmem) rfl rfl ?_) | (refine Ret.go (htx) rfl rfl ?_) | (refine Ret.goQ (htx) rfl rfl ?_)) | ((with_reducible show DrawA _ _ _ _ _ _); first | (refine draw_hard hT mixed (by decide +kernel) ?_))))
              all_goals first | rfl | omega | contradiction | (show _ < Ls.length; omega) | (show (_ : Int) < (Ls.length : Int); omega) | (show (_ : Nat) ≤ _; simp; omega) | exact Nat.le_of_ble_eq_true rfl | skip
              all_goals ((conv => whnf); first | (refine ⟨[none], .tup [.sl 0 5 ([] : List (List Int)).length, I 6], [DMember []], ?_, ?_, ?_⟩; all_goals (repeat' (first | exact rfl | exact trivial | (with_reducible assumption) | refine And.intro ?_ ?_)); all_goals (first | omega | assumption); done) | trace_state)
        · obtain ⟨k1, k2⟩ := hno fun hh => h5 hh.1
          rw [k1, k2]
          have hml : ((sp 32 (ps.getD i [])).map B).length = (sp 32 (ps.getD i [])).length := List.length_map _
          repeat' ((first | (conv => whnf) | skip); (first | ((with_reducible intro h); first | contradiction | omega | (conv => whnf) | skip) | (with_reducible refine And.intro ?_ ?_) | ((with_reducible show arithK _ _ _); refine arith_ok ⟨by omega, by omega⟩ ?_) | ((with_reducible show quoK _ _ _ _); refine quo_ok ⟨by omega, by omega⟩ (by omega) (by omega) ?_) | ((with_reducible show remK _ _ _ _); refine rem_ok (by omega) (by omega) ?_) | ((first | (with_reducible show CallA _ _ _ _ _ _) | (with_reducible show CallQ _ _ _ _ _ _)); first | (refine CallA.go [] (hs2) rfl (by first | ((repeat' (first | exact rfl | exact trivial | (with_reducible assumption) | refine And.intro ?_ ?_ | omega | assumption)); done) | fail) trivial ?_)) | ((with_reducible show DrawA _ _ _ _ _ _); first | (refine draw_hard hT mixed (by decide +kernel) ?_))))
          all_goals first | rfl | omega | contradiction | (show _ < Ls.length; omega) | (show (_ : Int) < (Ls.length : Int); omega) | (show (_ : Nat) ≤ _; simp; omega) | exact Nat.le_of_ble_eq_true rfl | skip
          all_goals ((conv => whnf); first | (refine ⟨[none], .tup [.sl 0 5 ([] : List (List Int)).length, I 6], [DMember []], ?_, ?_, ?_⟩; all_goals (repeat' (first | exact rfl | exact trivial | (with_reducible assumption) | refine And.intro ?_ ?_)); all_goals (first | omega | assumption); done) | trace_state)
      · obtain rfl : i = ps.length := by omega
        have har := specReg_ret out (by omega)
        by_cases ha : isReg out
        · obtain ⟨k1, k2⟩ := RM_yes (hR.acc he0 ha)
          rw [k1, k2]
          rw [decide_eq_true ha] at har
          repeat' ((first | (conv => whnf) | skip); (first | ((with_reducible intro h); first | contradiction | omega | (conv => whnf) | skip) | (with_reducible refine And.intro ?_ ?_) | ((with_reducible show arithK _ _ _); refine arith_ok ⟨by omega, by omega⟩ ?_) | ((with_reducible show quoK _ _ _ _); refine quo_ok ⟨by omega, by omega⟩ (by omega) (by omega) ?_) | ((with_reducible show remK _ _ _ _); refine rem_ok (by omega) (by omega) ?_) | ((first | (with_reducible show CallA _ _ _ _ _ _) | (with_reducible show CallQ _ _ _ _ _ _)); first | (refine Ret.use (har) (by first | ((repeat' (first | exact rfl | exact trivial | (with_reducible assumption) | refine And.intro ?_ ?_ | omega | assumption)); done) | fail) ?_) | (refine Ret.useQ (har) (by first | ((repeat' (first | exact rfl | exact trivial | (with_reducible assumption) | refine And.intro ?_ ?_ | omega | assumption)); done) | fail) rfl ?_)) | ((with_reducible show DrawA _ _ _ _ _ _); first | (refine draw_hard hT mixed (by decide +kernel) ?_))))
          all_goals first | rfl | omega | skip
          all_goals ((conv => whnf); first | (refine ⟨[some 2], .tup [.sl 0 5 out.length, I 0], [DMember out], ?_, ?_, ?_⟩; all_goals (repeat' (first | exact rfl | exact trivial | (with_reducible assumption) | refine And.intro ?_ ?_)); all_goals (first | omega | assumption); done) | trace_state)
        · obtain ⟨k1, k2⟩ := RM_no (hR.nacc he0 ha)
          rw [k1, k2]
          rw [decide_eq_false ha] at har
          repeat' ((first | (conv => whnf) | skip); (first | ((with_reducible intro h); first | contradiction | omega | (conv => whnf) | skip) | (with_reducible refine And.intro ?_ ?_) | ((with_reducible show arithK _ _ _); refine arith_ok ⟨by omega, by omega⟩ ?_) | ((with_reducible show quoK _ _ _ _); refine quo_ok ⟨by omega, by omega⟩ (by omega) (by omega) ?_) | ((with_reducible show remK _ _ _ _); refine rem_ok (by omega) (by omega) ?_) | ((first | (with_reducible show CallA _ _ _ _ _ _) | (with_reducible show CallQ _ _ _ _ _ _)); first | (refine Ret.use (har) (by first | ((repeat' (first | exact rfl | exact trivial | (with_reducible assumption) | refine And.intro ?_ ?_ | omega | assumption)); done) | fail) ?_) | (refine Ret.useQ (har) (by first | ((repeat' (first | exact rfl | exact trivial | (with_reducible assumption) | refine And.intro ?_ ?_ | omega | assumption)); done) | fail) rfl ?_)) | ((with_reducible show DrawA _ _ _ _ _ _); first | (refine draw_hard hT mixed (by decide +kernel) ?_))))
          all_goals first | rfl | omega | contradiction | (show _ < Ls.length; omega) | (show (_ : Int) < (Ls.length : Int); omega) | (show (_ : Nat) ≤ _; simp; omega) | exact Nat.le_of_ble_eq_true rfl | skip
          all_goals ((conv => whnf); first | (refine ⟨[none], .tup [.sl 0 5 ([] : List (List Int)).length, I 6], [DMember []], ?_, ?_, ?_⟩; all_goals (repeat' (first | exact rfl | exact trivial | (with_reducible assumption) | refine And.intro ?_ ?_)); all_goals (first | omega | assumption); done) | trace_state)
  · have hne : ¬ B l = ByteArray.empty := fun e => hl ((B_inj (b := [])).1 e)
    obtain ⟨k1, k2⟩ := RM_no (nacc_last hL.e hl)
    rw [k1, k2]
    rw [← hla] at hne
    repeat' ((first | (conv => whnf) | skip); (first | ((with_reducible intro h); first | contradiction | omega | (conv => whnf) | skip) | (with_reducible refine And.intro ?_ ?_) | ((with_reducible show arithK _ _ _); refine arith_ok ⟨by omega, by omega⟩ ?_) | ((with_reducible show quoK _ _ _ _); refine quo_ok ⟨by omega, by omega⟩ (by omega) (by omega) ?_) | ((with_reducible show remK _ _ _ _); refine rem_ok (by omega) (by omega) ?_) | ((first | (with_reducible show CallA _ _ _ _ _ _) | (with_reducible show CallQ _ _ _ _ _ _)); first | (refine CallA.go [] (hsc) rfl (by first | ((repeat' (first | exact rfl | exact trivial | (with_reducible assumption) | refine And.intro ?_ ?_ | omega | assumption)); done) | fail) trivial ?_)) | ((with_reducible show DrawA _ _ _ _ _ _); first | (refine draw_hard hT mixed (by decide +kernel) ?_))))
    all_goals first | rfl | omega | contradiction | (show _ < Ls.length; omega) | (show (_ : Int) < (Ls.length : Int); omega) | (show (_ : Nat) ≤ _; simp; omega) | exact Nat.le_of_ble_eq_true rfl | skip
    all_goals ((conv => whnf); first | (refine ⟨[none], .tup [.sl 0 5 ([] : List (List Int)).length, I 6], [DMember []], ?_, ?_, ?_⟩; all_goals (repeat' (first | exact rfl | exact trivial | (with_reducible assumption) | refine And.intro ?_ ?_)); all_goals (first | omega | assumption); done) | trace_state)
end Go.Proofs.YtgpgnhadmckmhaaGreatDoor
namespace Go.Proofs.YtgpgnhadmckmhaaGreatDoor
open Go.AE Go.Lib

attribute [local irreducible] CallA LoopA DrawA CallQ arithK quoK remK eqK
theorem readDecimal_ret (w : List UInt8) (hw : w.length ≤ 1048576) : Ret Tryz.prog G2 83 [Sv w] (.tup [I (dcV w), Bo (dcB w)]) := by
  by_cases hg : ∃ n, rg n ∧ w = itoa n
  · obtain ⟨n, h1, h2⟩ := hg
    obtain ⟨e1, e2⟩ := dc_yes h1 h2
    rw [e1, e2, h2]
    exact readDecimal_yes n h1.1 h1.2
  · obtain ⟨e1, e2⟩ := dc_no fun n h1 h2 => hg ⟨n, h1, h2⟩
    rw [e1, e2]
    exact readDecimal_no w hw fun n h0 h9 he => hg ⟨n, ⟨h0, h9⟩, he⟩
/-- The member's cells, and whether all is fine, after so many rounds. -/
def mcl (a b c d e : Int) : Nat → List AV
  | 0 => [I a, I 0, I 0, I (-1), I 0]
  | 1 => [I a, I b, I 0, I (-1), I 0]
  | 2 => [I a, I b, I c, I (-1), I 0]
  | 3 => [I a, I b, I c, I (-1), I e]
  | _ => [I a, I b, I c, I d, I e]
def okl (p q r s t : Bool) : Nat → Bool
  | 0 => p
  | 1 => p && q
  | 2 => p && (q && r)
  | 3 => p && (q && (r && s))
  | _ => p && (q && (r && (s && t)))
set_option maxHeartbeats 4000000 in
set_option maxRecDepth 100000 in
theorem readMember_ret (l : List UInt8) (hn : l.length ≤ 1048576) : Ret Tryz.prog G2 63 [Sv l] (.tup [WMember (rowP l), Bo (okP l)]) := by
  refine ret_of_body hT Tryz.func63 rfl ?_ rfl
  have hps := sp_short (c := 32) hn
  have hsc := (split_call l 32 (by omega)).weak G_G2
  unfold rowP okP
  generalize sp 32 l = ws at *
  by_cases h5 : ws.length = 5
  · obtain ⟨w0, w1, w2, w3, w4, rfl⟩ : ∃ w0 w1 w2 w3 w4, ws = [w0, w1, w2, w3, w4] := by
      match ws, h5 with
      | [w0, w1, w2, w3, w4], _ => exact ⟨_, _, _, _, _, rfl⟩
    have k0 := hps w0 (by simp)
    have k1 := hps w1 (by simp)
    have k2 := hps w2 (by simp)
    have k3 := hps w3 (by simp)
    have k4 := hps w4 (by simp)
    have hd := readDecimal_ret w0 k0
    rw [if_pos h5]
    have e0 : ([w0, w1, w2, w3, w4] : List (List UInt8)).getD 0 [] = w0 := rfl
    have e1 : ([w0, w1, w2, w3, w4] : List (List UInt8)).getD 1 [] = w1 := rfl
    have e2 : ([w0, w1, w2, w3, w4] : List (List UInt8)).getD 2 [] = w2 := rfl
    have e3 : ([w0, w1, w2, w3, w4] : List (List UInt8)).getD 3 [] = w3 := rfl
    have e4 : ([w0, w1, w2, w3, w4] : List (List UInt8)).getD 4 [] = w4 := rfl
    rw [e0, e1, e2, e3, e4, decide_eq_true h5, Bool.true_and]
    repeat' ((first | (conv => whnf) | skip); (first | ((with_reducible intro h); first | contradiction | omega | (conv => whnf) | skip) | (with_reducible refine And.intro ?_ ?_) | ((with_reducible show arithK _ _ _); refine arith_ok ⟨by omega, by omega⟩ ?_) | ((with_reducible show quoK _ _ _ _); refine quo_ok ⟨by omega, by omega⟩ (by omega) (by omega) ?_) | ((with_reducible show remK _ _ _ _); refine rem_ok (by omega) (by omega) ?_) | ((first | (with_reducible show CallA _ _ _ _ _ _) | (with_reducible show CallQ _ _ _ _ _ _)); first | (refine CallA.go [] (hsc) rfl (by first | ((repeat' (first | exact rfl | exact trivial | (with_reducible assumption) | refine And.intro ?_ ?_ | omega | assumption)); done) | fail) trivial ?_) | (refine Ret.go (hd) rfl rfl ?_) | (refine Ret.goQ (hd) rfl rfl ?_)) | ((with_reducible show DrawA _ _ _ _ _ _); first | (refine draw_hard hT mixed (by decide +kernel) ?_))))
    all_goals first | rfl | omega | contradiction | skip
    (conv => whnf)
    refine loop_rule hT (fun q : Nat × Bool => q.1 ≤ 4 ∧ q.2 = okl (dcB w0) (rmB w1) (rmB w2) (rmB w3) (lfB w4) q.1) 65 4 [2, 4, 6, 7, 31, 32, 33] (fun q => [.ptr 0 0, .sl 1 1 5, Bo q.2, .ptr 2 0, .sl 3 1 4, I 4, I q.1]) (fun q => [.cells [I 0, I 0, I 0, I 0, I 0], .data (.strs [B w0, B w1, B w2, B w3, B w4]), .cells (mcl (dcV w0) (rmN w1) (rmN w2) (lfV w4) (rmN w3) q.1), .cells [.ptr 2 1, .ptr 2 2, .ptr 2 4, .ptr 2 3]]) (fun q => 4 - q.1) ((0, dcB w0)) (Nat.le_of_ble_eq_true rfl) ?_ ?_ ?_
    · exact ⟨Nat.zero_le _, rfl⟩
    · first | (refine ⟨rfl, [], ?_, ?_⟩; all_goals (repeat' (first | exact rfl | exact trivial | (with_reducible assumption) | refine And.intro ?_ ?_)); all_goals (first | omega | assumption); done) | trace_state
    · rintro ⟨i, ok⟩ ⟨h1, h2⟩
      dsimp only at h1 h2 ⊢
      rcases (show i = 0 ∨ i = 1 ∨ i = 2 ∨ i = 3 ∨ i = 4 by omega) with rfl | rfl | rfl | rfl | rfl
      · skip
        have hrm := readMonth_ret w1 (by omega)
        obtain ⟨fb, hfb⟩ : ∃ fb, fb = rmB w1 := ⟨_, rfl⟩
        rw [← hfb] at hrm
        cases ok <;> cases fb
        all_goals (repeat' ((first | (conv => whnf) | skip); (first | ((with_reducible intro h); first | contradiction | omega | (conv => whnf) | skip) | (with_reducible refine And.intro ?_ ?_) | ((with_reducible show arithK _ _ _); refine arith_ok ⟨by omega, by omega⟩ ?_) | ((with_reducible show quoK _ _ _ _); refine quo_ok ⟨by omega, by omega⟩ (by omega) (by omega) ?_) | ((with_reducible show remK _ _ _ _); refine rem_ok (by omega) (by omega) ?_) | ((first | (with_reducible show CallA _ _ _ _ _ _) | (with_reducible show CallQ _ _ _ _ _ _)); first | (refine Ret.go (hrm) rfl rfl ?_) | (refine Ret.goQ (hrm) rfl rfl ?_)) | ((with_reducible show DrawA _ _ _ _ _ _); first | (refine draw_hard hT mixed (by decide +kernel) ?_)))))
        all_goals first | rfl | omega | contradiction | exact Nat.le_of_ble_eq_true rfl | skip
        all_goals ((conv => whnf); first | (refine ⟨(1, true), ⟨by dsimp only; omega, by dsimp only; simp only [okl] at h2 ⊢; rw [← h2, ← hfb]; rfl⟩, ?_, by dsimp only; omega⟩; (refine ⟨rfl, [], ?_, ?_⟩; all_goals (repeat' (first | exact rfl | exact trivial | (with_reducible assumption) | refine And.intro ?_ ?_)); all_goals (first | omega | assumption); done)) | (refine ⟨(1, false), ⟨by dsimp only; omega, by dsimp only; simp only [okl] at h2 ⊢; rw [← h2, ← hfb]; rfl⟩, ?_, by dsimp only; omega⟩; (refine ⟨rfl, [], ?_, ?_⟩; all_goals (repeat' (first | exact rfl | exact trivial | (with_reducible assumption) | refine And.intro ?_ ?_)); all_goals (first | omega | assumption); done)) | trace_state)
      · skip
        have hrm := readMonth_ret w2 (by omega)
        obtain ⟨fb, hfb⟩ : ∃ fb, fb = rmB w2 := ⟨_, rfl⟩
        rw [← hfb] at hrm
        cases ok <;> cases fb
        all_goals (repeat' ((first | (conv => whnf) | skip); (first | ((with_reducible intro h); first | contradiction | omega | (conv => whnf) | skip) | (with_reducible refine And.intro ?_ ?_) | ((with_reducible show arithK _ _ _); refine arith_ok ⟨by omega, by omega⟩ ?_) | ((with_reducible show quoK _ _ _ _); refine quo_ok ⟨by omega, by omega⟩ (by omega) (by omega) ?_) | ((with_reducible show remK _ _ _ _); refine rem_ok (by omega) (by omega) ?_) | ((first | (with_reducible show CallA _ _ _ _ _ _) | (with_reducible show CallQ _ _ _ _ _ _)); first | (refine Ret.go (hrm) rfl rfl ?_) | (refine Ret.goQ (hrm) rfl rfl ?_)) | ((with_reducible show DrawA _ _ _ _ _ _); first | (refine draw_hard hT mixed (by decide +kernel) ?_)))))
        all_goals first | rfl | omega | contradiction | exact Nat.le_of_ble_eq_true rfl | skip
        all_goals ((conv => whnf); first | (refine ⟨(2, true), ⟨by dsimp only; omega, by dsimp only; simp only [okl, ← Bool.and_assoc] at h2 ⊢; rw [← h2, ← hfb]; rfl⟩, ?_, by dsimp only; omega⟩; (refine ⟨rfl, [], ?_, ?_⟩; all_goals (repeat' (first | exact rfl | exact trivial | (with_reducible assumption) | refine And.intro ?_ ?_)); all_goals (first | omega | assumption); done)) | (refine ⟨(2, false), ⟨by dsimp only; omega, by dsimp only; simp only [okl, ← Bool.and_assoc] at h2 ⊢; rw [← h2, ← hfb]; rfl⟩, ?_, by dsimp only; omega⟩; (refine ⟨rfl, [], ?_, ?_⟩; all_goals (repeat' (first | exact rfl | exact trivial | (with_reducible assumption) | refine And.intro ?_ ?_)); all_goals (first | omega | assumption); done)) | trace_state)
      · skip
        have hrm := readMonth_ret w3 (by omega)
        obtain ⟨fb, hfb⟩ : ∃ fb, fb = rmB w3 := ⟨_, rfl⟩
        rw [← hfb] at hrm
        cases ok <;> cases fb
        all_goals (repeat' ((first | (conv => whnf) | skip); (first | ((with_reducible intro h); first | contradiction | omega | (conv => whnf) | skip) | (with_reducible refine And.intro ?_ ?_) | ((with_reducible show arithK _ _ _); refine arith_ok ⟨by omega, by omega⟩ ?_) | ((with_reducible show quoK _ _ _ _); refine quo_ok ⟨by omega, by omega⟩ (by omega) (by omega) ?_) | ((with_reducible show remK _ _ _ _); refine rem_ok (by omega) (by omega) ?_) | ((first | (with_reducible show CallA _ _ _ _ _ _) | (with_reducible show CallQ _ _ _ _ _ _)); first | (refine Ret.go (hrm) rfl rfl ?_) | (refine Ret.goQ (hrm) rfl rfl ?_)) | ((with_reducible show DrawA _ _ _ _ _ _); first | (refine draw_hard hT mixed (by decide +kernel) ?_)))))
        all_goals first | rfl | omega | contradiction | exact Nat.le_of_ble_eq_true rfl | skip
        all_goals ((conv => whnf); first | (refine ⟨(3, true), ⟨by dsimp only; omega, by dsimp only; simp only [okl, ← Bool.and_assoc] at h2 ⊢; rw [← h2, ← hfb]; rfl⟩, ?_, by dsimp only; omega⟩; (refine ⟨rfl, [], ?_, ?_⟩; all_goals (repeat' (first | exact rfl | exact trivial | (with_reducible assumption) | refine And.intro ?_ ?_)); all_goals (first | omega | assumption); done)) | (refine ⟨(3, false), ⟨by dsimp only; omega, by dsimp only; simp only [okl, ← Bool.and_assoc] at h2 ⊢; rw [← h2, ← hfb]; rfl⟩, ?_, by dsimp only; omega⟩; (refine ⟨rfl, [], ?_, ?_⟩; all_goals (repeat' (first | exact rfl | exact trivial | (with_reducible assumption) | refine And.intro ?_ ?_)); all_goals (first | omega | assumption); done)) | trace_state)
      · by_cases h45 : w4 = [45]
        · have hE : B w4 = (⟨#[45]⟩ : ByteArray) := by rw [h45]
          have hlv : lfV w4 = -1 := if_pos h45
          have hfb : true = lfB w4 := (if_pos h45).symm
          cases ok
          all_goals (repeat' ((first | (conv => whnf) | skip); (first | ((with_reducible intro h); first | contradiction | omega | (conv => whnf) | skip) | (with_reducible refine And.intro ?_ ?_) | ((with_reducible show arithK _ _ _); refine arith_ok ⟨by omega, by omega⟩ ?_) | ((with_reducible show quoK _ _ _ _); refine quo_ok ⟨by omega, by omega⟩ (by omega) (by omega) ?_) | ((with_reducible show remK _ _ _ _); refine rem_ok (by omega) (by omega) ?_) | ((first | (with_reducible show CallA _ _ _ _ _ _) | (with_reducible show CallQ _ _ _ _ _ _)); first | fail) | ((with_reducible show DrawA _ _ _ _ _ _); first | (refine draw_hard hT mixed (by decide +kernel) ?_)))))
          all_goals first | rfl | omega | contradiction | exact Nat.le_of_ble_eq_true rfl | skip
          all_goals ((conv => whnf); first | (refine ⟨(4, true), ⟨by dsimp only; omega, by dsimp only; simp only [okl, ← Bool.and_assoc] at h2 ⊢; rw [← h2, ← hfb]; rfl⟩, ?_, by dsimp only; omega⟩; (refine ⟨rfl, [], ?_, ?_⟩; all_goals (repeat' (first | exact rfl | exact trivial | (with_reducible assumption) | refine And.intro ?_ ?_)); all_goals (first | omega | assumption); done)) | (refine ⟨(4, false), ⟨by dsimp only; omega, by dsimp only; simp only [okl, ← Bool.and_assoc] at h2 ⊢; rw [← h2, ← hfb]; rfl⟩, ?_, by dsimp only; omega⟩; (refine ⟨rfl, [], ?_, ?_⟩; all_goals (repeat' (first | exact rfl | exact trivial | (with_reducible assumption) | refine And.intro ?_ ?_)); all_goals (first | omega | assumption); done)) | trace_state)
        · have hE : ¬ B w4 = (⟨#[45]⟩ : ByteArray) := fun e => h45 (B_inj.1 e)
          have hrm := readMonth_ret w4 (by omega)
          have hlv : lfV w4 = rmN w4 := if_neg h45
          have hfb0 : lfB w4 = rmB w4 := if_neg h45
          rw [← hlv, ← hfb0] at hrm
          obtain ⟨fb, hfb⟩ : ∃ fb, fb = lfB w4 := ⟨_, rfl⟩
          rw [← hfb] at hrm
          cases ok <;> cases fb
          all_goals (repeat' ((first | (conv => whnf) | skip); (first | ((with_reducible intro h); first | contradiction | omega | (conv => whnf) | skip) | (with_reducible refine And.intro ?_ ?_) | ((with_reducible show arithK _ _ _); refine arith_ok ⟨by omega, by omega⟩ ?_) | ((with_reducible show quoK _ _ _ _); refine quo_ok ⟨by omega, by omega⟩ (by omega) (by omega) ?_) | ((with_reducible show remK _ _ _ _); refine rem_ok (by omega) (by omega) ?_) | ((first | (with_reducible show CallA _ _ _ _ _ _) | (with_reducible show CallQ _ _ _ _ _ _)); first | (refine Ret.go (hrm) rfl rfl ?_) | (refine Ret.goQ (hrm) rfl rfl ?_)) | ((with_reducible show DrawA _ _ _ _ _ _); first | (refine draw_hard hT mixed (by decide +kernel) ?_)))))
          all_goals first | rfl | omega | contradiction | exact Nat.le_of_ble_eq_true rfl | skip
          all_goals ((conv => whnf); first | (refine ⟨(4, true), ⟨by dsimp only; omega, by dsimp only; simp only [okl, ← Bool.and_assoc] at h2 ⊢; rw [← h2, ← hfb]; rfl⟩, ?_, by dsimp only; omega⟩; (refine ⟨rfl, [], ?_, ?_⟩; all_goals (repeat' (first | exact rfl | exact trivial | (with_reducible assumption) | refine And.intro ?_ ?_)); all_goals (first | omega | assumption); done)) | (refine ⟨(4, false), ⟨by dsimp only; omega, by dsimp only; simp only [okl, ← Bool.and_assoc] at h2 ⊢; rw [← h2, ← hfb]; rfl⟩, ?_, by dsimp only; omega⟩; (refine ⟨rfl, [], ?_, ?_⟩; all_goals (repeat' (first | exact rfl | exact trivial | (with_reducible assumption) | refine And.intro ?_ ?_)); all_goals (first | omega | assumption); done)) | trace_state)
      · simp only [okl] at h2
        rw [← h2]
        repeat' ((first | (conv => whnf) | skip); (first | ((with_reducible intro h); first | contradiction | omega | (conv => whnf) | skip) | (with_reducible refine And.intro ?_ ?_) | ((with_reducible show arithK _ _ _); refine arith_ok ⟨by omega, by omega⟩ ?_) | ((with_reducible show quoK _ _ _ _); refine quo_ok ⟨by omega, by omega⟩ (by omega) (by omega) ?_) | ((with_reducible show remK _ _ _ _); refine rem_ok (by omega) (by omega) ?_) | ((first | (with_reducible show CallA _ _ _ _ _ _) | (with_reducible show CallQ _ _ _ _ _ _)); first | fail) | ((with_reducible show DrawA _ _ _ _ _ _); first | (refine draw_hard hT mixed (by decide +kernel) ?_))))
        all_goals first | rfl | omega | contradiction | trace_state
  · rw [if_neg h5, decide_eq_false h5, Bool.false_and]
    have hml : (ws.map B).length = ws.length := List.length_map _
    repeat' ((first | (conv => whnf) | skip); (first | ((with_reducible intro h); first | contradiction | omega | (conv => whnf) | skip) | (with_reducible refine And.intro ?_ ?_) | ((with_reducible show arithK _ _ _); refine arith_ok ⟨by omega, by omega⟩ ?_) | ((with_reducible show quoK _ _ _ _); refine quo_ok ⟨by omega, by omega⟩ (by omega) (by omega) ?_) | ((with_reducible show remK _ _ _ _); refine rem_ok (by omega) (by omega) ?_) | ((first | (with_reducible show CallA _ _ _ _ _ _) | (with_reducible show CallQ _ _ _ _ _ _)); first | (refine CallA.go [] (hsc) rfl (by first | ((repeat' (first | exact rfl | exact trivial | (with_reducible assumption) | refine And.intro ?_ ?_ | omega | assumption)); done) | fail) trivial ?_)) | ((with_reducible show DrawA _ _ _ _ _ _); first | (refine draw_hard hT mixed (by decide +kernel) ?_))))
    all_goals first | rfl | omega | contradiction | trace_state
end Go.Proofs.YtgpgnhadmckmhaaGreatDoor
namespace Go.Proofs.YtgpgnhadmckmhaaGreatDoor
open Go.AE Go.Lib

attribute [local irreducible] CallA LoopA DrawA CallQ arithK quoK remK eqK
attribute [local irreducible] mt mtx rgx RM CM rmN rmB rowP okP
set_option maxHeartbeats 4000000 in
set_option maxRecDepth 100000 in
theorem implRR_call (s : List UInt8) (hn : s.length ≤ 1048576) : CallA Tryz.prog G2 23 [Sv s] [] (fun v J => v = .tup [.sl 0 5 (RM s).length, I (CM s)] ∧ J = [DMember (RM s)]) := by
  refine CallA.ends (callA_of_body hT Tryz.func23 rfl ?_)
  obtain ⟨Ls, ps, l, hL⟩ := lns_of s
  have hsc : CallA Tryz.prog G2 51 [Sv s, Sv [10]] [] (fun v J => v = .sl 0 1 ((sp 10 s).map B).length ∧ J = [.data (.strs ((sp 10 s).map B))]) := (split_call s 10 (by omega)).weak G_G2
  rw [← hL.d] at hsc
  have hll := hL.len
  have he0 := hL.e
  have hidx : ((Ls.length : Int) - 1).toNat - 0 = ps.length := by omega
  obtain ⟨hsh, hpl⟩ := hL.short hn
  repeat' ((first | (conv => whnf) | skip); (first | ((with_reducible intro h); first | contradiction | omega | (conv => whnf) | skip) | (with_reducible refine And.intro ?_ ?_) | ((with_reducible show arithK _ _ _); refine arith_ok ⟨by omega, by omega⟩ ?_) | ((with_reducible show quoK _ _ _ _); refine quo_ok ⟨by omega, by omega⟩ (by omega) (by omega) ?_) | ((with_reducible show remK _ _ _ _); refine rem_ok (by omega) (by omega) ?_) | ((first | (with_reducible show CallA _ _ _ _ _ _) | (with_reducible show CallQ _ _ _ _ _ _)); first | (refine CallA.go [] (hsc) rfl (by first | ((repeat' (first | exact rfl | exact trivial | (with_reducible assumption) | refine And.intro ?_ ?_ | omega | assumption)); done) | fail) trivial ?_)) | ((with_reducible show DrawA _ _ _ _ _ _); first | (refine draw_hard hT mixed (by decide +kernel) ?_))))
  all_goals first | rfl | omega | contradiction | skip
  (conv => whnf)
  refine loop_rule hT (fun q : Nat × List (List Int) => RdP ps q.1 q.2 ∧ q.2.length ≤ 60) 50 2 [0, 5, 17, 18, 19] (fun q => [Sv s, .sl 2 5 q.2.length, .sub 0 1 0 (((Ls.length : Int) - 1).toNat - 0), I ((((Ls.length : Int) - 1).toNat - 0 : Nat) : Int), I q.1]) (fun q => [.data (.strs Ls), .dead, DMember q.2]) (fun q => ps.length - q.1) ((0, [])) (Nat.le_of_ble_eq_true rfl) ?_ ?_ ?_
  · exact ⟨RdP.start ps, Nat.zero_le _⟩
  · first | (refine ⟨rfl, [some 1], ?_, ?_⟩; all_goals (repeat' (first | exact rfl | exact trivial | (with_reducible assumption) | refine And.intro ?_ ?_)); all_goals (first | omega | assumption); done) | trace_state
  · rintro ⟨i, out⟩ ⟨hR, h60⟩
    dsimp only at hR h60 ⊢
    have hle := hR.le
    have hol := hR.len
    by_cases hi : i < ps.length
    · have hraw : Ls.getD (0 + ((i : Int)).toNat) ByteArray.empty = B (ps.getD i []) := by rw [Nat.zero_add]; exact hL.at hi
      have hrm := readMember_ret (ps.getD i []) (hsh i hi)
      rw [show Sv (ps.getD i []) = .v (.string (Ls.getD (0 + ((i : Int)).toNat) ByteArray.empty)) from congrArg (fun b => AV.v (.string b)) hraw.symm] at hrm
      by_cases hk : okP (ps.getD i []) = true
      · rw [hk] at hrm
        by_cases h6 : out.length = 60
        · obtain ⟨k1, k2⟩ := RM_no (nacc_60 he0 (by omega))
          rw [k1, k2]
          repeat' ((first | (conv => whnf) | skip); (first | ((with_reducible intro h); first | contradiction | omega | (conv => whnf) | skip) | (with_reducible refine And.intro ?_ ?_) | ((with_reducible show arithK _ _ _); refine arith_ok ⟨by omega, by omega⟩ ?_) | ((with_reducible show quoK _ _ _ _); refine quo_ok ⟨by omega, by omega⟩ (by omega) (by omega) ?_) | ((with_reducible show remK _ _ _ _); refine rem_ok (by omega) (by omega) ?_) | ((first | (with_reducible show CallA _ _ _ _ _ _) | (with_reducible show CallQ _ _ _ _ _ _)); first | (refine Ret.go (hrm) rfl rfl ?_) | (refine Ret.goQ (hrm) rfl rfl ?_)) | ((with_reducible show DrawA _ _ _ _ _ _); first | (refine draw_hard hT mixed (by decide +kernel) ?_))))
          all_goals first | rfl | omega | contradiction | (show _ < Ls.length; omega) | (show (_ : Int) < (Ls.length : Int); omega) | (show (_ : Nat) ≤ _; simp; omega) | skip
          all_goals ((conv => whnf); first | (refine ⟨[none], .tup [.sl 0 5 ([] : List (List Int)).length, I 6], [DMember []], ?_, ?_, ?_⟩; all_goals (repeat' (first | exact rfl | exact trivial | (with_reducible assumption) | refine And.intro ?_ ?_)); all_goals (first | omega | assumption); done) | trace_state)
        · have hnx := hR.next hi hk
          have he := etaMember (rowP_len (ps.getD i []))
          repeat' ((first | (conv => whnf) | skip); (first | ((with_reducible intro h); first | contradiction | omega | (conv => whnf) | skip) | (with_reducible refine And.intro ?_ ?_) | ((with_reducible show arithK _ _ _); refine arith_ok ⟨by omega, by omega⟩ ?_) | ((with_reducible show quoK _ _ _ _); refine quo_ok ⟨by omega, by omega⟩ (by omega) (by omega) ?_) | ((with_reducible show remK _ _ _ _); refine rem_ok (by omega) (by omega) ?_) | ((first | (with_reducible show CallA _ _ _ _ _ _) | (with_reducible show CallQ _ _ _ _ _ _)); first | (refine Ret.go (hrm) rfl rfl ?_) | (refine Ret.goQ (hrm) rfl rfl ?_)) | ((with_reducible show DrawA _ _ _ _ _ _); first | (refine draw_hard hT mixed (by decide +kernel) ?_))))
          all_goals first | rfl | omega | contradiction | (show _ < Ls.length; omega) | (show (_ : Int) < (Ls.length : Int); omega) | (show (_ : Nat) ≤ _; simp; omega) | skip
          all_goals ((conv => whnf); first | (refine ⟨(i + 1, out ++ [rowP (ps.getD i [])]), ⟨hnx, by rw [List.length_append]; show out.length + 1 ≤ 60; omega⟩, ?_, by dsimp only; omega⟩; first | (refine ⟨rfl, [some 5], ?_, ?_⟩; all_goals (repeat' (first | exact rfl | exact trivial | (with_reducible assumption) | refine And.intro ?_ ?_)); all_goals (first | omega | assumption | ((repeat' (first | ((try dsimp only); rw [← he]; exact rfl) | exact rfl | exact trivial | (with_reducible assumption) | refine And.intro ?_ ?_ | omega | assumption)); done)); done) | (refine ⟨rfl, [some 4], ?_, ?_⟩; all_goals (repeat' (first | exact rfl | exact trivial | (with_reducible assumption) | refine And.intro ?_ ?_)); all_goals (first | omega | assumption | ((repeat' (first | ((try dsimp only); rw [← he]; exact rfl) | exact rfl | exact trivial | (with_reducible assumption) | refine And.intro ?_ ?_ | omega | assumption)); done)); done) | trace_state) | trace_state)
      · have hk : okP (ps.getD i []) = false := by cases h : okP (ps.getD i []) with | true => exact absurd h hk | false => rfl
        rw [hk] at hrm
        obtain ⟨k1, k2⟩ := RM_no (nacc_ok he0 hi hk)
        rw [k1, k2]
        repeat' ((first | (conv => whnf) | skip); (first | ((with_reducible intro h); first | contradiction | omega | (conv => whnf) | skip) | (with_reducible refine And.intro ?_ ?_) | ((with_reducible show arithK _ _ _); refine arith_ok ⟨by omega, by omega⟩ ?_) | ((with_reducible show quoK _ _ _ _); refine quo_ok ⟨by omega, by omega⟩ (by omega) (by omega) ?_) | ((with_reducible show remK _ _ _ _); refine rem_ok (by omega) (by omega) ?_) | ((first | (with_reducible show CallA _ _ _ _ _ _) | (with_reducible show CallQ _ _ _ _ _ _)); first | (refine Ret.go (hrm) rfl rfl ?_) | (refine Ret.goQ (hrm) rfl rfl ?_)) | ((with_reducible show DrawA _ _ _ _ _ _); first | (refine draw_hard hT mixed (by decide +kernel) ?_))))
        all_goals first | rfl | omega | contradiction | (show _ < Ls.length; omega) | (show (_ : Int) < (Ls.length : Int); omega) | (show (_ : Nat) ≤ _; simp; omega) | skip
        all_goals ((conv => whnf); first | (refine ⟨[none], .tup [.sl 0 5 ([] : List (List Int)).length, I 6], [DMember []], ?_, ?_, ?_⟩; all_goals (repeat' (first | exact rfl | exact trivial | (with_reducible assumption) | refine And.intro ?_ ?_)); all_goals (first | omega | assumption); done) | trace_state)
    · obtain rfl : i = ps.length := by omega
      have har := (implReg_ret out (by omega)).weak G_G2
      by_cases ha : isReg out
      · rw [decide_eq_true ha] at har
        have htx := (implRT_ret out ha).weak G_G2
        by_cases hst : rgx out = s
        · obtain ⟨e1, e2⟩ := RM_yes (hR.acc ha hst)
          rw [e1, e2]
          rw [hst] at htx
          repeat' ((first | (conv => whnf) | skip); (first | ((with_reducible intro h); first | contradiction | omega | (conv => whnf) | skip) | (with_reducible refine And.intro ?_ ?_) | ((with_reducible show arithK _ _ _); refine arith_ok ⟨by omega, by omega⟩ ?_) | ((with_reducible show quoK _ _ _ _); refine quo_ok ⟨by omega, by omega⟩ (by omega) (by omega) ?_) | ((with_reducible show remK _ _ _ _); refine rem_ok (by omega) (by omega) ?_) | ((first | (with_reducible show CallA _ _ _ _ _ _) | (with_reducible show CallQ _ _ _ _ _ _)); first | (refine Ret.use (har) (by first | ((repeat' (first | exact rfl | exact trivial | (with_reducible assumption) | refine And.intro ?_ ?_ | omega | assumption)); done) | fail) ?_) | (refine Ret.useQ (har) (by first | ((repeat' (first | exact rfl | exact trivial | (with_reducible assumption) | refine And.intro ?_ ?_ | omega | assumption)); done) | fail) rfl ?_) | (refine Ret.use (htx) (by first | ((repeat' (first | exact rfl | exact trivial | (with_reducible assumption) | refine And.intro ?_ ?_ | omega | assumption)); done) | fail) ?_) | (refine Ret.useQ (htx) (by first | ((repeat' (first | exact rfl | exact trivial | (with_reducible assumption) | refine And.intro ?_ ?_ | omega | assumption)); done) | fail) rfl ?_)) | ((with_reducible show DrawA _ _ _ _ _ _); first | (refine draw_hard hT mixed (by decide +kernel) ?_))))
          all_goals first | rfl | omega | contradiction | skip
          all_goals ((conv => whnf); first | (refine ⟨[some 2], .tup [.sl 0 5 out.length, I 0], [DMember out], ?_, ?_, ?_⟩; all_goals (repeat' (first | exact rfl | exact trivial | (with_reducible assumption) | refine And.intro ?_ ?_)); all_goals (first | omega | assumption); done) | trace_state)
        · obtain ⟨e1, e2⟩ := RM_no (hR.nacc he0 fun hh => hst hh.2)
          rw [e1, e2]
          have hne : B (rgx out) ≠ B s := fun e => hst (B_inj.1 e)
          repeat' ((first | (conv => whnf) | skip); (first | ((with_reducible intro h); first | contradiction | omega | (conv => whnf) | skip) | (with_reducible refine And.intro ?_ ?_) | ((with_reducible show arithK _ _ _); refine arith_ok ⟨by omega, by omega⟩ ?_) | ((with_reducible show quoK _ _ _ _); refine quo_ok ⟨by omega, by omega⟩ (by omega) (by omega) ?_) | ((with_reducible show remK _ _ _ _); refine rem_ok (by omega) (by omega) ?_) | ((first | (with_reducible show CallA _ _ _ _ _ _) | (with_reducible show CallQ _ _ _ _ _ _)); first | (refine Ret.use (har) (by first | ((repeat' (first | exact rfl | exact trivial | (with_reducible assumption) | refine And.intro ?_ ?_ | omega | assumption)); done) | fail) ?_) | (refine Ret.useQ (har) (by first | ((repeat' (first | exact rfl | exact trivial | (with_reducible assumption) | refine And.intro ?_ ?_ | omega | assumption)); done) | fail) rfl ?_) | (refine Ret.use (htx) (by first | ((repeat' (first | exact rfl | exact trivial | (with_reducible assumption) | refine And.intro ?_ ?_ | omega | assumption)); done) | fail) ?_) | (refine Ret.useQ (htx) (by first | ((repeat' (first | exact rfl | exact trivial | (with_reducible assumption) | refine And.intro ?_ ?_ | omega | assumption)); done) | fail) rfl ?_)) | ((with_reducible show DrawA _ _ _ _ _ _); first | (refine draw_hard hT mixed (by decide +kernel) ?_))))
          all_goals first | rfl | omega | contradiction | (show _ < Ls.length; omega) | (show (_ : Int) < (Ls.length : Int); omega) | (show (_ : Nat) ≤ _; simp; omega) | skip
          all_goals ((conv => whnf); first | (refine ⟨[none], .tup [.sl 0 5 ([] : List (List Int)).length, I 6], [DMember []], ?_, ?_, ?_⟩; all_goals (repeat' (first | exact rfl | exact trivial | (with_reducible assumption) | refine And.intro ?_ ?_)); all_goals (first | omega | assumption); done) | trace_state)
      · obtain ⟨e1, e2⟩ := RM_no (hR.nacc he0 fun hh => ha hh.1)
        rw [e1, e2]
        rw [decide_eq_false ha] at har
        repeat' ((first | (conv => whnf) | skip); (first | ((with_reducible intro h); first | contradiction | omega | (conv => whnf) | skip) | (with_reducible refine And.intro ?_ ?_) | ((with_reducible show arithK _ _ _); refine arith_ok ⟨by omega, by omega⟩ ?_) | ((with_reducible show quoK _ _ _ _); refine quo_ok ⟨by omega, by omega⟩ (by omega) (by omega) ?_) | ((with_reducible show remK _ _ _ _); refine rem_ok (by omega) (by omega) ?_) | ((first | (with_reducible show CallA _ _ _ _ _ _) | (with_reducible show CallQ _ _ _ _ _ _)); first | (refine Ret.use (har) (by first | ((repeat' (first | exact rfl | exact trivial | (with_reducible assumption) | refine And.intro ?_ ?_ | omega | assumption)); done) | fail) ?_) | (refine Ret.useQ (har) (by first | ((repeat' (first | exact rfl | exact trivial | (with_reducible assumption) | refine And.intro ?_ ?_ | omega | assumption)); done) | fail) rfl ?_)) | ((with_reducible show DrawA _ _ _ _ _ _); first | (refine draw_hard hT mixed (by decide +kernel) ?_))))
        all_goals first | rfl | omega | contradiction | (show _ < Ls.length; omega) | (show (_ : Int) < (Ls.length : Int); omega) | (show (_ : Nat) ≤ _; simp; omega) | skip
        all_goals ((conv => whnf); first | (refine ⟨[none], .tup [.sl 0 5 ([] : List (List Int)).length, I 6], [DMember []], ?_, ?_, ?_⟩; all_goals (repeat' (first | exact rfl | exact trivial | (with_reducible assumption) | refine And.intro ?_ ?_)); all_goals (first | omega | assumption); done) | trace_state)
end Go.Proofs.YtgpgnhadmckmhaaGreatDoor
