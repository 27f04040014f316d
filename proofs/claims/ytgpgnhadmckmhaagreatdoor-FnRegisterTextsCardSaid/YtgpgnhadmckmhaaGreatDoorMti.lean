/-
  Registers read by the reference: what the function returns. No conditions but those in the statements.
-/
import Derived.Test.YtgpgnhadmckmhaaGreatDoorMth
import Derived.Test.YtgpgnhadmckmhaaGreatDoorMtd
import Derived.Test.YtgpgnhadmckmhaaGreatDoorStp
set_option linter.unusedVariables false
set_option linter.unusedSimpArgs false
namespace Go.Proofs.YtgpgnhadmckmhaaGreatDoor
open Go.AE Go.Lib

attribute [local irreducible] CallA LoopA DrawA CallQ arithK quoK remK eqK
/-- The lines of a text, the last one apart. -/
structure Lns (s : List UInt8) (Ls : List ByteArray) (ps : List (List UInt8)) (l : List UInt8) : Prop where
  e : sp 10 s = ps ++ [l]
  d : Ls = (sp 10 s).map B
theorem Lns.len {s : List UInt8} {Ls : List ByteArray} {ps : List (List UInt8)} {l : List UInt8} (h : Lns s Ls ps l) : Ls.length = ps.length + 1 := by rw [h.d, h.e, List.length_map, List.length_append]; rfl
theorem Lns.at {s : List UInt8} {Ls : List ByteArray} {ps : List (List UInt8)} {l : List UInt8} (h : Lns s Ls ps l) {i : Nat} (hi : i < ps.length) : Ls.getD i ByteArray.empty = B (ps.getD i []) := by
  rw [h.d, strs_getD, h.e, List.getD_eq_getElem?_getD, List.getElem?_append_left hi, ← List.getD_eq_getElem?_getD]
theorem Lns.last {s : List UInt8} {Ls : List ByteArray} {ps : List (List UInt8)} {l : List UInt8} (h : Lns s Ls ps l) : Ls.getD ps.length ByteArray.empty = B l := by
  rw [h.d, strs_getD, h.e, List.getD_eq_getElem?_getD, List.getElem?_append_right (Nat.le_refl _), Nat.sub_self]; rfl
theorem Lns.short {s : List UInt8} {Ls : List ByteArray} {ps : List (List UInt8)} {l : List UInt8} (h : Lns s Ls ps l) (hn : s.length ≤ 1048576) : (∀ i, i < ps.length → (ps.getD i []).length ≤ 1048576) ∧ ps.length ≤ 1048576 := by
  have h1 := sp_short (c := 10) hn
  have h2 := sp_many (c := 10) (l := s)
  rw [h.e] at h1 h2
  rw [List.length_append] at h2
  exact ⟨fun i hi => h1 _ (List.mem_append_left _ (getD_mem hi)), by have : [l].length = 1 := rfl; omega⟩
theorem lns_of (s : List UInt8) : ∃ Ls ps l, Lns s Ls ps l := by
  obtain ⟨ps, l, h⟩ := sp_lastE s
  exact ⟨_, ps, l, h, rfl⟩
theorem rowS_of {p w0 w1 w2 w3 w4 : List UInt8} (h : sp 32 p = [w0, w1, w2, w3, w4]) : rowS p = [digN w0, rmN w1, rmN w2, lfV w4, rmN w3] := by
  unfold rowS
  rw [h]; rfl
theorem lfV_y {w : List UInt8} (h : w = [45]) : lfV w = -1 := if_pos h
theorem lfV_n {w : List UInt8} (h : ¬ w = [45]) : lfV w = rmN w := if_neg h
attribute [local irreducible] mt mtx rgx RM CM rmN rmB digN digB lfV
set_option maxHeartbeats 4000000 in
set_option maxRecDepth 100000 in
theorem specRR_call (s : List UInt8) (hn : s.length ≤ 1048576) : CallA Tryz.prog G 24 [Sv s] [] (fun v J => v = .tup [.sl 0 5 (RM s).length, I (CM s)] ∧ J = [DMember (RM s)]) := by
  refine CallA.ends (callA_of_body hT Tryz.func24 rfl ?_)
  obtain ⟨Ls, ps, l, hL⟩ := lns_of s
  have hsc : CallA Tryz.prog G 54 [Sv s, .v (.int .u8 10)] [] (fun v J => v = .sl 0 1 ((sp 10 s).map B).length ∧ J = [.data (.strs ((sp 10 s).map B))]) := l01Split_call s 10 hn
  rw [← hL.d] at hsc
  have hll := hL.len
  have hla := hL.last
  have hidx : ((Ls.length : Int) - 1).toNat = ps.length := by omega
  rw [← hidx] at hla
  obtain ⟨hsh, hpl⟩ := hL.short hn
  by_cases hl : l = []
  · rw [hl] at hla
    repeat' ((first | (conv => whnf) | skip); (first | ((with_reducible intro h); first | contradiction | omega | (conv => whnf) | skip) | (with_reducible refine And.intro ?_ ?_) | ((with_reducible show arithK _ _ _); refine arith_ok ⟨by omega, by omega⟩ ?_) | ((with_reducible show quoK _ _ _ _); refine quo_ok ⟨by omega, by omega⟩ (by omega) (by omega) ?_) | ((with_reducible show remK _ _ _ _); refine rem_ok (by omega) (by omega) ?_) | ((first | (with_reducible show CallA _ _ _ _ _ _) | (with_reducible show CallQ _ _ _ _ _ _)); first | (refine CallA.go [] (hsc) rfl (by first | ((repeat' (first | exact rfl | exact trivial | (with_reducible assumption) | refine And.intro ?_ ?_ | omega | assumption)); done) | fail) trivial ?_)) | ((with_reducible show DrawA _ _ _ _ _ _); first | (refine draw_hard hT mixed (by decide +kernel) ?_))))
    all_goals first | rfl | omega | contradiction | skip
    (conv => whnf)
    have he0 := hL.e
    rw [hl] at he0
    refine loop_rule hT (fun q : Nat × List (List Int) => RdS ps q.1 q.2) 99 2 [4, 5, 6] (fun q => [.sl 0 1 Ls.length, .sl 2 5 q.2.length, I q.1]) (fun q => [.data (.strs Ls), .dead, DMember q.2]) (fun q => ps.length - q.1) ((0, [])) (Nat.le_of_ble_eq_true rfl) ?_ ?_ ?_
    · exact RdS.start ps
    · first | (refine ⟨rfl, [some 1], ?_, ?_⟩; all_goals (repeat' (first | exact rfl | exact trivial | (with_reducible assumption) | refine And.intro ?_ ?_)); all_goals (first | omega | assumption); done) | trace_state
    · rintro ⟨i, out⟩ hR
      dsimp only at hR ⊢
      have hle := hR.le
      have hol := hR.len
      by_cases hi : i < ps.length
      · have hraw : Ls.getD ((i : Int)).toNat ByteArray.empty = B (ps.getD i []) := hL.at hi
        have hs2 := l01Split_call (ps.getD i []) 32 (hsh i hi)
        rw [show Sv (ps.getD i []) = .v (.string (Ls.getD ((i : Int)).toNat ByteArray.empty)) from congrArg (fun b => AV.v (.string b)) hraw.symm] at hs2
        have hws := sp_short (c := 32) (hsh i hi)
        have hno := fun hh => RM_no (nacc_row he0 hi hh)
        by_cases h5 : (sp 32 (ps.getD i [])).length = 5
        · obtain ⟨w0, w1, w2, w3, w4, hw⟩ : ∃ w0 w1 w2 w3 w4, sp 32 (ps.getD i []) = [w0, w1, w2, w3, w4] := by
            match sp 32 (ps.getD i []), h5 with
            | [w0, w1, w2, w3, w4], _ => exact ⟨_, _, _, _, _, rfl⟩
          have hrs := rowS_of hw
          rw [hw] at hs2 hws
          have hdg := l01Digits_ret w0 (hws w0 (by simp))
          have hm1 := specReadMonth_ret w1
          have hm2 := specReadMonth_ret w2
          have hm3 := specReadMonth_ret w3
          have hm4 := specReadMonth_ret w4
          have hdi := digN_in w0
          have hmem := l26Member_ret (digN w0) (rmN w1) (rmN w2) (lfV w4) (rmN w3)
          by_cases h45 : w4 = [45]
          · have hE : B w4 = (⟨#[45]⟩ : ByteArray) := by rw [h45]
            have hlv : lfV w4 = -1 := lfV_y h45
            rw [hlv] at hmem hrs
            by_cases hrow : rowM (digN w0) (rmN w1) (rmN w2) (-1) (rmN w3)
            · rw [decide_eq_true hrow] at hmem
              have hrow2 : rowR (rowS (ps.getD i [])) := by rw [hrs]; exact hrow
              have htx := l26Text_ret (rowS (ps.getD i [])) hrow2
              have htx : Ret Tryz.prog G 62 [.agg [I (digN w0), I (rmN w1), I (rmN w2), I (-1), I (rmN w3)]] (Sv (mtx (rowS (ps.getD i [])))) := by rw [hrs] at htx ⊢; exact htx
              by_cases hte : mtx (rowS (ps.getD i [])) = ps.getD i []
              · have hnx := hR.next hi hrow2 hte
                rw [hrs] at hnx
                have hte2 : B (mtx (rowS (ps.getD i []))) = Ls.getD ((i : Int)).toNat ByteArray.empty := by rw [hraw, hte]
                repeat' ((first | (conv => whnf) | skip); (first | ((with_reducible intro h); first | contradiction | omega | (conv => whnf) | skip) | (with_reducible refine And.intro ?_ ?_) | ((with_reducible show arithK _ _ _); refine arith_ok ⟨by omega, by omega⟩ ?_) | ((with_reducible show quoK _ _ _ _); refine quo_ok ⟨by omega, by omega⟩ (by omega) (by omega) ?_) | ((with_reducible show remK _ _ _ _); refine rem_ok (by omega) (by omega) ?_) | ((first | (with_reducible show CallA _ _ _ _ _ _) | (with_reducible show CallQ _ _ _ _ _ _)); first | (refine CallA.go [] (hs2) rfl (by first | ((repeat' (first | exact rfl | exact trivial | (with_reducible assumption) | refine And.intro ?_ ?_ | omega | assumption)); done) | fail) trivial ?_) | (refine Ret.go (hdg) rfl rfl ?_) | (refine Ret.goQ (hdg) rfl rfl ?_) | (refine Ret.go (hm1) rfl rfl ?_) | (refine Ret.goQ (hm1) rfl rfl ?_) | (refine Ret.go (hm2) rfl rfl ?_) | (refine Ret.goQ (hm2) rfl rfl ?_) | (refine Ret.go (hm3) rfl rfl ?_) | (refine Ret.goQ (hm3) rfl rfl ?_) | (refine Ret.go (hm4) rfl rfl ?_) | (refine Ret.goQ (hm4) rfl rfl ?_) | (refine Ret.go (hmem) rfl rfl ?_) | (refine Ret.goQ (hmem) rfl rfl ?_) | (refine Ret.go (htx) rfl rfl ?_) | (refine Ret.goQ (htx) rfl rfl ?_)) | ((with_reducible show DrawA _ _ _ _ _ _); first | (refine draw_hard hT mixed (by decide +kernel) ?_))))
                all_goals first | rfl | omega | contradiction | (show _ < Ls.length; omega) | (show (_ : Int) < (Ls.length : Int); omega) | (show (_ : Nat) ≤ _; simp; omega) | exact Nat.le_of_ble_eq_true rfl | skip
                all_goals ((conv => whnf); first | (refine ⟨(i + 1, _), hnx, ?_, by dsimp only; omega⟩; first | (refine ⟨rfl, [some 6], ?_, ?_⟩; all_goals (repeat' (first | exact rfl | exact trivial | (with_reducible assumption) | refine And.intro ?_ ?_)); all_goals (first | omega | assumption); done) | (refine ⟨rfl, [some 5], ?_, ?_⟩; all_goals (repeat' (first | exact rfl | exact trivial | (with_reducible assumption) | refine And.intro ?_ ?_)); all_goals (first | omega | assumption); done) | trace_state) | trace_state)
              · have hne : ¬ B (mtx (rowS (ps.getD i []))) = Ls.getD ((i : Int)).toNat ByteArray.empty := fun e => hte (by rw [hraw] at e; exact B_inj.1 e)
                obtain ⟨k1, k2⟩ := hno fun hh => hte hh.2.2
                rw [k1, k2]
                repeat' ((first | (conv => whnf) | skip); (first | ((with_reducible intro h); first | contradiction | omega | (conv => whnf) | skip) | (with_reducible refine And.intro ?_ ?_) | ((with_reducible show arithK _ _ _); refine arith_ok ⟨by omega, by omega⟩ ?_) | ((with_reducible show quoK _ _ _ _); refine quo_ok ⟨by omega, by omega⟩ (by omega) (by omega) ?_) | ((with_reducible show remK _ _ _ _); refine rem_ok (by omega) (by omega) ?_) | ((first | (with_reducible show CallA _ _ _ _ _ _) | (with_reducible show CallQ _ _ _ _ _ _)); first | (refine CallA.go [] (hs2) rfl (by first | ((repeat' (first | exact rfl | exact trivial | (with_reducible assumption) | refine And.intro ?_ ?_ | omega | assumption)); done) | fail) trivial ?_) | (refine Ret.go (hdg) rfl rfl ?_) | (refine Ret.goQ (hdg) rfl rfl ?_) | (refine Ret.go (hm1) rfl rfl ?_) | (refine Ret.goQ (hm1) rfl rfl ?_) | (refine Ret.go (hm2) rfl rfl ?_) | (refine Ret.goQ (hm2) rfl rfl ?_) | (refine Ret.go (hm3) rfl rfl ?_) | (refine Ret.goQ (hm3) rfl rfl ?_) | (refine Ret.go (hm4) rfl rfl ?_) | (refine Ret.goQ (hm4) rfl rfl ?_) | (refine Ret.go (hmem) rfl rfl ?_) | (refine Ret.goQ (hmem) rfl rfl ?_) | (refine Ret.go (htx) rfl rfl ?_) | (refine Ret.goQ (htx) rfl rfl ?_)) | ((with_reducible show DrawA _ _ _ _ _ _); first | (refine draw_hard hT mixed (by decide +kernel) ?_))))
                all_goals first | rfl | omega | contradiction | (show _ < Ls.length; omega) | (show (_ : Int) < (Ls.length : Int); omega) | (show (_ : Nat) ≤ _; simp; omega) | exact Nat.le_of_ble_eq_true rfl | skip
                all_goals ((conv => whnf); first | (refine ⟨[none], .tup [.sl 0 5 ([] : List (List Int)).length, I 6], [DMember []], ?_, ?_, ?_⟩; all_goals (repeat' (first | exact rfl | exact trivial | (with_reducible assumption) | refine And.intro ?_ ?_)); all_goals (first | omega | assumption); done) | trace_state)
            · rw [decide_eq_false hrow] at hmem
              obtain ⟨k1, k2⟩ := hno fun hh => hrow (by have := hh.2.1; rw [hrs] at this; exact this)
              rw [k1, k2]
              have htx := hm1
              repeat' ((first | (conv => whnf) | skip); (first | ((with_reducible intro h); first | contradiction | omega | (conv => whnf) | skip) | (with_reducible refine And.intro ?_ ?_) | ((with_reducible show arithK _ _ _); refine arith_ok ⟨by omega, by omega⟩ ?_) | ((with_reducible show quoK _ _ _ _); refine quo_ok ⟨by omega, by omega⟩ (by omega) (by omega) ?_) | ((with_reducible show remK _ _ _ _); refine rem_ok (by omega) (by omega) ?_) | ((first | (with_reducible show CallA _ _ _ _ _ _) | (with_reducible show CallQ _ _ _ _ _ _)); first | (refine CallA.go [] (hs2) rfl (by first | ((repeat' (first | exact rfl | exact trivial | (with_reducible assumption) | refine And.intro ?_ ?_ | omega | assumption)); done) | fail) trivial ?_) | (refine Ret.go (hdg) rfl rfl ?_) | (refine Ret.goQ (hdg) rfl rfl ?_) | (refine Ret.go (hm1) rfl rfl ?_) | (refine Ret.goQ (hm1) rfl rfl ?_) | (refine Ret.go (hm2) rfl rfl ?_) | (refine Ret.goQ (hm2) rfl rfl ?_) | (refine Ret.go (hm3) rfl rfl ?_) | (refine Ret.goQ (hm3) rfl rfl ?_) | (refine Ret.go (hm4) rfl rfl ?_) | (refine Ret.goQ (hm4) rfl rfl ?_) | (refine Ret.go (hmem) rfl rfl ?_) | (refine Ret.goQ (hmem) rfl rfl ?_) | (refine Ret.go (htx) rfl rfl ?_) | (refine Ret.goQ (htx) rfl rfl ?_)) | ((with_reducible show DrawA _ _ _ _ _ _); first | (refine draw_hard hT mixed (by decide +kernel) ?_))))
              all_goals first | rfl | omega | contradiction | (show _ < Ls.length; omega) | (show (_ : Int) < (Ls.length : Int); omega) | (show (_ : Nat) ≤ _; simp; omega) | exact Nat.le_of_ble_eq_true rfl | skip
              all_goals ((conv => whnf); first | (refine ⟨[none], .tup [.sl 0 5 ([] : List (List Int)).length, I 6], [DMember []], ?_, ?_, ?_⟩; all_goals (repeat' (first | exact rfl | exact trivial | (with_reducible assumption) | refine And.intro ?_ ?_)); all_goals (first | omega | assumption); done) | trace_state)
          · have hE : ¬ B w4 = (⟨#[45]⟩ : ByteArray) := fun e => h45 (B_inj.1 e)
            have hlv : lfV w4 = rmN w4 := lfV_n h45
            rw [hlv] at hmem hrs
            by_cases hrow : rowM (digN w0) (rmN w1) (rmN w2) (rmN w4) (rmN w3)
            · rw [decide_eq_true hrow] at hmem
              have hrow2 : rowR (rowS (ps.getD i [])) := by rw [hrs]; exact hrow
              have htx := l26Text_ret (rowS (ps.getD i [])) hrow2
              have htx : Ret Tryz.prog G 62 [.agg [I (digN w0), I (rmN w1), I (rmN w2), I (rmN w4), I (rmN w3)]] (Sv (mtx (rowS (ps.getD i [])))) := by rw [hrs] at htx ⊢; exact htx
              by_cases hte : mtx (rowS (ps.getD i [])) = ps.getD i []
              · have hnx := hR.next hi hrow2 hte
                rw [hrs] at hnx
                have hte2 : B (mtx (rowS (ps.getD i []))) = Ls.getD ((i : Int)).toNat ByteArray.empty := by rw [hraw, hte]
                repeat' ((first | (conv => whnf) | skip); (first | ((with_reducible intro h); first | contradiction | omega | (conv => whnf) | skip) | (with_reducible refine And.intro ?_ ?_) | ((with_reducible show arithK _ _ _); refine arith_ok ⟨by omega, by omega⟩ ?_) | ((with_reducible show quoK _ _ _ _); refine quo_ok ⟨by omega, by omega⟩ (by omega) (by omega) ?_) | ((with_reducible show remK _ _ _ _); refine rem_ok (by omega) (by omega) ?_) | ((first | (with_reducible show CallA _ _ _ _ _ _) | (with_reducible show CallQ _ _ _ _ _ _)); first | (refine CallA.go [] (hs2) rfl (by first | ((repeat' (first | exact rfl | exact trivial | (with_reducible assumption) | refine And.intro ?_ ?_ | omega | assumption)); done) | fail) trivial ?_) | (refine Ret.go (hdg) rfl rfl ?_) | (refine Ret.goQ (hdg) rfl rfl ?_) | (refine Ret.go (hm1) rfl rfl ?_) | (refine Ret.goQ (hm1) rfl rfl ?_) | (refine Ret.go (hm2) rfl rfl ?_) | (refine Ret.goQ (hm2) rfl rfl ?_) | (refine Ret.go (hm3) rfl rfl ?_) | (refine Ret.goQ (hm3) rfl rfl ?_) | (refine Ret.go (hm4) rfl rfl ?_) | (refine Ret.goQ (hm4) rfl rfl ?_) | (refine Ret.go (hmem) rfl rfl ?_) | (refine Ret.goQ (hmem) rfl rfl ?_) | (refine Ret.go (htx) rfl rfl ?_) | (refine Ret.goQ (htx) rfl rfl ?_)) | ((with_reducible show DrawA _ _ _ _ _ _); first | (refine draw_hard hT mixed (by decide +kernel) ?_))))
                all_goals first | rfl | omega | contradiction | (show _ < Ls.length; omega) | (show (_ : Int) < (Ls.length : Int); omega) | (show (_ : Nat) ≤ _; simp; omega) | exact Nat.le_of_ble_eq_true rfl | skip
                all_goals ((conv => whnf); first | (refine ⟨(i + 1, _), hnx, ?_, by dsimp only; omega⟩; first | (refine ⟨rfl, [some 6], ?_, ?_⟩; all_goals (repeat' (first | exact rfl | exact trivial | (with_reducible assumption) | refine And.intro ?_ ?_)); all_goals (first | omega | assumption); done) | (refine ⟨rfl, [some 5], ?_, ?_⟩; all_goals (repeat' (first | exact rfl | exact trivial | (with_reducible assumption) | refine And.intro ?_ ?_)); all_goals (first | omega | assumption); done) | trace_state) | trace_state)
              · have hne : ¬ B (mtx (rowS (ps.getD i []))) = Ls.getD ((i : Int)).toNat ByteArray.empty := fun e => hte (by rw [hraw] at e; exact B_inj.1 e)
                obtain ⟨k1, k2⟩ := hno fun hh => hte hh.2.2
                rw [k1, k2]
                repeat' ((first | (conv => whnf) | skip); (first | ((with_reducible intro h); first | contradiction | omega | (conv => whnf) | skip) | (with_reducible refine And.intro ?_ ?_) | ((with_reducible show arithK _ _ _); refine arith_ok ⟨by omega, by omega⟩ ?_) | ((with_reducible show quoK _ _ _ _); refine quo_ok ⟨by omega, by omega⟩ (by omega) (by omega) ?_) | ((with_reducible show remK _ _ _ _); refine rem_ok (by omega) (by omega) ?_) | ((first | (with_reducible show CallA _ _ _ _ _ _) | (with_reducible show CallQ _ _ _ _ _ _)); first | (refine CallA.go [] (hs2) rfl (by first | ((repeat' (first | exact rfl | exact trivial | (with_reducible assumption) | refine And.intro ?_ ?_ | omega | assumption)); done) | fail) trivial ?_) | (refine Ret.go (hdg) rfl rfl ?_) | (refine Ret.goQ (hdg) rfl rfl ?_) | (refine Ret.go (hm1) rfl rfl ?_) | (refine Ret.goQ (hm1) rfl rfl ?_) | (refine Ret.go (hm2) rfl rfl ?_) | (refine Ret.goQ (hm2) rfl rfl ?_) | (refine Ret.go (hm3) rfl rfl ?_) | (refine Ret.goQ (hm3) rfl rfl ?_) | (refine Ret.go (hm4) rfl rfl ?_) | (refine Ret.goQ (hm4) rfl rfl ?_) | (refine Ret.go (hmem) rfl rfl ?_) | (refine Ret.goQ (hmem) rfl rfl ?_) | (refine Ret.go (htx) rfl rfl ?_) | (refine Ret.goQ (htx) rfl rfl ?_)) | ((with_reducible show DrawA _ _ _ _ _ _); first | (refine draw_hard hT mixed (by decide +kernel) ?_))))
                all_goals first | rfl | omega | contradiction | (show _ < Ls.length; omega) | (show (_ : Int) < (Ls.length : Int); omega) | (show (_ : Nat) ≤ _; simp; omega) | exact Nat.le_of_ble_eq_true rfl | skip
                all_goals ((conv => whnf); first | (refine ⟨[none], .tup [.sl 0 5 ([] : List (List Int)).length, I 6], [DMember []], ?_, ?_, ?_⟩; all_goals (repeat' (first | exact rfl | exact trivial | (with_reducible assumption) | refine And.intro ?_ ?_)); all_goals (first | omega | assumption); done) | trace_state)
            · rw [decide_eq_false hrow] at hmem
              obtain ⟨k1, k2⟩ := hno fun hh => hrow (by have := hh.2.1; rw [hrs] at this; exact this)
              rw [k1, k2]
              have htx := hm1
              repeat' ((first | (conv => whnf) | skip); (first | ((with_reducible intro h); first | contradiction | omega | (conv => whnf) | skip) | (with_reducible refine And.intro ?_ ?_) | ((with_reducible show arithK _ _ _); refine arith_ok ⟨by omega, by omega⟩ ?_) | ((with_reducible show quoK _ _ _ _); refine quo_ok ⟨by omega, by omega⟩ (by omega) (by omega) ?_) | ((with_reducible show remK _ _ _ _); refine rem_ok (by omega) (by omega) ?_) | ((first | (with_reducible show CallA _ _ _ _ _ _) | (with_reducible show CallQ _ _ _ _ _ _)); first | (refine CallA.go [] (hs2) rfl (by first | ((repeat' (first | exact rfl | exact trivial | (with_reducible assumption) | refine And.intro ?_ ?_ | omega | assumption)); done) | fail) trivial ?_) | (refine Ret.go (hdg) rfl rfl ?_) | (refine Ret.goQ (hdg) rfl rfl ?_) | (refine Ret.go (hm1) rfl rfl ?_) | (refine Ret.goQ (hm1) rfl rfl ?_) | (refine Ret.go (hm2) rfl rfl ?_) | (refine Ret.goQ (hm2) rfl rfl ?_) | (refine Ret.go (hm3) rfl rfl ?_) | (refine Ret.goQ (hm3) rfl rfl ?_) | (refine Ret.go (hm4) rfl rfl ?_) | (refine Ret.goQ (hm4) rfl rfl ?_) | (refine Ret.go (hmem) rfl rfl ?_) | (refine Ret.goQ (hmem) rfl rfl ?_) | (refine Ret.go (htx) rfl rfl ?_) | (refine Ret.goQ (htx) rfl rfl ?_)) | ((with_reducible show DrawA _ _ _ _ _ _); first | (refine draw_hard hT mixed (by decide +kernel) ?_))))
              all_goals first | rfl | omega | contradiction | (show _ < Ls.length; omega) | (show (_ : Int) < (Ls.length : Int); omega) | (show (_ : Nat) ≤ _; simp; omega) | exact Nat.le_of_ble_eq_true rfl | skip
              all_goals ((conv => whnf); first | (refine ⟨[none], .tup [.sl 0 5 ([] : List (List Int)).length, I 6], [DMember []], ?_, ?_, ?_⟩; all_goals (repeat' (first | exact rfl | exact trivial | (with_reducible assumption) | refine And.intro ?_ ?_)); all_goals (first | omega | assumption); done) | trace_state)
        · obtain ⟨k1, k2⟩ := hno fun hh => h5 hh.1
          rw [k1, k2]
          have hml : ((sp 32 (ps.getD i [])).map B).length = (sp 32 (ps.getD i [])).length := List.length_map _
          repeat' ((first | (conv => whnf) | skip); (first | ((with_reducible intro h); first | contradiction | omega | (conv => whnf) | skip) | (with_reducible refine And.intro ?_ ?_) | ((with_reducible show arithK _ _ _); refine arith_ok ⟨by omega, by omega⟩ ?_) | ((with_reducible show quoK _ _ _ _); refine quo_ok ⟨by omega, by omega⟩ (by omega) (by omega) ?_) | ((with_reducible show remK _ _ _ _); refine rem_ok (by omega) (by omega) ?_) | ((first | (with_reducible show CallA _ _ _ _ _ _) | (with_reducible show CallQ _ _ _ _ _ _)); first | (refine CallA.go [] (hs2) rfl (by first | ((repeat' (first | exact rfl | exact trivial | (with_reducible assumption) | refine And.intro ?_ ?_ | omega | assumption)); done) | fail) trivial ?_)) | ((with_reducible show DrawA _ _ _ _ _ _); first | (refine draw_hard hT mixed (by decide +kernel) ?_))))
          all_goals first | rfl | omega | contradiction | (show _ < Ls.length; omega) | (show (_ : Int) < (Ls.length : Int); omega) | (show (_ : Nat) ≤ _; simp; omega) | exact Nat.le_of_ble_eq_true rfl | skip
          all_goals ((conv => whnf); first | (refine ⟨[none], .tup [.sl 0 5 ([] : List (List Int)).length, I 6], [DMember []], ?_, ?_, ?_⟩; all_goals (repeat' (first | exact rfl | exact trivial | (with_reducible assumption) | refine And.intro ?_ ?_)); all_goals (first | omega | assumption); done) | trace_state)
      · obtain rfl : i = ps.length := by omega
        have har := specReg_ret out (by omega)
        by_cases ha : isReg out
        · obtain ⟨k1, k2⟩ := RM_yes (hR.acc he0 ha)
          rw [k1, k2]
          rw [decide_eq_true ha] at har
          repeat' ((first | (conv => whnf) | skip); (first | ((with_reducible intro h); first | contradiction | omega | (conv => whnf) | skip) | (with_reducible refine And.intro ?_ ?_) | ((with_reducible show arithK _ _ _); refine arith_ok ⟨by omega, by omega⟩ ?_) | ((with_reducible show quoK _ _ _ _); refine quo_ok ⟨by omega, by omega⟩ (by omega) (by omega) ?_) | ((with_reducible show remK _ _ _ _); refine rem_ok (by omega) (by omega) ?_) | ((first | (with_reducible show CallA _ _ _ _ _ _) | (with_reducible show CallQ _ _ _ _ _ _)); first | (refine Ret.use (har) (by first | ((repeat' (first | exact rfl | exact trivial | (with_reducible assumption) | refine And.intro ?_ ?_ | omega | assumption)); done) | fail) ?_) | (refine Ret.useQ (har) (by first | ((repeat' (first | exact rfl | exact trivial | (with_reducible assumption) | refine And.intro ?_ ?_ | omega | assumption)); done) | fail) rfl ?_)) | ((with_reducible show DrawA _ _ _ _ _ _); first | (refine draw_hard hT mixed (by decide +kernel) ?_))))
          all_goals first | rfl | omega | skip
          all_goals ((conv => whnf); first | (refine ⟨[some 2], .tup [.sl 0 5 out.length, I 0], [DMember out], ?_, ?_, ?_⟩; all_goals (repeat' (first | exact rfl | exact trivial | (with_reducible assumption) | refine And.intro ?_ ?_)); all_goals (first | omega | assumption); done) | trace_state)
        · obtain ⟨k1, k2⟩ := RM_no (hR.nacc he0 ha)
          rw [k1, k2]
          rw [decide_eq_false ha] at har
          repeat' ((first | (conv => whnf) | skip); (first | ((with_reducible intro h); first | contradiction | omega | (conv => whnf) | skip) | (with_reducible refine And.intro ?_ ?_) | ((with_reducible show arithK _ _ _); refine arith_ok ⟨by omega, by omega⟩ ?_) | ((with_reducible show quoK _ _ _ _); refine quo_ok ⟨by omega, by omega⟩ (by omega) (by omega) ?_) | ((with_reducible show remK _ _ _ _); refine rem_ok (by omega) (by omega) ?_) | ((first | (with_reducible show CallA _ _ _ _ _ _) | (with_reducible show CallQ _ _ _ _ _ _)); first | (refine Ret.use (har) (by first | ((repeat' (first | exact rfl | exact trivial | (with_reducible assumption) | refine And.intro ?_ ?_ | omega | assumption)); done) | fail) ?_) | (refine Ret.useQ (har) (by first | ((repeat' (first | exact rfl | exact trivial | (with_reducible assumption) | refine And.intro ?_ ?_ | omega | assumption)); done) | fail) rfl ?_)) | ((with_reducible show DrawA _ _ _ _ _ _); first | (refine draw_hard hT mixed (by decide +kernel) ?_))))
          all_goals first | rfl | omega | contradiction | (show _ < Ls.length; omega) | (show (_ : Int) < (Ls.length : Int); omega) | (show (_ : Nat) ≤ _; simp; omega) | exact Nat.le_of_ble_eq_true rfl | skip
          all_goals ((conv => whnf); first | (refine ⟨[none], .tup [.sl 0 5 ([] : List (List Int)).length, I 6], [DMember []], ?_, ?_, ?_⟩; all_goals (repeat' (first | exact rfl | exact trivial | (with_reducible assumption) | refine And.intro ?_ ?_)); all_goals (first | omega | assumption); done) | trace_state)
  · have hne : ¬ B l = ByteArray.empty := fun e => hl ((B_inj (b := [])).1 e)
    obtain ⟨k1, k2⟩ := RM_no (nacc_last hL.e hl)
    rw [k1, k2]
    rw [← hla] at hne
    repeat' ((first | (conv => whnf) | skip); (first | ((with_reducible intro h); first | contradiction | omega | (conv => whnf) | skip) | (with_reducible refine And.intro ?_ ?_) | ((with_reducible show arithK _ _ _); refine arith_ok ⟨by omega, by omega⟩ ?_) | ((with_reducible show quoK _ _ _ _); refine quo_ok ⟨by omega, by omega⟩ (by omega) (by omega) ?_) | ((with_reducible show remK _ _ _ _); refine rem_ok (by omega) (by omega) ?_) | ((first | (with_reducible show CallA _ _ _ _ _ _) | (with_reducible show CallQ _ _ _ _ _ _)); first | (refine CallA.go [] (hsc) rfl (by first | ((repeat' (first | exact rfl | exact trivial | (with_reducible assumption) | refine And.intro ?_ ?_ | omega | assumption)); done) | fail) trivial ?_)) | ((with_reducible show DrawA _ _ _ _ _ _); first | (refine draw_hard hT mixed (by decide +kernel) ?_))))
    all_goals first | rfl | omega | contradiction | (show _ < Ls.length; omega) | (show (_ : Int) < (Ls.length : Int); omega) | (show (_ : Nat) ≤ _; simp; omega) | exact Nat.le_of_ble_eq_true rfl | skip
    all_goals ((conv => whnf); first | (refine ⟨[none], .tup [.sl 0 5 ([] : List (List Int)).length, I 6], [DMember []], ?_, ?_, ?_⟩; all_goals (repeat' (first | exact rfl | exact trivial | (with_reducible assumption) | refine And.intro ?_ ?_)); all_goals (first | omega | assumption); done) | trace_state)
end Go.Proofs.YtgpgnhadmckmhaaGreatDoor
