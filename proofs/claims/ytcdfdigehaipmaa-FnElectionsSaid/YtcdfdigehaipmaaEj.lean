/-
  The program's ElectedByRounds: what it returns. No conditions but those in the statements.
-/
import Derived.Test.YtcdfdigehaipmaaEi
set_option linter.unusedVariables false
set_option linter.unusedSimpArgs false
namespace Go.Proofs.Ytcdfdigehaipmaa
open Go.AE

attribute [local irreducible] CallA LoopA DrawA CallQ arithK quoK remK eqK
def erX (n : Int) (xss : List (List Int)) : Int × Int × Int := if okB n xss then er xss n.toNat (marks n.toNat 0) 1 else (0, 0, 2)
abbrev T3 (x : Int × Int × Int) : AV := .tup [I x.1, I x.2.1, I x.2.2]
theorem erX_yes {n : Int} {xss : List (List Int)} (h : okB n xss) : erX n xss = er xss n.toNat (marks n.toNat 0) 1 := if_pos h
theorem erX_no {n : Int} {xss : List (List Int)} (h : ¬ okB n xss) : erX n xss = (0, 0, 2) := if_neg h
theorem marks_next (k : Nat) : marks k 0 ++ [(k : Int)] = marks (k + 1) 0 := by simp [marks, List.range_succ]
theorem marks_ins {n : Nat} (h : 0 < n) : Ins n (marks n 0) where
  nd := by
    unfold marks List.Nodup
    rw [List.pairwise_map]
    exact List.Pairwise.imp (fun h e => h (by omega)) (List.nodup_range (n := n))
  rg := fun c hc => by
    obtain ⟨i, h1, h2⟩ := List.mem_map.1 hc
    have := List.mem_range.1 h1
    omega
  ne := fun e => by
    have := marks_len n 0
    rw [e] at this
    simp at this
    omega
theorem vts_hit {n : Nat} {ins : List Int} {xss : List (List Int)} {i : Nat} {c : Int} (h : i < xss.length) (hf : fI ins (xss.getD i []) = c) (h0 : 0 ≤ c) (hc : c < n) :
    (tb n fun d => (vt ins xss i d : Int)).set c.toNat ((tb n fun d => (vt ins xss i d : Int)).getD c.toNat 0 + 1) = tb n fun d => (vt ins xss (i + 1) d : Int) := by
  rw [tb_set, tb_get (by omega)]
  refine tb_ext fun d hd => ?_
  rw [vt_next _ h, hf]
  by_cases he : d = c.toNat
  · rw [if_pos he, if_pos (by omega), he]; rfl
  · rw [if_neg he, if_neg (by omega)]; rfl
theorem vts_miss {n : Nat} {ins : List Int} {xss : List (List Int)} {i : Nat} (h : i < xss.length) (hf : fI ins (xss.getD i []) = -1) :
    (tb n fun d => (vt ins xss i d : Int)) = tb n fun d => (vt ins xss (i + 1) d : Int) :=
  tb_ext fun d hd => by rw [vt_next _ h, hf, if_neg (by omega)]; rfl
theorem app_getD {l z : List Int} {j : Nat} (h : j < l.length) : (l ++ z).getD (0 + ((j : Int)).toNat) 0 = l.getD j 0 := by
  rw [toNat_cast, Nat.zero_add, List.getD_eq_getElem?_getD, List.getD_eq_getElem?_getD, List.getElem?_append_left h]
set_option maxHeartbeats 4000000 in
set_option maxRecDepth 100000 in
theorem implRounds_ret (n : Int) (xss : List (List Int)) (hn : xss.length ≤ 1048576) (hr : ∀ r ∈ xss, r.length ≤ 1048576) : Ret Try.prog G 41 [I n, Rn xss] (T3 (erX n xss)) := by
  refine ret_of_body hT Try.func41 rfl ?_ rfl
  by_cases ho : okB n xss
  · have hl := ho.2.1
    have hc := ho.1
    rw [erX_yes ho]
    repeat' (first | (intro h; first | contradiction | omega | (conv => whnf) | skip) | (refine And.intro ?_ ?_) | (refine arith_ok ⟨by omega, by omega⟩ ?_) | (first | (refine draw_quiet hT mixed (by decide +kernel) ?_) | (refine draw_hard hT mixed (by decide +kernel) ?_)) | (refine Ret.goP (implBallots_ret n xss hn hr) rfl ?_) | (refine Ret.goQP (implBallots_ret n xss hn hr) rfl ?_))
    all_goals first | omega | rfl | exact absurd ho (by assumption) | skip
    refine loop_rule hT (fun k : Nat => (k : Int) ≤ n) 93 2 [0, 1, 7, 23, 24] (fun k => [I n, Rn xss, .ptr 1 0, I n, I k]) (fun k => [.dead, .cells [.sl 2 1 k], Di (marks k 0)]) (fun k => n.toNat - k) (0) (Nat.le_of_ble_eq_true rfl) ?_ ?_ ?_
    · omega
    · (refine ⟨rfl, [some 0], ?_, ?_⟩; all_goals (repeat' (first | exact rfl | exact trivial | (with_reducible assumption) | refine And.intro ?_ ?_)); all_goals (first | omega | assumption); done)
    · rintro k hk
      have hml := marks_len k 0
      have hml1 := marks_len (k + 1) 0
      have hm1 := marks_next k
      have hml2 : (marks k 0 ++ [(k : Int)]).length = k + 1 := by rw [hm1, hml1]
      by_cases hkn : (k : Int) < n
      · repeat' (first | (intro h; first | contradiction | omega | (conv => whnf) | skip) | (refine And.intro ?_ ?_) | (refine arith_ok ⟨by omega, by omega⟩ ?_) | (first | (refine draw_quiet hT mixed (by decide +kernel) ?_) | (refine draw_hard hT mixed (by decide +kernel) ?_)) | fail)
        all_goals first | omega | (show (_ + 1) * 8 ≤ 1099511627776; omega) | skip
        all_goals first | exact hml.symm | rfl | ((conv => whnf); refine ⟨k + 1, by omega, ?_, by omega⟩; (refine ⟨rfl, [some 4], ?_, ?_⟩; all_goals (repeat' (first | exact rfl | exact trivial | (with_reducible assumption) | refine And.intro ?_ ?_)); all_goals (first | omega | assumption | ((repeat' (first | first | exact hml2 | exact congrArg (D.ints .i64) hm1 | exact rfl | exact trivial | (with_reducible assumption) | refine And.intro ?_ ?_ | omega | assumption)); done)); done)) | trace_state
      · obtain rfl : k = n.toNat := by omega
        repeat' (first | (intro h; first | contradiction | omega | (conv => whnf) | skip) | (refine And.intro ?_ ?_) | (refine arith_ok ⟨by omega, by omega⟩ ?_) | (first | (refine draw_quiet hT mixed (by decide +kernel) ?_) | (refine draw_hard hT mixed (by decide +kernel) ?_)) | fail)
        all_goals first | omega | skip
        refine loop_rule hT (fun ins : List Int => Ins n.toNat ins ∧ ins.length ≤ n.toNat ∧ er xss n.toNat (marks n.toNat 0) 1 = er xss ins.length ins (n - ins.length + 1)) 93 3 [0, 1, 7, 9] (fun ins => [I n, Rn xss, .ptr 1 0, I (n - ins.length + 1)]) (fun ins => [.dead, .cells [.sub 2 1 0 ins.length], Di (ins ++ List.replicate (n.toNat - ins.length) 0)]) (fun ins => ins.length) (marks n.toNat 0) (Nat.le_of_ble_eq_true rfl) ?_ ?_ ?_
        · exact ⟨marks_ins (by omega), Nat.le_of_eq hml, by rw [hml, show n - (n.toNat : Int) + 1 = 1 by omega]⟩
        · rw [hml, Nat.sub_self, List.replicate_zero, List.append_nil]
          (refine ⟨rfl, [], ?_, ?_⟩; all_goals (repeat' (first | exact rfl | exact trivial | (with_reducible assumption) | refine And.intro ?_ ?_)); all_goals (first | omega | assumption); done)
        · rintro ins ⟨hI, hle, her⟩
          rw [her]
          have hlp : 0 < ins.length := List.length_pos_iff.2 hI.ne
          have hin : ((ins ++ List.replicate (n.toNat - ins.length) 0).drop 0).take ins.length = ins := by simp
          have hil : 0 + ins.length ≤ (ins ++ List.replicate (n.toNat - ins.length) 0).length := by simp
          repeat' (first | (intro h; first | contradiction | omega | (conv => whnf) | skip) | (refine And.intro ?_ ?_) | (refine arith_ok ⟨by omega, by omega⟩ ?_) | (first | (refine draw_quiet hT mixed (by decide +kernel) ?_) | (refine draw_hard hT mixed (by decide +kernel) ?_)) | fail)
          all_goals first | omega | rfl | skip
          refine loop_rule hT (fun i : Nat => i ≤ xss.length) 93 4 [0, 1, 7, 9, 10, 11, 36, 37, 38] (fun i => [I n, Rn xss, .ptr 1 0, I (n - ins.length + 1), .sl 3 1 n.toNat, I (al ins xss i), Rn xss, I xss.length, I i]) (fun i => [.dead, .cells [.sub 2 1 0 ins.length], Di (ins ++ List.replicate (n.toNat - ins.length) 0), Di (tb n.toNat fun c => (vt ins xss i c : Int))]) (fun i => xss.length - i) (0) (Nat.le_of_ble_eq_true rfl) ?_ ?_ ?_
          · exact Nat.zero_le _
          · (refine ⟨rfl, [], ?_, ?_⟩; all_goals (repeat' (first | exact rfl | exact trivial | (with_reducible assumption) | refine And.intro ?_ ?_)); all_goals (first | omega | assumption | ((repeat' (first | exact congrArg (D.ints .i64) (tb_zero _) | exact rfl | exact trivial | (with_reducible assumption) | refine And.intro ?_ ?_ | omega | assumption)); done)); done)
          · rintro i hi
            by_cases hil2 : i < xss.length
            · have hlb : (xss.getD ((i : Int)).toNat []).length ≤ 12 := ok1_len hc (ho.2.2 _ (getD_mem hil2))
              have hix : Ret Try.prog G 68 [Ri (xss.getD ((i : Int)).toNat []), inF (((ins ++ List.replicate (n.toNat - ins.length) 0).drop 0).take ins.length)] (I (finX ins (xss.getD ((i : Int)).toNat []))) := by
                rw [hin]
                exact indexIn_ret ins _ (by omega) (by omega)
              have hfl : fin ins (xss.getD ((i : Int)).toNat []) ≤ (xss.getD ((i : Int)).toNat []).length := fin_le _ _
              have hali : al ins xss i ≤ i := al_le ins xss i
              have haln := al_next (ins := ins) hil2
              by_cases hf : fin ins (xss.getD ((i : Int)).toNat []) < (xss.getD ((i : Int)).toNat []).length
              · have hfx : finX ins (xss.getD ((i : Int)).toNat []) = (fin ins (xss.getD ((i : Int)).toNat []) : Int) := if_pos hf
                rw [hfx] at hix
                have hfi : fI ins (xss.getD ((i : Int)).toNat []) = (xss.getD ((i : Int)).toNat []).getD ((fin ins (xss.getD ((i : Int)).toNat []) : Int)).toNat 0 := if_pos hf
                have hcr : 0 ≤ fI ins (xss.getD ((i : Int)).toNat []) ∧ fI ins (xss.getD ((i : Int)).toNat []) ≤ n - 1 := by
                  rw [hfi]
                  exact (ho.2.2 _ (getD_mem hil2)).1 _ (getD_mem hf)
                have htl : (tb n.toNat fun c => (vt ins xss i c : Int)).length = n.toNat := tb_len _ _
                have hvl := vt_le ins xss i (fI ins (xss.getD ((i : Int)).toNat []))
                have hvg : (tb n.toNat fun c => (vt ins xss i c : Int)).getD (fI ins (xss.getD ((i : Int)).toNat [])).toNat 0 = (vt ins xss i (fI ins (xss.getD ((i : Int)).toNat [])) : Int) := by
                  rw [tb_get (by omega), Int.toNat_of_nonneg hcr.1]
                rw [if_pos (show 0 ≤ fI ins (xss.getD i []) from hcr.1)] at haln
                rw [hfi] at hcr hvl hvg
                have hset : (tb n.toNat fun d => (vt ins xss i d : Int)).set ((xss.getD ((i : Int)).toNat []).getD ((fin ins (xss.getD ((i : Int)).toNat []) : Int)).toNat 0).toNat ((tb n.toNat fun d => (vt ins xss i d : Int)).getD ((xss.getD ((i : Int)).toNat []).getD ((fin ins (xss.getD ((i : Int)).toNat []) : Int)).toNat 0).toNat 0 + 1) = tb n.toNat fun d => (vt ins xss (i + 1) d : Int) := vts_hit (n := n.toNat) hil2 hfi hcr.1 (by omega)
                repeat' (first | (intro h; first | contradiction | omega | (conv => whnf) | skip) | (refine And.intro ?_ ?_) | (refine arith_ok ⟨by omega, by omega⟩ ?_) | (first | (refine draw_quiet hT mixed (by decide +kernel) ?_) | (refine draw_hard hT mixed (by decide +kernel) ?_)) | (refine Ret.go (hix) rfl rfl ?_) | (refine Ret.goQ (hix) rfl rfl ?_) | (refine Ret.use (hix) (by first | ((repeat' (first | exact rfl | exact trivial | (with_reducible assumption) | refine And.intro ?_ ?_ | omega | assumption)); done) | fail) ?_) | (refine Ret.useQ (hix) (by first | ((repeat' (first | exact rfl | exact trivial | (with_reducible assumption) | refine And.intro ?_ ?_ | omega | assumption)); done) | fail) rfl ?_))
                all_goals first | omega | skip
                all_goals first | ((conv => whnf); refine ⟨i + 1, by omega, ?_, by omega⟩; (refine ⟨rfl, [], ?_, ?_⟩; all_goals (repeat' (first | exact rfl | exact trivial | (with_reducible assumption) | refine And.intro ?_ ?_)); all_goals (first | omega | assumption | ((repeat' (first | first | (rw [haln]; rfl) | exact congrArg (D.ints .i64) hset | exact rfl | exact trivial | (with_reducible assumption) | refine And.intro ?_ ?_ | omega | assumption)); done)); done)) | trace_state
              · have hfx : finX ins (xss.getD ((i : Int)).toNat []) = -1 := if_neg hf
                rw [hfx] at hix
                have hfi : fI ins (xss.getD ((i : Int)).toNat []) = -1 := if_neg hf
                have hms := vts_miss (n := n.toNat) hil2 hfi
                rw [if_neg (show ¬ 0 ≤ fI ins (xss.getD i []) by rw [show fI ins (xss.getD i []) = -1 from hfi]; omega), Nat.add_zero] at haln
                repeat' (first | (intro h; first | contradiction | omega | (conv => whnf) | skip) | (refine And.intro ?_ ?_) | (refine arith_ok ⟨by omega, by omega⟩ ?_) | (first | (refine draw_quiet hT mixed (by decide +kernel) ?_) | (refine draw_hard hT mixed (by decide +kernel) ?_)) | (refine Ret.go (hix) rfl rfl ?_) | (refine Ret.goQ (hix) rfl rfl ?_) | (refine Ret.use (hix) (by first | ((repeat' (first | exact rfl | exact trivial | (with_reducible assumption) | refine And.intro ?_ ?_ | omega | assumption)); done) | fail) ?_) | (refine Ret.useQ (hix) (by first | ((repeat' (first | exact rfl | exact trivial | (with_reducible assumption) | refine And.intro ?_ ?_ | omega | assumption)); done) | fail) rfl ?_))
                all_goals first | omega | skip
                all_goals first | ((conv => whnf); refine ⟨i + 1, by omega, ?_, by omega⟩; (refine ⟨rfl, [], ?_, ?_⟩; all_goals (repeat' (first | exact rfl | exact trivial | (with_reducible assumption) | refine And.intro ?_ ?_)); all_goals (first | omega | assumption | ((repeat' (first | first | (rw [haln]; rfl) | exact congrArg (D.ints .i64) hms | exact rfl | exact trivial | (with_reducible assumption) | refine And.intro ?_ ?_ | omega | assumption)); done)); done)) | trace_state
            · obtain rfl : i = xss.length := by omega
              by_cases h0 : al ins xss xss.length = 0
              · rw [er_none h0]
                repeat' (first | (intro h; first | contradiction | omega | (conv => whnf) | skip) | (refine And.intro ?_ ?_) | (refine arith_ok ⟨by omega, by omega⟩ ?_) | (first | (refine draw_quiet hT mixed (by decide +kernel) ?_) | (refine draw_hard hT mixed (by decide +kernel) ?_)) | fail)
                all_goals first | omega | rfl | trace_state
              · have hwin := er_won (k := ins.length) (r := n - ins.length + 1) hlp h0
                have hal : al ins xss xss.length ≤ xss.length := al_le _ _ _
                have hg0 : (ins ++ List.replicate (n.toNat - ins.length) 0).getD (0 + Int.toNat 0) 0 = ins.getD 0 0 := app_getD (j := 0) hlp
                have hvn : ∀ c, vt ins xss xss.length c ≤ 60 := fun c => Nat.le_trans (vt_le _ _ _ c) hl
                have hvg : ∀ c ∈ ins, (tb n.toNat fun c => (vt ins xss xss.length c : Int)).getD c.toNat 0 = (vt ins xss xss.length c : Int) := fun c hc' => by
                  have := hI.rg c hc'
                  rw [tb_get (by omega), Int.toNat_of_nonneg this.1]
                have htl : (tb n.toNat fun c => (vt ins xss xss.length c : Int)).length = n.toNat := tb_len _ _
                repeat' (first | (intro h; first | contradiction | omega | (conv => whnf) | skip) | (refine And.intro ?_ ?_) | (refine arith_ok ⟨by omega, by omega⟩ ?_) | (first | (refine draw_quiet hT mixed (by decide +kernel) ?_) | (refine draw_hard hT mixed (by decide +kernel) ?_)) | fail)
                all_goals first | omega | skip
                refine loop_rule hT (fun j : Nat => j ≤ ins.length ∧ ∀ k, k < j → ¬ al ins xss xss.length < 2 * vt ins xss xss.length (ins.getD k 0)) 93 5 [0, 1, 7, 9, 10, 11, 15, 64, 65, 66] (fun j => [I n, Rn xss, .ptr 1 0, I (n - ins.length + 1), .sl 3 1 n.toNat, I (al ins xss xss.length), .ptr 4 0, .sub 2 1 0 ins.length, I ins.length, I j]) (fun j => [.dead, .cells [.sub 2 1 0 ins.length], Di (ins ++ List.replicate (n.toNat - ins.length) 0), Di (tb n.toNat fun c => (vt ins xss xss.length c : Int)), .cells [I (lw (vt ins xss xss.length) (ins.getD 0 0) (ins.take j))]]) (fun j => ins.length - j) (0) (Nat.le_of_ble_eq_true rfl) ?_ ?_ ?_
                · exact ⟨Nat.zero_le _, fun k hk => absurd hk (Nat.not_lt_zero k)⟩
                · (refine ⟨rfl, [], ?_, ?_⟩; all_goals (repeat' (first | exact rfl | exact trivial | (with_reducible assumption) | refine And.intro ?_ ?_)); all_goals (first | omega | assumption | ((repeat' (first | exact hg0 | exact rfl | exact trivial | (with_reducible assumption) | refine And.intro ?_ ?_ | omega | assumption)); done)); done)
                · rintro j ⟨hj, hno⟩
                  by_cases hjl : j < ins.length
                  · have hg := app_getD (z := List.replicate (n.toNat - ins.length) 0) hjl
                    have hjm : ins.getD j 0 ∈ ins := getD_mem hjl
                    have hjr := hI.rg _ hjm
                    have hwm : lw (vt ins xss xss.length) (ins.getD 0 0) (ins.take j) ∈ ins := lw_in hI.ne j
                    have hwr := hI.rg _ hwm
                    have hgj := hvg _ hjm
                    have hgw := hvg _ hwm
                    have hnj := hvn (ins.getD j 0)
                    have hnx : lw (vt ins xss xss.length) (ins.getD 0 0) (ins.take (j + 1)) = lS (vt ins xss xss.length) (lw (vt ins xss xss.length) (ins.getD 0 0) (ins.take j)) (ins.getD j 0) := by rw [take_snoc 0 hjl, lw_snoc]
                    rw [← hg] at hgj hjr hnj hnx
                    by_cases hw : al ins xss xss.length < 2 * vt ins xss xss.length ((ins ++ List.replicate (n.toNat - ins.length) 0).getD (0 + ((j : Int)).toNat) 0)
                    · have hb := major hI.pos hjm (by rw [hI.sum xss, ← hg]; exact hw)
                      rw [hb, ← hg] at hwin
                      rw [hwin hw, T3]
                      repeat' (first | (intro h; first | contradiction | omega | (conv => whnf) | skip) | (refine And.intro ?_ ?_) | (refine arith_ok ⟨by omega, by omega⟩ ?_) | (first | (refine draw_quiet hT mixed (by decide +kernel) ?_) | (refine draw_hard hT mixed (by decide +kernel) ?_)) | fail)
                      all_goals first | omega | rfl | trace_state
                    · have hno' : ∀ k, k < j + 1 → ¬ al ins xss xss.length < 2 * vt ins xss xss.length (ins.getD k 0) := fun k hk => by
                        by_cases he : k = j
                        · rw [he, ← hg]; exact hw
                        · exact hno k (by omega)
                      repeat' (first | (intro h; first | contradiction | omega | (conv => whnf) | skip) | (refine And.intro ?_ ?_) | (refine arith_ok ⟨by omega, by omega⟩ ?_) | (first | (refine draw_quiet hT mixed (by decide +kernel) ?_) | (refine draw_hard hT mixed (by decide +kernel) ?_)) | fail)
                      all_goals first | omega | skip
                      all_goals first | ((conv => whnf); refine ⟨j + 1, ⟨by omega, hno'⟩, ?_, by omega⟩; (refine ⟨rfl, [], ?_, ?_⟩; all_goals (repeat' (first | exact rfl | exact trivial | (with_reducible assumption) | refine And.intro ?_ ?_)); all_goals (first | omega | assumption | ((repeat' (first | first | (rw [hnx]; exact (if_pos (by omega)).symm) | (rw [hnx]; exact (if_neg (by omega)).symm) | exact rfl | exact trivial | (with_reducible assumption) | refine And.intro ?_ ?_ | omega | assumption)); done)); done)) | trace_state
                  · obtain rfl : j = ins.length := by omega
                    have hwst : lw (vt ins xss xss.length) (ins.getD 0 0) (ins.take ins.length) = wst (vt ins xss xss.length) ins := by rw [List.take_length, wst_lw hI.pos hI.ne]
                    have hwi := hI.wstIn (vt ins xss xss.length)
                    rw [hwst]
                    have hbn : ¬ al ins xss xss.length < 2 * vt ins xss xss.length (bst (vt ins xss xss.length) ins) := fun hb => by
                      obtain ⟨k, hk1, hk2⟩ := mem_getD 0 (bst_spec (v := vt ins xss xss.length) hI.pos hI.ne).1
                      exact hno k hk1 (by rw [hk2]; exact hb)
                    have h2 := hI.two h0 hbn
                    have hkl := kp_len hI.nd hwi
                    have hon := er_on (k := ins.length - 1) (r := n - ins.length + 1) h0 hbn
                    rw [show ins.length - 1 + 1 = ins.length by omega] at hon
                    have hdc := deleteW_call ins (n.toNat - ins.length) (wst (vt ins xss xss.length) ins) hwi (by omega) (by omega)
                    have hwl : (kp ins (wst (vt ins xss xss.length) ins)).length = ins.length - 1 := by omega
                    have hin2 : ins.length + (n.toNat - ins.length) = n.toNat := by omega
                    rw [hin2] at hdc
                    repeat' (first | (intro h; first | contradiction | omega | (conv => whnf) | skip) | (refine And.intro ?_ ?_) | (refine arith_ok ⟨by omega, by omega⟩ ?_) | (first | (refine draw_quiet hT mixed (by decide +kernel) ?_) | (refine draw_hard hT mixed (by decide +kernel) ?_)) | (refine CallA.go [2] (hdc) rfl (by first | ((repeat' (first | exact rfl | exact trivial | (with_reducible assumption) | refine And.intro ?_ ?_ | omega | assumption)); done) | fail) (by first | ((repeat' (first | exact rfl | exact trivial | (with_reducible assumption) | refine And.intro ?_ ?_ | omega | assumption)); done) | fail) ?_))
                    all_goals first | omega | skip
                    all_goals ((conv => whnf); refine ⟨kp ins (wst (vt ins xss xss.length) ins), ⟨hI.kp _ h2, by omega, ?_⟩, ?_, by omega⟩)
                    · rw [hon, hwl]
                      exact congrArg (er xss _ _) (by omega)
                    · (refine ⟨rfl, [], ?_, ?_⟩; all_goals (repeat' (first | exact rfl | exact trivial | (with_reducible assumption) | refine And.intro ?_ ?_)); all_goals (first | omega | assumption | ((repeat' (first | omega | exact rfl | exact trivial | (with_reducible assumption) | refine And.intro ?_ ?_ | omega | assumption)); done)); done)
  · rw [erX_no ho]
    repeat' (first | (intro h; first | contradiction | omega | (conv => whnf) | skip) | (refine And.intro ?_ ?_) | (refine arith_ok ⟨by omega, by omega⟩ ?_) | (first | (refine draw_quiet hT mixed (by decide +kernel) ?_) | (refine draw_hard hT mixed (by decide +kernel) ?_)) | (refine Ret.goP (implBallots_ret n xss hn hr) rfl ?_) | (refine Ret.goQP (implBallots_ret n xss hn hr) rfl ?_))
    all_goals first | omega | rfl | trace_state
end Go.Proofs.Ytcdfdigehaipmaa
