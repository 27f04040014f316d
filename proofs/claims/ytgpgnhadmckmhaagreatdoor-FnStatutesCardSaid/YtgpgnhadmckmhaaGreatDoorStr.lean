/-
  Statutes read by the program, and the law: what the functions return. No conditions but those in the statements.
-/
import Derived.Test.YtgpgnhadmckmhaaGreatDoorStp
import Derived.Test.YtgpgnhadmckmhaaGreatDoorStq
set_option linter.unusedVariables false
set_option linter.unusedSimpArgs false
namespace Go.Proofs.YtgpgnhadmckmhaaGreatDoor
open Go.AE Go.Lib

attribute [local irreducible] CallA LoopA DrawA CallQ arithK quoK remK eqK
attribute [local irreducible] RS CS rdX rdT
def rep (p : List UInt8) : List UInt8 := replaceAll p [44] [32]
theorem rep_len (p : List UInt8) : (rep p).length = p.length := by
  unfold rep
  rw [replaceAll_map (by decide), List.length_map]
theorem Acc.repd {s : List UInt8} {x : List (List Int)} (h : Acc s x) : (Go.AE.sp 59 s).map rep = x.map jb := by
  rw [h.sp, List.map_map]
  exact List.map_congr_left fun r _ => blank_rt r
theorem rep_nacc {s : List UInt8} {out : List (List Int)} (h : Rd jb ((sp 59 s).map rep) ((sp 59 s).map rep).length out) (ha : ¬ (areRl out ∧ stx out = s)) (x : List (List Int)) : ¬ Acc s x := fun hx => by
  have e : x = out := maps_inj jb_inj hx.1 h.row (by rw [← hx.repd, ← h.all])
  exact ha (e ▸ ⟨hx.2.1, hx.2.2.symm⟩)
theorem map_rep_getD {ps : List (List UInt8)} {i : Nat} (hi : i < ps.length) : (ps.map rep).getD i [] = rep (ps.getD i []) := by
  rw [List.getD_eq_getElem?_getD, List.getElem?_map, List.getD_eq_getElem?_getD, List.getElem?_eq_getElem hi]
  rfl
/-- A part that the program cannot read. -/
theorem nacc_impl {s : List UInt8} {i : Nat} (hi : i < (sp 59 s).length) (h : ∀ xs, isNums (sp 32 (rep ((sp 59 s).getD i []))) xs → xs.length = 6 → 20 ≤ i) (x : List (List Int)) : ¬ Acc s x := fun hx => by
  obtain ⟨r, hr, he, hl⟩ := hx.part hi
  have h1 := h r ⟨fun y hy => by
    have := rowL_in (hx.1 r hr) (hx.2.1.1 r hr) y hy
    unfold rg
    omega, by
    rw [he, show rep (rt r) = jb r from blank_rt r]
    exact sp_ints (c := 32) (by decide) (by decide) (len_ne (hx.1 r hr))⟩ (hx.1 r hr)
  have := hx.2.1.2.2
  omega
theorem part_jb {p : List UInt8} {xs : List Int} (h : isNums (sp 32 p) xs) : p = jb xs := by
  rw [← join_sp 32 p, h.2]; rfl
attribute [local irreducible] rep
set_option maxHeartbeats 2000000 in
set_option maxRecDepth 100000 in
theorem implRS_call (s : List UInt8) (hn : s.length ≤ 1048576) : CallA Tryz.prog G2 15 [Sv s] [] (fun v J => v = .tup [.sl 0 6 (RS s).length, I (CS s)] ∧ J = [DRule (RS s)]) := by
  refine CallA.ends (callA_of_body hT Tryz.func15 rfl ?_)
  have hps := sp_short (c := 59) hn
  have hpl := sp_many (c := 59) (l := s)
  obtain ⟨ps, hpe⟩ : ∃ ps, ps = sp 59 s := ⟨_, rfl⟩
  have hsc := (split_call s 59 (by omega)).weak G_G2
  rw [← hpe] at hsc hps hpl
  have hml : (ps.map B).length = ps.length := List.length_map _
  have hml2 : (ps.map rep).length = ps.length := List.length_map _
  repeat' ((first | (conv => whnf) | skip); (first | ((with_reducible intro h); first | contradiction | omega | (conv => whnf) | skip) | (with_reducible refine And.intro ?_ ?_) | ((with_reducible show arithK _ _ _); refine arith_ok ⟨by omega, by omega⟩ ?_) | ((with_reducible show quoK _ _ _ _); refine quo_ok ⟨by omega, by omega⟩ (by omega) (by omega) ?_) | ((with_reducible show remK _ _ _ _); refine rem_ok (by omega) (by omega) ?_) | ((first | (with_reducible show CallA _ _ _ _ _ _) | (with_reducible show CallQ _ _ _ _ _ _)); first | (refine CallA.go [] (hsc) rfl (by first | ((repeat' (first | exact rfl | exact trivial | (with_reducible assumption) | refine And.intro ?_ ?_ | omega | assumption)); done) | fail) trivial ?_)) | ((with_reducible show DrawA _ _ _ _ _ _); first | (refine draw_hard hT mixed (by decide +kernel) ?_))))
  all_goals first | rfl | omega | skip
  (conv => whnf)
  refine loop_rule hT (fun q : Nat × List (List Int) => Rd jb (ps.map rep) q.1 q.2 ∧ q.2.length ≤ 20) 68 2 [0, 4, 11, 12, 13] (fun q => [Sv s, .sl 2 6 q.2.length, .sl 1 1 (ps.map B).length, I (ps.map B).length, I q.1]) (fun q => [.dead, .data (.strs (ps.map B)), DRule q.2]) (fun q => ps.length - q.1) ((0, [])) (Nat.le_of_ble_eq_true rfl) ?_ ?_ ?_
  · exact ⟨Rd.start jb _, Nat.zero_le _⟩
  · first | (refine ⟨rfl, [some 0], ?_, ?_⟩; all_goals (repeat' (first | exact rfl | exact trivial | (with_reducible assumption) | refine And.intro ?_ ?_)); all_goals (first | omega | assumption); done) | trace_state
  · rintro ⟨i, out⟩ ⟨hR, h20⟩
    dsimp only at hR h20 ⊢
    have hle := hR.le
    have hol := hR.len
    by_cases hi : i < ps.length
    · have hpi : (ps.getD i []).length ≤ 1048576 := hps _ (getD_mem hi)
      have hs2 := (replaceAll_ret (ps.getD i []) 44 32 (by omega)).weak G_G2
      rw [show Sv (ps.getD i []) = .v (.string ((ps.map B).getD ((i : Int)).toNat ByteArray.empty)) from (congrArg (fun b => AV.v (.string b)) (strs_getD ps i)).symm] at hs2
      have hs3 : Ret Tryz.prog G2 53 [.v (.string ((ps.map B).getD ((i : Int)).toNat ByteArray.empty)), Sv [44], Sv [32]] (Sv (rep (ps.getD i []))) := by unfold rep; exact hs2
      have hrl := rep_len (ps.getD i [])
      have hwl := sp_many (c := 32) (l := rep (ps.getD i []))
      have hnc := readJoined_call (rep (ps.getD i [])) (by omega) (sp_short (by omega)) (by omega)
      by_cases hg : ∃ xs, isNums (sp 32 (rep (ps.getD i []))) xs
      · obtain ⟨xs, hx⟩ := hg
        obtain ⟨e1, e2⟩ := rd_yes hx
        rw [e1, e2] at hnc
        by_cases hg2 : xs.length = 6 ∧ out.length ≠ 20
        · obtain ⟨hg2, hg3⟩ := hg2
          have hnx := hR.next (by omega) hg2 ((map_rep_getD hi).trans (part_jb hx))
          have he := etaRule hg2
          repeat' ((first | (conv => whnf) | skip); (first | ((with_reducible intro h); first | contradiction | omega | (conv => whnf) | skip) | (with_reducible refine And.intro ?_ ?_) | ((with_reducible show arithK _ _ _); refine arith_ok ⟨by omega, by omega⟩ ?_) | ((with_reducible show quoK _ _ _ _); refine quo_ok ⟨by omega, by omega⟩ (by omega) (by omega) ?_) | ((with_reducible show remK _ _ _ _); refine rem_ok (by omega) (by omega) ?_) | ((first | (with_reducible show CallA _ _ _ _ _ _) | (with_reducible show CallQ _ _ _ _ _ _)); first | (refine Ret.go (hs3) rfl rfl ?_) | (refine Ret.goQ (hs3) rfl rfl ?_) | (refine CallA.go [] (hnc) rfl (by first | ((repeat' (first | exact rfl | exact trivial | (with_reducible assumption) | refine And.intro ?_ ?_ | omega | assumption)); done) | fail) trivial ?_)) | ((with_reducible show DrawA _ _ _ _ _ _); first | (refine draw_hard hT mixed (by decide +kernel) ?_))))
          all_goals first | rfl | omega | (show _ < (ps.map B).length; omega) | (show (_ : Int) < ((ps.map B).length : Int); omega) | (show (_ : Nat) ≤ _; simp; omega) | skip
          all_goals ((conv => whnf); first | (refine ⟨(i + 1, out ++ [xs]), ⟨hnx, by rw [List.length_append]; show out.length + 1 ≤ 20; omega⟩, ?_, by dsimp only; omega⟩; first | (refine ⟨rfl, [some 5], ?_, ?_⟩; all_goals (repeat' (first | exact rfl | exact trivial | (with_reducible assumption) | refine And.intro ?_ ?_)); all_goals (first | omega | assumption | ((repeat' (first | ((try dsimp only); rw [← he]; exact rfl) | exact rfl | exact trivial | (with_reducible assumption) | refine And.intro ?_ ?_ | omega | assumption)); done)); done) | (refine ⟨rfl, [some 6], ?_, ?_⟩; all_goals (repeat' (first | exact rfl | exact trivial | (with_reducible assumption) | refine And.intro ?_ ?_)); all_goals (first | omega | assumption | ((repeat' (first | ((try dsimp only); rw [← he]; exact rfl) | exact rfl | exact trivial | (with_reducible assumption) | refine And.intro ?_ ?_ | omega | assumption)); done)); done)) | trace_state)
        · have hno : ∀ x, ¬ Acc s x := fun x => nacc_impl (s := s) (i := i) (by rw [← hpe]; exact hi) (fun ys hy h6 => by
            rw [← hpe] at hy
            obtain rfl := hx.uniq hy
            by_cases h9 : out.length = 20
            · omega
            · exact absurd ⟨h6, h9⟩ hg2) x
          obtain ⟨k1, k2⟩ := RS_no hno
          rw [k1, k2]
          by_cases hg3 : xs.length = 6
          · have hg4 : out.length = 20 := by
              by_cases h9 : out.length = 20
              · exact h9
              · exact absurd ⟨hg3, h9⟩ hg2
            repeat' ((first | (conv => whnf) | skip); (first | ((with_reducible intro h); first | contradiction | omega | (conv => whnf) | skip) | (with_reducible refine And.intro ?_ ?_) | ((with_reducible show arithK _ _ _); refine arith_ok ⟨by omega, by omega⟩ ?_) | ((with_reducible show quoK _ _ _ _); refine quo_ok ⟨by omega, by omega⟩ (by omega) (by omega) ?_) | ((with_reducible show remK _ _ _ _); refine rem_ok (by omega) (by omega) ?_) | ((first | (with_reducible show CallA _ _ _ _ _ _) | (with_reducible show CallQ _ _ _ _ _ _)); first | (refine Ret.go (hs3) rfl rfl ?_) | (refine Ret.goQ (hs3) rfl rfl ?_) | (refine CallA.go [] (hnc) rfl (by first | ((repeat' (first | exact rfl | exact trivial | (with_reducible assumption) | refine And.intro ?_ ?_ | omega | assumption)); done) | fail) trivial ?_)) | ((with_reducible show DrawA _ _ _ _ _ _); first | (refine draw_hard hT mixed (by decide +kernel) ?_))))
            all_goals first | rfl | omega | (show _ < (ps.map B).length; omega) | (show (_ : Int) < ((ps.map B).length : Int); omega) | skip
            all_goals ((conv => whnf); first | (refine ⟨[none], .tup [.sl 0 6 ([] : List (List Int)).length, I 6], [DRule []], ?_, ?_, ?_⟩; all_goals (repeat' (first | exact rfl | exact trivial | (with_reducible assumption) | refine And.intro ?_ ?_)); all_goals (first | omega | assumption); done) | trace_state)
          · repeat' ((first | (conv => whnf) | skip); (first | ((with_reducible intro h); first | contradiction | omega | (conv => whnf) | skip) | (with_reducible refine And.intro ?_ ?_) | ((with_reducible show arithK _ _ _); refine arith_ok ⟨by omega, by omega⟩ ?_) | ((with_reducible show quoK _ _ _ _); refine quo_ok ⟨by omega, by omega⟩ (by omega) (by omega) ?_) | ((with_reducible show remK _ _ _ _); refine rem_ok (by omega) (by omega) ?_) | ((first | (with_reducible show CallA _ _ _ _ _ _) | (with_reducible show CallQ _ _ _ _ _ _)); first | (refine Ret.go (hs3) rfl rfl ?_) | (refine Ret.goQ (hs3) rfl rfl ?_) | (refine CallA.go [] (hnc) rfl (by first | ((repeat' (first | exact rfl | exact trivial | (with_reducible assumption) | refine And.intro ?_ ?_ | omega | assumption)); done) | fail) trivial ?_)) | ((with_reducible show DrawA _ _ _ _ _ _); first | (refine draw_hard hT mixed (by decide +kernel) ?_))))
            all_goals first | rfl | omega | (show _ < (ps.map B).length; omega) | (show (_ : Int) < ((ps.map B).length : Int); omega) | skip
            all_goals ((conv => whnf); first | (refine ⟨[none], .tup [.sl 0 6 ([] : List (List Int)).length, I 6], [DRule []], ?_, ?_, ?_⟩; all_goals (repeat' (first | exact rfl | exact trivial | (with_reducible assumption) | refine And.intro ?_ ?_)); all_goals (first | omega | assumption); done) | trace_state)
      · have hno : ∀ x, ¬ Acc s x := fun x => nacc_impl (s := s) (i := i) (by rw [← hpe]; exact hi) (fun ys hy _ => by
          rw [← hpe] at hy
          exact absurd ⟨ys, hy⟩ hg) x
        obtain ⟨k1, k2⟩ := RS_no hno
        rw [k1, k2]
        obtain ⟨e1, e2⟩ := rd_no fun xs hx => hg ⟨xs, hx⟩
        rw [e1, e2] at hnc
        repeat' ((first | (conv => whnf) | skip); (first | ((with_reducible intro h); first | contradiction | omega | (conv => whnf) | skip) | (with_reducible refine And.intro ?_ ?_) | ((with_reducible show arithK _ _ _); refine arith_ok ⟨by omega, by omega⟩ ?_) | ((with_reducible show quoK _ _ _ _); refine quo_ok ⟨by omega, by omega⟩ (by omega) (by omega) ?_) | ((with_reducible show remK _ _ _ _); refine rem_ok (by omega) (by omega) ?_) | ((first | (with_reducible show CallA _ _ _ _ _ _) | (with_reducible show CallQ _ _ _ _ _ _)); first | (refine Ret.go (hs3) rfl rfl ?_) | (refine Ret.goQ (hs3) rfl rfl ?_) | (refine CallA.go [] (hnc) rfl (by first | ((repeat' (first | exact rfl | exact trivial | (with_reducible assumption) | refine And.intro ?_ ?_ | omega | assumption)); done) | fail) trivial ?_)) | ((with_reducible show DrawA _ _ _ _ _ _); first | (refine draw_hard hT mixed (by decide +kernel) ?_))))
        all_goals first | rfl | omega | (show _ < (ps.map B).length; omega) | (show (_ : Int) < ((ps.map B).length : Int); omega) | skip
        all_goals ((conv => whnf); first | (refine ⟨[none], .tup [.sl 0 6 ([] : List (List Int)).length, I 6], [DRule []], ?_, ?_, ?_⟩; all_goals (repeat' (first | exact rfl | exact trivial | (with_reducible assumption) | refine And.intro ?_ ?_)); all_goals (first | omega | assumption); done) | trace_state)
    · obtain rfl : i = ps.length := by omega
      have har := (implAre_ret out (by omega)).weak G_G2
      rw [← hml2] at hR
      subst hpe
      by_cases ha : areRl out
      · rw [decide_eq_true ha] at har
        have htx := (implText_ret out hR.row ha).weak G_G2
        by_cases hst : stx out = s
        · obtain ⟨e1, e2⟩ := RS_yes (show Acc s out from ⟨hR.row, ha, hst.symm⟩)
          rw [e1, e2]
          rw [hst] at htx
          repeat' ((first | (conv => whnf) | skip); (first | ((with_reducible intro h); first | contradiction | omega | (conv => whnf) | skip) | (with_reducible refine And.intro ?_ ?_) | ((with_reducible show arithK _ _ _); refine arith_ok ⟨by omega, by omega⟩ ?_) | ((with_reducible show quoK _ _ _ _); refine quo_ok ⟨by omega, by omega⟩ (by omega) (by omega) ?_) | ((with_reducible show remK _ _ _ _); refine rem_ok (by omega) (by omega) ?_) | ((first | (with_reducible show CallA _ _ _ _ _ _) | (with_reducible show CallQ _ _ _ _ _ _)); first | (refine Ret.use (har) (by first | ((repeat' (first | exact rfl | exact trivial | (with_reducible assumption) | refine And.intro ?_ ?_ | omega | assumption)); done) | fail) ?_) | (refine Ret.useQ (har) (by first | ((repeat' (first | exact rfl | exact trivial | (with_reducible assumption) | refine And.intro ?_ ?_ | omega | assumption)); done) | fail) rfl ?_) | (refine Ret.use (htx) (by first | ((repeat' (first | exact rfl | exact trivial | (with_reducible assumption) | refine And.intro ?_ ?_ | omega | assumption)); done) | fail) ?_) | (refine Ret.useQ (htx) (by first | ((repeat' (first | exact rfl | exact trivial | (with_reducible assumption) | refine And.intro ?_ ?_ | omega | assumption)); done) | fail) rfl ?_)) | ((with_reducible show DrawA _ _ _ _ _ _); first | (refine draw_hard hT mixed (by decide +kernel) ?_))))
          all_goals first | rfl | omega | contradiction | skip
          all_goals ((conv => whnf); first | (refine ⟨[some 2], .tup [.sl 0 6 out.length, I 0], [DRule out], ?_, ?_, ?_⟩; all_goals (repeat' (first | exact rfl | exact trivial | (with_reducible assumption) | refine And.intro ?_ ?_)); all_goals (first | omega | assumption); done) | trace_state)
        · obtain ⟨e1, e2⟩ := RS_no (rep_nacc hR fun hh => hst hh.2)
          rw [e1, e2]
          have hne : B (stx out) ≠ B s := fun e => hst (B_inj.1 e)
          repeat' ((first | (conv => whnf) | skip); (first | ((with_reducible intro h); first | contradiction | omega | (conv => whnf) | skip) | (with_reducible refine And.intro ?_ ?_) | ((with_reducible show arithK _ _ _); refine arith_ok ⟨by omega, by omega⟩ ?_) | ((with_reducible show quoK _ _ _ _); refine quo_ok ⟨by omega, by omega⟩ (by omega) (by omega) ?_) | ((with_reducible show remK _ _ _ _); refine rem_ok (by omega) (by omega) ?_) | ((first | (with_reducible show CallA _ _ _ _ _ _) | (with_reducible show CallQ _ _ _ _ _ _)); first | (refine Ret.use (har) (by first | ((repeat' (first | exact rfl | exact trivial | (with_reducible assumption) | refine And.intro ?_ ?_ | omega | assumption)); done) | fail) ?_) | (refine Ret.useQ (har) (by first | ((repeat' (first | exact rfl | exact trivial | (with_reducible assumption) | refine And.intro ?_ ?_ | omega | assumption)); done) | fail) rfl ?_) | (refine Ret.use (htx) (by first | ((repeat' (first | exact rfl | exact trivial | (with_reducible assumption) | refine And.intro ?_ ?_ | omega | assumption)); done) | fail) ?_) | (refine Ret.useQ (htx) (by first | ((repeat' (first | exact rfl | exact trivial | (with_reducible assumption) | refine And.intro ?_ ?_ | omega | assumption)); done) | fail) rfl ?_)) | ((with_reducible show DrawA _ _ _ _ _ _); first | (refine draw_hard hT mixed (by decide +kernel) ?_))))
          all_goals first | rfl | omega | contradiction | skip
          all_goals ((conv => whnf); first | (refine ⟨[none], .tup [.sl 0 6 ([] : List (List Int)).length, I 6], [DRule []], ?_, ?_, ?_⟩; all_goals (repeat' (first | exact rfl | exact trivial | (with_reducible assumption) | refine And.intro ?_ ?_)); all_goals (first | omega | assumption); done) | trace_state)
      · obtain ⟨e1, e2⟩ := RS_no (rep_nacc hR fun hh => ha hh.1)
        rw [e1, e2]
        rw [decide_eq_false ha] at har
        repeat' ((first | (conv => whnf) | skip); (first | ((with_reducible intro h); first | contradiction | omega | (conv => whnf) | skip) | (with_reducible refine And.intro ?_ ?_) | ((with_reducible show arithK _ _ _); refine arith_ok ⟨by omega, by omega⟩ ?_) | ((with_reducible show quoK _ _ _ _); refine quo_ok ⟨by omega, by omega⟩ (by omega) (by omega) ?_) | ((with_reducible show remK _ _ _ _); refine rem_ok (by omega) (by omega) ?_) | ((first | (with_reducible show CallA _ _ _ _ _ _) | (with_reducible show CallQ _ _ _ _ _ _)); first | (refine Ret.use (har) (by first | ((repeat' (first | exact rfl | exact trivial | (with_reducible assumption) | refine And.intro ?_ ?_ | omega | assumption)); done) | fail) ?_) | (refine Ret.useQ (har) (by first | ((repeat' (first | exact rfl | exact trivial | (with_reducible assumption) | refine And.intro ?_ ?_ | omega | assumption)); done) | fail) rfl ?_)) | ((with_reducible show DrawA _ _ _ _ _ _); first | (refine draw_hard hT mixed (by decide +kernel) ?_))))
        all_goals first | rfl | omega | skip
        all_goals ((conv => whnf); first | (refine ⟨[none], .tup [.sl 0 6 ([] : List (List Int)).length, I 6], [DRule []], ?_, ?_, ?_⟩; all_goals (repeat' (first | exact rfl | exact trivial | (with_reducible assumption) | refine And.intro ?_ ?_)); all_goals (first | omega | assumption); done) | trace_state)
end Go.Proofs.YtgpgnhadmckmhaaGreatDoor
