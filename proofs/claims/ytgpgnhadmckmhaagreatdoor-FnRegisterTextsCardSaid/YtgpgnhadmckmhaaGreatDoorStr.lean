/-
  Statutes read by the reference: what the function returns. No conditions but those in the statements. Numerals and statutes read by the program: what the functions return. No conditions but those in the statements. Statutes read by the program, and the law: what the functions return. No conditions but those in the statements.
-/
import Derived.Test.YtgpgnhadmckmhaaGreatDoorSto
import Derived.Lib.ParseIntBTie
namespace Go.Proofs.YtgpgnhadmckmhaaGreatDoor
open Go.AE Go.Lib

attribute [local irreducible] CallA LoopA DrawA CallQ arithK quoK remK eqK
attribute [local irreducible] sgnN sgnB numX allN RS CS
theorem sp_short {c : UInt8} {l : List UInt8} {n : Nat} (h : l.length ≤ n) : ∀ w ∈ sp c l, w.length ≤ n := by
  refine sp_induct (c := c) (p := fun l => l.length ≤ n → ∀ w ∈ sp c l, w.length ≤ n) (fun l hl h w hw => ?_) (fun pre post hp ih h w hw => ?_) l h
  · rw [sp_miss hl] at hw
    obtain rfl := List.mem_singleton.1 hw
    exact h
  · rw [sp_hit hp] at hw
    rw [List.length_append, List.length_cons] at h
    rcases List.mem_cons.1 hw with rfl | hw
    · omega
    · exact ih (by omega) w hw
theorem sp_many {c : UInt8} {l : List UInt8} : (sp c l).length ≤ l.length + 1 := by
  rw [sp_len]
  have := List.count_le_length (a := c) (l := l)
  omega
set_option maxHeartbeats 2000000 in
set_option maxRecDepth 100000 in
theorem specRS_call (s : List UInt8) (hn : s.length ≤ 1048576) : CallA Tryz.prog G 16 [Sv s] [] (fun v J => v = .tup [.sl 0 6 (RS s).length, I (CS s)] ∧ J = [DRule (RS s)]) := by
  refine CallA.ends (callA_of_body hT Tryz.func16 rfl ?_)
  have hps := sp_short (c := 59) hn
  have hpl := sp_many (c := 59) (l := s)
  obtain ⟨ps, hpe⟩ : ∃ ps, ps = sp 59 s := ⟨_, rfl⟩
  have hsc := l01Split_call s 59 hn
  rw [← hpe] at hsc hps hpl
  have hml : (ps.map B).length = ps.length := List.length_map _
  repeat' ((first | (conv => whnf) | skip); (first | ((with_reducible intro h); first | contradiction | omega | (conv => whnf) | skip) | (with_reducible refine And.intro ?_ ?_) | ((with_reducible show arithK _ _ _); refine arith_ok ⟨by omega, by omega⟩ ?_) | ((with_reducible show quoK _ _ _ _); refine quo_ok ⟨by omega, by omega⟩ (by omega) (by omega) ?_) | ((with_reducible show remK _ _ _ _); refine rem_ok (by omega) (by omega) ?_) | ((first | (with_reducible show CallA _ _ _ _ _ _) | (with_reducible show CallQ _ _ _ _ _ _)); first | (refine CallA.go [] (hsc) rfl (by first | ((repeat' (first | exact rfl | exact trivial | (with_reducible assumption) | refine And.intro ?_ ?_ | omega | assumption)); done) | fail) trivial ?_)) | ((with_reducible show DrawA _ _ _ _ _ _); first | (refine draw_hard hT mixed (by decide +kernel) ?_))))
  all_goals first | rfl | omega | skip
  (conv => whnf)
  refine loop_rule hT (fun q : Nat × List (List Int) => Rd rt ps q.1 q.2) 60 2 [0, 4, 5, 6] (fun q => [Sv s, .sl 0 1 (ps.map B).length, .sl 2 6 q.2.length, I q.1]) (fun q => [.data (.strs (ps.map B)), .dead, DRule q.2]) (fun q => ps.length - q.1) ((0, [])) (Nat.le_of_ble_eq_true rfl) ?_ ?_ ?_
  · exact Rd.start rt ps
  · first | (refine ⟨rfl, [some 1], ?_, ?_⟩; all_goals (repeat' (first | exact rfl | exact trivial | (with_reducible assumption) | refine And.intro ?_ ?_)); all_goals (first | omega | assumption); done) | trace_state
  · rintro ⟨i, out⟩ hR
    dsimp only at hR ⊢
    have hle := hR.le
    have hol := hR.len
    by_cases hi : i < ps.length
    · have hpi : (ps.getD i []).length ≤ 1048576 := hps _ (getD_mem hi)
      have hs2 := l01Split_call (ps.getD i []) 44 hpi
      rw [show Sv (ps.getD i []) = .v (.string ((ps.map B).getD ((i : Int)).toNat ByteArray.empty)) from (congrArg (fun b => AV.v (.string b)) (strs_getD ps i)).symm] at hs2
      have hwl := sp_many (c := 44) (l := ps.getD i [])
      have hnc := l01Numbers_call (sp 44 (ps.getD i [])) (by omega) (sp_short hpi)
      by_cases hg : allN (sp 44 (ps.getD i [])) ∧ (numX (sp 44 (ps.getD i []))).length = 6
      · obtain ⟨hg1, hg2⟩ := hg
        obtain ⟨xs, hx1, hx2, hx3⟩ := allN_inv hg1
        rw [hx3, decide_eq_true hg1] at hnc
        rw [hx3] at hg2
        have hnx := hR.next hi hg2 (part_rt hx2)
        have he := etaRule hg2
        repeat' ((first | (conv => whnf) | skip); (first | ((with_reducible intro h); first | contradiction | omega | (conv => whnf) | skip) | (with_reducible refine And.intro ?_ ?_) | ((with_reducible show arithK _ _ _); refine arith_ok ⟨by omega, by omega⟩ ?_) | ((with_reducible show quoK _ _ _ _); refine quo_ok ⟨by omega, by omega⟩ (by omega) (by omega) ?_) | ((with_reducible show remK _ _ _ _); refine rem_ok (by omega) (by omega) ?_) | ((first | (with_reducible show CallA _ _ _ _ _ _) | (with_reducible show CallQ _ _ _ _ _ _)); first | (refine CallA.go [] (hs2) rfl (by first | ((repeat' (first | exact rfl | exact trivial | (with_reducible assumption) | refine And.intro ?_ ?_ | omega | assumption)); done) | fail) trivial ?_) | (refine CallA.go [] (hnc) rfl (by first | ((repeat' (first | exact rfl | exact trivial | (with_reducible assumption) | refine And.intro ?_ ?_ | omega | assumption)); done) | fail) trivial ?_)) | ((with_reducible show DrawA _ _ _ _ _ _); first | (refine draw_hard hT mixed (by decide +kernel) ?_))))
        all_goals first | rfl | omega | (show _ < (ps.map B).length; omega) | (show (_ : Int) < ((ps.map B).length : Int); omega) | (show (_ : Nat) ≤ _; simp; omega) | skip
        all_goals ((conv => whnf); first | (refine ⟨(i + 1, out ++ [xs]), hnx, ?_, by dsimp only; omega⟩; (refine ⟨rfl, [some 6], ?_, ?_⟩; all_goals (repeat' (first | exact rfl | exact trivial | (with_reducible assumption) | refine And.intro ?_ ?_)); all_goals (first | omega | assumption | ((repeat' (first | ((try dsimp only); rw [← he]; exact rfl) | exact rfl | exact trivial | (with_reducible assumption) | refine And.intro ?_ ?_ | omega | assumption)); done)); done)) | trace_state)
      · have hno : ∀ x, ¬ Acc s x := fun x => nacc_spec (s := s) (i := i) (by rw [← hpe]; exact hi) (fun xs hsm he h6 => hg (by
          rw [← hpe] at he
          rw [he]
          obtain ⟨k1, k2⟩ := allN_itoa hsm
          exact ⟨k1, by rw [k2]; exact h6⟩)) x
        obtain ⟨e1, e2⟩ := RS_no hno
        rw [e1, e2]
        by_cases hg1 : allN (sp 44 (ps.getD i []))
        · have hg2 : (numX (sp 44 (ps.getD i []))).length ≠ 6 := fun h => hg ⟨hg1, h⟩
          rw [decide_eq_true hg1] at hnc
          repeat' ((first | (conv => whnf) | skip); (first | ((with_reducible intro h); first | contradiction | omega | (conv => whnf) | skip) | (with_reducible refine And.intro ?_ ?_) | ((with_reducible show arithK _ _ _); refine arith_ok ⟨by omega, by omega⟩ ?_) | ((with_reducible show quoK _ _ _ _); refine quo_ok ⟨by omega, by omega⟩ (by omega) (by omega) ?_) | ((with_reducible show remK _ _ _ _); refine rem_ok (by omega) (by omega) ?_) | ((first | (with_reducible show CallA _ _ _ _ _ _) | (with_reducible show CallQ _ _ _ _ _ _)); first | (refine CallA.go [] (hs2) rfl (by first | ((repeat' (first | exact rfl | exact trivial | (with_reducible assumption) | refine And.intro ?_ ?_ | omega | assumption)); done) | fail) trivial ?_) | (refine CallA.go [] (hnc) rfl (by first | ((repeat' (first | exact rfl | exact trivial | (with_reducible assumption) | refine And.intro ?_ ?_ | omega | assumption)); done) | fail) trivial ?_)) | ((with_reducible show DrawA _ _ _ _ _ _); first | (refine draw_hard hT mixed (by decide +kernel) ?_))))
          all_goals first | rfl | omega | (show _ < (ps.map B).length; omega) | (show (_ : Int) < ((ps.map B).length : Int); omega) | skip
          all_goals ((conv => whnf); first | (refine ⟨[none], .tup [.sl 0 6 ([] : List (List Int)).length, I 6], [DRule []], ?_, ?_, ?_⟩; all_goals (repeat' (first | exact rfl | exact trivial | (with_reducible assumption) | refine And.intro ?_ ?_)); all_goals (first | omega | assumption); done) | trace_state)
        · rw [decide_eq_false hg1] at hnc
          repeat' ((first | (conv => whnf) | skip); (first | ((with_reducible intro h); first | contradiction | omega | (conv => whnf) | skip) | (with_reducible refine And.intro ?_ ?_) | ((with_reducible show arithK _ _ _); refine arith_ok ⟨by omega, by omega⟩ ?_) | ((with_reducible show quoK _ _ _ _); refine quo_ok ⟨by omega, by omega⟩ (by omega) (by omega) ?_) | ((with_reducible show remK _ _ _ _); refine rem_ok (by omega) (by omega) ?_) | ((first | (with_reducible show CallA _ _ _ _ _ _) | (with_reducible show CallQ _ _ _ _ _ _)); first | (refine CallA.go [] (hs2) rfl (by first | ((repeat' (first | exact rfl | exact trivial | (with_reducible assumption) | refine And.intro ?_ ?_ | omega | assumption)); done) | fail) trivial ?_) | (refine CallA.go [] (hnc) rfl (by first | ((repeat' (first | exact rfl | exact trivial | (with_reducible assumption) | refine And.intro ?_ ?_ | omega | assumption)); done) | fail) trivial ?_)) | ((with_reducible show DrawA _ _ _ _ _ _); first | (refine draw_hard hT mixed (by decide +kernel) ?_))))
          all_goals first | rfl | omega | (show _ < (ps.map B).length; omega) | (show (_ : Int) < ((ps.map B).length : Int); omega) | skip
          all_goals ((conv => whnf); first | (refine ⟨[none], .tup [.sl 0 6 ([] : List (List Int)).length, I 6], [DRule []], ?_, ?_, ?_⟩; all_goals (repeat' (first | exact rfl | exact trivial | (with_reducible assumption) | refine And.intro ?_ ?_)); all_goals (first | omega | assumption); done) | trace_state)
    · obtain rfl : i = ps.length := by omega
      have har := specAre_ret out (by omega)
      subst hpe
      by_cases ha : areRl out
      · obtain ⟨e1, e2⟩ := RS_yes (hR.acc ha)
        rw [e1, e2]
        rw [decide_eq_true ha] at har
        repeat' ((first | (conv => whnf) | skip); (first | ((with_reducible intro h); first | contradiction | omega | (conv => whnf) | skip) | (with_reducible refine And.intro ?_ ?_) | ((with_reducible show arithK _ _ _); refine arith_ok ⟨by omega, by omega⟩ ?_) | ((with_reducible show quoK _ _ _ _); refine quo_ok ⟨by omega, by omega⟩ (by omega) (by omega) ?_) | ((with_reducible show remK _ _ _ _); refine rem_ok (by omega) (by omega) ?_) | ((first | (with_reducible show CallA _ _ _ _ _ _) | (with_reducible show CallQ _ _ _ _ _ _)); first | (refine Ret.use (har) (by first | ((repeat' (first | exact rfl | exact trivial | (with_reducible assumption) | refine And.intro ?_ ?_ | omega | assumption)); done) | fail) ?_) | (refine Ret.useQ (har) (by first | ((repeat' (first | exact rfl | exact trivial | (with_reducible assumption) | refine And.intro ?_ ?_ | omega | assumption)); done) | fail) rfl ?_)) | ((with_reducible show DrawA _ _ _ _ _ _); first | (refine draw_hard hT mixed (by decide +kernel) ?_))))
        all_goals first | rfl | omega | skip
        all_goals ((conv => whnf); first | (refine ⟨[some 2], .tup [.sl 0 6 out.length, I 0], [DRule out], ?_, ?_, ?_⟩; all_goals (repeat' (first | exact rfl | exact trivial | (with_reducible assumption) | refine And.intro ?_ ?_)); all_goals (first | omega | assumption); done) | trace_state)
      · obtain ⟨e1, e2⟩ := RS_no (hR.nacc ha)
        rw [e1, e2]
        rw [decide_eq_false ha] at har
        repeat' ((first | (conv => whnf) | skip); (first | ((with_reducible intro h); first | contradiction | omega | (conv => whnf) | skip) | (with_reducible refine And.intro ?_ ?_) | ((with_reducible show arithK _ _ _); refine arith_ok ⟨by omega, by omega⟩ ?_) | ((with_reducible show quoK _ _ _ _); refine quo_ok ⟨by omega, by omega⟩ (by omega) (by omega) ?_) | ((with_reducible show remK _ _ _ _); refine rem_ok (by omega) (by omega) ?_) | ((first | (with_reducible show CallA _ _ _ _ _ _) | (with_reducible show CallQ _ _ _ _ _ _)); first | (refine Ret.use (har) (by first | ((repeat' (first | exact rfl | exact trivial | (with_reducible assumption) | refine And.intro ?_ ?_ | omega | assumption)); done) | fail) ?_) | (refine Ret.useQ (har) (by first | ((repeat' (first | exact rfl | exact trivial | (with_reducible assumption) | refine And.intro ?_ ?_ | omega | assumption)); done) | fail) rfl ?_)) | ((with_reducible show DrawA _ _ _ _ _ _); first | (refine draw_hard hT mixed (by decide +kernel) ?_))))
        all_goals first | rfl | omega | skip
        all_goals ((conv => whnf); first | (refine ⟨[none], .tup [.sl 0 6 ([] : List (List Int)).length, I 6], [DRule []], ?_, ?_, ?_⟩; all_goals (repeat' (first | exact rfl | exact trivial | (with_reducible assumption) | refine And.intro ?_ ?_)); all_goals (first | omega | assumption); done) | trace_state)
end Go.Proofs.YtgpgnhadmckmhaaGreatDoor
namespace Go.Proofs.YtgpgnhadmckmhaaGreatDoor
open Go.AE Go.Lib

attribute [local irreducible] CallA LoopA DrawA CallQ arithK quoK remK eqK
theorem i64_of_parse {l : List UInt8} {v : Int} (h : parseIntB 64 l = .ok v) : -9223372036854775808 ≤ v ∧ v ≤ 9223372036854775807 := by
  have h1 := parseIntB_bounds h
  have e : ((2 ^ (64 - 1) : Nat) : Int) = 9223372036854775808 := rfl
  omega
set_option maxRecDepth 100000 in
theorem readDecimal_yes (n : Int) (h0 : 0 ≤ n) (h1 : n ≤ 9223372036854775807) : Ret Tryz.prog G2 83 [Sv (itoa n)] (.tup [I n, Bo true]) := by
  refine ret_of_body hT Tryz.func83 rfl ?_ rfl
  have hp := parse_ok (itoa n) (by have := itoa_length_le n (by omega) (by omega); omega) n (parse_itoa (by omega) h1)
  have hd := (decimal_ret n (by omega)).weak G_G2
  repeat' ((first | (conv => whnf) | skip); (first | ((with_reducible intro h); first | contradiction | omega | (conv => whnf) | skip) | (with_reducible refine And.intro ?_ ?_) | ((with_reducible show arithK _ _ _); refine arith_ok ⟨by omega, by omega⟩ ?_) | ((with_reducible show quoK _ _ _ _); refine quo_ok ⟨by omega, by omega⟩ (by omega) (by omega) ?_) | ((with_reducible show remK _ _ _ _); refine rem_ok (by omega) (by omega) ?_) | ((first | (with_reducible show CallA _ _ _ _ _ _) | (with_reducible show CallQ _ _ _ _ _ _)); first | (refine Ret.go (hp) rfl rfl ?_) | (refine Ret.goQ (hp) rfl rfl ?_) | (refine Ret.go (hd) rfl rfl ?_) | (refine Ret.goQ (hd) rfl rfl ?_)) | ((with_reducible show DrawA _ _ _ _ _ _); first | (refine draw_hard hT mixed (by decide +kernel) ?_))))
  all_goals first | rfl | omega | contradiction | trace_state
set_option maxRecDepth 100000 in
theorem readDecimal_no (l : List UInt8) (hl : l.length ≤ 1048576) (h : ∀ n : Int, 0 ≤ n → n ≤ 9223372036854775807 → l ≠ itoa n) : Ret Tryz.prog G2 83 [Sv l] (.tup [I 0, Bo false]) := by
  refine ret_of_body hT Tryz.func83 rfl ?_ rfl
  by_cases hv : ∃ v, parseIntB 64 l = .ok v
  · obtain ⟨v, hv⟩ := hv
    have hp := parse_ok l (by omega) v hv
    have hr := i64_of_parse hv
    have hd := (decimal_ret v hr).weak G_G2
    have hne : 0 ≤ v → B (itoa v) ≠ B l := fun h0 e => h v h0 hr.2 (B_inj.1 e).symm
    by_cases h0 : v < 0
    · repeat' ((first | (conv => whnf) | skip); (first | ((with_reducible intro h); first | contradiction | omega | (conv => whnf) | skip) | (with_reducible refine And.intro ?_ ?_) | ((with_reducible show arithK _ _ _); refine arith_ok ⟨by omega, by omega⟩ ?_) | ((with_reducible show quoK _ _ _ _); refine quo_ok ⟨by omega, by omega⟩ (by omega) (by omega) ?_) | ((with_reducible show remK _ _ _ _); refine rem_ok (by omega) (by omega) ?_) | ((first | (with_reducible show CallA _ _ _ _ _ _) | (with_reducible show CallQ _ _ _ _ _ _)); first | (refine Ret.go (hp) rfl rfl ?_) | (refine Ret.goQ (hp) rfl rfl ?_) | (refine Ret.go (hd) rfl rfl ?_) | (refine Ret.goQ (hd) rfl rfl ?_)) | ((with_reducible show DrawA _ _ _ _ _ _); first | (refine draw_hard hT mixed (by decide +kernel) ?_))))
      all_goals first | rfl | omega | contradiction | trace_state
    · have hne := hne (by omega)
      repeat' ((first | (conv => whnf) | skip); (first | ((with_reducible intro h); first | contradiction | omega | (conv => whnf) | skip) | (with_reducible refine And.intro ?_ ?_) | ((with_reducible show arithK _ _ _); refine arith_ok ⟨by omega, by omega⟩ ?_) | ((with_reducible show quoK _ _ _ _); refine quo_ok ⟨by omega, by omega⟩ (by omega) (by omega) ?_) | ((with_reducible show remK _ _ _ _); refine rem_ok (by omega) (by omega) ?_) | ((first | (with_reducible show CallA _ _ _ _ _ _) | (with_reducible show CallQ _ _ _ _ _ _)); first | (refine Ret.go (hp) rfl rfl ?_) | (refine Ret.goQ (hp) rfl rfl ?_) | (refine Ret.go (hd) rfl rfl ?_) | (refine Ret.goQ (hd) rfl rfl ?_)) | ((with_reducible show DrawA _ _ _ _ _ _); first | (refine draw_hard hT mixed (by decide +kernel) ?_))))
      all_goals first | rfl | omega | contradiction | trace_state
  · have hp := parse_bad l (by omega) fun v hh => hv ⟨v, hh⟩
    repeat' ((first | (conv => whnf) | skip); (first | ((with_reducible intro h); first | contradiction | omega | (conv => whnf) | skip) | (with_reducible refine And.intro ?_ ?_) | ((with_reducible show arithK _ _ _); refine arith_ok ⟨by omega, by omega⟩ ?_) | ((with_reducible show quoK _ _ _ _); refine quo_ok ⟨by omega, by omega⟩ (by omega) (by omega) ?_) | ((with_reducible show remK _ _ _ _); refine rem_ok (by omega) (by omega) ?_) | ((first | (with_reducible show CallA _ _ _ _ _ _) | (with_reducible show CallQ _ _ _ _ _ _)); first | (refine Ret.use (hp) (by first | ((repeat' (first | exact rfl | exact trivial | (with_reducible assumption) | refine And.intro ?_ ?_ | omega | assumption)); done) | fail) ?_) | (refine Ret.useQ (hp) (by first | ((repeat' (first | exact rfl | exact trivial | (with_reducible assumption) | refine And.intro ?_ ?_ | omega | assumption)); done) | fail) rfl ?_)) | ((with_reducible show DrawA _ _ _ _ _ _); first | (refine draw_hard hT mixed (by decide +kernel) ?_))))
    all_goals first | rfl | omega | contradiction | trace_state
/-! ### Lists of numerals of at least 0 -/
def rg (n : Int) : Prop := 0 ≤ n ∧ n ≤ 9223372036854775807
def isNums (ws : List (List UInt8)) (xs : List Int) : Prop := (∀ x ∈ xs, rg x) ∧ ws = xs.map itoa
theorem isNums.uniq {ws : List (List UInt8)} {xs ys : List Int} (h : isNums ws xs) (k : isNums ws ys) : xs = ys := map_itoa_inj (h.2.symm.trans k.2)
open Classical in
noncomputable def rdX (ws : List (List UInt8)) : List Int := if h : ∃ xs, isNums ws xs then h.choose else []
open Classical in
noncomputable def rdT (ws : List (List UInt8)) : Bool := if ∃ xs, isNums ws xs then true else false
theorem rd_yes {ws : List (List UInt8)} {xs : List Int} (h : isNums ws xs) : rdX ws = xs ∧ rdT ws = true := by
  have he : ∃ xs, isNums ws xs := ⟨xs, h⟩
  refine ⟨?_, if_pos he⟩
  unfold rdX
  rw [dif_pos he]
  exact he.choose_spec.uniq h
theorem rd_no {ws : List (List UInt8)} (h : ∀ xs, ¬ isNums ws xs) : rdX ws = [] ∧ rdT ws = false := by
  have he : ¬ ∃ xs, isNums ws xs := fun ⟨xs, hx⟩ => h xs hx
  exact ⟨dif_neg he, if_neg he⟩
attribute [local irreducible] rdX rdT
theorem isNums.at {ws : List (List UInt8)} {xs : List Int} (h : isNums ws xs) {i : Nat} (hi : i < ws.length) : ∃ n, rg n ∧ ws.getD i [] = itoa n := by
  have hl : i < xs.length := by have := congrArg List.length h.2; rw [List.length_map] at this; omega
  refine ⟨xs.getD i 0, h.1 _ (getD_mem hl), ?_⟩
  rw [h.2, List.getD_eq_getElem?_getD, List.getElem?_map, List.getD_eq_getElem?_getD, List.getElem?_eq_getElem hl]
  rfl
theorem isNums.next {ws : List (List UInt8)} {xs : List Int} {i : Nat} (h : isNums (ws.take i) xs) (hi : i < ws.length) {n : Int} (hn : rg n) (he : ws.getD i [] = itoa n) : isNums (ws.take (i + 1)) (xs ++ [n]) :=
  ⟨fun x hx => by
    rcases List.mem_append.1 hx with hx | hx
    · exact h.1 x hx
    · obtain rfl := List.mem_singleton.1 hx
      exact hn, by rw [take_snoc [] hi, h.2, he, List.map_append]; rfl⟩
theorem isNums.len {ws : List (List UInt8)} {xs : List Int} (h : isNums ws xs) : xs.length = ws.length := by rw [h.2, List.length_map]
set_option maxHeartbeats 1000000 in
set_option maxRecDepth 100000 in
theorem readJoined_call (l : List UInt8) (hn : l.length ≤ 1048576) (hw : ∀ w ∈ sp 32 l, w.length ≤ 1048576) (hl : (sp 32 l).length ≤ 1048577) : CallA Tryz.prog G2 52 [Sv l] [] (fun v J => v = .tup [.sl 0 1 (rdX (sp 32 l)).length, Bo (rdT (sp 32 l))] ∧ J = [.data (.ints .i64 (rdX (sp 32 l)))]) := by
  refine CallA.ends (callA_of_body hT Tryz.func52 rfl ?_)
  have hsc := (split_call l 32 (by omega)).weak G_G2
  obtain ⟨ws, hwe⟩ : ∃ ws, ws = sp 32 l := ⟨_, rfl⟩
  rw [← hwe] at hsc hw hl ⊢
  have hml : (ws.map B).length = ws.length := List.length_map _
  repeat' ((first | (conv => whnf) | skip); (first | ((with_reducible intro h); first | contradiction | omega | (conv => whnf) | skip) | (with_reducible refine And.intro ?_ ?_) | ((with_reducible show arithK _ _ _); refine arith_ok ⟨by omega, by omega⟩ ?_) | ((with_reducible show quoK _ _ _ _); refine quo_ok ⟨by omega, by omega⟩ (by omega) (by omega) ?_) | ((with_reducible show remK _ _ _ _); refine rem_ok (by omega) (by omega) ?_) | ((first | (with_reducible show CallA _ _ _ _ _ _) | (with_reducible show CallQ _ _ _ _ _ _)); first | (refine CallA.go [] (hsc) rfl (by first | ((repeat' (first | exact rfl | exact trivial | (with_reducible assumption) | refine And.intro ?_ ?_ | omega | assumption)); done) | fail) trivial ?_)) | ((with_reducible show DrawA _ _ _ _ _ _); first | (refine draw_hard hT mixed (by decide +kernel) ?_))))
  all_goals first | rfl | omega | skip
  (conv => whnf)
  refine loop_rule hT (fun q : Nat × List Int => q.1 ≤ ws.length ∧ isNums (ws.take q.1) q.2) 30 2 [0, 4, 11, 12, 13] (fun q => [Sv l, .sl 2 1 q.2.length, .sl 1 1 (ws.map B).length, I (ws.map B).length, I q.1]) (fun q => [.dead, .data (.strs (ws.map B)), .data (.ints .i64 q.2)]) (fun q => ws.length - q.1) ((0, [])) (Nat.le_of_ble_eq_true rfl) ?_ ?_ ?_
  · exact ⟨Nat.zero_le _, fun x hx => (by cases hx), by simp⟩
  · first | (refine ⟨rfl, [some 0], ?_, ?_⟩; all_goals (repeat' (first | exact rfl | exact trivial | (with_reducible assumption) | refine And.intro ?_ ?_)); all_goals (first | omega | assumption); done) | trace_state
  · rintro ⟨i, out⟩ ⟨h1, h2⟩
    dsimp only at h1 h2 ⊢
    have hol : out.length = i := by rw [h2.len, List.length_take]; omega
    by_cases hi : i < ws.length
    · by_cases hg : ∃ n, rg n ∧ ws.getD i [] = itoa n
      · obtain ⟨n, hg1, hg2⟩ := hg
        have hnx := h2.next hi hg1 hg2
        have hs := readDecimal_yes n hg1.1 hg1.2
        rw [← hg2, show Sv (ws.getD i []) = .v (.string ((ws.map B).getD ((i : Int)).toNat ByteArray.empty)) from (congrArg (fun b => AV.v (.string b)) (strs_getD ws i)).symm] at hs
        repeat' ((first | (conv => whnf) | skip); (first | ((with_reducible intro h); first | contradiction | omega | (conv => whnf) | skip) | (with_reducible refine And.intro ?_ ?_) | ((with_reducible show arithK _ _ _); refine arith_ok ⟨by omega, by omega⟩ ?_) | ((with_reducible show quoK _ _ _ _); refine quo_ok ⟨by omega, by omega⟩ (by omega) (by omega) ?_) | ((with_reducible show remK _ _ _ _); refine rem_ok (by omega) (by omega) ?_) | ((first | (with_reducible show CallA _ _ _ _ _ _) | (with_reducible show CallQ _ _ _ _ _ _)); first | (refine Ret.go (hs) rfl rfl ?_) | (refine Ret.goQ (hs) rfl rfl ?_)) | ((with_reducible show DrawA _ _ _ _ _ _); first | (refine draw_hard hT mixed (by decide +kernel) ?_))))
        all_goals first | rfl | omega | (show _ < (ws.map B).length; omega) | (show (_ : Int) < ((ws.map B).length : Int); omega) | (show (_ : Nat) ≤ _; simp; omega) | skip
        all_goals ((conv => whnf); first | (refine ⟨(i + 1, out ++ [n]), ⟨hi, hnx⟩, ?_, by dsimp only; omega⟩; first | (refine ⟨rfl, [some 4], ?_, ?_⟩; all_goals (repeat' (first | exact rfl | exact trivial | (with_reducible assumption) | refine And.intro ?_ ?_)); all_goals (first | omega | assumption | ((repeat' (first | ((try dsimp only); exact rfl) | exact rfl | exact trivial | (with_reducible assumption) | refine And.intro ?_ ?_ | omega | assumption)); done)); done) | (refine ⟨rfl, [some 3], ?_, ?_⟩; all_goals (repeat' (first | exact rfl | exact trivial | (with_reducible assumption) | refine And.intro ?_ ?_)); all_goals (first | omega | assumption | ((repeat' (first | ((try dsimp only); exact rfl) | exact rfl | exact trivial | (with_reducible assumption) | refine And.intro ?_ ?_ | omega | assumption)); done)); done)) | trace_state)
      · have hs := readDecimal_no (ws.getD i []) (hw _ (getD_mem hi)) fun n h0 h9 he => hg ⟨n, ⟨h0, h9⟩, he⟩
        rw [show Sv (ws.getD i []) = .v (.string ((ws.map B).getD ((i : Int)).toNat ByteArray.empty)) from (congrArg (fun b => AV.v (.string b)) (strs_getD ws i)).symm] at hs
        obtain ⟨e1, e2⟩ := rd_no (ws := ws) fun xs hx => hg (hx.at hi)
        rw [e1, e2]
        repeat' ((first | (conv => whnf) | skip); (first | ((with_reducible intro h); first | contradiction | omega | (conv => whnf) | skip) | (with_reducible refine And.intro ?_ ?_) | ((with_reducible show arithK _ _ _); refine arith_ok ⟨by omega, by omega⟩ ?_) | ((with_reducible show quoK _ _ _ _); refine quo_ok ⟨by omega, by omega⟩ (by omega) (by omega) ?_) | ((with_reducible show remK _ _ _ _); refine rem_ok (by omega) (by omega) ?_) | ((first | (with_reducible show CallA _ _ _ _ _ _) | (with_reducible show CallQ _ _ _ _ _ _)); first | (refine Ret.go (hs) rfl rfl ?_) | (refine Ret.goQ (hs) rfl rfl ?_)) | ((with_reducible show DrawA _ _ _ _ _ _); first | (refine draw_hard hT mixed (by decide +kernel) ?_))))
        all_goals first | rfl | omega | (show _ < (ws.map B).length; omega) | (show (_ : Int) < ((ws.map B).length : Int); omega) | skip
        all_goals ((conv => whnf); first | (refine ⟨[none], .tup [.sl 0 1 ([] : List Int).length, Bo false], [.data (.ints .i64 [])], ?_, ?_, ?_⟩; all_goals (repeat' (first | exact rfl | exact trivial | (with_reducible assumption) | refine And.intro ?_ ?_)); all_goals (first | omega | assumption); done) | trace_state)
    · obtain rfl : i = ws.length := by omega
      rw [take_all (Nat.le_refl _)] at h2
      obtain ⟨e1, e2⟩ := rd_yes h2
      rw [e1, e2]
      repeat' ((first | (conv => whnf) | skip); (first | ((with_reducible intro h); first | contradiction | omega | (conv => whnf) | skip) | (with_reducible refine And.intro ?_ ?_) | ((with_reducible show arithK _ _ _); refine arith_ok ⟨by omega, by omega⟩ ?_) | ((with_reducible show quoK _ _ _ _); refine quo_ok ⟨by omega, by omega⟩ (by omega) (by omega) ?_) | ((with_reducible show remK _ _ _ _); refine rem_ok (by omega) (by omega) ?_) | ((first | (with_reducible show CallA _ _ _ _ _ _) | (with_reducible show CallQ _ _ _ _ _ _)); first | fail) | ((with_reducible show DrawA _ _ _ _ _ _); first | (refine draw_hard hT mixed (by decide +kernel) ?_))))
      all_goals first | rfl | omega | skip
      all_goals ((conv => whnf); first | (refine ⟨[some 2], .tup [.sl 0 1 out.length, Bo true], [.data (.ints .i64 out)], ?_, ?_, ?_⟩; all_goals (repeat' (first | exact rfl | exact trivial | (with_reducible assumption) | refine And.intro ?_ ?_)); all_goals (first | omega | assumption); done) | trace_state)
end Go.Proofs.YtgpgnhadmckmhaaGreatDoor
namespace Go.Proofs.YtgpgnhadmckmhaaGreatDoor
open Go.AE Go.Lib

attribute [local irreducible] CallA LoopA DrawA CallQ arithK quoK remK eqK
attribute [local irreducible] RS CS rdX rdT
def rep (p : List UInt8) : List UInt8 := replaceAll p [44] [32]
theorem rep_len (p : List UInt8) : (rep p).length = p.length := by
  unfold rep
  rw [replaceAll_map (by decide), List.length_map]
theorem Acc.repd {s : List UInt8} {x : List (List Int)} (h : Acc s x) : (Go.AE.sp 59 s).map rep = x.map jb := by
  rw [h.sp, List.map_map]
  exact List.map_congr_left fun r _ => blank_rt r
theorem rep_nacc {s : List UInt8} {out : List (List Int)} (h : Rd jb ((sp 59 s).map rep) ((sp 59 s).map rep).length out) (ha : ¬ (areRl out ∧ stx out = s)) (x : List (List Int)) : ¬ Acc s x := fun hx => by
  have e : x = out := maps_inj jb_inj hx.1 h.row (by rw [← hx.repd, ← h.all])
  exact ha (e ▸ ⟨hx.2.1, hx.2.2.symm⟩)
theorem map_rep_getD {ps : List (List UInt8)} {i : Nat} (hi : i < ps.length) : (ps.map rep).getD i [] = rep (ps.getD i []) := by
  rw [List.getD_eq_getElem?_getD, List.getElem?_map, List.getD_eq_getElem?_getD, List.getElem?_eq_getElem hi]
  rfl
/-- A part that the program cannot read. -/
theorem nacc_impl {s : List UInt8} {i : Nat} (hi : i < (sp 59 s).length) (h : ∀ xs, isNums (sp 32 (rep ((sp 59 s).getD i []))) xs → xs.length = 6 → 20 ≤ i) (x : List (List Int)) : ¬ Acc s x := fun hx => by
  obtain ⟨r, hr, he, hl⟩ := hx.part hi
  have h1 := h r ⟨fun y hy => by
    have := rowL_in (hx.1 r hr) (hx.2.1.1 r hr) y hy
    unfold rg
    omega, by
    rw [he, show rep (rt r) = jb r from blank_rt r]
    exact sp_ints (c := 32) (by decide) (by decide) (len_ne (hx.1 r hr))⟩ (hx.1 r hr)
  have := hx.2.1.2.2
  omega
theorem part_jb {p : List UInt8} {xs : List Int} (h : isNums (sp 32 p) xs) : p = jb xs := by
  rw [← join_sp 32 p, h.2]; rfl
attribute [local irreducible] rep
set_option maxHeartbeats 2000000 in
set_option maxRecDepth 100000 in
theorem implRS_call (s : List UInt8) (hn : s.length ≤ 1048576) : CallA Tryz.prog G2 15 [Sv s] [] (fun v J => v = .tup [.sl 0 6 (RS s).length, I (CS s)] ∧ J = [DRule (RS s)]) := by
  refine CallA.ends (callA_of_body hT Tryz.func15 rfl ?_)
  have hps := sp_short (c := 59) hn
  have hpl := sp_many (c := 59) (l := s)
  obtain ⟨ps, hpe⟩ : ∃ ps, ps = sp 59 s := ⟨_, rfl⟩
  have hsc := (split_call s 59 (by omega)).weak G_G2
  rw [← hpe] at hsc hps hpl
  have hml : (ps.map B).length = ps.length := List.length_map _
  have hml2 : (ps.map rep).length = ps.length := List.length_map _
  repeat' ((first | (conv => whnf) | skip); (first | ((with_reducible intro h); first | contradiction | omega | (conv => whnf) | skip) | (with_reducible refine And.intro ?_ ?_) | ((with_reducible show arithK _ _ _); refine arith_ok ⟨by omega, by omega⟩ ?_) | ((with_reducible show quoK _ _ _ _); refine quo_ok ⟨by omega, by omega⟩ (by omega) (by omega) ?_) | ((with_reducible show remK _ _ _ _); refine rem_ok (by omega) (by omega) ?_) | ((first | (with_reducible show CallA _ _ _ _ _ _) | (with_reducible show CallQ _ _ _ _ _ _)); first | (refine CallA.go [] (hsc) rfl (by first | ((repeat' (first | exact rfl | exact trivial | (with_reducible assumption) | refine And.intro ?_ ?_ | omega | assumption)); done) | fail) trivial ?_)) | ((with_reducible show DrawA _ _ _ _ _ _); first | (refine draw_hard hT mixed (by decide +kernel) ?_))))
  all_goals first | rfl | omega | skip
  (conv => whnf)
  refine loop_rule hT (fun q : Nat × List (List Int) => Rd jb (ps.map rep) q.1 q.2 ∧ q.2.length ≤ 20) 68 2 [0, 4, 11, 12, 13] (fun q => [Sv s, .sl 2 6 q.2.length, .sl 1 1 (ps.map B).length, I (ps.map B).length, I q.1]) (fun q => [.dead, .data (.strs (ps.map B)), DRule q.2]) (fun q => ps.length - q.1) ((0, [])) (Nat.le_of_ble_eq_true rfl) ?_ ?_ ?_
  · exact ⟨Rd.start jb _, Nat.zero_le _⟩
  · first | (refine ⟨rfl, [some 0], ?_, ?_⟩; all_goals (repeat' (first | exact rfl | exact trivial | (with_reducible assumption) | refine And.intro ?_ ?_)); all_goals (first | omega | assumption); done) | trace_state
  · rintro ⟨i, out⟩ ⟨hR, h20⟩
    dsimp only at hR h20 ⊢
    have hle := hR.le
    have hol := hR.len
    by_cases hi : i < ps.length
    · have hpi : (ps.getD i []).length ≤ 1048576 := hps _ (getD_mem hi)
      have hs2 := (replaceAll_ret (ps.getD i []) 44 32 (by omega)).weak G_G2
      rw [show Sv (ps.getD i []) = .v (.string ((ps.map B).getD ((i : Int)).toNat ByteArray.empty)) from (congrArg (fun b => AV.v (.string b)) (strs_getD ps i)).symm] at hs2
      have hs3 : Ret Tryz.prog G2 53 [.v (.string ((ps.map B).getD ((i : Int)).toNat ByteArray.empty)), Sv [44], Sv [32]] (Sv (rep (ps.getD i []))) := by unfold rep; exact hs2
      have hrl := rep_len (ps.getD i [])
      have hwl := sp_many (c := 32) (l := rep (ps.getD i []))
      have hnc := readJoined_call (rep (ps.getD i [])) (by omega) (sp_short (by omega)) (by omega)
      by_cases hg : ∃ xs, isNums (sp 32 (rep (ps.getD i []))) xs
      · obtain ⟨xs, hx⟩ := hg
        obtain ⟨e1, e2⟩ := rd_yes hx
        rw [e1, e2] at hnc
        by_cases hg2 : xs.length = 6 ∧ out.length ≠ 20
        · obtain ⟨hg2, hg3⟩ := hg2
          have hnx := hR.next (by omega) hg2 ((map_rep_getD hi).trans (part_jb hx))
          have he := etaRule hg2
          repeat' ((first | (conv => whnf) | skip); (first | ((with_reducible intro h); first | contradiction | omega | (conv => whnf) | skip) | (with_reducible refine And.intro ?_ ?_) | ((with_reducible show arithK _ _ _); refine arith_ok ⟨by omega, by omega⟩ ?_) | ((with_reducible show quoK _ _ _ _); refine quo_ok ⟨by omega, by omega⟩ (by omega) (by omega) ?_) | ((with_reducible show remK _ _ _ _); refine rem_ok (by omega) (by omega) ?_) | ((first | (with_reducible show CallA _ _ _ _ _ _) | (with_reducible show CallQ _ _ _ _ _ _)); first | (refine Ret.go (hs3) rfl rfl ?_) | (refine Ret.goQ (hs3) rfl rfl ?_) | (refine CallA.go [] (hnc) rfl (by first | ((repeat' (first | exact rfl | exact trivial | (with_reducible assumption) | refine And.intro ?_ ?_ | omega | assumption)); done) | fail) trivial ?_)) | ((with_reducible show DrawA _ _ _ _ _ _); first | (refine draw_hard hT mixed (by decide +kernel) ?_))))
          all_goals first | rfl | omega | (show _ < (ps.map B).length; omega) | (show (_ : Int) < ((ps.map B).length : Int); omega) | (show (_ : Nat) ≤ _; simp; omega) | skip
          all_goals ((conv => whnf); first | (refine ⟨(i + 1, out ++ [xs]), ⟨hnx, by rw [List.length_append]; show out.length + 1 ≤ 20; omega⟩, ?_, by dsimp only; omega⟩; first | (refine ⟨rfl, [some 5], ?_, ?_⟩; all_goals (repeat' (first | exact rfl | exact trivial | (with_reducible assumption) | refine And.intro ?_ ?_)); all_goals (first | omega | assumption | ((repeat' (first | ((try dsimp only); rw [← he]; exact rfl) | exact rfl | exact trivial | (with_reducible assumption) | refine And.intro ?_ ?_ | omega | assumption)); done)); done) | (refine ⟨rfl, [some 6], ?_, ?_⟩; all_goals (repeat' (first | exact rfl | exact trivial | (with_reducible assumption) | refine And.intro ?_ ?_)); all_goals (first | omega | assumption | ((repeat' (first | ((try dsimp only); rw [← he]; exact rfl) | exact rfl | exact trivial | (with_reducible assumption) | refine And.intro ?_ ?_ | omega | assumption)); done)); done)) | trace_state)
        · have hno : ∀ x, ¬ Acc s x := fun x => nacc_impl (s := s) (i := i) (by rw [← hpe]; exact hi) (fun ys hy h6 => by
            rw [← hpe] at hy
            obtain rfl := hx.uniq hy
            by_cases h9 : out.length = 20
            · omega
            · exact absurd ⟨h6, h9⟩ hg2) x
          obtain ⟨k1, k2⟩ := RS_no hno
          rw [k1, k2]
          by_cases hg3 : xs.length = 6
          · have hg4 : out.length = 20 := by
              by_cases h9 : out.length = 20
              · exact h9
              · exact absurd ⟨hg3, h9⟩ hg2
            repeat' ((first | (conv => whnf) | skip); (first | ((with_reducible intro h); first | contradiction | omega | (conv => whnf) | skip) | (with_reducible refine And.intro ?_ ?_) | ((with_reducible show arithK _ _ _); refine arith_ok ⟨by omega, by omega⟩ ?_) | ((with_reducible show quoK _ _ _ _); refine quo_ok ⟨by omega, by omega⟩ (by omega) (by omega) ?_) | ((with_reducible show remK _ _ _ _); refine rem_ok (by omega) (by omega) ?_) | ((first | (with_reducible show CallA _ _ _ _ _ _) | (with_reducible show CallQ _ _ _ _ _ _)); first | (refine Ret.go (hs3) rfl rfl ?_) | (refine Ret.goQ (hs3) rfl rfl ?_) | (refine CallA.go [] (hnc) rfl (by first | ((repeat' (first | exact rfl | exact trivial | (with_reducible assumption) | refine And.intro ?_ ?_ | omega | assumption)); done) | fail) trivial ?_)) | ((with_reducible show DrawA _ _ _ _ _ _); first | (refine draw_hard hT mixed (by decide +kernel) ?_))))
            all_goals first | rfl | omega | (show _ < (ps.map B).length; omega) | (show (_ : Int) < ((ps.map B).length : Int); omega) | skip
            all_goals ((conv => whnf); first | (refine ⟨[none], .tup [.sl 0 6 ([] : List (List Int)).length, I 6], [DRule []], ?_, ?_, ?_⟩; all_goals (repeat' (first | exact rfl | exact trivial | (with_reducible assumption) | refine And.intro ?_ ?_)); all_goals (first | omega | assumption); done) | trace_state)
          · repeat' ((first | (conv => whnf) | skip); (first | ((with_reducible intro h); first | contradiction | omega | (conv => whnf) | skip) | (with_reducible refine And.intro ?_ ?_) | ((with_reducible show arithK _ _ _); refine arith_ok ⟨by omega, by omega⟩ ?_) | ((with_reducible show quoK _ _ _ _); refine quo_ok ⟨by omega, by omega⟩ (by omega) (by omega) ?_) | ((with_reducible show remK _ _ _ _); refine rem_ok (by omega) (by omega) ?_) | ((first | (with_reducible show CallA _ _ _ _ _ _) | (with_reducible show CallQ _ _ _ _ _ _)); first | (refine Ret.go (hs3) rfl rfl ?_) | (refine Ret.goQ (hs3) rfl rfl ?_) | (refine CallA.go [] (hnc) rfl (by first | ((repeat' (first | exact rfl | exact trivial | (with_reducible assumption) | refine And.intro ?_ ?_ | omega | assumption)); done) | fail) trivial ?_)) | ((with_reducible show DrawA _ _ _ _ _ _); first | (refine draw_hard hT mixed (by decide +kernel) ?_))))
            all_goals first | rfl | omega | (show _ < (ps.map B).length; omega) | (show (_ : Int) < ((ps.map B).length : Int); omega) | skip
            all_goals ((conv => whnf); first | (refine ⟨[none], .tup [.sl 0 6 ([] : List (List Int)).length, I 6], [DRule []], ?_, ?_, ?_⟩; all_goals (repeat' (first | exact rfl | exact trivial | (with_reducible assumption) | refine And.intro ?_ ?_)); all_goals (first | omega | assumption); done) | trace_state)
      · have hno : ∀ x, ¬ Acc s x := fun x => nacc_impl (s := s) (i := i) (by rw [← hpe]; exact hi) (fun ys hy _ => by
          rw [← hpe] at hy
          exact absurd ⟨ys, hy⟩ hg) x
        obtain ⟨k1, k2⟩ := RS_no hno
        rw [k1, k2]
        obtain ⟨e1, e2⟩ := rd_no fun xs hx => hg ⟨xs, hx⟩
        rw [e1, e2] at hnc
        repeat' ((first | (conv => whnf) | skip); (first | ((with_reducible intro h); first | contradiction | omega | (conv => whnf) | skip) | (with_reducible refine And.intro ?_ ?_) | ((with_reducible show arithK _ _ _); refine arith_ok ⟨by omega, by omega⟩ ?_) | ((with_reducible show quoK _ _ _ _); refine quo_ok ⟨by omega, by omega⟩ (by omega) (by omega) ?_) | ((with_reducible show remK _ _ _ _); refine rem_ok (by omega) (by omega) ?_) | ((first | (with_reducible show CallA _ _ _ _ _ _) | (with_reducible show CallQ _ _ _ _ _ _)); first | (refine Ret.go (hs3) rfl rfl ?_) | (refine Ret.goQ (hs3) rfl rfl ?_) | (refine CallA.go [] (hnc) rfl (by first | ((repeat' (first | exact rfl | exact trivial | (with_reducible assumption) | refine And.intro ?_ ?_ | omega | assumption)); done) | fail) trivial ?_)) | ((with_reducible show DrawA _ _ _ _ _ _); first | (refine draw_hard hT mixed (by decide +kernel) ?_))))
        all_goals first | rfl | omega | (show _ < (ps.map B).length; omega) | (show (_ : Int) < ((ps.map B).length : Int); omega) | skip
        all_goals ((conv => whnf); first | (refine ⟨[none], .tup [.sl 0 6 ([] : List (List Int)).length, I 6], [DRule []], ?_, ?_, ?_⟩; all_goals (repeat' (first | exact rfl | exact trivial | (with_reducible assumption) | refine And.intro ?_ ?_)); all_goals (first | omega | assumption); done) | trace_state)
    · obtain rfl : i = ps.length := by omega
      have har := (implAre_ret out (by omega)).weak G_G2
      rw [← hml2] at hR
      subst hpe
      by_cases ha : areRl out
      · rw [decide_eq_true ha] at har
        have htx := (implText_ret out hR.row ha).weak G_G2
        by_cases hst : stx out = s
        · obtain ⟨e1, e2⟩ := RS_yes (show Acc s out from ⟨hR.row, ha, hst.symm⟩)
          rw [e1, e2]
          rw [hst] at htx
          repeat' ((first | (conv => whnf) | skip); (first | ((with_reducible intro h); first | contradiction | omega | (conv => whnf) | skip) | (with_reducible refine And.intro ?_ ?_) | ((with_reducible show arithK _ _ _); refine arith_ok ⟨by omega, by omega⟩ ?_) | ((with_reducible show quoK _ _ _ _); refine quo_ok ⟨by omega, by omega⟩ (by omega) (by omega) ?_) | ((with_reducible show remK _ _ _ _); refine rem_ok (by omega) (by omega) ?_) | ((first | (with_reducible show CallA _ _ _ _ _ _) | (with_reducible show CallQ _ _ _ _ _ _)); first | (refine Ret.use (har) (by first | ((repeat' (first | exact rfl | exact trivial | (with_reducible assumption) | refine And.intro ?_ ?_ | omega | assumption)); done) | fail) ?_) | (refine Ret.useQ (har) (by first | ((repeat' (first | exact rfl | exact trivial | (with_reducible assumption) | refine And.intro ?_ ?_ | omega | assumption)); done) | fail) rfl ?_) | (refine Ret.use (htx) (by first | ((repeat' (first | exact rfl | exact trivial | (with_reducible assumption) | refine And.intro ?_ ?_ | omega | assumption)); done) | fail) ?_) | (refine Ret.useQ (htx) (by first | ((repeat' (first | exact rfl | exact trivial | (with_reducible assumption) | refine And.intro ?_ ?_ | omega | assumption)); done) | fail) rfl ?_)) | ((with_reducible show DrawA _ _ _ _ _ _); first | (refine draw_hard hT mixed (by decide +kernel) ?_))))
          all_goals first | rfl | omega | contradiction | skip
          all_goals ((conv => whnf); first | (refine ⟨[some 2], .tup [.sl 0 6 out.length, I 0], [DRule out], ?_, ?_, ?_⟩; all_goals (repeat' (first | exact rfl | exact trivial | (with_reducible assumption) | refine And.intro ?_ ?_)); all_goals (first | omega | assumption); done) | trace_state)
        · obtain ⟨e1, e2⟩ := RS_no (rep_nacc hR fun hh => hst hh.2)
          rw [e1, e2]
          have hne : B (stx out) ≠ B s := fun e => hst (B_inj.1 e)
          repeat' ((first | (conv => whnf) | skip); (first | ((with_reducible intro h); first | contradiction | omega | (conv => whnf) | skip) | (with_reducible refine And.intro ?_ ?_) | ((with_reducible show arithK _ _ _); refine arith_ok ⟨by omega, by omega⟩ ?_) | ((with_reducible show quoK _ _ _ _); refine quo_ok ⟨by omega, by omega⟩ (by omega) (by omega) ?_) | ((with_reducible show remK _ _ _ _); refine rem_ok (by omega) (by omega) ?_) | ((first | (with_reducible show CallA _ _ _ _ _ _) | (with_reducible show CallQ _ _ _ _ _ _)); first | (refine Ret.use (har) (by first | ((repeat' (first | exact rfl | exact trivial | (with_reducible assumption) | refine And.intro ?_ ?_ | omega | assumption)); done) | fail) ?_) | (refine Ret.useQ (har) (by first | ((repeat' (first | exact rfl | exact trivial | (with_reducible assumption) | refine And.intro ?_ ?_ | omega | assumption)); done) | fail) rfl ?_) | (refine Ret.use (htx) (by first | ((repeat' (first | exact rfl | exact trivial | (with_reducible assumption) | refine And.intro ?_ ?_ | omega | assumption)); done) | fail) ?_) | (refine Ret.useQ (htx) (by first | ((repeat' (first | exact rfl | exact trivial | (with_reducible assumption) | refine And.intro ?_ ?_ | omega | assumption)); done) | fail) rfl ?_)) | ((with_reducible show DrawA _ _ _ _ _ _); first | (refine draw_hard hT mixed (by decide +kernel) ?_))))
          all_goals first | rfl | omega | contradiction | skip
          all_goals ((conv => whnf); first | (refine ⟨[none], .tup [.sl 0 6 ([] : List (List Int)).length, I 6], [DRule []], ?_, ?_, ?_⟩; all_goals (repeat' (first | exact rfl | exact trivial | (with_reducible assumption) | refine And.intro ?_ ?_)); all_goals (first | omega | assumption); done) | trace_state)
      · obtain ⟨e1, e2⟩ := RS_no (rep_nacc hR fun hh => ha hh.1)
        rw [e1, e2]
        rw [decide_eq_false ha] at har
        repeat' ((first | (conv => whnf) | skip); (first | ((with_reducible intro h); first | contradiction | omega | (conv => whnf) | skip) | (with_reducible refine And.intro ?_ ?_) | ((with_reducible show arithK _ _ _); refine arith_ok ⟨by omega, by omega⟩ ?_) | ((with_reducible show quoK _ _ _ _); refine quo_ok ⟨by omega, by omega⟩ (by omega) (by omega) ?_) | ((with_reducible show remK _ _ _ _); refine rem_ok (by omega) (by omega) ?_) | ((first | (with_reducible show CallA _ _ _ _ _ _) | (with_reducible show CallQ _ _ _ _ _ _)); first | (refine Ret.use (har) (by first | ((repeat' (first | exact rfl | exact trivial | (with_reducible assumption) | refine And.intro ?_ ?_ | omega | assumption)); done) | fail) ?_) | (refine Ret.useQ (har) (by first | ((repeat' (first | exact rfl | exact trivial | (with_reducible assumption) | refine And.intro ?_ ?_ | omega | assumption)); done) | fail) rfl ?_)) | ((with_reducible show DrawA _ _ _ _ _ _); first | (refine draw_hard hT mixed (by decide +kernel) ?_))))
        all_goals first | rfl | omega | skip
        all_goals ((conv => whnf); first | (refine ⟨[none], .tup [.sl 0 6 ([] : List (List Int)).length, I 6], [DRule []], ?_, ?_, ?_⟩; all_goals (repeat' (first | exact rfl | exact trivial | (with_reducible assumption) | refine And.intro ?_ ?_)); all_goals (first | omega | assumption); done) | trace_state)
end Go.Proofs.YtgpgnhadmckmhaaGreatDoor
