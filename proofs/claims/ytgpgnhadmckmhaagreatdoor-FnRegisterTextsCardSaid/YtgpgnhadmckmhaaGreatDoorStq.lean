/-
  Numerals and statutes read by the program: what the functions return. No conditions but those in the statements.
-/
import Derived.Test.YtgpgnhadmckmhaaGreatDoorLib
import Derived.Test.YtgpgnhadmckmhaaGreatDoorAcc
import Derived.Lib.ParseIntBTie
set_option linter.unusedVariables false
set_option linter.unusedSimpArgs false
namespace Go.Proofs.YtgpgnhadmckmhaaGreatDoor
open Go.AE Go.Lib

attribute [local irreducible] CallA LoopA DrawA CallQ arithK quoK remK eqK
theorem i64_of_parse {l : List UInt8} {v : Int} (h : parseIntB 64 l = .ok v) : -9223372036854775808 ≤ v ∧ v ≤ 9223372036854775807 := by
  have h1 := parseIntB_bounds h
  have e : ((2 ^ (64 - 1) : Nat) : Int) = 9223372036854775808 := rfl
  omega
set_option maxRecDepth 100000 in
theorem readDecimal_yes (n : Int) (h0 : 0 ≤ n) (h1 : n ≤ 9223372036854775807) : Ret Tryz.prog G2 83 [Sv (itoa n)] (.tup [I n, Bo true]) := by
  refine ret_of_body hT Tryz.func83 rfl ?_ rfl
  have hp := parse_ok (itoa n) (by have := itoa_length_le n (by omega) (by omega); omega) n (parse_itoa (by omega) h1)
  have hd := (decimal_ret n (by omega)).weak G_G2
  repeat' ((first | (conv => whnf) | skip); (first | ((with_reducible intro h); first | contradiction | omega | (conv => whnf) | skip) | (with_reducible refine And.intro ?_ ?_) | ((with_reducible show arithK _ _ _); refine arith_ok ⟨by omega, by omega⟩ ?_) | ((with_reducible show quoK _ _ _ _); refine quo_ok ⟨by omega, by omega⟩ (by omega) (by omega) ?_) | ((with_reducible show remK _ _ _ _); refine rem_ok (by omega) (by omega) ?_) | ((first | (with_reducible show CallA _ _ _ _ _ _) | (with_reducible show CallQ _ _ _ _ _ _)); first | (refine Ret.go (hp) rfl rfl ?_) | (refine Ret.goQ (hp) rfl rfl ?_) | (refine Ret.go (hd) rfl rfl ?_) | (refine Ret.goQ (hd) rfl rfl ?_)) | ((with_reducible show DrawA _ _ _ _ _ _); first | (refine draw_hard hT mixed (by decide +kernel) ?_))))
  all_goals first | rfl | omega | contradiction | trace_state
set_option maxRecDepth 100000 in
theorem readDecimal_no (l : List UInt8) (hl : l.length ≤ 1048576) (h : ∀ n : Int, 0 ≤ n → n ≤ 9223372036854775807 → l ≠ itoa n) : Ret Tryz.prog G2 83 [Sv l] (.tup [I 0, Bo false]) := by
  refine ret_of_body hT Tryz.func83 rfl ?_ rfl
  by_cases hv : ∃ v, parseIntB 64 l = .ok v
  · obtain ⟨v, hv⟩ := hv
    have hp := parse_ok l (by omega) v hv
    have hr := i64_of_parse hv
    have hd := (decimal_ret v hr).weak G_G2
    have hne : 0 ≤ v → B (itoa v) ≠ B l := fun h0 e => h v h0 hr.2 (B_inj.1 e).symm
    by_cases h0 : v < 0
    · repeat' ((first | (conv => whnf) | skip); (first | ((with_reducible intro h); first | contradiction | omega | (conv => whnf) | skip) | (with_reducible refine And.intro ?_ ?_) | ((with_reducible show arithK _ _ _); refine arith_ok ⟨by omega, by omega⟩ ?_) | ((with_reducible show quoK _ _ _ _); refine quo_ok ⟨by omega, by omega⟩ (by omega) (by omega) ?_) | ((with_reducible show remK _ _ _ _); refine rem_ok (by omega) (by omega) ?_) | ((first | (with_reducible show CallA _ _ _ _ _ _) | (with_reducible show CallQ _ _ _ _ _ _)); first | (refine Ret.go (hp) rfl rfl ?_) | (refine Ret.goQ (hp) rfl rfl ?_) | (refine Ret.go (hd) rfl rfl ?_) | (refine Ret.goQ (hd) rfl rfl ?_)) | ((with_reducible show DrawA _ _ _ _ _ _); first | (refine draw_hard hT mixed (by decide +kernel) ?_))))
      all_goals first | rfl | omega | contradiction | trace_state
    · have hne := hne (by omega)
      repeat' ((first | (conv => whnf) | skip); (first | ((with_reducible intro h); first | contradiction | omega | (conv => whnf) | skip) | (with_reducible refine And.intro ?_ ?_) | ((with_reducible show arithK _ _ _); refine arith_ok ⟨by omega, by omega⟩ ?_) | ((with_reducible show quoK _ _ _ _); refine quo_ok ⟨by omega, by omega⟩ (by omega) (by omega) ?_) | ((with_reducible show remK _ _ _ _); refine rem_ok (by omega) (by omega) ?_) | ((first | (with_reducible show CallA _ _ _ _ _ _) | (with_reducible show CallQ _ _ _ _ _ _)); first | (refine Ret.go (hp) rfl rfl ?_) | (refine Ret.goQ (hp) rfl rfl ?_) | (refine Ret.go (hd) rfl rfl ?_) | (refine Ret.goQ (hd) rfl rfl ?_)) | ((with_reducible show DrawA _ _ _ _ _ _); first | (refine draw_hard hT mixed (by decide +kernel) ?_))))
      all_goals first | rfl | omega | contradiction | trace_state
  · have hp := parse_bad l (by omega) fun v hh => hv ⟨v, hh⟩
    repeat' ((first | (conv => whnf) | skip); (first | ((with_reducible intro h); first | contradiction | omega | (conv => whnf) | skip) | (with_reducible refine And.intro ?_ ?_) | ((with_reducible show arithK _ _ _); refine arith_ok ⟨by omega, by omega⟩ ?_) | ((with_reducible show quoK _ _ _ _); refine quo_ok ⟨by omega, by omega⟩ (by omega) (by omega) ?_) | ((with_reducible show remK _ _ _ _); refine rem_ok (by omega) (by omega) ?_) | ((first | (with_reducible show CallA _ _ _ _ _ _) | (with_reducible show CallQ _ _ _ _ _ _)); first | (refine Ret.use (hp) (by first | ((repeat' (first | exact rfl | exact trivial | (with_reducible assumption) | refine And.intro ?_ ?_ | omega | assumption)); done) | fail) ?_) | (refine Ret.useQ (hp) (by first | ((repeat' (first | exact rfl | exact trivial | (with_reducible assumption) | refine And.intro ?_ ?_ | omega | assumption)); done) | fail) rfl ?_)) | ((with_reducible show DrawA _ _ _ _ _ _); first | (refine draw_hard hT mixed (by decide +kernel) ?_))))
    all_goals first | rfl | omega | contradiction | trace_state
/-! ### Lists of numerals of at least 0 -/
def rg (n : Int) : Prop := 0 ≤ n ∧ n ≤ 9223372036854775807
def isNums (ws : List (List UInt8)) (xs : List Int) : Prop := (∀ x ∈ xs, rg x) ∧ ws = xs.map itoa
theorem isNums.uniq {ws : List (List UInt8)} {xs ys : List Int} (h : isNums ws xs) (k : isNums ws ys) : xs = ys := map_itoa_inj (h.2.symm.trans k.2)
open Classical in
noncomputable def rdX (ws : List (List UInt8)) : List Int := if h : ∃ xs, isNums ws xs then h.choose else []
open Classical in
noncomputable def rdT (ws : List (List UInt8)) : Bool := if ∃ xs, isNums ws xs then true else false
theorem rd_yes {ws : List (List UInt8)} {xs : List Int} (h : isNums ws xs) : rdX ws = xs ∧ rdT ws = true := by
  have he : ∃ xs, isNums ws xs := ⟨xs, h⟩
  refine ⟨?_, if_pos he⟩
  unfold rdX
  rw [dif_pos he]
  exact he.choose_spec.uniq h
theorem rd_no {ws : List (List UInt8)} (h : ∀ xs, ¬ isNums ws xs) : rdX ws = [] ∧ rdT ws = false := by
  have he : ¬ ∃ xs, isNums ws xs := fun ⟨xs, hx⟩ => h xs hx
  exact ⟨dif_neg he, if_neg he⟩
attribute [local irreducible] rdX rdT
theorem isNums.at {ws : List (List UInt8)} {xs : List Int} (h : isNums ws xs) {i : Nat} (hi : i < ws.length) : ∃ n, rg n ∧ ws.getD i [] = itoa n := by
  have hl : i < xs.length := by have := congrArg List.length h.2; rw [List.length_map] at this; omega
  refine ⟨xs.getD i 0, h.1 _ (getD_mem hl), ?_⟩
  rw [h.2, List.getD_eq_getElem?_getD, List.getElem?_map, List.getD_eq_getElem?_getD, List.getElem?_eq_getElem hl]
  rfl
theorem isNums.next {ws : List (List UInt8)} {xs : List Int} {i : Nat} (h : isNums (ws.take i) xs) (hi : i < ws.length) {n : Int} (hn : rg n) (he : ws.getD i [] = itoa n) : isNums (ws.take (i + 1)) (xs ++ [n]) :=
  ⟨fun x hx => by
    rcases List.mem_append.1 hx with hx | hx
    · exact h.1 x hx
    · obtain rfl := List.mem_singleton.1 hx
      exact hn, by rw [take_snoc [] hi, h.2, he, List.map_append]; rfl⟩
theorem isNums.len {ws : List (List UInt8)} {xs : List Int} (h : isNums ws xs) : xs.length = ws.length := by rw [h.2, List.length_map]
set_option maxHeartbeats 1000000 in
set_option maxRecDepth 100000 in
theorem readJoined_call (l : List UInt8) (hn : l.length ≤ 1048576) (hw : ∀ w ∈ sp 32 l, w.length ≤ 1048576) (hl : (sp 32 l).length ≤ 1048577) : CallA Tryz.prog G2 52 [Sv l] [] (fun v J => v = .tup [.sl 0 1 (rdX (sp 32 l)).length, Bo (rdT (sp 32 l))] ∧ J = [.data (.ints .i64 (rdX (sp 32 l)))]) := by
  refine CallA.ends (callA_of_body hT Tryz.func52 rfl ?_)
  have hsc := (split_call l 32 (by omega)).weak G_G2
  obtain ⟨ws, hwe⟩ : ∃ ws, ws = sp 32 l := ⟨_, rfl⟩
  rw [← hwe] at hsc hw hl ⊢
  have hml : (ws.map B).length = ws.length := List.length_map _
  repeat' ((first | (conv => whnf) | skip); (first | ((with_reducible intro h); first | contradiction | omega | (conv => whnf) | skip) | (with_reducible refine And.intro ?_ ?_) | ((with_reducible show arithK _ _ _); refine arith_ok ⟨by omega, by omega⟩ ?_) | ((with_reducible show quoK _ _ _ _); refine quo_ok ⟨by omega, by omega⟩ (by omega) (by omega) ?_) | ((with_reducible show remK _ _ _ _); refine rem_ok (by omega) (by omega) ?_) | ((first | (with_reducible show CallA _ _ _ _ _ _) | (with_reducible show CallQ _ _ _ _ _ _)); first | (refine CallA.go [] (hsc) rfl (by first | ((repeat' (first | exact rfl | exact trivial | (with_reducible assumption) | refine And.intro ?_ ?_ | omega | assumption)); done) | fail) trivial ?_)) | ((with_reducible show DrawA _ _ _ _ _ _); first | (refine draw_hard hT mixed (by decide +kernel) ?_))))
  all_goals first | rfl | omega | skip
  (conv => whnf)
  refine loop_rule hT (fun q : Nat × List Int => q.1 ≤ ws.length ∧ isNums (ws.take q.1) q.2) 30 2 [0, 4, 11, 12, 13] (fun q => [Sv l, .sl 2 1 q.2.length, .sl 1 1 (ws.map B).length, I (ws.map B).length, I q.1]) (fun q => [.dead, .data (.strs (ws.map B)), .data (.ints .i64 q.2)]) (fun q => ws.length - q.1) ((0, [])) (Nat.le_of_ble_eq_true rfl) ?_ ?_ ?_
  · exact ⟨Nat.zero_le _, fun x hx => (by cases hx), by simp⟩
  · first | (refine ⟨rfl, [some 0], ?_, ?_⟩; all_goals (repeat' (first | exact rfl | exact trivial | (with_reducible assumption) | refine And.intro ?_ ?_)); all_goals (first | omega | assumption); done) | trace_state
  · rintro ⟨i, out⟩ ⟨h1, h2⟩
    dsimp only at h1 h2 ⊢
    have hol : out.length = i := by rw [h2.len, List.length_take]; omega
    by_cases hi : i < ws.length
    · by_cases hg : ∃ n, rg n ∧ ws.getD i [] = itoa n
      · obtain ⟨n, hg1, hg2⟩ := hg
        have hnx := h2.next hi hg1 hg2
        have hs := readDecimal_yes n hg1.1 hg1.2
        rw [← hg2, show Sv (ws.getD i []) = .v (.string ((ws.map B).getD ((i : Int)).toNat ByteArray.empty)) from (congrArg (fun b => AV.v (.string b)) (strs_getD ws i)).symm] at hs
        repeat' ((first | (conv => whnf) | skip); (first | ((with_reducible intro h); first | contradiction | omega | (conv => whnf) | skip) | (with_reducible refine And.intro ?_ ?_) | ((with_reducible show arithK _ _ _); refine arith_ok ⟨by omega, by omega⟩ ?_) | ((with_reducible show quoK _ _ _ _); refine quo_ok ⟨by omega, by omega⟩ (by omega) (by omega) ?_) | ((with_reducible show remK _ _ _ _); refine rem_ok (by omega) (by omega) ?_) | ((first | (with_reducible show CallA _ _ _ _ _ _) | (with_reducible show CallQ _ _ _ _ _ _)); first | (refine Ret.go (hs) rfl rfl ?_) | (refine Ret.goQ (hs) rfl rfl ?_)) | ((with_reducible show DrawA _ _ _ _ _ _); first | (refine draw_hard hT mixed (by decide +kernel) ?_))))
        all_goals first | rfl | omega | (show _ < (ws.map B).length; omega) | (show (_ : Int) < ((ws.map B).length : Int); omega) | (show (_ : Nat) ≤ _; simp; omega) | skip
        all_goals ((conv => whnf); first | (refine ⟨(i + 1, out ++ [n]), ⟨hi, hnx⟩, ?_, by dsimp only; omega⟩; first | (refine ⟨rfl, [some 4], ?_, ?_⟩; all_goals (repeat' (first | exact rfl | exact trivial | (with_reducible assumption) | refine And.intro ?_ ?_)); all_goals (first | omega | assumption | ((repeat' (first | ((try dsimp only); exact rfl) | exact rfl | exact trivial | (with_reducible assumption) | refine And.intro ?_ ?_ | omega | assumption)); done)); done) | (refine ⟨rfl, [some 3], ?_, ?_⟩; all_goals (repeat' (first | exact rfl | exact trivial | (with_reducible assumption) | refine And.intro ?_ ?_)); all_goals (first | omega | assumption | ((repeat' (first | ((try dsimp only); exact rfl) | exact rfl | exact trivial | (with_reducible assumption) | refine And.intro ?_ ?_ | omega | assumption)); done)); done)) | trace_state)
      · have hs := readDecimal_no (ws.getD i []) (hw _ (getD_mem hi)) fun n h0 h9 he => hg ⟨n, ⟨h0, h9⟩, he⟩
        rw [show Sv (ws.getD i []) = .v (.string ((ws.map B).getD ((i : Int)).toNat ByteArray.empty)) from (congrArg (fun b => AV.v (.string b)) (strs_getD ws i)).symm] at hs
        obtain ⟨e1, e2⟩ := rd_no (ws := ws) fun xs hx => hg (hx.at hi)
        rw [e1, e2]
        repeat' ((first | (conv => whnf) | skip); (first | ((with_reducible intro h); first | contradiction | omega | (conv => whnf) | skip) | (with_reducible refine And.intro ?_ ?_) | ((with_reducible show arithK _ _ _); refine arith_ok ⟨by omega, by omega⟩ ?_) | ((with_reducible show quoK _ _ _ _); refine quo_ok ⟨by omega, by omega⟩ (by omega) (by omega) ?_) | ((with_reducible show remK _ _ _ _); refine rem_ok (by omega) (by omega) ?_) | ((first | (with_reducible show CallA _ _ _ _ _ _) | (with_reducible show CallQ _ _ _ _ _ _)); first | (refine Ret.go (hs) rfl rfl ?_) | (refine Ret.goQ (hs) rfl rfl ?_)) | ((with_reducible show DrawA _ _ _ _ _ _); first | (refine draw_hard hT mixed (by decide +kernel) ?_))))
        all_goals first | rfl | omega | (show _ < (ws.map B).length; omega) | (show (_ : Int) < ((ws.map B).length : Int); omega) | skip
        all_goals ((conv => whnf); first | (refine ⟨[none], .tup [.sl 0 1 ([] : List Int).length, Bo false], [.data (.ints .i64 [])], ?_, ?_, ?_⟩; all_goals (repeat' (first | exact rfl | exact trivial | (with_reducible assumption) | refine And.intro ?_ ?_)); all_goals (first | omega | assumption); done) | trace_state)
    · obtain rfl : i = ws.length := by omega
      rw [take_all (Nat.le_refl _)] at h2
      obtain ⟨e1, e2⟩ := rd_yes h2
      rw [e1, e2]
      repeat' ((first | (conv => whnf) | skip); (first | ((with_reducible intro h); first | contradiction | omega | (conv => whnf) | skip) | (with_reducible refine And.intro ?_ ?_) | ((with_reducible show arithK _ _ _); refine arith_ok ⟨by omega, by omega⟩ ?_) | ((with_reducible show quoK _ _ _ _); refine quo_ok ⟨by omega, by omega⟩ (by omega) (by omega) ?_) | ((with_reducible show remK _ _ _ _); refine rem_ok (by omega) (by omega) ?_) | ((first | (with_reducible show CallA _ _ _ _ _ _) | (with_reducible show CallQ _ _ _ _ _ _)); first | fail) | ((with_reducible show DrawA _ _ _ _ _ _); first | (refine draw_hard hT mixed (by decide +kernel) ?_))))
      all_goals first | rfl | omega | skip
      all_goals ((conv => whnf); first | (refine ⟨[some 2], .tup [.sl 0 1 out.length, Bo true], [.data (.ints .i64 out)], ?_, ?_, ?_⟩; all_goals (repeat' (first | exact rfl | exact trivial | (with_reducible assumption) | refine And.intro ?_ ?_)); all_goals (first | omega | assumption); done) | trace_state)
end Go.Proofs.YtgpgnhadmckmhaaGreatDoor
