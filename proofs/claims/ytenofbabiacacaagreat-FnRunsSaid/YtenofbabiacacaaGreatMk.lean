/-
  Sums over holdings: what the functions return. No conditions but those in the statements.
-/
import Derived.Test.YtenofbabiacacaaGreatMj
namespace Go.Proofs.YtenofbabiacacaaGreat
open Go.AE

attribute [local irreducible] CallA LoopA DrawA CallQ arithK quoK remK eqK
attribute [local irreducible] cols cN cM cD cC netP dur hRes
theorem off_dif {f : Int} {ls : List Int} {r k a y s l : Int} (ho : okP f ls r k a y s l) : 0 ≤ offP f ls r k a y s l - netP f ls r k a y s ∧ offP f ls r k a y s l - netP f ls r k a y s ≤ 100000000 := by
  have hm := net_MD ho
  have hb := off_bd (n := netP f ls r k a y s) (l := l) (by omega) ho.2.2.1
  unfold offP
  omega
attribute [local irreducible] offP
/-! Plain sums -/
def sumH (g : List Int → Int) (hs : List (List Int)) : Nat → Int
  | 0 => 0
  | i + 1 => sumH g hs i + g (hs.getD i [])
theorem sumH_next (g : List Int → Int) (hs : List (List Int)) (i : Nat) : sumH g hs (i + 1) = sumH g hs i + g (hs.getD i []) := rfl
abbrev okG (g : List Int → Int) (hs : List (List Int)) : Prop := hs.length ≤ 30 ∧ ∀ h ∈ hs, 0 ≤ g h ∧ g h ≤ 100000001000000
theorem sumH_bd {g : List Int → Int} {hs : List (List Int)} (ho : okG g hs) : ∀ i, i ≤ hs.length → 0 ≤ sumH g hs i ∧ sumH g hs i ≤ 100000001000000 * i
  | 0, _ => by simp [sumH]
  | i + 1, hi => by
    have ih := sumH_bd ho i (by omega)
    have h1 := ho.2 (hs.getD i []) (getD_mem (by omega))
    rw [sumH_next]
    omega
def sumX (xs : List Int) : Nat → Int
  | 0 => 0
  | i + 1 => sumX xs i + xs.getD i 0
theorem sumX_next (xs : List Int) (i : Nat) : sumX xs (i + 1) = sumX xs i + xs.getD i 0 := rfl
abbrev okX (xs : List Int) : Prop := xs.length ≤ 30 ∧ ∀ i, i < xs.length → 0 ≤ xs.getD i 0 ∧ xs.getD i 0 ≤ 100000001000000
theorem sumX_bd {xs : List Int} (ho : okX xs) : ∀ i, i ≤ xs.length → 0 ≤ sumX xs i ∧ sumX xs i ≤ 100000001000000 * i
  | 0, _ => by simp [sumX]
  | i + 1, hi => by
    have ih := sumX_bd ho i (by omega)
    have h1 := ho.2 i (by omega)
    rw [sumX_next]
    omega
def mapH (g : List Int → Int) (hs : List (List Int)) (i : Nat) : List Int := (hs.take i).map g
theorem mapH_next {g : List Int → Int} {hs : List (List Int)} {i : Nat} (h : i < hs.length) : mapH g hs i ++ [g (hs.getD i [])] = mapH g hs (i + 1) := by
  unfold mapH
  rw [take_snoc [] h, List.map_append]; rfl
theorem mapH_len {g : List Int → Int} {hs : List (List Int)} {i : Nat} (h : i ≤ hs.length) : (mapH g hs i).length = i := by
  unfold mapH
  rw [List.length_map, List.length_take]; omega
theorem mapH_all {g : List Int → Int} {hs : List (List Int)} : mapH g hs hs.length = hs.map g := by
  unfold mapH
  rw [List.take_length]
theorem mapH_get {g : List Int → Int} {hs : List (List Int)} {i : Nat} (h : i < hs.length) : (hs.map g).getD i 0 = g (hs.getD i []) := by
  rw [List.getD_eq_getElem?_getD, List.getD_eq_getElem?_getD, List.getElem?_map, List.getElem?_eq_getElem h]; rfl
theorem sumX_map {g : List Int → Int} {hs : List (List Int)} : ∀ i, i ≤ hs.length → sumX (hs.map g) i = sumH g hs i
  | 0, _ => rfl
  | i + 1, hi => by rw [sumX_next, sumH_next, sumX_map i (by omega), mapH_get (by omega)]
theorem okX_map {g : List Int → Int} {hs : List (List Int)} (ho : okG g hs) : okX (hs.map g) := by
  refine ⟨by rw [List.length_map]; exact ho.1, fun i hi => ?_⟩
  rw [List.length_map] at hi
  rw [mapH_get hi]
  exact ho.2 _ (getD_mem hi)
attribute [local irreducible] sumH sumX mapH
/-! Totals -/
set_option maxRecDepth 100000 in
theorem total_ret (xs : List Int) (ho : okX xs) : Ret Tryz.prog G 78 [Ri xs] (I (sumX xs xs.length)) := by
  refine ret_of_body hT Tryz.func78 rfl ?_ rfl
  have hl := ho.1
  repeat' (first | (intro h; first | contradiction | omega | (conv => whnf) | skip) | (refine And.intro ?_ ?_) | (refine arith_ok ⟨by omega, by omega⟩ ?_) | (first | (refine draw_quiet hT mixed (by decide +kernel) ?_) | (refine draw_hard hT mixed (by decide +kernel) ?_)) | fail)
  refine loop_rule hT (fun i : Nat => i ≤ xs.length) 17 0 [3, 6, 7, 8] (fun i => [I (sumX xs i), Ri xs, I xs.length, I i]) (fun _ => []) (fun i => xs.length - i) (0) (Nat.le_of_ble_eq_true rfl) ?_ ?_ ?_
  · exact Nat.zero_le _
  · (first | (refine ⟨rfl, [], ?_, ?_⟩; all_goals (repeat' (first | exact rfl | exact trivial | omega | assumption | (unfold sumX; rfl) | refine And.intro ?_ ?_)); done) | (refine ⟨rfl, [some 1], ?_, ?_⟩; all_goals (repeat' (first | exact rfl | exact trivial | omega | assumption | (unfold sumX; rfl) | refine And.intro ?_ ?_)); done) | (refine ⟨rfl, [some 2], ?_, ?_⟩; all_goals (repeat' (first | exact rfl | exact trivial | omega | assumption | (unfold sumX; rfl) | refine And.intro ?_ ?_)); done) | (refine ⟨rfl, [some 3], ?_, ?_⟩; all_goals (repeat' (first | exact rfl | exact trivial | omega | assumption | (unfold sumX; rfl) | refine And.intro ?_ ?_)); done) | (refine ⟨rfl, [some 0], ?_, ?_⟩; all_goals (repeat' (first | exact rfl | exact trivial | omega | assumption | (unfold sumX; rfl) | refine And.intro ?_ ?_)); done) | (refine ⟨rfl, [some 4], ?_, ?_⟩; all_goals (repeat' (first | exact rfl | exact trivial | omega | assumption | (unfold sumX; rfl) | refine And.intro ?_ ?_)); done) | (refine ⟨rfl, [some 5], ?_, ?_⟩; all_goals (repeat' (first | exact rfl | exact trivial | omega | assumption | (unfold sumX; rfl) | refine And.intro ?_ ?_)); done) | (refine ⟨rfl, [some 6], ?_, ?_⟩; all_goals (repeat' (first | exact rfl | exact trivial | omega | assumption | (unfold sumX; rfl) | refine And.intro ?_ ?_)); done))
  · rintro i h1
    have hbd := sumX_bd ho i h1
    by_cases hi : i < xs.length
    · have hxi : 0 ≤ xs.getD ((i : Int)).toNat 0 ∧ xs.getD ((i : Int)).toNat 0 ≤ 100000001000000 := ho.2 i hi
      have hnx : sumX xs (i + 1) = sumX xs i + xs.getD ((i : Int)).toNat 0 := sumX_next xs i
      repeat' (first | (intro h; first | contradiction | omega | (conv => whnf) | skip) | (refine And.intro ?_ ?_) | (refine arith_ok ⟨by omega, by omega⟩ ?_) | (first | (refine draw_quiet hT mixed (by decide +kernel) ?_) | (refine draw_hard hT mixed (by decide +kernel) ?_)) | fail)
      all_goals first | omega | ((conv => whnf); refine ⟨i + 1, by omega, ?_, by omega⟩; (first | (refine ⟨rfl, [], ?_, ?_⟩; all_goals (repeat' (first | exact rfl | exact trivial | omega | assumption | exact hnx.symm | refine And.intro ?_ ?_)); done) | (refine ⟨rfl, [some 1], ?_, ?_⟩; all_goals (repeat' (first | exact rfl | exact trivial | omega | assumption | exact hnx.symm | refine And.intro ?_ ?_)); done) | (refine ⟨rfl, [some 2], ?_, ?_⟩; all_goals (repeat' (first | exact rfl | exact trivial | omega | assumption | exact hnx.symm | refine And.intro ?_ ?_)); done) | (refine ⟨rfl, [some 3], ?_, ?_⟩; all_goals (repeat' (first | exact rfl | exact trivial | omega | assumption | exact hnx.symm | refine And.intro ?_ ?_)); done) | (refine ⟨rfl, [some 0], ?_, ?_⟩; all_goals (repeat' (first | exact rfl | exact trivial | omega | assumption | exact hnx.symm | refine And.intro ?_ ?_)); done) | (refine ⟨rfl, [some 4], ?_, ?_⟩; all_goals (repeat' (first | exact rfl | exact trivial | omega | assumption | exact hnx.symm | refine And.intro ?_ ?_)); done) | (refine ⟨rfl, [some 5], ?_, ?_⟩; all_goals (repeat' (first | exact rfl | exact trivial | omega | assumption | exact hnx.symm | refine And.intro ?_ ?_)); done) | (refine ⟨rfl, [some 6], ?_, ?_⟩; all_goals (repeat' (first | exact rfl | exact trivial | omega | assumption | exact hnx.symm | refine And.intro ?_ ?_)); done))) | trace_state
    · obtain rfl : i = xs.length := by omega
      repeat' (first | (intro h; first | contradiction | omega | (conv => whnf) | skip) | (refine And.intro ?_ ?_) | (refine arith_ok ⟨by omega, by omega⟩ ?_) | (first | (refine draw_quiet hT mixed (by decide +kernel) ?_) | (refine draw_hard hT mixed (by decide +kernel) ?_)) | fail)
      all_goals first | omega | rfl | trace_state
theorem okG_res {f : Int} {ls : List Int} {r : Int} {hs : List (List Int)} (ho : okF f ls r hs) : okG (hRes f ls r) hs := ⟨ho.2.1, fun h hh => by
  have := hRes_bd (ho.2.2 h hh)
  omega⟩
set_option maxHeartbeats 4000000 in
set_option maxRecDepth 100000 in
theorem reserves_call (f : Int) (ls : List Int) (r : Int) (hs : List (List Int)) (ho : okF f ls r hs) : CallA Tryz.prog G 79 [Bs f ls r, Rh hs] [] (fun v J => v = .sl 0 1 hs.length ∧ J = [Di (hs.map (hRes f ls r))]) := by
  refine CallA.ends (callA_of_body hT Tryz.func79 rfl ?_)
  have hl := ho.2.1
  repeat' (first | (intro h; first | contradiction | omega | (conv => whnf) | skip) | (refine And.intro ?_ ?_) | (refine arith_ok ⟨by omega, by omega⟩ ?_) | (first | (refine draw_quiet hT mixed (by decide +kernel) ?_) | (refine draw_hard hT mixed (by decide +kernel) ?_)) | fail)
  refine loop_rule hT (fun i : Nat => i ≤ hs.length) 23 2 [1, 2, 5, 9, 10, 11] (fun i => [Rh hs, .ptr 0 0, .sl 2 1 i, Rh hs, I hs.length, I i]) (fun i => [.cells [I f, Ri ls, I r], .dead, Di (mapH (hRes f ls r) hs i)]) (fun i => hs.length - i) (0) (Nat.le_of_ble_eq_true rfl) ?_ ?_ ?_
  · exact Nat.zero_le _
  · have h0 : mapH (hRes f ls r) hs 0 = [] := by unfold mapH; rfl
    (refine ⟨rfl, [some 1], ?_, ?_⟩; all_goals (repeat' (first | exact rfl | exact trivial | omega | assumption | exact congrArg (D.ints .i64) h0.symm | refine And.intro ?_ ?_)); done)
  · rintro i h1
    by_cases hi : i < hs.length
    · have hoh := ho.2.2 (hs.getD ((i : Int)).toNat []) (getD_mem hi)
      have hel := mapH_len (g := hRes f ls r) h1
      have hel1 := mapH_len (g := hRes f ls r) (hs := hs) (i := i + 1) (by omega)
      have hen : mapH (hRes f ls r) hs i ++ [hRes f ls r (hs.getD ((i : Int)).toNat [])] = mapH (hRes f ls r) hs (i + 1) := mapH_next hi
      have hel2 : (mapH (hRes f ls r) hs i ++ [hRes f ls r (hs.getD ((i : Int)).toNat [])]).length = i + 1 := by rw [hen, hel1]
      repeat' (first | (intro h; first | contradiction | omega | (conv => whnf) | skip) | (refine And.intro ?_ ?_) | (refine arith_ok ⟨by omega, by omega⟩ ?_) | (first | (refine draw_quiet hT mixed (by decide +kernel) ?_) | (refine draw_hard hT mixed (by decide +kernel) ?_)) | (refine Ret.go (reserve_ret f ls r (hs.getD ((i : Int)).toNat []) hoh) rfl rfl ?_) | (refine Ret.goQ (reserve_ret f ls r (hs.getD ((i : Int)).toNat []) hoh) rfl rfl ?_))
      all_goals first | omega | exact hel.symm | (rw [hel]; show (i + 1) * 8 ≤ _; omega) | rfl | skip
      all_goals first | ((conv => whnf); refine ⟨i + 1, by omega, ?_, by omega⟩; first | (refine ⟨rfl, [some 5], ?_, ?_⟩; all_goals (repeat' (first | exact rfl | exact trivial | omega | assumption | first | exact hel2 | exact congrArg (D.ints .i64) hen | refine And.intro ?_ ?_)); done) | (refine ⟨rfl, [some 4], ?_, ?_⟩; all_goals (repeat' (first | exact rfl | exact trivial | omega | assumption | first | exact hel2 | exact congrArg (D.ints .i64) hen | refine And.intro ?_ ?_)); done)) | trace_state
    · obtain rfl : i = hs.length := by omega
      repeat' (first | (intro h; first | contradiction | omega | (conv => whnf) | skip) | (refine And.intro ?_ ?_) | (refine arith_ok ⟨by omega, by omega⟩ ?_) | (first | (refine draw_quiet hT mixed (by decide +kernel) ?_) | (refine draw_hard hT mixed (by decide +kernel) ?_)) | fail)
      all_goals first | omega | skip
      refine ⟨[some 2], .sl 0 1 hs.length, [Di (mapH (hRes f ls r) hs hs.length)], ?_, ?_, ⟨rfl, by rw [mapH_all]⟩⟩ <;> (repeat' (first | exact rfl | exact trivial | omega | refine And.intro ?_ ?_))
theorem reserves_ro (f : Int) (ls : List Int) (r : Int) (hs : List (List Int)) (ho : okF f ls r hs) : CallA Tryz.prog G 79 [Bs f ls r, Rh hs] [] (fun v J => v = Ri (hs.map (hRes f ls r)) ∧ J = []) :=
  CallA.frozen ((reserves_call f ls r hs ho).mono fun v J ⟨h1, h2⟩ => by subst h1 h2; exact ⟨Ri (hs.map (hRes f ls r)), ⟨rfl, rfl, rfl, (List.length_map _).symm, rfl⟩, rfl, rfl⟩)
def tot (f : Int) (ls : List Int) (r : Int) (hs : List (List Int)) : Int := sumH (hRes f ls r) hs hs.length
theorem total_res (f : Int) (ls : List Int) (r : Int) (hs : List (List Int)) (ho : okF f ls r hs) : Ret Tryz.prog G 78 [Ri (hs.map (hRes f ls r))] (I (tot f ls r hs)) := by
  have h := total_ret (hs.map (hRes f ls r)) (okX_map (okG_res ho))
  rw [List.length_map, sumX_map _ (Nat.le_refl _)] at h
  exact h
set_option maxHeartbeats 4000000 in
set_option maxRecDepth 100000 in
theorem specTotal_ret (f : Int) (ls : List Int) (r : Int) (hs : List (List Int)) (hn : ls.length ≤ 1048576) (ho : okF f ls r hs) : Ret Tryz.prog G 126 [Bs f ls r, Rh hs] (.tup [I (tot f ls r hs), I 0]) := by
  refine ret_of_body hT Tryz.func126 rfl ?_ rfl
  have hl := ho.2.1
  have hg := okG_res ho
  repeat' (first | (intro h; first | contradiction | omega | (conv => whnf) | skip) | (refine And.intro ?_ ?_) | (refine arith_ok ⟨by omega, by omega⟩ ?_) | (first | (refine draw_quiet hT mixed (by decide +kernel) ?_) | (refine draw_hard hT mixed (by decide +kernel) ?_)) | (refine Ret.goP (specPortfolio_ret f ls r hs hn (by omega)) rfl ?_) | (refine Ret.goQP (specPortfolio_ret f ls r hs hn (by omega)) rfl ?_))
  all_goals first | omega | exact absurd ho (by assumption) | skip
  refine loop_rule hT (fun i : Nat => i ≤ hs.length) 27 1 [1, 2, 6, 7] (fun i => [Rh hs, .ptr 0 0, I (sumH (hRes f ls r) hs i), I i]) (fun _ => [.cells [I f, Ri ls, I r]]) (fun i => hs.length - i) (0) (Nat.le_of_ble_eq_true rfl) ?_ ?_ ?_
  · exact Nat.zero_le _
  · (first | (refine ⟨rfl, [], ?_, ?_⟩; all_goals (repeat' (first | exact rfl | exact trivial | omega | assumption | (unfold sumH; rfl) | refine And.intro ?_ ?_)); done) | (refine ⟨rfl, [some 1], ?_, ?_⟩; all_goals (repeat' (first | exact rfl | exact trivial | omega | assumption | (unfold sumH; rfl) | refine And.intro ?_ ?_)); done) | (refine ⟨rfl, [some 2], ?_, ?_⟩; all_goals (repeat' (first | exact rfl | exact trivial | omega | assumption | (unfold sumH; rfl) | refine And.intro ?_ ?_)); done) | (refine ⟨rfl, [some 3], ?_, ?_⟩; all_goals (repeat' (first | exact rfl | exact trivial | omega | assumption | (unfold sumH; rfl) | refine And.intro ?_ ?_)); done) | (refine ⟨rfl, [some 0], ?_, ?_⟩; all_goals (repeat' (first | exact rfl | exact trivial | omega | assumption | (unfold sumH; rfl) | refine And.intro ?_ ?_)); done) | (refine ⟨rfl, [some 4], ?_, ?_⟩; all_goals (repeat' (first | exact rfl | exact trivial | omega | assumption | (unfold sumH; rfl) | refine And.intro ?_ ?_)); done) | (refine ⟨rfl, [some 5], ?_, ?_⟩; all_goals (repeat' (first | exact rfl | exact trivial | omega | assumption | (unfold sumH; rfl) | refine And.intro ?_ ?_)); done) | (refine ⟨rfl, [some 6], ?_, ?_⟩; all_goals (repeat' (first | exact rfl | exact trivial | omega | assumption | (unfold sumH; rfl) | refine And.intro ?_ ?_)); done))
  · rintro i h1
    have hbd := sumH_bd hg i h1
    by_cases hi : i < hs.length
    · have hoh := ho.2.2 (hs.getD ((i : Int)).toNat []) (getD_mem hi)
      have hgi : 0 ≤ hRes f ls r (hs.getD ((i : Int)).toNat []) ∧ hRes f ls r (hs.getD ((i : Int)).toNat []) ≤ 100000001000000 := hg.2 _ (getD_mem hi)
      have hnx : sumH (hRes f ls r) hs (i + 1) = sumH (hRes f ls r) hs i + hRes f ls r (hs.getD ((i : Int)).toNat []) := sumH_next _ hs i
      repeat' (first | (intro h; first | contradiction | omega | (conv => whnf) | skip) | (refine And.intro ?_ ?_) | (refine arith_ok ⟨by omega, by omega⟩ ?_) | (first | (refine draw_quiet hT mixed (by decide +kernel) ?_) | (refine draw_hard hT mixed (by decide +kernel) ?_)) | (refine Ret.go (specRes_ret f ls r (hs.getD ((i : Int)).toNat []) hoh) rfl rfl ?_) | (refine Ret.goQ (specRes_ret f ls r (hs.getD ((i : Int)).toNat []) hoh) rfl rfl ?_))
      all_goals first | omega | ((conv => whnf); refine ⟨i + 1, by omega, ?_, by omega⟩; (first | (refine ⟨rfl, [], ?_, ?_⟩; all_goals (repeat' (first | exact rfl | exact trivial | omega | assumption | exact hnx.symm | refine And.intro ?_ ?_)); done) | (refine ⟨rfl, [some 1], ?_, ?_⟩; all_goals (repeat' (first | exact rfl | exact trivial | omega | assumption | exact hnx.symm | refine And.intro ?_ ?_)); done) | (refine ⟨rfl, [some 2], ?_, ?_⟩; all_goals (repeat' (first | exact rfl | exact trivial | omega | assumption | exact hnx.symm | refine And.intro ?_ ?_)); done) | (refine ⟨rfl, [some 3], ?_, ?_⟩; all_goals (repeat' (first | exact rfl | exact trivial | omega | assumption | exact hnx.symm | refine And.intro ?_ ?_)); done) | (refine ⟨rfl, [some 0], ?_, ?_⟩; all_goals (repeat' (first | exact rfl | exact trivial | omega | assumption | exact hnx.symm | refine And.intro ?_ ?_)); done) | (refine ⟨rfl, [some 4], ?_, ?_⟩; all_goals (repeat' (first | exact rfl | exact trivial | omega | assumption | exact hnx.symm | refine And.intro ?_ ?_)); done) | (refine ⟨rfl, [some 5], ?_, ?_⟩; all_goals (repeat' (first | exact rfl | exact trivial | omega | assumption | exact hnx.symm | refine And.intro ?_ ?_)); done) | (refine ⟨rfl, [some 6], ?_, ?_⟩; all_goals (repeat' (first | exact rfl | exact trivial | omega | assumption | exact hnx.symm | refine And.intro ?_ ?_)); done))) | trace_state
    · obtain rfl : i = hs.length := by omega
      repeat' (first | (intro h; first | contradiction | omega | (conv => whnf) | skip) | (refine And.intro ?_ ?_) | (refine arith_ok ⟨by omega, by omega⟩ ?_) | (first | (refine draw_quiet hT mixed (by decide +kernel) ?_) | (refine draw_hard hT mixed (by decide +kernel) ?_)) | fail)
      all_goals first | omega | rfl | trace_state
/-! Premiums -/
def hN (f : Int) (ls : List Int) (r : Int) (h : List Int) : Int := h.getD 6 0 * hNet f ls r h
def hL (f : Int) (ls : List Int) (r : Int) (h : List Int) : Int := h.getD 6 0 * (hOff f ls r h - hNet f ls r h)
theorem hN_bd {f : Int} {ls : List Int} {r : Int} {h : List Int} (ho : okH f ls r h) : (0 ≤ hNet f ls r h ∧ hNet f ls r h ≤ 100000000) ∧ (0 ≤ hOff f ls r h - hNet f ls r h ∧ hOff f ls r h - hNet f ls r h ≤ 100000000) ∧ (0 ≤ hN f ls r h ∧ hN f ls r h ≤ 100000001000000) ∧ 0 ≤ hL f ls r h ∧ hL f ls r h ≤ 100000001000000 := by
  have hm := net_MD ho.1.1
  have h2 := off_dif ho.1.1
  have h3 := mul_in (a := h.getD 6 0) (A := 1000000) (b := hNet f ls r h) (B := 100000000) ho.2.1 ho.2.2 (by unfold hNet; omega) (by unfold hNet; omega)
  have h4 := mul_in (a := h.getD 6 0) (A := 1000000) (b := hOff f ls r h - hNet f ls r h) (B := 100000000) ho.2.1 ho.2.2 (by unfold hOff hNet; omega) (by unfold hOff hNet; omega)
  unfold hN hL
  unfold hOff hNet at h3 h4 ⊢
  omega
theorem okG_net {f : Int} {ls : List Int} {r : Int} {hs : List (List Int)} (ho : okF f ls r hs) : okG (hN f ls r) hs := ⟨ho.2.1, fun h hh => (hN_bd (ho.2.2 h hh)).2.2.1⟩
theorem okG_load {f : Int} {ls : List Int} {r : Int} {hs : List (List Int)} (ho : okF f ls r hs) : okG (hL f ls r) hs := ⟨ho.2.1, fun h hh => (hN_bd (ho.2.2 h hh)).2.2.2⟩
def nets (f : Int) (ls : List Int) (r : Int) (hs : List (List Int)) : Int := sumH (hN f ls r) hs hs.length
def loads (f : Int) (ls : List Int) (r : Int) (hs : List (List Int)) : Int := sumH (hL f ls r) hs hs.length
set_option maxHeartbeats 4000000 in
set_option maxRecDepth 100000 in
theorem implPrem_ret (f : Int) (ls : List Int) (r : Int) (hs : List (List Int)) (ho : okF f ls r hs) : Ret Tryz.prog G 76 [Bs f ls r, Rh hs] (.tup [I (nets f ls r hs), I (loads f ls r hs)]) := by
  refine ret_of_body hT Tryz.func76 rfl ?_ rfl
  have hl := ho.2.1
  repeat' (first | (intro h; first | contradiction | omega | (conv => whnf) | skip) | (refine And.intro ?_ ?_) | (refine arith_ok ⟨by omega, by omega⟩ ?_) | (first | (refine draw_quiet hT mixed (by decide +kernel) ?_) | (refine draw_hard hT mixed (by decide +kernel) ?_)) | fail)
  refine loop_rule hT (fun i : Nat => i ≤ hs.length) 41 1 [1, 2, 6, 7, 11, 12, 13] (fun i => [Rh hs, .ptr 0 0, I (sumH (hN f ls r) hs i), I (sumH (hL f ls r) hs i), Rh hs, I hs.length, I i]) (fun _ => [.cells [I f, Ri ls, I r]]) (fun i => hs.length - i) (0) (Nat.le_of_ble_eq_true rfl) ?_ ?_ ?_
  · exact Nat.zero_le _
  · (first | (refine ⟨rfl, [], ?_, ?_⟩; all_goals (repeat' (first | exact rfl | exact trivial | omega | assumption | (unfold sumH; rfl) | refine And.intro ?_ ?_)); done) | (refine ⟨rfl, [some 1], ?_, ?_⟩; all_goals (repeat' (first | exact rfl | exact trivial | omega | assumption | (unfold sumH; rfl) | refine And.intro ?_ ?_)); done) | (refine ⟨rfl, [some 2], ?_, ?_⟩; all_goals (repeat' (first | exact rfl | exact trivial | omega | assumption | (unfold sumH; rfl) | refine And.intro ?_ ?_)); done) | (refine ⟨rfl, [some 3], ?_, ?_⟩; all_goals (repeat' (first | exact rfl | exact trivial | omega | assumption | (unfold sumH; rfl) | refine And.intro ?_ ?_)); done) | (refine ⟨rfl, [some 0], ?_, ?_⟩; all_goals (repeat' (first | exact rfl | exact trivial | omega | assumption | (unfold sumH; rfl) | refine And.intro ?_ ?_)); done) | (refine ⟨rfl, [some 4], ?_, ?_⟩; all_goals (repeat' (first | exact rfl | exact trivial | omega | assumption | (unfold sumH; rfl) | refine And.intro ?_ ?_)); done) | (refine ⟨rfl, [some 5], ?_, ?_⟩; all_goals (repeat' (first | exact rfl | exact trivial | omega | assumption | (unfold sumH; rfl) | refine And.intro ?_ ?_)); done) | (refine ⟨rfl, [some 6], ?_, ?_⟩; all_goals (repeat' (first | exact rfl | exact trivial | omega | assumption | (unfold sumH; rfl) | refine And.intro ?_ ?_)); done))
  · rintro i h1
    have hbd1 := sumH_bd (okG_net ho) i h1
    have hbd2 := sumH_bd (okG_load ho) i h1
    by_cases hi : i < hs.length
    · have hoh := ho.2.2 (hs.getD ((i : Int)).toNat []) (getD_mem hi)
      have hb := hN_bd hoh
      have hn1 : sumH (hN f ls r) hs (i + 1) = sumH (hN f ls r) hs i + hN f ls r (hs.getD ((i : Int)).toNat []) := sumH_next _ hs i
      have hn2 : sumH (hL f ls r) hs (i + 1) = sumH (hL f ls r) hs i + hL f ls r (hs.getD ((i : Int)).toNat []) := sumH_next _ hs i
      unfold hN hL hOff hNet at hb
      unfold hN hNet at hn1
      unfold hL hOff hNet at hn2
      have hq := (net_ret f ls r ((hs.getD ((i : Int)).toNat []).getD 0 0) ((hs.getD ((i : Int)).toNat []).getD 1 0) ((hs.getD ((i : Int)).toNat []).getD 2 0) ((hs.getD ((i : Int)).toNat []).getD 3 0) ((hs.getD ((i : Int)).toNat []).getD 4 0) hoh.1.1)
      have hr := (office_ret f ls r ((hs.getD ((i : Int)).toNat []).getD 0 0) ((hs.getD ((i : Int)).toNat []).getD 1 0) ((hs.getD ((i : Int)).toNat []).getD 2 0) ((hs.getD ((i : Int)).toNat []).getD 3 0) ((hs.getD ((i : Int)).toNat []).getD 4 0) hoh.1.1)
      repeat' (first | (intro h; first | contradiction | omega | (conv => whnf) | skip) | (refine And.intro ?_ ?_) | (refine arith_ok ⟨by omega, by omega⟩ ?_) | (first | (refine draw_quiet hT mixed (by decide +kernel) ?_) | (refine draw_hard hT mixed (by decide +kernel) ?_)) | (refine Ret.go (hq) rfl rfl ?_) | (refine Ret.goQ (hq) rfl rfl ?_) | (refine Ret.go (hr) rfl rfl ?_) | (refine Ret.goQ (hr) rfl rfl ?_))
      all_goals first | omega | ((conv => whnf); refine ⟨i + 1, by omega, ?_, by omega⟩; (first | (refine ⟨rfl, [], ?_, ?_⟩; all_goals (repeat' (first | exact rfl | exact trivial | omega | assumption | first | exact hn1.symm | exact hn2.symm | refine And.intro ?_ ?_)); done) | (refine ⟨rfl, [some 1], ?_, ?_⟩; all_goals (repeat' (first | exact rfl | exact trivial | omega | assumption | first | exact hn1.symm | exact hn2.symm | refine And.intro ?_ ?_)); done) | (refine ⟨rfl, [some 2], ?_, ?_⟩; all_goals (repeat' (first | exact rfl | exact trivial | omega | assumption | first | exact hn1.symm | exact hn2.symm | refine And.intro ?_ ?_)); done) | (refine ⟨rfl, [some 3], ?_, ?_⟩; all_goals (repeat' (first | exact rfl | exact trivial | omega | assumption | first | exact hn1.symm | exact hn2.symm | refine And.intro ?_ ?_)); done) | (refine ⟨rfl, [some 0], ?_, ?_⟩; all_goals (repeat' (first | exact rfl | exact trivial | omega | assumption | first | exact hn1.symm | exact hn2.symm | refine And.intro ?_ ?_)); done) | (refine ⟨rfl, [some 4], ?_, ?_⟩; all_goals (repeat' (first | exact rfl | exact trivial | omega | assumption | first | exact hn1.symm | exact hn2.symm | refine And.intro ?_ ?_)); done) | (refine ⟨rfl, [some 5], ?_, ?_⟩; all_goals (repeat' (first | exact rfl | exact trivial | omega | assumption | first | exact hn1.symm | exact hn2.symm | refine And.intro ?_ ?_)); done) | (refine ⟨rfl, [some 6], ?_, ?_⟩; all_goals (repeat' (first | exact rfl | exact trivial | omega | assumption | first | exact hn1.symm | exact hn2.symm | refine And.intro ?_ ?_)); done))) | trace_state
    · obtain rfl : i = hs.length := by omega
      repeat' (first | (intro h; first | contradiction | omega | (conv => whnf) | skip) | (refine And.intro ?_ ?_) | (refine arith_ok ⟨by omega, by omega⟩ ?_) | (first | (refine draw_quiet hT mixed (by decide +kernel) ?_) | (refine draw_hard hT mixed (by decide +kernel) ?_)) | fail)
      all_goals first | omega | rfl | trace_state
set_option maxHeartbeats 4000000 in
set_option maxRecDepth 100000 in
theorem specPrem_ret (f : Int) (ls : List Int) (r : Int) (hs : List (List Int)) (hn : ls.length ≤ 1048576) (ho : okF f ls r hs) : Ret Tryz.prog G 85 [Bs f ls r, Rh hs] (.tup [I (nets f ls r hs), I (loads f ls r hs), I 0]) := by
  refine ret_of_body hT Tryz.func85 rfl ?_ rfl
  have hl := ho.2.1
  repeat' (first | (intro h; first | contradiction | omega | (conv => whnf) | skip) | (refine And.intro ?_ ?_) | (refine arith_ok ⟨by omega, by omega⟩ ?_) | (first | (refine draw_quiet hT mixed (by decide +kernel) ?_) | (refine draw_hard hT mixed (by decide +kernel) ?_)) | (refine Ret.goP (specPortfolio_ret f ls r hs hn (by omega)) rfl ?_) | (refine Ret.goQP (specPortfolio_ret f ls r hs hn (by omega)) rfl ?_))
  all_goals first | omega | exact absurd ho (by assumption) | skip
  refine loop_rule hT (fun i : Nat => i ≤ hs.length) 56 1 [1, 2, 7, 8, 9] (fun i => [Rh hs, .ptr 0 0, I (sumH (hN f ls r) hs i), I (sumH (hL f ls r) hs i), I i]) (fun _ => [.cells [I f, Ri ls, I r]]) (fun i => hs.length - i) (0) (Nat.le_of_ble_eq_true rfl) ?_ ?_ ?_
  · exact Nat.zero_le _
  · (first | (refine ⟨rfl, [], ?_, ?_⟩; all_goals (repeat' (first | exact rfl | exact trivial | omega | assumption | (unfold sumH; rfl) | refine And.intro ?_ ?_)); done) | (refine ⟨rfl, [some 1], ?_, ?_⟩; all_goals (repeat' (first | exact rfl | exact trivial | omega | assumption | (unfold sumH; rfl) | refine And.intro ?_ ?_)); done) | (refine ⟨rfl, [some 2], ?_, ?_⟩; all_goals (repeat' (first | exact rfl | exact trivial | omega | assumption | (unfold sumH; rfl) | refine And.intro ?_ ?_)); done) | (refine ⟨rfl, [some 3], ?_, ?_⟩; all_goals (repeat' (first | exact rfl | exact trivial | omega | assumption | (unfold sumH; rfl) | refine And.intro ?_ ?_)); done) | (refine ⟨rfl, [some 0], ?_, ?_⟩; all_goals (repeat' (first | exact rfl | exact trivial | omega | assumption | (unfold sumH; rfl) | refine And.intro ?_ ?_)); done) | (refine ⟨rfl, [some 4], ?_, ?_⟩; all_goals (repeat' (first | exact rfl | exact trivial | omega | assumption | (unfold sumH; rfl) | refine And.intro ?_ ?_)); done) | (refine ⟨rfl, [some 5], ?_, ?_⟩; all_goals (repeat' (first | exact rfl | exact trivial | omega | assumption | (unfold sumH; rfl) | refine And.intro ?_ ?_)); done) | (refine ⟨rfl, [some 6], ?_, ?_⟩; all_goals (repeat' (first | exact rfl | exact trivial | omega | assumption | (unfold sumH; rfl) | refine And.intro ?_ ?_)); done))
  · rintro i h1
    have hbd1 := sumH_bd (okG_net ho) i h1
    have hbd2 := sumH_bd (okG_load ho) i h1
    by_cases hi : i < hs.length
    · have hoh := ho.2.2 (hs.getD ((i : Int)).toNat []) (getD_mem hi)
      have hb := hN_bd hoh
      have hn1 : sumH (hN f ls r) hs (i + 1) = sumH (hN f ls r) hs i + hN f ls r (hs.getD ((i : Int)).toNat []) := sumH_next _ hs i
      have hn2 : sumH (hL f ls r) hs (i + 1) = sumH (hL f ls r) hs i + hL f ls r (hs.getD ((i : Int)).toNat []) := sumH_next _ hs i
      unfold hN hL hOff hNet at hb
      unfold hN hNet at hn1
      unfold hL hOff hNet at hn2
      have hq := (specNet_ret f ls r ((hs.getD ((i : Int)).toNat []).getD 0 0) ((hs.getD ((i : Int)).toNat []).getD 1 0) ((hs.getD ((i : Int)).toNat []).getD 2 0) ((hs.getD ((i : Int)).toNat []).getD 3 0) ((hs.getD ((i : Int)).toNat []).getD 4 0) hoh.1.1)
      have hr := (specOffice_ret f ls r ((hs.getD ((i : Int)).toNat []).getD 0 0) ((hs.getD ((i : Int)).toNat []).getD 1 0) ((hs.getD ((i : Int)).toNat []).getD 2 0) ((hs.getD ((i : Int)).toNat []).getD 3 0) ((hs.getD ((i : Int)).toNat []).getD 4 0) hoh.1.1)
      repeat' (first | (intro h; first | contradiction | omega | (conv => whnf) | skip) | (refine And.intro ?_ ?_) | (refine arith_ok ⟨by omega, by omega⟩ ?_) | (first | (refine draw_quiet hT mixed (by decide +kernel) ?_) | (refine draw_hard hT mixed (by decide +kernel) ?_)) | (refine Ret.go (hq) rfl rfl ?_) | (refine Ret.goQ (hq) rfl rfl ?_) | (refine Ret.go (hr) rfl rfl ?_) | (refine Ret.goQ (hr) rfl rfl ?_))
      all_goals first | omega | ((conv => whnf); refine ⟨i + 1, by omega, ?_, by omega⟩; (first | (refine ⟨rfl, [], ?_, ?_⟩; all_goals (repeat' (first | exact rfl | exact trivial | omega | assumption | first | exact hn1.symm | exact hn2.symm | refine And.intro ?_ ?_)); done) | (refine ⟨rfl, [some 1], ?_, ?_⟩; all_goals (repeat' (first | exact rfl | exact trivial | omega | assumption | first | exact hn1.symm | exact hn2.symm | refine And.intro ?_ ?_)); done) | (refine ⟨rfl, [some 2], ?_, ?_⟩; all_goals (repeat' (first | exact rfl | exact trivial | omega | assumption | first | exact hn1.symm | exact hn2.symm | refine And.intro ?_ ?_)); done) | (refine ⟨rfl, [some 3], ?_, ?_⟩; all_goals (repeat' (first | exact rfl | exact trivial | omega | assumption | first | exact hn1.symm | exact hn2.symm | refine And.intro ?_ ?_)); done) | (refine ⟨rfl, [some 0], ?_, ?_⟩; all_goals (repeat' (first | exact rfl | exact trivial | omega | assumption | first | exact hn1.symm | exact hn2.symm | refine And.intro ?_ ?_)); done) | (refine ⟨rfl, [some 4], ?_, ?_⟩; all_goals (repeat' (first | exact rfl | exact trivial | omega | assumption | first | exact hn1.symm | exact hn2.symm | refine And.intro ?_ ?_)); done) | (refine ⟨rfl, [some 5], ?_, ?_⟩; all_goals (repeat' (first | exact rfl | exact trivial | omega | assumption | first | exact hn1.symm | exact hn2.symm | refine And.intro ?_ ?_)); done) | (refine ⟨rfl, [some 6], ?_, ?_⟩; all_goals (repeat' (first | exact rfl | exact trivial | omega | assumption | first | exact hn1.symm | exact hn2.symm | refine And.intro ?_ ?_)); done))) | trace_state
    · obtain rfl : i = hs.length := by omega
      repeat' (first | (intro h; first | contradiction | omega | (conv => whnf) | skip) | (refine And.intro ?_ ?_) | (refine arith_ok ⟨by omega, by omega⟩ ?_) | (first | (refine draw_quiet hT mixed (by decide +kernel) ?_) | (refine draw_hard hT mixed (by decide +kernel) ?_)) | fail)
      all_goals first | omega | rfl | trace_state
end Go.Proofs.YtenofbabiacacaaGreat
