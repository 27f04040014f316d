/-
  The text of statutes by the reference, and the law: what the functions return. No conditions but those in the statements.
-/
import Derived.Test.YtgpgnhadmckmhaaGreatDoorStc
set_option linter.unusedVariables false
set_option linter.unusedSimpArgs false
namespace Go.Proofs.YtgpgnhadmckmhaaGreatDoor
open Go.AE Go.Lib

attribute [local irreducible] CallA LoopA DrawA CallQ arithK quoK remK eqK
/-- The first texts joined. -/
def jt (ws : List (List UInt8)) (s : List UInt8) (i : Nat) : List UInt8 := join (ws.take i) s
theorem jt_one {ws : List (List UInt8)} {s : List UInt8} (h : 0 < ws.length) : jt ws s 1 = ws.getD 0 [] := by
  unfold jt
  rw [show (1 : Nat) = 0 + 1 from rfl, take_snoc [] h, List.take_zero, List.nil_append, join_one]
theorem jt_next {ws : List (List UInt8)} {s : List UInt8} {i : Nat} (h0 : 0 < i) (h : i < ws.length) : jt ws s (i + 1) = jt ws s i ++ s ++ ws.getD i [] := by
  unfold jt
  rw [take_snoc [] h, join_snoc]
  intro e
  have : (ws.take i).length = 0 := by rw [e]; rfl
  rw [List.length_take] at this
  omega
theorem jt_len {ws : List (List UInt8)} {s : List UInt8} {m : Nat} (hx : ∀ w ∈ ws, w.length ≤ m) : ∀ i, i ≤ ws.length → (jt ws s i).length ≤ (m + s.length) * i := fun i hi => by
  have := join_le (ws := ws.take i) (s := s) fun w hw => hx w (List.mem_of_mem_take hw)
  unfold jt
  rw [List.length_take, Nat.min_eq_left hi] at this
  exact this
theorem jt_zero (ws : List (List UInt8)) (s : List UInt8) : jt ws s 0 = [] := by simp [jt, join_nil]
theorem jt_all (ws : List (List UInt8)) (s : List UInt8) : jt ws s ws.length = join ws s := by unfold jt; rw [take_all (Nat.le_refl _)]
attribute [local irreducible] jt
def stR (xss : List (List Int)) : List UInt8 := if areRl xss then stx xss else []
def stC (xss : List (List Int)) : Int := if areRl xss then 0 else 1
set_option maxRecDepth 100000 in
theorem implST_ret (xss : List (List Int)) (hn : xss.length ≤ 1048576) (hr : ∀ r ∈ xss, r.length = 6) : Ret Tryz.prog G 12 [RRule xss] (.tup [Sv (stR xss), I (stC xss)]) := by
  refine ret_of_body hT Tryz.func12 rfl ?_ rfl
  by_cases ha : areRl xss
  · have hi := implText_ret xss hr ha
    rw [show stR xss = stx xss from if_pos ha, show stC xss = 0 from if_pos ha]
    repeat' ((first | (conv => whnf) | skip); (first | ((with_reducible intro h); first | contradiction | omega | (conv => whnf) | skip) | (with_reducible refine And.intro ?_ ?_) | ((with_reducible show arithK _ _ _); refine arith_ok ⟨by omega, by omega⟩ ?_) | ((with_reducible show quoK _ _ _ _); refine quo_ok ⟨by omega, by omega⟩ (by omega) (by omega) ?_) | ((with_reducible show remK _ _ _ _); refine rem_ok (by omega) (by omega) ?_) | ((first | (with_reducible show CallA _ _ _ _ _ _) | (with_reducible show CallQ _ _ _ _ _ _)); first | (refine Ret.goP (implAre_ret xss (by omega)) rfl ?_) | (refine Ret.goQP (implAre_ret xss (by omega)) rfl ?_) | (refine Ret.go (hi) rfl rfl ?_) | (refine Ret.goQ (hi) rfl rfl ?_)) | ((with_reducible show DrawA _ _ _ _ _ _); first | (refine draw_hard hT mixed (by decide +kernel) ?_))))
    all_goals first | rfl | omega | contradiction | trace_state
  · rw [show stR xss = [] from if_neg ha, show stC xss = 1 from if_neg ha]
    repeat' ((first | (conv => whnf) | skip); (first | ((with_reducible intro h); first | contradiction | omega | (conv => whnf) | skip) | (with_reducible refine And.intro ?_ ?_) | ((with_reducible show arithK _ _ _); refine arith_ok ⟨by omega, by omega⟩ ?_) | ((with_reducible show quoK _ _ _ _); refine quo_ok ⟨by omega, by omega⟩ (by omega) (by omega) ?_) | ((with_reducible show remK _ _ _ _); refine rem_ok (by omega) (by omega) ?_) | ((first | (with_reducible show CallA _ _ _ _ _ _) | (with_reducible show CallQ _ _ _ _ _ _)); first | (refine Ret.goP (implAre_ret xss (by omega)) rfl ?_) | (refine Ret.goQP (implAre_ret xss (by omega)) rfl ?_)) | ((with_reducible show DrawA _ _ _ _ _ _); first | (refine draw_hard hT mixed (by decide +kernel) ?_))))
    all_goals first | rfl | omega | contradiction | trace_state
set_option maxHeartbeats 1000000 in
set_option maxRecDepth 100000 in
theorem specST_ret (xss : List (List Int)) (hn : xss.length ≤ 1048576) (hr : ∀ r ∈ xss, r.length = 6) : Ret Tryz.prog G 13 [RRule xss] (.tup [Sv (stR xss), I (stC xss)]) := by
  refine ret_of_body hT Tryz.func13 rfl ?_ rfl
  by_cases ha : areRl xss
  · rw [show stR xss = stx xss from if_pos ha, show stC xss = 0 from if_pos ha]
    have h20 := ha.2.2
    have hml : (xss.map rt).length = xss.length := List.length_map _
    have hmr : ∀ w ∈ xss.map rt, w.length ≤ 174 := fun w hw => by
      obtain ⟨r, hr1, rfl⟩ := List.mem_map.1 hw
      exact rt_len (hr r hr1) (ha.1 r hr1)
    repeat' ((first | (conv => whnf) | skip); (first | ((with_reducible intro h); first | contradiction | omega | (conv => whnf) | skip) | (with_reducible refine And.intro ?_ ?_) | ((with_reducible show arithK _ _ _); refine arith_ok ⟨by omega, by omega⟩ ?_) | ((with_reducible show quoK _ _ _ _); refine quo_ok ⟨by omega, by omega⟩ (by omega) (by omega) ?_) | ((with_reducible show remK _ _ _ _); refine rem_ok (by omega) (by omega) ?_) | ((first | (with_reducible show CallA _ _ _ _ _ _) | (with_reducible show CallQ _ _ _ _ _ _)); first | (refine Ret.goP (specAre_ret xss (by omega)) rfl ?_) | (refine Ret.goQP (specAre_ret xss (by omega)) rfl ?_)) | ((with_reducible show DrawA _ _ _ _ _ _); first | (refine draw_hard hT mixed (by decide +kernel) ?_))))
    all_goals first | rfl | omega | contradiction | skip
    (conv => whnf)
    refine loop_rule hT (fun i : Nat => i ≤ xss.length) 41 0 [0, 4, 5] (fun i => [RRule xss, Sv (jt (xss.map rt) [59] i), I i]) (fun _ => []) (fun i => xss.length - i) (0) (Nat.le_of_ble_eq_true rfl) ?_ ?_ ?_
    · exact Nat.zero_le _
    · first | (refine ⟨rfl, [], ?_, ?_⟩; all_goals (repeat' (first | exact rfl | exact trivial | (with_reducible assumption) | refine And.intro ?_ ?_)); all_goals (first | omega | assumption | ((repeat' (first | (rw [jt_zero]; rfl) | exact rfl | exact trivial | (with_reducible assumption) | refine And.intro ?_ ?_ | omega | assumption)); done)); done) | trace_state
    · intro i h1
      by_cases hi : i < xss.length
      · have hm : xss.getD i [] ∈ xss := getD_mem hi
        have hok := rowL_ok (hr _ hm) (ha.at hi)
        have hj := l01Join_ret (xss.getD ((i : Int)).toNat []) [44] (by show (xss.getD i []).length ≤ _; rw [hr _ hm]; decide) hok (by decide)
        have hj : Ret Tryz.prog G 49 [Ri [(xss.getD ((i : Int)).toNat []).getD 0 0, (xss.getD ((i : Int)).toNat []).getD 1 0, (xss.getD ((i : Int)).toNat []).getD 2 0, (xss.getD ((i : Int)).toNat []).getD 3 0, (xss.getD ((i : Int)).toNat []).getD 4 0, (xss.getD ((i : Int)).toNat []).getD 5 0], Sv [44]] (Sv (rt (xss.getD ((i : Int)).toNat []))) := by
          rw [etaRule (hr (xss.getD ((i : Int)).toNat []) hm)]
          exact hj
        have hl := jt_len (s := [59]) hmr i (by omega)
        have hl0 : (174 + [(59 : UInt8)].length) * i ≤ 175 * i := Nat.le_refl _
        have hl1 := B_size (jt (xss.map rt) [59] i)
        have hl4 : (B (rt (xss.getD ((i : Int)).toNat []))).size ≤ 174 := rt_len (hr _ hm) (ha.at hi)
        have hl5 : (B (jt (xss.map rt) [59] i) ++ B [59]).size = (jt (xss.map rt) [59] i).length + 1 := by rw [B_app, B_size, List.length_append]; rfl
        have hge : (xss.map rt).getD i [] = rt (xss.getD i []) := by
          rw [List.getD_eq_getElem?_getD, List.getElem?_map, List.getD_eq_getElem?_getD, List.getElem?_eq_getElem hi]; rfl
        by_cases h0 : 0 < i
        · have hj2 := jt_next (s := [59]) (ws := xss.map rt) h0 (by omega)
          rw [hge] at hj2
          repeat' ((first | (conv => whnf) | skip); (first | ((with_reducible intro h); first | contradiction | omega | (conv => whnf) | skip) | (with_reducible refine And.intro ?_ ?_) | ((with_reducible show arithK _ _ _); refine arith_ok ⟨by omega, by omega⟩ ?_) | ((with_reducible show quoK _ _ _ _); refine quo_ok ⟨by omega, by omega⟩ (by omega) (by omega) ?_) | ((with_reducible show remK _ _ _ _); refine rem_ok (by omega) (by omega) ?_) | ((first | (with_reducible show CallA _ _ _ _ _ _) | (with_reducible show CallQ _ _ _ _ _ _)); first | (refine Ret.use (hj) (by first | ((repeat' (first | exact rfl | exact trivial | (with_reducible assumption) | refine And.intro ?_ ?_ | omega | assumption)); done) | fail) ?_) | (refine Ret.useQ (hj) (by first | ((repeat' (first | exact rfl | exact trivial | (with_reducible assumption) | refine And.intro ?_ ?_ | omega | assumption)); done) | fail) rfl ?_)) | ((with_reducible show DrawA _ _ _ _ _ _); first | (refine draw_hard hT mixed (by decide +kernel) ?_))))
          all_goals first | rfl | omega | (show _ < xss.length; omega) | (show (B (jt (xss.map rt) [59] i)).size + (B [59]).size ≤ _; rw [show (B [59]).size = 1 from rfl]; omega) | (show (B (jt (xss.map rt) [59] i) ++ B [59]).size + (B (rt (xss.getD ((i : Int)).toNat []))).size ≤ _; omega) | skip
          all_goals ((conv => whnf); first | (refine ⟨i + 1, by omega, ?_, by omega⟩; (refine ⟨rfl, [], ?_, ?_⟩; all_goals (repeat' (first | exact rfl | exact trivial | (with_reducible assumption) | refine And.intro ?_ ?_)); all_goals (first | omega | assumption | ((repeat' (first | ((conv => whnf); rw [hj2, ← B_app, ← B_app]; rfl) | exact rfl | exact trivial | (with_reducible assumption) | refine And.intro ?_ ?_ | omega | assumption)); done)); done)) | trace_state)
        · obtain rfl : i = 0 := by omega
          have hj2 := jt_one (s := [59]) (ws := xss.map rt) (by omega)
          rw [hge] at hj2
          repeat' ((first | (conv => whnf) | skip); (first | ((with_reducible intro h); first | contradiction | omega | (conv => whnf) | skip) | (with_reducible refine And.intro ?_ ?_) | ((with_reducible show arithK _ _ _); refine arith_ok ⟨by omega, by omega⟩ ?_) | ((with_reducible show quoK _ _ _ _); refine quo_ok ⟨by omega, by omega⟩ (by omega) (by omega) ?_) | ((with_reducible show remK _ _ _ _); refine rem_ok (by omega) (by omega) ?_) | ((first | (with_reducible show CallA _ _ _ _ _ _) | (with_reducible show CallQ _ _ _ _ _ _)); first | (refine Ret.use (hj) (by first | ((repeat' (first | exact rfl | exact trivial | (with_reducible assumption) | refine And.intro ?_ ?_ | omega | assumption)); done) | fail) ?_) | (refine Ret.useQ (hj) (by first | ((repeat' (first | exact rfl | exact trivial | (with_reducible assumption) | refine And.intro ?_ ?_ | omega | assumption)); done) | fail) rfl ?_)) | ((with_reducible show DrawA _ _ _ _ _ _); first | (refine draw_hard hT mixed (by decide +kernel) ?_))))
          all_goals first | rfl | omega | (show _ < xss.length; omega) | (show (B (jt (xss.map rt) [59] 0)).size + (B (rt (xss.getD ((0 : Nat) : Int).toNat []))).size ≤ _; omega) | skip
          all_goals ((conv => whnf); first | (refine ⟨0 + 1, by omega, ?_, by omega⟩; (refine ⟨rfl, [], ?_, ?_⟩; all_goals (repeat' (first | exact rfl | exact trivial | (with_reducible assumption) | refine And.intro ?_ ?_)); all_goals (first | omega | assumption | ((repeat' (first | (rw [show 0 + 1 = 1 from rfl, hj2, jt_zero, B_app]; rfl) | exact rfl | exact trivial | (with_reducible assumption) | refine And.intro ?_ ?_ | omega | assumption)); done)); done)) | trace_state)
      · obtain rfl : i = xss.length := by omega
        have hja := jt_all (xss.map rt) [59]
        rw [hml] at hja
        rw [hja]
        repeat' ((first | (conv => whnf) | skip); (first | ((with_reducible intro h); first | contradiction | omega | (conv => whnf) | skip) | (with_reducible refine And.intro ?_ ?_) | ((with_reducible show arithK _ _ _); refine arith_ok ⟨by omega, by omega⟩ ?_) | ((with_reducible show quoK _ _ _ _); refine quo_ok ⟨by omega, by omega⟩ (by omega) (by omega) ?_) | ((with_reducible show remK _ _ _ _); refine rem_ok (by omega) (by omega) ?_) | ((first | (with_reducible show CallA _ _ _ _ _ _) | (with_reducible show CallQ _ _ _ _ _ _)); first | fail) | ((with_reducible show DrawA _ _ _ _ _ _); first | (refine draw_hard hT mixed (by decide +kernel) ?_))))
        all_goals first | rfl | omega | trace_state
  · rw [show stR xss = [] from if_neg ha, show stC xss = 1 from if_neg ha]
    repeat' ((first | (conv => whnf) | skip); (first | ((with_reducible intro h); first | contradiction | omega | (conv => whnf) | skip) | (with_reducible refine And.intro ?_ ?_) | ((with_reducible show arithK _ _ _); refine arith_ok ⟨by omega, by omega⟩ ?_) | ((with_reducible show quoK _ _ _ _); refine quo_ok ⟨by omega, by omega⟩ (by omega) (by omega) ?_) | ((with_reducible show remK _ _ _ _); refine rem_ok (by omega) (by omega) ?_) | ((first | (with_reducible show CallA _ _ _ _ _ _) | (with_reducible show CallQ _ _ _ _ _ _)); first | (refine Ret.goP (specAre_ret xss (by omega)) rfl ?_) | (refine Ret.goQP (specAre_ret xss (by omega)) rfl ?_)) | ((with_reducible show DrawA _ _ _ _ _ _); first | (refine draw_hard hT mixed (by decide +kernel) ?_))))
    all_goals first | rfl | omega | contradiction | trace_state
attribute [local irreducible] stR stC
end Go.Proofs.YtgpgnhadmckmhaaGreatDoor
