/-
  Numbers joined and the text of statutes: what the functions return. No conditions but those in the statements.
-/
import Derived.Test.YtgpgnhadmckmhaaGreatDoorLib
import Derived.Test.YtgpgnhadmckmhaaGreatDoorRua
set_option linter.unusedVariables false
set_option linter.unusedSimpArgs false
namespace Go.Proofs.YtgpgnhadmckmhaaGreatDoor
open Go.AE Go.Lib

attribute [local irreducible] CallA LoopA DrawA CallQ arithK quoK remK eqK
set_option maxRecDepth 100000 in
theorem decimal_ret (n : Int) (h : -9223372036854775808 ≤ n ∧ n ≤ 9223372036854775807) : Ret Tryz.prog G 89 [I n] (Sv (itoa n)) := by
  refine ret_of_body hT Tryz.func89 rfl ?_ rfl
  repeat' ((first | (conv => whnf) | skip); (first | ((with_reducible intro h); first | contradiction | omega | (conv => whnf) | skip) | (with_reducible refine And.intro ?_ ?_) | ((with_reducible show arithK _ _ _); refine arith_ok ⟨by omega, by omega⟩ ?_) | ((with_reducible show quoK _ _ _ _); refine quo_ok ⟨by omega, by omega⟩ (by omega) (by omega) ?_) | ((with_reducible show remK _ _ _ _); refine rem_ok (by omega) (by omega) ?_) | ((first | (with_reducible show CallA _ _ _ _ _ _) | (with_reducible show CallQ _ _ _ _ _ _)); first | (refine Ret.go (formatInt_ret n h) rfl rfl ?_) | (refine Ret.goQ (formatInt_ret n h) rfl rfl ?_)) | ((with_reducible show DrawA _ _ _ _ _ _); first | (refine draw_hard hT mixed (by decide +kernel) ?_))))
  all_goals first | rfl | omega | trace_state
abbrev txts (xs : List Int) : List (List UInt8) := xs.map itoa
theorem txts_snoc {xs : List Int} {i : Nat} (h : i < xs.length) : (txts (xs.take (i + 1))).map B = (txts (xs.take i)).map B ++ [B (itoa (xs.getD i 0))] := by
  rw [take_snoc 0 h, txts, List.map_append, List.map_append]; rfl
theorem join_len {xs : List Int} {s : List UInt8} (hn : xs.length ≤ 1048576) (hx : ∀ x ∈ xs, okI x) (hs : s.length ≤ 8) : (join (xs.map itoa) s).length ≤ 30408704 := by
  have := jn_len hx hs xs.length (Nat.le_refl _)
  rw [jn_all] at this
  omega
set_option maxHeartbeats 1000000 in
set_option maxRecDepth 100000 in
theorem joined_ret (xs : List Int) (hn : xs.length ≤ 1048576) (hx : ∀ x ∈ xs, okI x) : Ret Tryz.prog G 79 [Ri xs] (Sv (join (xs.map itoa) [32])) := by
  have hjl := join_len (s := [32]) hn hx (by decide)
  refine ret_of_body hT Tryz.func79 rfl ?_ rfl
  repeat' ((first | (conv => whnf) | skip); (first | ((with_reducible intro h); first | contradiction | omega | (conv => whnf) | skip) | (with_reducible refine And.intro ?_ ?_) | ((with_reducible show arithK _ _ _); refine arith_ok ⟨by omega, by omega⟩ ?_) | ((with_reducible show quoK _ _ _ _); refine quo_ok ⟨by omega, by omega⟩ (by omega) (by omega) ?_) | ((with_reducible show remK _ _ _ _); refine rem_ok (by omega) (by omega) ?_) | ((first | (with_reducible show CallA _ _ _ _ _ _) | (with_reducible show CallQ _ _ _ _ _ _)); first | fail) | ((with_reducible show DrawA _ _ _ _ _ _); first | (refine draw_hard hT mixed (by decide +kernel) ?_))))
  all_goals first | rfl | omega | skip
  (conv => whnf)
  refine loop_rule hT (fun i : Nat => i ≤ xs.length) 21 1 [0, 3, 7, 8, 9] (fun i => [Ri xs, .sl 1 1 ((txts (xs.take i)).map B).length, Ri xs, I xs.length, I i]) (fun i => [.dead, .data (.strs ((txts (xs.take i)).map B))]) (fun i => xs.length - i) (0) (Nat.le_of_ble_eq_true rfl) ?_ ?_ ?_
  · exact Nat.zero_le _
  · first | (refine ⟨rfl, [some 0], ?_, ?_⟩; all_goals (repeat' (first | exact rfl | exact trivial | (with_reducible assumption) | refine And.intro ?_ ?_)); all_goals (first | omega | assumption); done) | trace_state
  · intro i h1
    have hlen : ((txts (xs.take i)).map B).length = i := by simp; omega
    by_cases hi : i < xs.length
    · have hxi := hx _ (getD_mem (d := (0 : Int)) hi)
      have hsn := txts_snoc hi
      have hd := decimal_ret (xs.getD ((i : Int)).toNat 0) (by have h2 : okI (xs.getD ((i : Int)).toNat 0) := hxi; unfold okI at h2; omega)
      repeat' ((first | (conv => whnf) | skip); (first | ((with_reducible intro h); first | contradiction | omega | (conv => whnf) | skip) | (with_reducible refine And.intro ?_ ?_) | ((with_reducible show arithK _ _ _); refine arith_ok ⟨by omega, by omega⟩ ?_) | ((with_reducible show quoK _ _ _ _); refine quo_ok ⟨by omega, by omega⟩ (by omega) (by omega) ?_) | ((with_reducible show remK _ _ _ _); refine rem_ok (by omega) (by omega) ?_) | ((first | (with_reducible show CallA _ _ _ _ _ _) | (with_reducible show CallQ _ _ _ _ _ _)); first | (refine Ret.go (hd) rfl rfl ?_) | (refine Ret.goQ (hd) rfl rfl ?_)) | ((with_reducible show DrawA _ _ _ _ _ _); first | (refine draw_hard hT mixed (by decide +kernel) ?_))))
      all_goals first | rfl | omega | (show _ < xs.length; omega) | (show (_ : Nat) ≤ _; simp; omega) | skip
      all_goals ((conv => whnf); first | (refine ⟨i + 1, by omega, ?_, by omega⟩; (refine ⟨rfl, [some 3], ?_, ?_⟩; all_goals (repeat' (first | exact rfl | exact trivial | (with_reducible assumption) | refine And.intro ?_ ?_)); all_goals (first | omega | assumption | ((repeat' (first | (rw [hsn]; exact rfl) | exact rfl | exact trivial | (with_reducible assumption) | refine And.intro ?_ ?_ | omega | assumption)); done)); done)) | trace_state)
    · obtain rfl : i = xs.length := by omega
      have hall : xs.take xs.length = xs := take_all (Nat.le_refl _)
      rw [hall]
      have hj := join_ret (txts xs) [32] (by rw [List.length_map]; omega) (show (join (xs.map itoa) [32]).length ≤ _ by omega)
      repeat' ((first | (conv => whnf) | skip); (first | ((with_reducible intro h); first | contradiction | omega | (conv => whnf) | skip) | (with_reducible refine And.intro ?_ ?_) | ((with_reducible show arithK _ _ _); refine arith_ok ⟨by omega, by omega⟩ ?_) | ((with_reducible show quoK _ _ _ _); refine quo_ok ⟨by omega, by omega⟩ (by omega) (by omega) ?_) | ((with_reducible show remK _ _ _ _); refine rem_ok (by omega) (by omega) ?_) | ((first | (with_reducible show CallA _ _ _ _ _ _) | (with_reducible show CallQ _ _ _ _ _ _)); first | (refine Ret.use (hj) (by first | ((repeat' (first | exact rfl | exact trivial | (with_reducible assumption) | refine And.intro ?_ ?_ | omega | assumption)); done) | fail) ?_) | (refine Ret.useQ (hj) (by first | ((repeat' (first | exact rfl | exact trivial | (with_reducible assumption) | refine And.intro ?_ ?_ | omega | assumption)); done) | fail) rfl ?_)) | ((with_reducible show DrawA _ _ _ _ _ _); first | (refine draw_hard hT mixed (by decide +kernel) ?_))))
      all_goals first | rfl | omega | trace_state
/-- The text of a rule. -/
def rt (r : List Int) : List UInt8 := join (r.map itoa) [44]
/-- The text of statutes. -/
def stx (xss : List (List Int)) : List UInt8 := join (xss.map rt) [59]
theorem rowL_len {r : List Int} (h : r.length = 6) : [r.getD 0 0, r.getD 1 0, r.getD 2 0, r.getD 3 0, r.getD 4 0, r.getD 5 0] = r := etaRule h
theorem rowL_ok {r : List Int} (hl : r.length = 6) (h : rowL r) : ∀ x ∈ r, okI x := by
  intro x hx
  obtain ⟨a, b, c, d, e, f, rfl⟩ := lenRule hl
  have h' : rowRl a b c d e f := h
  unfold rowRl at h'
  simp only [List.mem_cons, List.not_mem_nil, or_false] at hx
  unfold okI
  omega
theorem comma_blank {xs : List Int} : replaceAll (join (xs.map itoa) [32]) [32] [44] = join (xs.map itoa) [44] := by
  rw [replaceAll_map (by decide)]
  induction xs with
  | nil => rfl
  | cons x r ih =>
    have hk : (itoa x).map (fun b => if b = 32 then 44 else b) = itoa x := by
      conv => rhs; rw [← List.map_id (itoa x)]
      refine List.map_congr_left fun b hb => if_neg ?_
      rintro rfl
      rcases itoa_bytes hb with h | h
      · exact absurd h (by decide)
      · exact absurd h.1 (by decide)
    cases r with
    | nil => simpa [join_one] using hk
    | cons y r =>
      rw [List.map_cons, List.map_cons, join_cons2, join_cons2, List.map_append, List.map_append, hk]
      rw [List.map_cons] at ih
      rw [ih]
      rfl
theorem rt_len {r : List Int} (hl : r.length = 6) (h : rowL r) : (rt r).length ≤ 174 := by
  have := jn_len (s := [44]) (rowL_ok hl h) (by decide) r.length (Nat.le_refl _)
  rw [jn_all] at this
  unfold rt
  omega
theorem join_le {ws : List (List UInt8)} {s : List UInt8} {m : Nat} (h : ∀ w ∈ ws, w.length ≤ m) : (join ws s).length ≤ (m + s.length) * ws.length := by
  induction ws with
  | nil => simp [join_nil]
  | cons x r ih =>
    have hx := h x (by simp)
    have hr := ih fun w hw => h w (by simp [hw])
    cases r with
    | nil => rw [join_one]; simp; omega
    | cons y r =>
      rw [join_cons2, List.length_append, List.length_append, List.length_cons, Nat.mul_succ]
      omega
theorem stx_len {xss : List (List Int)} (hr : ∀ r ∈ xss, r.length = 6) (h : areRl xss) : (stx xss).length ≤ 3500 := by
  have : (stx xss).length ≤ (174 + [(59 : UInt8)].length) * (xss.map rt).length := join_le fun w hw => by
    obtain ⟨r, hr1, rfl⟩ := List.mem_map.1 hw
    exact rt_len (hr r hr1) (h.1 r hr1)
  rw [List.length_map] at this
  have := h.2.2
  simp at *
  omega
theorem rts_snoc {xss : List (List Int)} {i : Nat} (h : i < xss.length) : ((xss.take (i + 1)).map rt).map B = ((xss.take i).map rt).map B ++ [B (rt (xss.getD i []))] := by
  rw [take_snoc [] h, List.map_append, List.map_append]; rfl
set_option maxHeartbeats 1000000 in
set_option maxRecDepth 100000 in
theorem implText_ret (xss : List (List Int)) (hr : ∀ r ∈ xss, r.length = 6) (ha : areRl xss) : Ret Tryz.prog G 48 [RRule xss] (Sv (stx xss)) := by
  have hall := stx_len hr ha
  have h20 := ha.2.2
  refine ret_of_body hT Tryz.func48 rfl ?_ rfl
  repeat' ((first | (conv => whnf) | skip); (first | ((with_reducible intro h); first | contradiction | omega | (conv => whnf) | skip) | (with_reducible refine And.intro ?_ ?_) | ((with_reducible show arithK _ _ _); refine arith_ok ⟨by omega, by omega⟩ ?_) | ((with_reducible show quoK _ _ _ _); refine quo_ok ⟨by omega, by omega⟩ (by omega) (by omega) ?_) | ((with_reducible show remK _ _ _ _); refine rem_ok (by omega) (by omega) ?_) | ((first | (with_reducible show CallA _ _ _ _ _ _) | (with_reducible show CallQ _ _ _ _ _ _)); first | fail) | ((with_reducible show DrawA _ _ _ _ _ _); first | (refine draw_hard hT mixed (by decide +kernel) ?_))))
  all_goals first | rfl | omega | skip
  (conv => whnf)
  refine loop_rule hT (fun i : Nat => i ≤ xss.length) 34 1 [0, 3, 7, 8, 9] (fun i => [RRule xss, .sl 1 1 (((xss.take i).map rt).map B).length, RRule xss, I xss.length, I i]) (fun i => [.dead, .data (.strs (((xss.take i).map rt).map B))]) (fun i => xss.length - i) (0) (Nat.le_of_ble_eq_true rfl) ?_ ?_ ?_
  · exact Nat.zero_le _
  · first | (refine ⟨rfl, [some 0], ?_, ?_⟩; all_goals (repeat' (first | exact rfl | exact trivial | (with_reducible assumption) | refine And.intro ?_ ?_)); all_goals (first | omega | assumption); done) | trace_state
  · intro i h1
    have hlen : (((xss.take i).map rt).map B).length = i := by simp; omega
    by_cases hi : i < xss.length
    · have hm : xss.getD i [] ∈ xss := getD_mem hi
      have hsn := rts_snoc hi
      have hok := rowL_ok (hr _ hm) (ha.at hi)
      have hj := joined_ret (xss.getD ((i : Int)).toNat []) (by show (xss.getD i []).length ≤ _; rw [hr _ hm]; decide) hok
      have hj : Ret Tryz.prog G 79 [Ri [(xss.getD ((i : Int)).toNat []).getD 0 0, (xss.getD ((i : Int)).toNat []).getD 1 0, (xss.getD ((i : Int)).toNat []).getD 2 0, (xss.getD ((i : Int)).toNat []).getD 3 0, (xss.getD ((i : Int)).toNat []).getD 4 0, (xss.getD ((i : Int)).toNat []).getD 5 0]] (Sv (join ((xss.getD ((i : Int)).toNat []).map itoa) [32])) := by
        rw [etaRule (hr (xss.getD ((i : Int)).toNat []) hm)]
        exact hj
      have hrl := replaceAll_ret (join ((xss.getD ((i : Int)).toNat []).map itoa) [32]) 32 44 (by have := join_len (s := [32]) (xs := xss.getD ((i : Int)).toNat []) (by show (xss.getD i []).length ≤ _; rw [hr _ hm]; decide) hok (by decide); omega)
      rw [comma_blank] at hrl
      repeat' ((first | (conv => whnf) | skip); (first | ((with_reducible intro h); first | contradiction | omega | (conv => whnf) | skip) | (with_reducible refine And.intro ?_ ?_) | ((with_reducible show arithK _ _ _); refine arith_ok ⟨by omega, by omega⟩ ?_) | ((with_reducible show quoK _ _ _ _); refine quo_ok ⟨by omega, by omega⟩ (by omega) (by omega) ?_) | ((with_reducible show remK _ _ _ _); refine rem_ok (by omega) (by omega) ?_) | ((first | (with_reducible show CallA _ _ _ _ _ _) | (with_reducible show CallQ _ _ _ _ _ _)); first | (refine Ret.use (hj) (by first | ((repeat' (first | exact rfl | exact trivial | (with_reducible assumption) | refine And.intro ?_ ?_ | omega | assumption)); done) | fail) ?_) | (refine Ret.useQ (hj) (by first | ((repeat' (first | exact rfl | exact trivial | (with_reducible assumption) | refine And.intro ?_ ?_ | omega | assumption)); done) | fail) rfl ?_) | (refine Ret.go (hrl) rfl rfl ?_) | (refine Ret.goQ (hrl) rfl rfl ?_)) | ((with_reducible show DrawA _ _ _ _ _ _); first | (refine draw_hard hT mixed (by decide +kernel) ?_))))
      all_goals first | rfl | omega | (show _ < xss.length; omega) | (show (_ : Nat) ≤ _; simp; omega) | skip
      all_goals ((conv => whnf); first | (refine ⟨i + 1, by omega, ?_, by omega⟩; (refine ⟨rfl, [some 5], ?_, ?_⟩; all_goals (repeat' (first | exact rfl | exact trivial | (with_reducible assumption) | refine And.intro ?_ ?_)); all_goals (first | omega | assumption | ((repeat' (first | (rw [hsn]; exact rfl) | exact rfl | exact trivial | (with_reducible assumption) | refine And.intro ?_ ?_ | omega | assumption)); done)); done)) | trace_state)
    · obtain rfl : i = xss.length := by omega
      have hal : xss.take xss.length = xss := take_all (Nat.le_refl _)
      rw [hal]
      have hj := join_ret (xss.map rt) [59] (by rw [List.length_map]; omega) (show (stx xss).length ≤ _ by omega)
      repeat' ((first | (conv => whnf) | skip); (first | ((with_reducible intro h); first | contradiction | omega | (conv => whnf) | skip) | (with_reducible refine And.intro ?_ ?_) | ((with_reducible show arithK _ _ _); refine arith_ok ⟨by omega, by omega⟩ ?_) | ((with_reducible show quoK _ _ _ _); refine quo_ok ⟨by omega, by omega⟩ (by omega) (by omega) ?_) | ((with_reducible show remK _ _ _ _); refine rem_ok (by omega) (by omega) ?_) | ((first | (with_reducible show CallA _ _ _ _ _ _) | (with_reducible show CallQ _ _ _ _ _ _)); first | (refine Ret.use (hj) (by first | ((repeat' (first | exact rfl | exact trivial | (with_reducible assumption) | refine And.intro ?_ ?_ | omega | assumption)); done) | fail) ?_) | (refine Ret.useQ (hj) (by first | ((repeat' (first | exact rfl | exact trivial | (with_reducible assumption) | refine And.intro ?_ ?_ | omega | assumption)); done) | fail) rfl ?_)) | ((with_reducible show DrawA _ _ _ _ _ _); first | (refine draw_hard hT mixed (by decide +kernel) ?_))))
      all_goals first | rfl | omega | trace_state
end Go.Proofs.YtgpgnhadmckmhaaGreatDoor
