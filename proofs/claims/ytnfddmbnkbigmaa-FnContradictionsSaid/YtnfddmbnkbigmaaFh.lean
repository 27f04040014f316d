/-
  Which rule decides a case; the first contradiction: what the functions return. No conditions but those in the statements.
-/
import Derived.Test.YtnfddmbnkbigmaaFg
set_option linter.unusedVariables false
set_option linter.unusedSimpArgs false
namespace Go.Proofs.Ytnfddmbnkbigmaa
open Go.AE

attribute [local irreducible] CallA LoopA DrawA CallQ arithK quoK remK eqK
/-! ### Cases decided -/
def inC (a y k : Int) : Prop := (0 ≤ a ∧ a ≤ 150) ∧ (0 ≤ y ∧ y ≤ 99) ∧ (0 ≤ k ∧ k ≤ 3)
instance (a y k : Int) : Decidable (inC a y k) := by unfold inC; infer_instance
def dcC (xss : List (List Int)) (a y k : Int) : Int := if areRl xss then (if inC a y k then (if fst xss a y k < 0 then 4 else 0) else 2) else 1
def dcI (xss : List (List Int)) (a y k : Int) : Int := if dcC xss a y k = 0 then fst xss a y k else 0
def dcO (xss : List (List Int)) (a y k : Int) : Int := if dcC xss a y k = 0 then outAt xss (fst xss a y k) else 0
abbrev dcT (xss : List (List Int)) (a y k : Int) : AV := .tup [I (dcI xss a y k), I (dcO xss a y k), I (dcC xss a y k)]
theorem dcT_no1 {xss : List (List Int)} {a y k : Int} (h : ¬ areRl xss) : dcT xss a y k = .tup [I 0, I 0, I 1] := by
  have hc : dcC xss a y k = 1 := if_neg h
  unfold dcT dcI dcO
  rw [hc, if_neg (by decide), if_neg (by decide)]
theorem dcT_no2 {xss : List (List Int)} {a y k : Int} (h : areRl xss) (h2 : ¬ inC a y k) : dcT xss a y k = .tup [I 0, I 0, I 2] := by
  have hc : dcC xss a y k = 2 := by unfold dcC; rw [if_pos h, if_neg h2]
  unfold dcT dcI dcO
  rw [hc, if_neg (by decide), if_neg (by decide)]
theorem dcT_no4 {xss : List (List Int)} {a y k : Int} (h : areRl xss) (h2 : inC a y k) (h3 : fst xss a y k < 0) : dcT xss a y k = .tup [I 0, I 0, I 4] := by
  have hc : dcC xss a y k = 4 := by unfold dcC; rw [if_pos h, if_pos h2, if_pos h3]
  unfold dcT dcI dcO
  rw [hc, if_neg (by decide), if_neg (by decide)]
theorem dcT_yes {xss : List (List Int)} {a y k : Int} (h : areRl xss) (h2 : inC a y k) (h3 : ¬ fst xss a y k < 0) : dcT xss a y k = .tup [I (fst xss a y k), I (outAt xss (fst xss a y k)), I 0] := by
  have hc : dcC xss a y k = 0 := by unfold dcC; rw [if_pos h, if_pos h2, if_neg h3]
  unfold dcT dcI dcO
  rw [hc, if_pos rfl, if_pos rfl]
attribute [local irreducible] fst
set_option maxRecDepth 100000 in
theorem implDecide_ret (xss : List (List Int)) (a y k : Int) (hn : xss.length ≤ 1048576) : Ret Try.prog G 26 [RRule xss, VCase a y k] (dcT xss a y k) := by
  refine ret_of_body hT Try.func26 rfl ?_ rfl
  by_cases ha : areRl xss
  · by_cases hi : inC a y k
    · have hfi := fst_in xss a y k
      have hl := ha.2.2
      by_cases h0 : fst xss a y k < 0
      · rw [dcT_no4 ha hi h0]
        obtain ⟨i1, i2, i3⟩ := hi
        repeat' (first | (intro h; first | contradiction | omega | (conv => whnf) | skip) | (refine And.intro ?_ ?_) | (refine arith_ok ⟨by omega, by omega⟩ ?_) | (first | (refine draw_quiet hT mixed (by decide +kernel) ?_) | (refine draw_hard hT mixed (by decide +kernel) ?_)) | (refine Ret.goP (implAre_ret xss (by omega)) rfl ?_) | (refine Ret.goQP (implAre_ret xss (by omega)) rfl ?_) | (refine Ret.goP (inRange_ret _ _ _) rfl ?_) | (refine Ret.goQP (inRange_ret _ _ _) rfl ?_) | (refine Ret.go (decides_ret xss a y k ha i3) rfl rfl ?_) | (refine Ret.goQ (decides_ret xss a y k ha i3) rfl rfl ?_))
        all_goals first | rfl | omega | trace_state
      · rw [dcT_yes ha hi h0]
        obtain ⟨i1, i2, i3⟩ := hi
        repeat' (first | (intro h; first | contradiction | omega | (conv => whnf) | skip) | (refine And.intro ?_ ?_) | (refine arith_ok ⟨by omega, by omega⟩ ?_) | (first | (refine draw_quiet hT mixed (by decide +kernel) ?_) | (refine draw_hard hT mixed (by decide +kernel) ?_)) | (refine Ret.goP (implAre_ret xss (by omega)) rfl ?_) | (refine Ret.goQP (implAre_ret xss (by omega)) rfl ?_) | (refine Ret.goP (inRange_ret _ _ _) rfl ?_) | (refine Ret.goQP (inRange_ret _ _ _) rfl ?_) | (refine Ret.go (decides_ret xss a y k ha i3) rfl rfl ?_) | (refine Ret.goQ (decides_ret xss a y k ha i3) rfl rfl ?_))
        all_goals first | rfl | omega | trace_state
    · rw [dcT_no2 ha hi]
      unfold inC at hi
      repeat' (first | (intro h; first | contradiction | omega | (conv => whnf) | skip) | (refine And.intro ?_ ?_) | (refine arith_ok ⟨by omega, by omega⟩ ?_) | (first | (refine draw_quiet hT mixed (by decide +kernel) ?_) | (refine draw_hard hT mixed (by decide +kernel) ?_)) | (refine Ret.goP (implAre_ret xss (by omega)) rfl ?_) | (refine Ret.goQP (implAre_ret xss (by omega)) rfl ?_) | (refine Ret.goP (inRange_ret _ _ _) rfl ?_) | (refine Ret.goQP (inRange_ret _ _ _) rfl ?_))
      all_goals first | rfl | omega | exact absurd ⟨by assumption, by assumption, by assumption⟩ hi | trace_state
  · rw [dcT_no1 ha]
    repeat' (first | (intro h; first | contradiction | omega | (conv => whnf) | skip) | (refine And.intro ?_ ?_) | (refine arith_ok ⟨by omega, by omega⟩ ?_) | (first | (refine draw_quiet hT mixed (by decide +kernel) ?_) | (refine draw_hard hT mixed (by decide +kernel) ?_)) | (refine Ret.goP (implAre_ret xss (by omega)) rfl ?_) | (refine Ret.goQP (implAre_ret xss (by omega)) rfl ?_) | (refine Ret.goP (inRange_ret _ _ _) rfl ?_) | (refine Ret.goQP (inRange_ret _ _ _) rfl ?_))
    all_goals first | rfl | omega | trace_state
set_option maxRecDepth 100000 in
theorem specDecide_ret (xss : List (List Int)) (a y k : Int) (hn : xss.length ≤ 1048576) : Ret Try.prog G 27 [RRule xss, VCase a y k] (dcT xss a y k) := by
  refine ret_of_body hT Try.func27 rfl ?_ rfl
  by_cases ha : areRl xss
  · by_cases hi : inC a y k
    · have hfi := fst_in xss a y k
      have hl := ha.2.2
      by_cases h0 : fst xss a y k < 0
      · rw [dcT_no4 ha hi h0]
        obtain ⟨i1, i2, i3⟩ := hi
        repeat' (first | (intro h; first | contradiction | omega | (conv => whnf) | skip) | (refine And.intro ?_ ?_) | (refine arith_ok ⟨by omega, by omega⟩ ?_) | (first | (refine draw_quiet hT mixed (by decide +kernel) ?_) | (refine draw_hard hT mixed (by decide +kernel) ?_)) | (refine Ret.goP (specAre_ret xss (by omega)) rfl ?_) | (refine Ret.goQP (specAre_ret xss (by omega)) rfl ?_) | (refine Ret.goP (l01In_ret _ _ _) rfl ?_) | (refine Ret.goQP (l01In_ret _ _ _) rfl ?_) | (refine Ret.go (l23First_ret xss a y k ha i3) rfl rfl ?_) | (refine Ret.goQ (l23First_ret xss a y k ha i3) rfl rfl ?_))
        all_goals first | rfl | omega | trace_state
      · rw [dcT_yes ha hi h0]
        obtain ⟨i1, i2, i3⟩ := hi
        repeat' (first | (intro h; first | contradiction | omega | (conv => whnf) | skip) | (refine And.intro ?_ ?_) | (refine arith_ok ⟨by omega, by omega⟩ ?_) | (first | (refine draw_quiet hT mixed (by decide +kernel) ?_) | (refine draw_hard hT mixed (by decide +kernel) ?_)) | (refine Ret.goP (specAre_ret xss (by omega)) rfl ?_) | (refine Ret.goQP (specAre_ret xss (by omega)) rfl ?_) | (refine Ret.goP (l01In_ret _ _ _) rfl ?_) | (refine Ret.goQP (l01In_ret _ _ _) rfl ?_) | (refine Ret.go (l23First_ret xss a y k ha i3) rfl rfl ?_) | (refine Ret.goQ (l23First_ret xss a y k ha i3) rfl rfl ?_))
        all_goals first | rfl | omega | trace_state
    · rw [dcT_no2 ha hi]
      unfold inC at hi
      repeat' (first | (intro h; first | contradiction | omega | (conv => whnf) | skip) | (refine And.intro ?_ ?_) | (refine arith_ok ⟨by omega, by omega⟩ ?_) | (first | (refine draw_quiet hT mixed (by decide +kernel) ?_) | (refine draw_hard hT mixed (by decide +kernel) ?_)) | (refine Ret.goP (specAre_ret xss (by omega)) rfl ?_) | (refine Ret.goQP (specAre_ret xss (by omega)) rfl ?_) | (refine Ret.goP (l01In_ret _ _ _) rfl ?_) | (refine Ret.goQP (l01In_ret _ _ _) rfl ?_))
      all_goals first | rfl | omega | exact absurd ⟨by assumption, by assumption, by assumption⟩ hi | trace_state
  · rw [dcT_no1 ha]
    repeat' (first | (intro h; first | contradiction | omega | (conv => whnf) | skip) | (refine And.intro ?_ ?_) | (refine arith_ok ⟨by omega, by omega⟩ ?_) | (first | (refine draw_quiet hT mixed (by decide +kernel) ?_) | (refine draw_hard hT mixed (by decide +kernel) ?_)) | (refine Ret.goP (specAre_ret xss (by omega)) rfl ?_) | (refine Ret.goQP (specAre_ret xss (by omega)) rfl ?_) | (refine Ret.goP (l01In_ret _ _ _) rfl ?_) | (refine Ret.goQP (l01In_ret _ _ _) rfl ?_))
    all_goals first | rfl | omega | trace_state
/-! ### The first contradiction -/
def conP (xss : List (List Int)) (i j : Nat) : Prop := i < j ∧ j < xss.length ∧ comOk (xss.getD i []) (xss.getD j []) ∧ (xss.getD i []).getD 5 0 ≠ (xss.getD j []).getD 5 0
instance (xss : List (List Int)) (i j : Nat) : Decidable (conP xss i j) := by unfold conP; infer_instance
def conQ (xss : List (List Int)) (m : Nat) : Bool := decide (conP xss (m / 20) (m % 20))
/-- The number 20 i + j of the first pair that contradicts itself, or 400. -/
def fcM (xss : List (List Int)) : Nat := firstOf (conQ xss) (List.range 400)
theorem fcM_eq {xss : List (List Int)} {n : Nat} (h1 : n ≤ 400) (h2 : ∀ m, m < n → conQ xss m = false) (h3 : n < 400 → conQ xss n = true) : fcM xss = n := by
  have hr : ∀ j, j < 400 → (List.range 400).getD j 0 = j := fun j hj => by
    rw [List.getD_eq_getElem?_getD, List.getElem?_range hj]; rfl
  exact firstOf_eq (p := conQ xss) 0 (l := List.range 400) (i := n) (by rw [List.length_range]; omega)
    (fun j hj => by rw [hr j (by omega)]; exact h2 j hj)
    (fun hk => by rw [List.length_range] at hk; rw [hr n hk]; exact h3 hk)
theorem fcM_spec (xss : List (List Int)) : fcM xss ≤ 400 ∧ (fcM xss < 400 → conP xss (fcM xss / 20) (fcM xss % 20)) := by
  have hle := firstOf_le (conQ xss) (List.range 400)
  rw [List.length_range] at hle
  refine ⟨hle, fun h => ?_⟩
  have := (firstOf_spec (conQ xss) 0 (List.range 400)).2 (by rw [List.length_range]; exact h)
  have hr : (List.range 400).getD (firstOf (conQ xss) (List.range 400)) 0 = fcM xss := by
    rw [List.getD_eq_getElem?_getD, List.getElem?_range (by exact h)]; rfl
  rw [hr] at this
  exact of_decide_eq_true this
attribute [local irreducible] fcM
theorem conQ_at {xss : List (List Int)} {i j : Nat} (hj : j < 20) : conQ xss (i * 20 + j) = decide (conP xss i j) := by
  unfold conQ
  rw [show (i * 20 + j) / 20 = i by omega, show (i * 20 + j) % 20 = j by omega]
theorem con_row {xss : List (List Int)} {i : Nat} (h : ∀ m, m < i * 20 → conQ xss m = false) : ∀ m, m < i * 20 + (i + 1) → conQ xss m = false := fun m hm => by
  by_cases hlt : m < i * 20
  · exact h m hlt
  · unfold conQ
    refine decide_eq_false fun hc => ?_
    have := hc.1
    omega
theorem con_next {xss : List (List Int)} {i j : Nat} (hj : j < 20) (h : ∀ m, m < i * 20 + j → conQ xss m = false) (hn : ¬ conP xss i j) : ∀ m, m < i * 20 + (j + 1) → conQ xss m = false := fun m hm => by
  by_cases he : m = i * 20 + j
  · rw [he, conQ_at hj]; exact decide_eq_false hn
  · exact h m (by omega)
theorem con_end {xss : List (List Int)} {i : Nat} (h : ∀ m, m < i * 20 + xss.length → conQ xss m = false) : ∀ m, m < (i + 1) * 20 → conQ xss m = false := fun m hm => by
  by_cases hlt : m < i * 20 + xss.length
  · exact h m hlt
  · unfold conQ
    refine decide_eq_false fun hc => ?_
    have := hc.2.1
    omega
theorem con_none {xss : List (List Int)} (hl : xss.length ≤ 20) (h : ∀ m, m < xss.length * 20 → conQ xss m = false) : fcM xss = 400 := by
  refine fcM_eq (Nat.le_refl _) (fun m hm => ?_) (fun hx => absurd hx (Nat.lt_irrefl _))
  by_cases hlt : m < xss.length * 20
  · exact h m hlt
  · unfold conQ
    refine decide_eq_false fun hc => ?_
    have h1 := hc.1
    have h2 := hc.2.1
    omega
theorem con_hit {xss : List (List Int)} (hl : xss.length ≤ 20) {i j : Nat} (hj : j < 20) (hi : i < 20) (h : ∀ m, m < i * 20 + j → conQ xss m = false) (hc : conP xss i j) : fcM xss = i * 20 + j :=
  fcM_eq (by omega) h fun _ => by rw [conQ_at hj]; exact decide_eq_true hc
def fcOk (xss : List (List Int)) : Prop := areRl xss ∧ fcM xss < 400
instance (xss : List (List Int)) : Decidable (fcOk xss) := by unfold fcOk; infer_instance
def fcC (xss : List (List Int)) : Int := if areRl xss then (if fcM xss < 400 then 0 else 4) else 1
def fcI (xss : List (List Int)) : Int := if fcOk xss then ((fcM xss / 20 : Nat) : Int) else 0
def fcJ (xss : List (List Int)) : Int := if fcOk xss then ((fcM xss % 20 : Nat) : Int) else 0
def fcX (f : List Int → List Int → Int) (xss : List (List Int)) : Int := if fcOk xss then f (xss.getD (fcM xss / 20) []) (xss.getD (fcM xss % 20) []) else 0
abbrev fcT (xss : List (List Int)) : AV := .tup [I (fcI xss), I (fcJ xss), VCase (fcX cA2 xss) (fcX cY2 xss) (fcX kS xss), I (fcC xss)]
theorem fcT_no1 {xss : List (List Int)} (h : ¬ areRl xss) : fcT xss = .tup [I 0, I 0, VCase 0 0 0, I 1] := by
  have hf : ¬ fcOk xss := fun e => h e.1
  unfold fcT fcI fcJ fcX fcC
  rw [if_neg hf, if_neg hf, if_neg hf, if_neg hf, if_neg hf, if_neg h]
theorem fcT_no4 {xss : List (List Int)} (h : areRl xss) (h2 : fcM xss = 400) : fcT xss = .tup [I 0, I 0, VCase 0 0 0, I 4] := by
  have hf : ¬ fcOk xss := fun e => by have := e.2; omega
  unfold fcT fcI fcJ fcX fcC
  rw [if_neg hf, if_neg hf, if_neg hf, if_neg hf, if_neg hf, if_pos h, if_neg (by omega)]
theorem fcT_yes {xss : List (List Int)} (h : areRl xss) {i j : Nat} (hi : i < 20) (hj : j < 20) (h2 : fcM xss = i * 20 + j) : fcT xss = .tup [I i, I j, VCase (cA2 (xss.getD i []) (xss.getD j [])) (cY2 (xss.getD i []) (xss.getD j [])) (kS (xss.getD i []) (xss.getD j [])), I 0] := by
  have hf : fcOk xss := ⟨h, by omega⟩
  have e1 : fcM xss / 20 = i := by omega
  have e2 : fcM xss % 20 = j := by omega
  unfold fcT fcI fcJ fcX fcC
  rw [if_pos hf, if_pos hf, if_pos hf, if_pos hf, if_pos hf, if_pos h, if_pos hf.2, e1, e2]
attribute [local irreducible] cA2 cY2 kS comOk
set_option maxHeartbeats 4000000 in
set_option maxRecDepth 100000 in
theorem implFc_ret (xss : List (List Int)) (hn : xss.length ≤ 1048576) : Ret Try.prog G 28 [RRule xss] (fcT xss) := by
  refine ret_of_body hT Try.func28 rfl ?_ rfl
  by_cases ha : areRl xss
  · have hl := ha.2.2
    repeat' (first | (intro h; first | contradiction | omega | (conv => whnf) | skip) | (refine And.intro ?_ ?_) | (refine arith_ok ⟨by omega, by omega⟩ ?_) | (first | (refine draw_quiet hT mixed (by decide +kernel) ?_) | (refine draw_hard hT mixed (by decide +kernel) ?_)) | (refine Ret.goP (implAre_ret xss (by omega)) rfl ?_) | (refine Ret.goQP (implAre_ret xss (by omega)) rfl ?_))
    all_goals first | rfl | omega | skip
    refine loop_rule hT (fun i : Nat => i ≤ xss.length ∧ ∀ m, m < i * 20 → conQ xss m = false) 55 1 [0, 4, 15, 16, 17] (fun i => [RRule xss, .ptr 0 0, RRule xss, I xss.length, I i]) (fun _ => [.cells [I 0, I 0, I 0]]) (fun i => xss.length - i) (0) (Nat.le_of_ble_eq_true rfl) ?_ ?_ ?_
    · exact ⟨Nat.zero_le _, fun m hm => absurd hm (by omega)⟩
    · (first | (refine ⟨rfl, [], ?_, ?_⟩; all_goals (repeat' (first | exact rfl | exact trivial | (with_reducible assumption) | refine And.intro ?_ ?_)); all_goals (first | omega | assumption); done) | (refine ⟨rfl, [some 1], ?_, ?_⟩; all_goals (repeat' (first | exact rfl | exact trivial | (with_reducible assumption) | refine And.intro ?_ ?_)); all_goals (first | omega | assumption); done) | (refine ⟨rfl, [some 2], ?_, ?_⟩; all_goals (repeat' (first | exact rfl | exact trivial | (with_reducible assumption) | refine And.intro ?_ ?_)); all_goals (first | omega | assumption); done) | (refine ⟨rfl, [some 3], ?_, ?_⟩; all_goals (repeat' (first | exact rfl | exact trivial | (with_reducible assumption) | refine And.intro ?_ ?_)); all_goals (first | omega | assumption); done) | (refine ⟨rfl, [some 0], ?_, ?_⟩; all_goals (repeat' (first | exact rfl | exact trivial | (with_reducible assumption) | refine And.intro ?_ ?_)); all_goals (first | omega | assumption); done) | (refine ⟨rfl, [some 4], ?_, ?_⟩; all_goals (repeat' (first | exact rfl | exact trivial | (with_reducible assumption) | refine And.intro ?_ ?_)); all_goals (first | omega | assumption); done) | (refine ⟨rfl, [some 5], ?_, ?_⟩; all_goals (repeat' (first | exact rfl | exact trivial | (with_reducible assumption) | refine And.intro ?_ ?_)); all_goals (first | omega | assumption); done) | (refine ⟨rfl, [some 6], ?_, ?_⟩; all_goals (repeat' (first | exact rfl | exact trivial | (with_reducible assumption) | refine And.intro ?_ ?_)); all_goals (first | omega | assumption); done))
    · rintro i ⟨h1, h2⟩
      by_cases hi : i < xss.length
      · have hri : rowL (xss.getD ((i : Int)).toNat []) := ha.at hi
        repeat' (first | (intro h; first | contradiction | omega | (conv => whnf) | skip) | (refine And.intro ?_ ?_) | (refine arith_ok ⟨by omega, by omega⟩ ?_) | (first | (refine draw_quiet hT mixed (by decide +kernel) ?_) | (refine draw_hard hT mixed (by decide +kernel) ?_)) | fail)
        all_goals first | omega | skip
        refine loop_rule hT (fun j : Nat => (i + 1 ≤ j ∧ j ≤ xss.length) ∧ ∀ m, m < i * 20 + j → conQ xss m = false) 55 2 [0, 4, 6, 7, 8, 15, 16, 17] (fun j => [RRule xss, .ptr 0 0, I i, .ptr 1 0, I j, RRule xss, I xss.length, I i]) (fun _ => [.cells [I 0, I 0, I 0], .cells [I ((xss.getD ((i : Int)).toNat []).getD 0 0), I ((xss.getD ((i : Int)).toNat []).getD 1 0), I ((xss.getD ((i : Int)).toNat []).getD 2 0), I ((xss.getD ((i : Int)).toNat []).getD 3 0), I ((xss.getD ((i : Int)).toNat []).getD 4 0), I ((xss.getD ((i : Int)).toNat []).getD 5 0)]]) (fun j => xss.length - j) (i + 1) (Nat.le_of_ble_eq_true rfl) ?_ ?_ ?_
        · exact ⟨⟨Nat.le_refl _, hi⟩, con_row h2⟩
        · (first | (refine ⟨rfl, [], ?_, ?_⟩; all_goals (repeat' (first | exact rfl | exact trivial | (with_reducible assumption) | refine And.intro ?_ ?_)); all_goals (first | omega | assumption); done) | (refine ⟨rfl, [some 1], ?_, ?_⟩; all_goals (repeat' (first | exact rfl | exact trivial | (with_reducible assumption) | refine And.intro ?_ ?_)); all_goals (first | omega | assumption); done) | (refine ⟨rfl, [some 2], ?_, ?_⟩; all_goals (repeat' (first | exact rfl | exact trivial | (with_reducible assumption) | refine And.intro ?_ ?_)); all_goals (first | omega | assumption); done) | (refine ⟨rfl, [some 3], ?_, ?_⟩; all_goals (repeat' (first | exact rfl | exact trivial | (with_reducible assumption) | refine And.intro ?_ ?_)); all_goals (first | omega | assumption); done) | (refine ⟨rfl, [some 0], ?_, ?_⟩; all_goals (repeat' (first | exact rfl | exact trivial | (with_reducible assumption) | refine And.intro ?_ ?_)); all_goals (first | omega | assumption); done) | (refine ⟨rfl, [some 4], ?_, ?_⟩; all_goals (repeat' (first | exact rfl | exact trivial | (with_reducible assumption) | refine And.intro ?_ ?_)); all_goals (first | omega | assumption); done) | (refine ⟨rfl, [some 5], ?_, ?_⟩; all_goals (repeat' (first | exact rfl | exact trivial | (with_reducible assumption) | refine And.intro ?_ ?_)); all_goals (first | omega | assumption); done) | (refine ⟨rfl, [some 6], ?_, ?_⟩; all_goals (repeat' (first | exact rfl | exact trivial | (with_reducible assumption) | refine And.intro ?_ ?_)); all_goals (first | omega | assumption); done))
        · rintro j ⟨⟨h3, h4⟩, h5⟩
          by_cases hj : j < xss.length
          · have hrj : rowL (xss.getD ((j : Int)).toNat []) := ha.at hj
            have hcm := implCommon_ret _ _ hri hrj
            by_cases hco : comOk (xss.getD ((i : Int)).toNat []) (xss.getD ((j : Int)).toNat [])
            · rw [comT_yes hco] at hcm
              by_cases hne : (xss.getD ((i : Int)).toNat []).getD 5 0 ≠ (xss.getD ((j : Int)).toNat []).getD 5 0
              · have hct : conP xss i j := ⟨by omega, hj, hco, hne⟩
                rw [fcT_yes ha (by omega) (by omega) (con_hit hl (by omega) (by omega) h5 hct)]
                repeat' (first | (intro h; first | contradiction | omega | (conv => whnf) | skip) | (refine And.intro ?_ ?_) | (refine arith_ok ⟨by omega, by omega⟩ ?_) | (first | (refine draw_quiet hT mixed (by decide +kernel) ?_) | (refine draw_hard hT mixed (by decide +kernel) ?_)) | (refine Ret.go (hcm) rfl rfl ?_) | (refine Ret.goQ (hcm) rfl rfl ?_))
                all_goals first | omega | exact absurd hne h | skip
                all_goals (try (conv => whnf))
                all_goals rfl
              · repeat' (first | (intro h; first | contradiction | omega | (conv => whnf) | skip) | (refine And.intro ?_ ?_) | (refine arith_ok ⟨by omega, by omega⟩ ?_) | (first | (refine draw_quiet hT mixed (by decide +kernel) ?_) | (refine draw_hard hT mixed (by decide +kernel) ?_)) | (refine Ret.go (hcm) rfl rfl ?_) | (refine Ret.goQ (hcm) rfl rfl ?_))
                all_goals first | omega | exact absurd h hne | skip
                all_goals (refine ⟨j + 1, ⟨⟨by omega, by omega⟩, con_next (by omega) h5 (fun hc => hne hc.2.2.2)⟩, ?_, by omega⟩; (first | (refine ⟨rfl, [], ?_, ?_⟩; all_goals (repeat' (first | exact rfl | exact trivial | (with_reducible assumption) | refine And.intro ?_ ?_)); all_goals (first | omega | assumption); done) | (refine ⟨rfl, [some 1], ?_, ?_⟩; all_goals (repeat' (first | exact rfl | exact trivial | (with_reducible assumption) | refine And.intro ?_ ?_)); all_goals (first | omega | assumption); done) | (refine ⟨rfl, [some 2], ?_, ?_⟩; all_goals (repeat' (first | exact rfl | exact trivial | (with_reducible assumption) | refine And.intro ?_ ?_)); all_goals (first | omega | assumption); done) | (refine ⟨rfl, [some 3], ?_, ?_⟩; all_goals (repeat' (first | exact rfl | exact trivial | (with_reducible assumption) | refine And.intro ?_ ?_)); all_goals (first | omega | assumption); done) | (refine ⟨rfl, [some 0], ?_, ?_⟩; all_goals (repeat' (first | exact rfl | exact trivial | (with_reducible assumption) | refine And.intro ?_ ?_)); all_goals (first | omega | assumption); done) | (refine ⟨rfl, [some 4], ?_, ?_⟩; all_goals (repeat' (first | exact rfl | exact trivial | (with_reducible assumption) | refine And.intro ?_ ?_)); all_goals (first | omega | assumption); done) | (refine ⟨rfl, [some 5], ?_, ?_⟩; all_goals (repeat' (first | exact rfl | exact trivial | (with_reducible assumption) | refine And.intro ?_ ?_)); all_goals (first | omega | assumption); done) | (refine ⟨rfl, [some 6], ?_, ?_⟩; all_goals (repeat' (first | exact rfl | exact trivial | (with_reducible assumption) | refine And.intro ?_ ?_)); all_goals (first | omega | assumption); done)))
            · rw [comT_no hco] at hcm
              repeat' (first | (intro h; first | contradiction | omega | (conv => whnf) | skip) | (refine And.intro ?_ ?_) | (refine arith_ok ⟨by omega, by omega⟩ ?_) | (first | (refine draw_quiet hT mixed (by decide +kernel) ?_) | (refine draw_hard hT mixed (by decide +kernel) ?_)) | (refine Ret.go (hcm) rfl rfl ?_) | (refine Ret.goQ (hcm) rfl rfl ?_))
              all_goals first | omega | skip
              all_goals first
                | (refine ⟨j + 1, ⟨⟨by omega, by omega⟩, con_next (by omega) h5 (fun hc => hco hc.2.2.1)⟩, ?_, by omega⟩; (first | (refine ⟨rfl, [], ?_, ?_⟩; all_goals (repeat' (first | exact rfl | exact trivial | (with_reducible assumption) | refine And.intro ?_ ?_)); all_goals (first | omega | assumption); done) | (refine ⟨rfl, [some 1], ?_, ?_⟩; all_goals (repeat' (first | exact rfl | exact trivial | (with_reducible assumption) | refine And.intro ?_ ?_)); all_goals (first | omega | assumption); done) | (refine ⟨rfl, [some 2], ?_, ?_⟩; all_goals (repeat' (first | exact rfl | exact trivial | (with_reducible assumption) | refine And.intro ?_ ?_)); all_goals (first | omega | assumption); done) | (refine ⟨rfl, [some 3], ?_, ?_⟩; all_goals (repeat' (first | exact rfl | exact trivial | (with_reducible assumption) | refine And.intro ?_ ?_)); all_goals (first | omega | assumption); done) | (refine ⟨rfl, [some 0], ?_, ?_⟩; all_goals (repeat' (first | exact rfl | exact trivial | (with_reducible assumption) | refine And.intro ?_ ?_)); all_goals (first | omega | assumption); done) | (refine ⟨rfl, [some 4], ?_, ?_⟩; all_goals (repeat' (first | exact rfl | exact trivial | (with_reducible assumption) | refine And.intro ?_ ?_)); all_goals (first | omega | assumption); done) | (refine ⟨rfl, [some 5], ?_, ?_⟩; all_goals (repeat' (first | exact rfl | exact trivial | (with_reducible assumption) | refine And.intro ?_ ?_)); all_goals (first | omega | assumption); done) | (refine ⟨rfl, [some 6], ?_, ?_⟩; all_goals (repeat' (first | exact rfl | exact trivial | (with_reducible assumption) | refine And.intro ?_ ?_)); all_goals (first | omega | assumption); done)))
                | trace_state
          · obtain rfl : j = xss.length := by omega
            repeat' (first | (intro h; first | contradiction | omega | (conv => whnf) | skip) | (refine And.intro ?_ ?_) | (refine arith_ok ⟨by omega, by omega⟩ ?_) | (first | (refine draw_quiet hT mixed (by decide +kernel) ?_) | (refine draw_hard hT mixed (by decide +kernel) ?_)) | fail)
            all_goals first | omega | skip
            all_goals (refine ⟨i + 1, ⟨by omega, con_end h5⟩, ?_, by omega⟩; (first | (refine ⟨rfl, [], ?_, ?_⟩; all_goals (repeat' (first | exact rfl | exact trivial | (with_reducible assumption) | refine And.intro ?_ ?_)); all_goals (first | omega | assumption); done) | (refine ⟨rfl, [some 1], ?_, ?_⟩; all_goals (repeat' (first | exact rfl | exact trivial | (with_reducible assumption) | refine And.intro ?_ ?_)); all_goals (first | omega | assumption); done) | (refine ⟨rfl, [some 2], ?_, ?_⟩; all_goals (repeat' (first | exact rfl | exact trivial | (with_reducible assumption) | refine And.intro ?_ ?_)); all_goals (first | omega | assumption); done) | (refine ⟨rfl, [some 3], ?_, ?_⟩; all_goals (repeat' (first | exact rfl | exact trivial | (with_reducible assumption) | refine And.intro ?_ ?_)); all_goals (first | omega | assumption); done) | (refine ⟨rfl, [some 0], ?_, ?_⟩; all_goals (repeat' (first | exact rfl | exact trivial | (with_reducible assumption) | refine And.intro ?_ ?_)); all_goals (first | omega | assumption); done) | (refine ⟨rfl, [some 4], ?_, ?_⟩; all_goals (repeat' (first | exact rfl | exact trivial | (with_reducible assumption) | refine And.intro ?_ ?_)); all_goals (first | omega | assumption); done) | (refine ⟨rfl, [some 5], ?_, ?_⟩; all_goals (repeat' (first | exact rfl | exact trivial | (with_reducible assumption) | refine And.intro ?_ ?_)); all_goals (first | omega | assumption); done) | (refine ⟨rfl, [some 6], ?_, ?_⟩; all_goals (repeat' (first | exact rfl | exact trivial | (with_reducible assumption) | refine And.intro ?_ ?_)); all_goals (first | omega | assumption); done)))
      · obtain rfl : i = xss.length := by omega
        rw [fcT_no4 ha (con_none hl h2)]
        repeat' (first | (intro h; first | contradiction | omega | (conv => whnf) | skip) | (refine And.intro ?_ ?_) | (refine arith_ok ⟨by omega, by omega⟩ ?_) | (first | (refine draw_quiet hT mixed (by decide +kernel) ?_) | (refine draw_hard hT mixed (by decide +kernel) ?_)) | fail)
        all_goals first | omega | rfl | trace_state
  · rw [fcT_no1 ha]
    repeat' (first | (intro h; first | contradiction | omega | (conv => whnf) | skip) | (refine And.intro ?_ ?_) | (refine arith_ok ⟨by omega, by omega⟩ ?_) | (first | (refine draw_quiet hT mixed (by decide +kernel) ?_) | (refine draw_hard hT mixed (by decide +kernel) ?_)) | (refine Ret.goP (implAre_ret xss (by omega)) rfl ?_) | (refine Ret.goQP (implAre_ret xss (by omega)) rfl ?_))
    all_goals first | rfl | omega | trace_state
set_option maxHeartbeats 4000000 in
set_option maxRecDepth 100000 in
theorem specFc_ret (xss : List (List Int)) (hn : xss.length ≤ 1048576) : Ret Try.prog G 29 [RRule xss] (fcT xss) := by
  refine ret_of_body hT Try.func29 rfl ?_ rfl
  by_cases ha : areRl xss
  · have hl := ha.2.2
    repeat' (first | (intro h; first | contradiction | omega | (conv => whnf) | skip) | (refine And.intro ?_ ?_) | (refine arith_ok ⟨by omega, by omega⟩ ?_) | (first | (refine draw_quiet hT mixed (by decide +kernel) ?_) | (refine draw_hard hT mixed (by decide +kernel) ?_)) | (refine Ret.goP (specAre_ret xss (by omega)) rfl ?_) | (refine Ret.goQP (specAre_ret xss (by omega)) rfl ?_))
    all_goals first | rfl | omega | skip
    refine loop_rule hT (fun i : Nat => i ≤ xss.length ∧ ∀ m, m < i * 20 → conQ xss m = false) 58 1 [0, 4, 6] (fun i => [RRule xss, .ptr 0 0, I i]) (fun _ => [.cells [I 0, I 0, I 0]]) (fun i => xss.length - i) (0) (Nat.le_of_ble_eq_true rfl) ?_ ?_ ?_
    · exact ⟨Nat.zero_le _, fun m hm => absurd hm (by omega)⟩
    · (first | (refine ⟨rfl, [], ?_, ?_⟩; all_goals (repeat' (first | exact rfl | exact trivial | (with_reducible assumption) | refine And.intro ?_ ?_)); all_goals (first | omega | assumption); done) | (refine ⟨rfl, [some 1], ?_, ?_⟩; all_goals (repeat' (first | exact rfl | exact trivial | (with_reducible assumption) | refine And.intro ?_ ?_)); all_goals (first | omega | assumption); done) | (refine ⟨rfl, [some 2], ?_, ?_⟩; all_goals (repeat' (first | exact rfl | exact trivial | (with_reducible assumption) | refine And.intro ?_ ?_)); all_goals (first | omega | assumption); done) | (refine ⟨rfl, [some 3], ?_, ?_⟩; all_goals (repeat' (first | exact rfl | exact trivial | (with_reducible assumption) | refine And.intro ?_ ?_)); all_goals (first | omega | assumption); done) | (refine ⟨rfl, [some 0], ?_, ?_⟩; all_goals (repeat' (first | exact rfl | exact trivial | (with_reducible assumption) | refine And.intro ?_ ?_)); all_goals (first | omega | assumption); done) | (refine ⟨rfl, [some 4], ?_, ?_⟩; all_goals (repeat' (first | exact rfl | exact trivial | (with_reducible assumption) | refine And.intro ?_ ?_)); all_goals (first | omega | assumption); done) | (refine ⟨rfl, [some 5], ?_, ?_⟩; all_goals (repeat' (first | exact rfl | exact trivial | (with_reducible assumption) | refine And.intro ?_ ?_)); all_goals (first | omega | assumption); done) | (refine ⟨rfl, [some 6], ?_, ?_⟩; all_goals (repeat' (first | exact rfl | exact trivial | (with_reducible assumption) | refine And.intro ?_ ?_)); all_goals (first | omega | assumption); done))
    · rintro i ⟨h1, h2⟩
      by_cases hi : i < xss.length
      · have hri : rowL (xss.getD ((i : Int)).toNat []) := ha.at hi
        repeat' (first | (intro h; first | contradiction | omega | (conv => whnf) | skip) | (refine And.intro ?_ ?_) | (refine arith_ok ⟨by omega, by omega⟩ ?_) | (first | (refine draw_quiet hT mixed (by decide +kernel) ?_) | (refine draw_hard hT mixed (by decide +kernel) ?_)) | fail)
        all_goals first | omega | skip
        refine loop_rule hT (fun j : Nat => (i + 1 ≤ j ∧ j ≤ xss.length) ∧ ∀ m, m < i * 20 + j → conQ xss m = false) 58 1 [0, 4, 6, 7] (fun j => [RRule xss, .ptr 0 0, I i, I j]) (fun _ => [.cells [I 0, I 0, I 0]]) (fun j => xss.length - j) (i + 1) (Nat.le_of_ble_eq_true rfl) ?_ ?_ ?_
        · exact ⟨⟨Nat.le_refl _, hi⟩, con_row h2⟩
        · (first | (refine ⟨rfl, [], ?_, ?_⟩; all_goals (repeat' (first | exact rfl | exact trivial | (with_reducible assumption) | refine And.intro ?_ ?_)); all_goals (first | omega | assumption); done) | (refine ⟨rfl, [some 1], ?_, ?_⟩; all_goals (repeat' (first | exact rfl | exact trivial | (with_reducible assumption) | refine And.intro ?_ ?_)); all_goals (first | omega | assumption); done) | (refine ⟨rfl, [some 2], ?_, ?_⟩; all_goals (repeat' (first | exact rfl | exact trivial | (with_reducible assumption) | refine And.intro ?_ ?_)); all_goals (first | omega | assumption); done) | (refine ⟨rfl, [some 3], ?_, ?_⟩; all_goals (repeat' (first | exact rfl | exact trivial | (with_reducible assumption) | refine And.intro ?_ ?_)); all_goals (first | omega | assumption); done) | (refine ⟨rfl, [some 0], ?_, ?_⟩; all_goals (repeat' (first | exact rfl | exact trivial | (with_reducible assumption) | refine And.intro ?_ ?_)); all_goals (first | omega | assumption); done) | (refine ⟨rfl, [some 4], ?_, ?_⟩; all_goals (repeat' (first | exact rfl | exact trivial | (with_reducible assumption) | refine And.intro ?_ ?_)); all_goals (first | omega | assumption); done) | (refine ⟨rfl, [some 5], ?_, ?_⟩; all_goals (repeat' (first | exact rfl | exact trivial | (with_reducible assumption) | refine And.intro ?_ ?_)); all_goals (first | omega | assumption); done) | (refine ⟨rfl, [some 6], ?_, ?_⟩; all_goals (repeat' (first | exact rfl | exact trivial | (with_reducible assumption) | refine And.intro ?_ ?_)); all_goals (first | omega | assumption); done))
        · rintro j ⟨⟨h3, h4⟩, h5⟩
          by_cases hj : j < xss.length
          · have hrj : rowL (xss.getD ((j : Int)).toNat []) := ha.at hj
            have hcm := specCommon_ret _ _ hri hrj
            by_cases hco : comOk (xss.getD ((i : Int)).toNat []) (xss.getD ((j : Int)).toNat [])
            · rw [decide_eq_true hco] at hcm
              by_cases hne : (xss.getD ((i : Int)).toNat []).getD 5 0 ≠ (xss.getD ((j : Int)).toNat []).getD 5 0
              · have hct : conP xss i j := ⟨by omega, hj, hco, hne⟩
                rw [fcT_yes ha (by omega) (by omega) (con_hit hl (by omega) (by omega) h5 hct)]
                repeat' (first | (intro h; first | contradiction | omega | (conv => whnf) | skip) | (refine And.intro ?_ ?_) | (refine arith_ok ⟨by omega, by omega⟩ ?_) | (first | (refine draw_quiet hT mixed (by decide +kernel) ?_) | (refine draw_hard hT mixed (by decide +kernel) ?_)) | (refine Ret.go (hcm) rfl rfl ?_) | (refine Ret.goQ (hcm) rfl rfl ?_))
                all_goals first | omega | exact absurd hne h | skip
                all_goals (try (conv => whnf))
                all_goals rfl
              · repeat' (first | (intro h; first | contradiction | omega | (conv => whnf) | skip) | (refine And.intro ?_ ?_) | (refine arith_ok ⟨by omega, by omega⟩ ?_) | (first | (refine draw_quiet hT mixed (by decide +kernel) ?_) | (refine draw_hard hT mixed (by decide +kernel) ?_)) | (refine Ret.go (hcm) rfl rfl ?_) | (refine Ret.goQ (hcm) rfl rfl ?_))
                all_goals first | omega | exact absurd h hne | skip
                all_goals (refine ⟨j + 1, ⟨⟨by omega, by omega⟩, con_next (by omega) h5 (fun hc => hne hc.2.2.2)⟩, ?_, by omega⟩; (first | (refine ⟨rfl, [], ?_, ?_⟩; all_goals (repeat' (first | exact rfl | exact trivial | (with_reducible assumption) | refine And.intro ?_ ?_)); all_goals (first | omega | assumption); done) | (refine ⟨rfl, [some 1], ?_, ?_⟩; all_goals (repeat' (first | exact rfl | exact trivial | (with_reducible assumption) | refine And.intro ?_ ?_)); all_goals (first | omega | assumption); done) | (refine ⟨rfl, [some 2], ?_, ?_⟩; all_goals (repeat' (first | exact rfl | exact trivial | (with_reducible assumption) | refine And.intro ?_ ?_)); all_goals (first | omega | assumption); done) | (refine ⟨rfl, [some 3], ?_, ?_⟩; all_goals (repeat' (first | exact rfl | exact trivial | (with_reducible assumption) | refine And.intro ?_ ?_)); all_goals (first | omega | assumption); done) | (refine ⟨rfl, [some 0], ?_, ?_⟩; all_goals (repeat' (first | exact rfl | exact trivial | (with_reducible assumption) | refine And.intro ?_ ?_)); all_goals (first | omega | assumption); done) | (refine ⟨rfl, [some 4], ?_, ?_⟩; all_goals (repeat' (first | exact rfl | exact trivial | (with_reducible assumption) | refine And.intro ?_ ?_)); all_goals (first | omega | assumption); done) | (refine ⟨rfl, [some 5], ?_, ?_⟩; all_goals (repeat' (first | exact rfl | exact trivial | (with_reducible assumption) | refine And.intro ?_ ?_)); all_goals (first | omega | assumption); done) | (refine ⟨rfl, [some 6], ?_, ?_⟩; all_goals (repeat' (first | exact rfl | exact trivial | (with_reducible assumption) | refine And.intro ?_ ?_)); all_goals (first | omega | assumption); done)))
            · rw [decide_eq_false hco] at hcm
              repeat' (first | (intro h; first | contradiction | omega | (conv => whnf) | skip) | (refine And.intro ?_ ?_) | (refine arith_ok ⟨by omega, by omega⟩ ?_) | (first | (refine draw_quiet hT mixed (by decide +kernel) ?_) | (refine draw_hard hT mixed (by decide +kernel) ?_)) | (refine Ret.go (hcm) rfl rfl ?_) | (refine Ret.goQ (hcm) rfl rfl ?_))
              all_goals first | omega | skip
              all_goals first
                | (refine ⟨j + 1, ⟨⟨by omega, by omega⟩, con_next (by omega) h5 (fun hc => hco hc.2.2.1)⟩, ?_, by omega⟩; (first | (refine ⟨rfl, [], ?_, ?_⟩; all_goals (repeat' (first | exact rfl | exact trivial | (with_reducible assumption) | refine And.intro ?_ ?_)); all_goals (first | omega | assumption); done) | (refine ⟨rfl, [some 1], ?_, ?_⟩; all_goals (repeat' (first | exact rfl | exact trivial | (with_reducible assumption) | refine And.intro ?_ ?_)); all_goals (first | omega | assumption); done) | (refine ⟨rfl, [some 2], ?_, ?_⟩; all_goals (repeat' (first | exact rfl | exact trivial | (with_reducible assumption) | refine And.intro ?_ ?_)); all_goals (first | omega | assumption); done) | (refine ⟨rfl, [some 3], ?_, ?_⟩; all_goals (repeat' (first | exact rfl | exact trivial | (with_reducible assumption) | refine And.intro ?_ ?_)); all_goals (first | omega | assumption); done) | (refine ⟨rfl, [some 0], ?_, ?_⟩; all_goals (repeat' (first | exact rfl | exact trivial | (with_reducible assumption) | refine And.intro ?_ ?_)); all_goals (first | omega | assumption); done) | (refine ⟨rfl, [some 4], ?_, ?_⟩; all_goals (repeat' (first | exact rfl | exact trivial | (with_reducible assumption) | refine And.intro ?_ ?_)); all_goals (first | omega | assumption); done) | (refine ⟨rfl, [some 5], ?_, ?_⟩; all_goals (repeat' (first | exact rfl | exact trivial | (with_reducible assumption) | refine And.intro ?_ ?_)); all_goals (first | omega | assumption); done) | (refine ⟨rfl, [some 6], ?_, ?_⟩; all_goals (repeat' (first | exact rfl | exact trivial | (with_reducible assumption) | refine And.intro ?_ ?_)); all_goals (first | omega | assumption); done)))
                | trace_state
          · obtain rfl : j = xss.length := by omega
            repeat' (first | (intro h; first | contradiction | omega | (conv => whnf) | skip) | (refine And.intro ?_ ?_) | (refine arith_ok ⟨by omega, by omega⟩ ?_) | (first | (refine draw_quiet hT mixed (by decide +kernel) ?_) | (refine draw_hard hT mixed (by decide +kernel) ?_)) | fail)
            all_goals first | omega | skip
            all_goals (refine ⟨i + 1, ⟨by omega, con_end h5⟩, ?_, by omega⟩; (first | (refine ⟨rfl, [], ?_, ?_⟩; all_goals (repeat' (first | exact rfl | exact trivial | (with_reducible assumption) | refine And.intro ?_ ?_)); all_goals (first | omega | assumption); done) | (refine ⟨rfl, [some 1], ?_, ?_⟩; all_goals (repeat' (first | exact rfl | exact trivial | (with_reducible assumption) | refine And.intro ?_ ?_)); all_goals (first | omega | assumption); done) | (refine ⟨rfl, [some 2], ?_, ?_⟩; all_goals (repeat' (first | exact rfl | exact trivial | (with_reducible assumption) | refine And.intro ?_ ?_)); all_goals (first | omega | assumption); done) | (refine ⟨rfl, [some 3], ?_, ?_⟩; all_goals (repeat' (first | exact rfl | exact trivial | (with_reducible assumption) | refine And.intro ?_ ?_)); all_goals (first | omega | assumption); done) | (refine ⟨rfl, [some 0], ?_, ?_⟩; all_goals (repeat' (first | exact rfl | exact trivial | (with_reducible assumption) | refine And.intro ?_ ?_)); all_goals (first | omega | assumption); done) | (refine ⟨rfl, [some 4], ?_, ?_⟩; all_goals (repeat' (first | exact rfl | exact trivial | (with_reducible assumption) | refine And.intro ?_ ?_)); all_goals (first | omega | assumption); done) | (refine ⟨rfl, [some 5], ?_, ?_⟩; all_goals (repeat' (first | exact rfl | exact trivial | (with_reducible assumption) | refine And.intro ?_ ?_)); all_goals (first | omega | assumption); done) | (refine ⟨rfl, [some 6], ?_, ?_⟩; all_goals (repeat' (first | exact rfl | exact trivial | (with_reducible assumption) | refine And.intro ?_ ?_)); all_goals (first | omega | assumption); done)))
      · obtain rfl : i = xss.length := by omega
        rw [fcT_no4 ha (con_none hl h2)]
        repeat' (first | (intro h; first | contradiction | omega | (conv => whnf) | skip) | (refine And.intro ?_ ?_) | (refine arith_ok ⟨by omega, by omega⟩ ?_) | (first | (refine draw_quiet hT mixed (by decide +kernel) ?_) | (refine draw_hard hT mixed (by decide +kernel) ?_)) | fail)
        all_goals first | omega | rfl | trace_state
  · rw [fcT_no1 ha]
    repeat' (first | (intro h; first | contradiction | omega | (conv => whnf) | skip) | (refine And.intro ?_ ?_) | (refine arith_ok ⟨by omega, by omega⟩ ?_) | (first | (refine draw_quiet hT mixed (by decide +kernel) ?_) | (refine draw_hard hT mixed (by decide +kernel) ?_)) | (refine Ret.goP (specAre_ret xss (by omega)) rfl ?_) | (refine Ret.goQP (specAre_ret xss (by omega)) rfl ?_))
    all_goals first | rfl | omega | trace_state
end Go.Proofs.Ytnfddmbnkbigmaa
