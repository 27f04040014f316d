/-
  What the law on contradictions asks: plain facts; a case drawn; a list searched. No conditions but those in the statements.
-/
import Derived.Test.YtnfddmbnkbigmaaFi
set_option linter.unusedVariables false
set_option linter.unusedSimpArgs false
namespace Go.Proofs.Ytnfddmbnkbigmaa
open Go.AE

attribute [local irreducible] CallA LoopA DrawA CallQ arithK quoK remK eqK
theorem goE4 {P : Program} {G : Nat → Option D} {α : Type} {f : FuncId} {args dargs : List AV} {H H0 : List Blk} {r : α → Int → Int → Int → AV} {J0 : α → Int → Int → Int → List Blk} {B : α → Int → Int → Int → Prop} {K : AV → List Blk → Prop} (conv : Bool) (ids : List Nat) (h : CallA P G f dargs H0 fun v J => ∃ (x : α) (b a s : Int), v = r x b a s ∧ J = J0 x b a s ∧ B x b a s) (hi : idsOk H.length ids = true)
    (ha : vmL (amV conv ids H) args dargs) (hh : heapA conv ids H ids H0) (hk : ∀ x b a s, B x b a s → lenB H 0 fun n => mergeK ids (shB conv ids n) (J0 x b a s) H fun H' => deepK (shV conv ids n (r x b a s)) fun v => K v H') : CallA P G f args H K :=
  h.use conv ids hi ha hh fun v J ⟨x, b, a, s, h1, h2, h3⟩ => by
    subst h1 h2
    have hk := hk x b a s h3
    rw [lenB_eq, mergeK_eq, deepK_eq, Nat.zero_add] at hk
    exact hk
attribute [local irreducible] srcOk
set_option maxRecDepth 100000 in
theorem drawCase_call (code : List Int) (hn : code.length ≤ 2305843009213693952) (hb : bytesOk code) : CallA Try.prog G 25 [Rb code] [] (fun v J => ∃ (x : List (List Int)) (b a s : Int), v = .tup [.sl 0 6 x.length, VCase b a s] ∧ J = [DRule x] ∧ x.length ≤ 22 ∧ rows6 x) := by
  refine CallA.ends (callA_of_body hT Try.func25 rfl ?_)
  repeat' (first | (intro h; first | contradiction | omega | (conv => whnf) | skip) | (refine And.intro ?_ ?_) | (refine arith_ok ⟨by omega, by omega⟩ ?_) | (refine draw_hard hT mixed (by decide +kernel) ?_) | (refine CallA.goE3 false [] (l01From_call code hn hb) rfl (by first | ((repeat' (first | exact rfl | exact trivial | (with_reducible assumption) | refine And.intro ?_ ?_ | omega | assumption)); done) | fail) (by first | ((repeat' (first | exact rfl | exact trivial | (with_reducible assumption) | refine And.intro ?_ ?_ | omega | assumption)); done) | fail) ?_; rintro x a2 s2 ⟨_, hs⟩; (first | (conv => whnf) | skip)) | (refine CallA.goE3 false [1] (l23Draw_call code hn hb _ _ ‹srcOk code _ _›) rfl (by first | ((repeat' (first | exact rfl | exact trivial | (with_reducible assumption) | refine And.intro ?_ ?_ | omega | assumption)); done) | fail) (by first | ((repeat' (first | exact rfl | exact trivial | (with_reducible assumption) | refine And.intro ?_ ?_ | omega | assumption)); done) | fail) ?_; rintro xss a2 s2 ⟨⟨hl, hr⟩, hs⟩; (first | (conv => whnf) | skip)) | (refine CallA.goE3 false [1] (l01Next_call code hn hb _ _ (16) ‹srcOk code _ _›) rfl (by first | ((repeat' (first | exact rfl | exact trivial | (with_reducible assumption) | refine And.intro ?_ ?_ | omega | assumption)); done) | fail) (by first | ((repeat' (first | exact rfl | exact trivial | (with_reducible assumption) | refine And.intro ?_ ?_ | omega | assumption)); done) | fail) ?_; rintro p a2 s2 ⟨⟨hpa, hpb, hpc⟩, hs⟩; (first | (conv => whnf) | skip)) | (refine CallA.goE3 false [1] (l01Next_call code hn hb _ _ (151) ‹srcOk code _ _›) rfl (by first | ((repeat' (first | exact rfl | exact trivial | (with_reducible assumption) | refine And.intro ?_ ?_ | omega | assumption)); done) | fail) (by first | ((repeat' (first | exact rfl | exact trivial | (with_reducible assumption) | refine And.intro ?_ ?_ | omega | assumption)); done) | fail) ?_; rintro q a2 s2 ⟨⟨hqa, hqb, hqc⟩, hs⟩; (first | (conv => whnf) | skip)) | (refine CallA.goE3 false [1] (l01Next_call code hn hb _ _ (60) ‹srcOk code _ _›) rfl (by first | ((repeat' (first | exact rfl | exact trivial | (with_reducible assumption) | refine And.intro ?_ ?_ | omega | assumption)); done) | fail) (by first | ((repeat' (first | exact rfl | exact trivial | (with_reducible assumption) | refine And.intro ?_ ?_ | omega | assumption)); done) | fail) ?_; rintro u a2 s2 ⟨⟨hua, hub, huc⟩, hs⟩; (first | (conv => whnf) | skip)) | (refine CallA.goE3 false [1] (l01Next_call code hn hb _ _ (4) ‹srcOk code _ _›) rfl (by first | ((repeat' (first | exact rfl | exact trivial | (with_reducible assumption) | refine And.intro ?_ ?_ | omega | assumption)); done) | fail) (by first | ((repeat' (first | exact rfl | exact trivial | (with_reducible assumption) | refine And.intro ?_ ?_ | omega | assumption)); done) | fail) ?_; rintro w a2 s2 ⟨⟨hwa, hwb, hwc⟩, hs⟩; (first | (conv => whnf) | skip)) | (refine CallA.goE3 false [1, 3] (l01Pick_call code hn hb _ _ [-1, 0, 150, 151] (Nat.le_of_ble_eq_true rfl) (Nat.le_of_ble_eq_true rfl) ‹srcOk code _ _›) rfl (by first | ((repeat' (first | exact rfl | exact trivial | (with_reducible assumption) | refine And.intro ?_ ?_ | omega | assumption)); done) | fail) (by first | ((repeat' (first | exact rfl | exact trivial | (with_reducible assumption) | refine And.intro ?_ ?_ | omega | assumption)); done) | fail) ?_; rintro z1 a2 s2 ⟨hz1, hs⟩; (first | (conv => whnf) | skip)) | (refine CallA.goE3 false [1, 4] (l01Pick_call code hn hb _ _ [-1, 99, 100] (Nat.le_of_ble_eq_true rfl) (Nat.le_of_ble_eq_true rfl) ‹srcOk code _ _›) rfl (by first | ((repeat' (first | exact rfl | exact trivial | (with_reducible assumption) | refine And.intro ?_ ?_ | omega | assumption)); done) | fail) (by first | ((repeat' (first | exact rfl | exact trivial | (with_reducible assumption) | refine And.intro ?_ ?_ | omega | assumption)); done) | fail) ?_; rintro z2 a2 s2 ⟨hz2, hs⟩; (first | (conv => whnf) | skip)) | (refine CallA.goE3 false [1, 5] (l01Pick_call code hn hb _ _ [0, 3, 4] (Nat.le_of_ble_eq_true rfl) (Nat.le_of_ble_eq_true rfl) ‹srcOk code _ _›) rfl (by first | ((repeat' (first | exact rfl | exact trivial | (with_reducible assumption) | refine And.intro ?_ ?_ | omega | assumption)); done) | fail) (by first | ((repeat' (first | exact rfl | exact trivial | (with_reducible assumption) | refine And.intro ?_ ?_ | omega | assumption)); done) | fail) ?_; rintro z3 a2 s2 ⟨hz3, hs⟩; (first | (conv => whnf) | skip)))
  all_goals first | omega | skip
  all_goals first
    | (refine ⟨[some 2], .tup [.sl 0 6 xss.length, VCase q u w], [DRule xss], ?_, ?_, xss, _, _, _, rfl, rfl, hl, hr⟩; all_goals (repeat' (first | exact rfl | exact trivial | omega | refine And.intro ?_ ?_)); done)
    | (refine ⟨[some 2], .tup [.sl 0 6 xss.length, VCase ([-1, 0, 150, 151].getD z1 0) ([-1, 99, 100].getD z2 0) ([0, 3, 4].getD z3 0)], [DRule xss], ?_, ?_, xss, _, _, _, rfl, rfl, hl, hr⟩; all_goals (repeat' (first | exact rfl | exact trivial | omega | refine And.intro ?_ ?_)); done)
    | trace_state
set_option maxRecDepth 100000 in
theorem hasInt_ret (xs : List Int) (x : Int) (hn : xs.length ≤ 2305843009213693952) : Ret Try.prog G 31 [Ri xs, I x] (Bo (decide (x ∈ xs))) := by
  refine ret_of_body hT Try.func31 rfl ?_ rfl
  repeat' (first | (intro h; first | contradiction | omega | (conv => whnf) | skip) | (refine And.intro ?_ ?_) | (refine arith_ok ⟨by omega, by omega⟩ ?_) | (first | (refine draw_quiet hT mixed (by decide +kernel) ?_) | (refine draw_hard hT mixed (by decide +kernel) ?_)) | fail)
  refine loop_rule hT (fun i : Nat => i ≤ xs.length ∧ ∀ y ∈ xs.take i, y ≠ x) 18 0 [0, 1, 5] (fun i => [Ri xs, I x, I i]) (fun _ => []) (fun i => xs.length - i) (0) (Nat.le_of_ble_eq_true rfl) ?_ ?_ ?_
  · exact ⟨Nat.zero_le _, by simp⟩
  · (refine ⟨rfl, [], ?_, ?_⟩; all_goals (repeat' (first | exact rfl | exact trivial | (with_reducible assumption) | refine And.intro ?_ ?_ | omega)))
  · rintro i ⟨h1, h2⟩
    repeat' (first | (intro h; first | contradiction | omega | (conv => whnf) | skip) | (refine And.intro ?_ ?_) | (refine arith_ok ⟨by omega, by omega⟩ ?_) | (first | (refine draw_quiet hT mixed (by decide +kernel) ?_) | (refine draw_hard hT mixed (by decide +kernel) ?_)) | fail)
    all_goals first | omega | skip
    all_goals first
      | (have he : xs.getD i 0 = x := h
         exact bv_true (by rw [← he]; exact getD_mem (by omega)))
      | (refine ⟨i + 1, ⟨by omega, all_snoc 0 (by omega) h2 h⟩, ?_, by omega⟩; (refine ⟨rfl, [], ?_, ?_⟩; all_goals (repeat' (first | exact rfl | exact trivial | (with_reducible assumption) | refine And.intro ?_ ?_ | omega))); done)
      | (exact bv_false fun hm => all_end (by omega) h2 x hm rfl)
      | trace_state
/-! ### Plain facts -/
theorem fg_spec {q : Int → Bool} (h : fg q < 60400) : 0 ≤ fg q ∧ q (fg q) = true := by
  have hr : ∀ j, j < 60400 → (List.range 60400).getD j 0 = j := fun j hj => by
    rw [List.getD_eq_getElem?_getD, List.getElem?_range hj]; rfl
  have hlt : firstOf (fun j : Nat => q (j : Int)) (List.range 60400) < 60400 := by unfold fg at h; omega
  have := (firstOf_spec (fun j : Nat => q (j : Int)) 0 (List.range 60400)).2 (by rw [List.length_range]; exact hlt)
  rw [hr _ hlt] at this
  exact ⟨(fg_in q).1, this⟩
theorem fg_le {q : Int → Bool} {n : Int} (h0 : 0 ≤ n) (h1 : n < 60400) (h : q n = true) : fg q < 60400 := by
  have := (firstOf_lt_iff (fun j : Nat => q (j : Int)) (List.range 60400)).2 ⟨n.toNat, List.mem_range.2 (by omega), by
    rw [Int.toNat_of_nonneg h0]; exact h⟩
  rw [List.length_range] at this
  unfold fg
  omega
theorem inC_n {n : Int} (h : 0 ≤ n ∧ n < 60400) : inC (cA n) (cY n) (cK n) := by
  have := cK_in h
  unfold inC cA cY
  unfold cK at *
  omega
theorem gap_dc {xss : List (List Int)} (h : fgC xss = 0) : dcC xss (fgR cA xss) (fgR cY xss) (fgR cK xss) = 4 := by
  have ha : areRl xss := by
    unfold fgC at h
    split at h
    · assumption
    · omega
  have hf : fg (gapQ xss) < 60400 := by
    unfold fgC at h
    rw [if_pos ha] at h
    split at h
    · assumption
    · omega
  obtain ⟨h0, hq⟩ := fg_spec hf
  rw [fgR_yes ha hf, fgR_yes ha hf, fgR_yes ha hf]
  unfold dcC
  rw [if_pos ha, if_pos (inC_n ⟨h0, hf⟩), if_pos (show fst xss (cA (fg (gapQ xss))) (cY (fg (gapQ xss))) (cK (fg (gapQ xss))) < 0 from of_decide_eq_true hq)]
theorem num_of {a y k : Int} (h : inC a y k) : (0 ≤ k * 15100 + a * 100 + y ∧ k * 15100 + a * 100 + y < 60400) := by
  obtain ⟨h1, h2, h3⟩ := h
  omega
theorem dc_code {xss : List (List Int)} {a y k : Int} (h : dcC xss a y k = 0 ∨ dcC xss a y k = 4) : areRl xss ∧ inC a y k := by
  unfold dcC at h
  split at h
  · split at h
    · exact ⟨by assumption, by assumption⟩
    · omega
  · omega
theorem dc_gap {xss : List (List Int)} {a y k : Int} (h : dcC xss a y k = 4) : fgC xss = 0 := by
  obtain ⟨ha, hc⟩ := dc_code (.inr h)
  have hf : fst xss a y k < 0 := by
    unfold dcC at h
    rw [if_pos ha, if_pos hc] at h
    split at h
    · assumption
    · omega
  have hn := num_of hc
  have hq : gapQ xss (k * 15100 + a * 100 + y) = true := by
    unfold gapQ
    rw [← fstN_at xss (by have := hc.1; omega) (by have := hc.2.1; omega)]
    exact decide_eq_true hf
  unfold fgC
  rw [if_pos ha, if_pos (fg_le hn.1 hn.2 hq)]
theorem usedK_keep (xss : List (List Int)) (i : Nat) (hi : i < xss.length) : ∀ (M m : Nat), m < M → fstN xss (m : Int) = (i : Int) → (usedK xss M).getD i false = true
  | M + 1, m, hm, hf => by
    simp only [usedK]
    by_cases he : m = M
    · subst he
      rw [hf, setT_yes (by omega)]
      rw [getD_set, if_pos ⟨by omega, by rw [usedK_len]; omega⟩]
    · have ih := usedK_keep xss i hi M m (by omega) hf
      unfold setT
      split
      · rw [getD_set]
        split
        · rfl
        · exact ih
      · exact ih
theorem dc_idle {xss : List (List Int)} {a y k : Int} (h : dcC xss a y k = 0) : dcI xss a y k ∉ irR xss ∧ (0 ≤ dcI xss a y k ∧ dcI xss a y k < xss.length) ∧ outAt xss (dcI xss a y k) = dcO xss a y k := by
  obtain ⟨ha, hc⟩ := dc_code (.inl h)
  have e1 : dcI xss a y k = fst xss a y k := if_pos h
  have e2 : dcO xss a y k = outAt xss (fst xss a y k) := if_pos h
  have hf : ¬ fst xss a y k < 0 := fun hf => by
    unfold dcC at h
    rw [if_pos ha, if_pos hc, if_pos hf] at h
    omega
  have hin := fst_in xss a y k
  rw [e1, e2]
  refine ⟨fun hm => ?_, by omega, rfl⟩
  rw [(ir_yes ha).1] at hm
  obtain ⟨i, hi, hie⟩ := List.mem_map.1 hm
  have hq := (List.mem_filter.1 hi).2
  have hlt := List.mem_range.1 (List.mem_filter.1 hi).1
  have hn := num_of hc
  have hfn := fstN_at xss (k := k) (a := a) (y := y) (by have := hc.1; omega) (by have := hc.2.1; omega)
  have hu := usedK_keep xss i hlt 60400 (k * 15100 + a * 100 + y).toNat (by omega) (by rw [Int.toNat_of_nonneg hn.1, ← hfn, ← hie])
  unfold idleQ usedN at hq
  have hu2 : (usedK xss (60400 : Int).toNat).getD i false = true := hu
  rw [hu2] at hq
  cases hq
end Go.Proofs.Ytnfddmbnkbigmaa
