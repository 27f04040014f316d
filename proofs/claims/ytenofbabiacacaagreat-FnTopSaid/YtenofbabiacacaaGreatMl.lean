/-
  A portfolio a year later: what the functions return. No conditions but those in the statements.
-/
import Derived.Test.YtenofbabiacacaaGreatMk
set_option linter.unusedVariables false
set_option linter.unusedSimpArgs false
namespace Go.Proofs.YtenofbabiacacaaGreat
open Go.AE

attribute [local irreducible] CallA LoopA DrawA CallQ arithK quoK remK eqK
attribute [local irreducible] cols cN cM cD cC dur pTop pBase lv
abbrev ageH (h : List Int) (d : Int) : List Int := [h.getD 0 0, h.getD 1 0, h.getD 2 0, h.getD 3 0, h.getD 4 0, h.getD 5 0 + 1, h.getD 6 0 - d]
abbrev keeps (f : Int) (ls : List Int) (h : List Int) (d : Int) : Prop := ¬ h.getD 6 0 - d = 0 ∧ ¬ h.getD 5 0 + 1 = hdur f ls h
abbrev bads (f : Int) (ls : List Int) (r : Int) (h : List Int) (d : Int) : Prop := keeps f ls h d ∧ cD f ls r (h.getD 1 0 + (h.getD 5 0 + 1)) = 0
def agL (f : Int) (ls : List Int) (hs : List (List Int)) (ds : List Int) : Nat → List (List Int)
  | 0 => []
  | i + 1 => if keeps f ls (hs.getD i []) (ds.getD i 0) then agL f ls hs ds i ++ [ageH (hs.getD i []) (ds.getD i 0)] else agL f ls hs ds i
theorem agL_zero (f : Int) (ls : List Int) (hs : List (List Int)) (ds : List Int) : agL f ls hs ds 0 = [] := rfl
theorem agL_yes {f : Int} {ls : List Int} {hs : List (List Int)} {ds : List Int} {i : Nat} (h : keeps f ls (hs.getD i []) (ds.getD i 0)) : agL f ls hs ds (i + 1) = agL f ls hs ds i ++ [ageH (hs.getD i []) (ds.getD i 0)] := by
  show (if _ then _ else _) = _
  rw [if_pos h]
theorem agL_no {f : Int} {ls : List Int} {hs : List (List Int)} {ds : List Int} {i : Nat} (h : ¬ keeps f ls (hs.getD i []) (ds.getD i 0)) : agL f ls hs ds (i + 1) = agL f ls hs ds i := by
  show (if _ then _ else _) = _
  rw [if_neg h]
theorem agL_yes2 {f : Int} {ls : List Int} {hs : List (List Int)} {ds : List Int} {i : Nat} (h : keeps f ls (hs.getD ((i : Int)).toNat []) (ds.getD ((i : Int)).toNat 0)) : agL f ls hs ds i ++ [ageH (hs.getD ((i : Int)).toNat []) (ds.getD ((i : Int)).toNat 0)] = agL f ls hs ds (i + 1) ∧ (agL f ls hs ds i ++ [ageH (hs.getD ((i : Int)).toNat []) (ds.getD ((i : Int)).toNat 0)]).length = (agL f ls hs ds (i + 1)).length := by
  have h1 : agL f ls hs ds i ++ [ageH (hs.getD ((i : Int)).toNat []) (ds.getD ((i : Int)).toNat 0)] = agL f ls hs ds (i + 1) := (agL_yes h).symm
  exact ⟨h1, by rw [h1]⟩
theorem agL_no2 {f : Int} {ls : List Int} {hs : List (List Int)} {ds : List Int} {i : Nat} (h : ¬ keeps f ls (hs.getD ((i : Int)).toNat []) (ds.getD ((i : Int)).toNat 0)) : agL f ls hs ds i = agL f ls hs ds (i + 1) ∧ (agL f ls hs ds i).length = (agL f ls hs ds (i + 1)).length := by
  have h1 : agL f ls hs ds i = agL f ls hs ds (i + 1) := (agL_no h).symm
  exact ⟨h1, by rw [h1]⟩
theorem agL_len {f : Int} {ls : List Int} {hs : List (List Int)} {ds : List Int} : ∀ i, (agL f ls hs ds i).length ≤ i
  | 0 => Nat.le_refl _
  | i + 1 => by
    have ih := agL_len (f := f) (ls := ls) (hs := hs) (ds := ds) i
    by_cases h : keeps f ls (hs.getD i []) (ds.getD i 0)
    · rw [agL_yes h, List.length_append]; simp; omega
    · rw [agL_no h]; omega
/-- No holding is without value a year later. -/
abbrev noBad (f : Int) (ls : List Int) (r : Int) (hs : List (List Int)) (ds : List Int) (i : Nat) : Prop := ∀ j, j < i → ¬ bads f ls r (hs.getD j []) (ds.getD j 0)
theorem noBad_next {f : Int} {ls : List Int} {r : Int} {hs : List (List Int)} {ds : List Int} {i : Nat} (h : noBad f ls r hs ds i) (h1 : ¬ bads f ls r (hs.getD i []) (ds.getD i 0)) : noBad f ls r hs ds (i + 1) := fun j hj => by
  by_cases he : j = i
  · rw [he]; exact h1
  · exact h j (by omega)
theorem age_ok {f : Int} {ls : List Int} {r : Int} {h : List Int} {d : Int} (ho : okH f ls r h) (hd : 0 ≤ d ∧ d ≤ h.getD 6 0) (hk : keeps f ls h d) (hb : ¬ bads f ls r h d) : okH f ls r (ageH h d) := by
  have h1 := ho.1.2.1
  have h2 := ho.2
  have h3 : cD f ls r (h.getD 1 0 + (h.getD 5 0 + 1)) ≠ 0 := fun e => hb ⟨hk, e⟩
  have h4 : ¬ h.getD 5 0 + 1 = dur f ls (h.getD 0 0) (h.getD 1 0) (h.getD 2 0) := hk.2
  have h5 : 0 ≤ h.getD 5 0 + 1 ∧ h.getD 5 0 + 1 ≤ dur f ls (h.getD 0 0) (h.getD 1 0) (h.getD 2 0) - 1 := by omega
  have h6 : 0 ≤ h.getD 6 0 - d ∧ h.getD 6 0 - d ≤ 1000000 := by omega
  exact ⟨⟨ho.1.1, h5, h3⟩, h6⟩
theorem agL_all {f : Int} {ls : List Int} {r : Int} {hs : List (List Int)} {ds : List Int} (ho : okF f ls r hs) (hd : dOk hs ds) (hb : noBad f ls r hs ds hs.length) : ∀ i, i ≤ hs.length → ∀ h ∈ agL f ls hs ds i, h.length = 7 ∧ okH f ls r h
  | 0, _ => fun h hh => by rw [agL_zero] at hh; cases hh
  | i + 1, hi => fun h hh => by
    by_cases hk : keeps f ls (hs.getD i []) (ds.getD i 0)
    · rw [agL_yes hk] at hh
      rcases List.mem_append.1 hh with h1 | h1
      · exact agL_all ho hd hb i (by omega) h h1
      · rw [List.mem_singleton.1 h1]
        exact ⟨rfl, age_ok (ho.2.2 _ (getD_mem (by omega))) (hd.2 i (by omega)) hk (hb i (by omega))⟩
    · rw [agL_no hk] at hh
      exact agL_all ho hd hb i (by omega) h hh
abbrev later (f : Int) (ls : List Int) (hs : List (List Int)) (ds : List Int) : List (List Int) := agL f ls hs ds hs.length
theorem later_ok {f : Int} {ls : List Int} {r : Int} {hs : List (List Int)} {ds : List Int} (ho : okF f ls r hs) (hd : dOk hs ds) (hb : noBad f ls r hs ds hs.length) : okF f ls r (later f ls hs ds) := by
  have h1 := agL_len (f := f) (ls := ls) (hs := hs) (ds := ds) hs.length
  have h2 := ho.2.1
  exact ⟨ho.1, Nat.le_trans h1 h2, fun h hh => (agL_all ho hd hb hs.length (Nat.le_refl _) h hh).2⟩
attribute [local irreducible] agL
noncomputable instance (f : Int) (ls : List Int) (r : Int) (hs : List (List Int)) (ds : List Int) (i : Nat) : Decidable (noBad f ls r hs ds i) := Classical.propDecidable _
noncomputable def agR (f : Int) (ls : List Int) (r : Int) (hs : List (List Int)) (ds : List Int) : List (List Int) := if noBad f ls r hs ds hs.length then later f ls hs ds else []
noncomputable def agC (f : Int) (ls : List Int) (r : Int) (hs : List (List Int)) (ds : List Int) : Int := if noBad f ls r hs ds hs.length then 0 else 5
theorem ag_yes {f : Int} {ls : List Int} {r : Int} {hs : List (List Int)} {ds : List Int} (h : noBad f ls r hs ds hs.length) : agR f ls r hs ds = later f ls hs ds ∧ agC f ls r hs ds = 0 := ⟨if_pos h, if_pos h⟩
theorem ag_no {f : Int} {ls : List Int} {r : Int} {hs : List (List Int)} {ds : List Int} (h : ¬ noBad f ls r hs ds hs.length) : agR f ls r hs ds = [] ∧ agC f ls r hs ds = 5 := ⟨if_neg h, if_neg h⟩
theorem ag_len (f : Int) (ls : List Int) (r : Int) (hs : List (List Int)) (ds : List Int) : (agR f ls r hs ds).length ≤ hs.length := by
  unfold agR
  split
  · exact agL_len _
  · exact Nat.zero_le _
noncomputable abbrev agT (f : Int) (ls : List Int) (r : Int) (hs : List (List Int)) (ds : List Int) : AV := .tup [.sl 0 7 (agR f ls r hs ds).length, I (agC f ls r hs ds)]
set_option maxHeartbeats 4000000 in
set_option maxRecDepth 100000 in
theorem implAge_call (f : Int) (ls : List Int) (r : Int) (hs : List (List Int)) (ds : List Int) (hn : ls.length ≤ 1048576) (ho : okF f ls r hs) (hd : dOk hs ds) : CallA Tryz.prog G 75 [Bs f ls r, Rh hs, Ri ds] [] (fun v J => v = agT f ls r hs ds ∧ J = [Dh (agR f ls r hs ds)]) := by
  refine CallA.ends (callA_of_body hT Tryz.func75 rfl ?_)
  have hl := ho.2.1
  have hdl := hd.1
  have hc := implCheck_ret f ls r hs ds hn (by omega) (by omega)
  rw [show cDt f ls r hs ds true = 0 from (if_pos ho).trans (if_pos ⟨rfl, hd⟩)] at hc
  repeat' (first | (intro h; first | contradiction | omega | (conv => whnf) | skip) | (refine And.intro ?_ ?_) | (refine arith_ok ⟨by omega, by omega⟩ ?_) | (first | (refine draw_quiet hT mixed (by decide +kernel) ?_) | (refine draw_hard hT mixed (by decide +kernel) ?_)) | (refine Ret.go (hc) rfl rfl ?_) | (refine Ret.goQ (hc) rfl rfl ?_))
  all_goals first | omega | skip
  refine loop_rule hT (fun i : Nat => i ≤ hs.length ∧ noBad f ls r hs ds i) 62 2 [2, 3, 9, 20, 21, 22] (fun i => [Ri ds, .ptr 0 0, .sl 2 7 (agL f ls hs ds i).length, Rh hs, I hs.length, I i]) (fun i => [.cells [I f, Ri ls, I r], .dead, Dh (agL f ls hs ds i)]) (fun i => hs.length - i) (0) (Nat.le_of_ble_eq_true rfl) ?_ ?_ ?_
  · exact ⟨Nat.zero_le _, fun j hj => absurd hj (Nat.not_lt_zero j)⟩
  · (refine ⟨rfl, [some 1], ?_, ?_⟩; all_goals (repeat' (first | exact rfl | exact trivial | (with_reducible assumption) | refine And.intro ?_ ?_)); all_goals (first | omega | assumption | ((repeat' (first | first | exact congrArg (D.recs 7) (agL_zero f ls hs ds).symm | (rw [agL_zero]; rfl) | exact rfl | exact trivial | (with_reducible assumption) | refine And.intro ?_ ?_ | omega | assumption)); done)); done)
  · rintro i ⟨h1, h2⟩
    by_cases hi : i < hs.length
    · have hoh := ho.2.2 (hs.getD ((i : Int)).toNat []) (getD_mem hi)
      have hsm := okH_sum hoh
      have hdb := dur_bd hoh.1.1
      have hq := hoh.1.2.1
      have hdi : 0 ≤ ds.getD ((i : Int)).toNat 0 ∧ ds.getD ((i : Int)).toNat 0 ≤ (hs.getD ((i : Int)).toNat []).getD 6 0 := hd.2 i hi
      have hal := agL_len (f := f) (ls := ls) (hs := hs) (ds := ds) i
      have hh5 : 0 ≤ (hs.getD ((i : Int)).toNat []).getD 5 0 ∧ (hs.getD ((i : Int)).toNat []).getD 5 0 ≤ 1000 := by omega
      have hdu := implDur_ret f ls r ((hs.getD ((i : Int)).toNat []).getD 0 0) ((hs.getD ((i : Int)).toNat []).getD 1 0) ((hs.getD ((i : Int)).toNat []).getD 2 0) ((hs.getD ((i : Int)).toNat []).getD 3 0) ((hs.getD ((i : Int)).toNat []).getD 4 0) hoh.1.1
      by_cases hk : keeps f ls (hs.getD ((i : Int)).toNat []) (ds.getD ((i : Int)).toNat 0)
      · obtain ⟨hnx, hlx⟩ := agL_yes2 (i := i) hk
        have hk1 := hk.1
        have hk2 : ¬ (hs.getD ((i : Int)).toNat []).getD 5 0 + 1 = dur f ls ((hs.getD ((i : Int)).toNat []).getD 0 0) ((hs.getD ((i : Int)).toNat []).getD 1 0) ((hs.getD ((i : Int)).toNat []).getD 2 0) := hk.2
        have hpp := parts_ret f ls r (ageH (hs.getD ((i : Int)).toNat []) (ds.getD ((i : Int)).toNat 0)) hoh.1.1 (by show 0 ≤ (hs.getD ((i : Int)).toNat []).getD 5 0 + 1 ∧ (hs.getD ((i : Int)).toNat []).getD 5 0 + 1 ≤ dur f ls ((hs.getD ((i : Int)).toNat []).getD 0 0) ((hs.getD ((i : Int)).toNat []).getD 1 0) ((hs.getD ((i : Int)).toNat []).getD 2 0); omega)
        by_cases hz : cD f ls r ((hs.getD ((i : Int)).toNat []).getD 1 0 + ((hs.getD ((i : Int)).toNat []).getD 5 0 + 1)) = 0
        · have hag := ag_no (f := f) (ls := ls) (r := r) (hs := hs) (ds := ds) (fun hnb => hnb i hi ⟨hk, hz⟩)
          rw [agT, hag.1, hag.2]
          repeat' (first | (intro h; first | contradiction | omega | (conv => whnf) | skip) | (refine And.intro ?_ ?_) | (refine arith_ok ⟨by omega, by omega⟩ ?_) | (first | (refine draw_quiet hT mixed (by decide +kernel) ?_) | (refine draw_hard hT mixed (by decide +kernel) ?_)) | (refine Ret.go (hdu) rfl rfl ?_) | (refine Ret.goQ (hdu) rfl rfl ?_) | (refine Ret.go (hpp) rfl rfl ?_) | (refine Ret.goQ (hpp) rfl rfl ?_))
          all_goals first | omega | (refine ⟨[none], .tup [.sl 0 7 0, I 5], [Dh []], ?_, ?_, ?_⟩; all_goals (repeat' (first | exact rfl | exact trivial | (with_reducible assumption) | refine And.intro ?_ ?_ | omega))) | trace_state
        · have hnb : ¬ bads f ls r (hs.getD i []) (ds.getD i 0) := fun e => hz e.2
          repeat' (first | (intro h; first | contradiction | omega | (conv => whnf) | skip) | (refine And.intro ?_ ?_) | (refine arith_ok ⟨by omega, by omega⟩ ?_) | (first | (refine draw_quiet hT mixed (by decide +kernel) ?_) | (refine draw_hard hT mixed (by decide +kernel) ?_)) | (refine Ret.go (hdu) rfl rfl ?_) | (refine Ret.goQ (hdu) rfl rfl ?_) | (refine Ret.go (hpp) rfl rfl ?_) | (refine Ret.goQ (hpp) rfl rfl ?_))
          all_goals first | omega | (show ((agL f ls hs ds i).length + 1) * 56 ≤ _; omega) | rfl | exact absurd ⟨by assumption, by assumption⟩ hk | skip
          all_goals first | ((conv => whnf); refine ⟨i + 1, ⟨by omega, noBad_next h2 hnb⟩, ?_, by omega⟩; first | (refine ⟨rfl, [some 2], ?_, ?_⟩; all_goals (repeat' (first | exact rfl | exact trivial | (with_reducible assumption) | refine And.intro ?_ ?_)); all_goals (first | omega | assumption | ((repeat' (first | first | exact congrArg (D.recs 7) hnx | exact hlx | exact rfl | exact trivial | (with_reducible assumption) | refine And.intro ?_ ?_ | omega | assumption)); done)); done) | (refine ⟨rfl, [some 5], ?_, ?_⟩; all_goals (repeat' (first | exact rfl | exact trivial | (with_reducible assumption) | refine And.intro ?_ ?_)); all_goals (first | omega | assumption | ((repeat' (first | first | exact hlx | exact congrArg (D.recs 7) hnx | exact rfl | exact trivial | (with_reducible assumption) | refine And.intro ?_ ?_ | omega | assumption)); done)); done) | (refine ⟨rfl, [some 6], ?_, ?_⟩; all_goals (repeat' (first | exact rfl | exact trivial | (with_reducible assumption) | refine And.intro ?_ ?_)); all_goals (first | omega | assumption | ((repeat' (first | first | exact hlx | exact congrArg (D.recs 7) hnx | exact rfl | exact trivial | (with_reducible assumption) | refine And.intro ?_ ?_ | omega | assumption)); done)); done) | (refine ⟨rfl, [some 4], ?_, ?_⟩; all_goals (repeat' (first | exact rfl | exact trivial | (with_reducible assumption) | refine And.intro ?_ ?_)); all_goals (first | omega | assumption | ((repeat' (first | first | exact hlx | exact congrArg (D.recs 7) hnx | exact rfl | exact trivial | (with_reducible assumption) | refine And.intro ?_ ?_ | omega | assumption)); done)); done) | (refine ⟨rfl, [some 7], ?_, ?_⟩; all_goals (repeat' (first | exact rfl | exact trivial | (with_reducible assumption) | refine And.intro ?_ ?_)); all_goals (first | omega | assumption | ((repeat' (first | first | exact hlx | exact congrArg (D.recs 7) hnx | exact rfl | exact trivial | (with_reducible assumption) | refine And.intro ?_ ?_ | omega | assumption)); done)); done)) | trace_state
      · obtain ⟨hnx, hlx⟩ := agL_no2 (i := i) hk
        have hnb : ¬ bads f ls r (hs.getD i []) (ds.getD i 0) := fun e => hk e.1
        repeat' (first | (intro h; first | contradiction | omega | (conv => whnf) | skip) | (refine And.intro ?_ ?_) | (refine arith_ok ⟨by omega, by omega⟩ ?_) | (first | (refine draw_quiet hT mixed (by decide +kernel) ?_) | (refine draw_hard hT mixed (by decide +kernel) ?_)) | (refine Ret.go (hdu) rfl rfl ?_) | (refine Ret.goQ (hdu) rfl rfl ?_))
        all_goals first | omega | (show ((agL f ls hs ds i).length + 1) * 56 ≤ _; omega) | rfl | exact absurd ⟨by assumption, by assumption⟩ hk | skip
        all_goals first | ((conv => whnf); refine ⟨i + 1, ⟨by omega, noBad_next h2 hnb⟩, ?_, by omega⟩; first | (refine ⟨rfl, [some 2], ?_, ?_⟩; all_goals (repeat' (first | exact rfl | exact trivial | (with_reducible assumption) | refine And.intro ?_ ?_)); all_goals (first | omega | assumption | ((repeat' (first | first | exact congrArg (D.recs 7) hnx | exact hlx | exact rfl | exact trivial | (with_reducible assumption) | refine And.intro ?_ ?_ | omega | assumption)); done)); done) | (refine ⟨rfl, [some 5], ?_, ?_⟩; all_goals (repeat' (first | exact rfl | exact trivial | (with_reducible assumption) | refine And.intro ?_ ?_)); all_goals (first | omega | assumption | ((repeat' (first | first | exact hlx | exact congrArg (D.recs 7) hnx | exact rfl | exact trivial | (with_reducible assumption) | refine And.intro ?_ ?_ | omega | assumption)); done)); done) | (refine ⟨rfl, [some 6], ?_, ?_⟩; all_goals (repeat' (first | exact rfl | exact trivial | (with_reducible assumption) | refine And.intro ?_ ?_)); all_goals (first | omega | assumption | ((repeat' (first | first | exact hlx | exact congrArg (D.recs 7) hnx | exact rfl | exact trivial | (with_reducible assumption) | refine And.intro ?_ ?_ | omega | assumption)); done)); done) | (refine ⟨rfl, [some 4], ?_, ?_⟩; all_goals (repeat' (first | exact rfl | exact trivial | (with_reducible assumption) | refine And.intro ?_ ?_)); all_goals (first | omega | assumption | ((repeat' (first | first | exact hlx | exact congrArg (D.recs 7) hnx | exact rfl | exact trivial | (with_reducible assumption) | refine And.intro ?_ ?_ | omega | assumption)); done)); done) | (refine ⟨rfl, [some 7], ?_, ?_⟩; all_goals (repeat' (first | exact rfl | exact trivial | (with_reducible assumption) | refine And.intro ?_ ?_)); all_goals (first | omega | assumption | ((repeat' (first | first | exact hlx | exact congrArg (D.recs 7) hnx | exact rfl | exact trivial | (with_reducible assumption) | refine And.intro ?_ ?_ | omega | assumption)); done)); done)) | trace_state
    · obtain rfl : i = hs.length := by omega
      have hag := ag_yes h2
      rw [agT, hag.1, hag.2]
      repeat' (first | (intro h; first | contradiction | omega | (conv => whnf) | skip) | (refine And.intro ?_ ?_) | (refine arith_ok ⟨by omega, by omega⟩ ?_) | (first | (refine draw_quiet hT mixed (by decide +kernel) ?_) | (refine draw_hard hT mixed (by decide +kernel) ?_)) | fail)
      all_goals first | omega | skip
      (first | (refine ⟨[], .tup [.sl 0 7 (later f ls hs ds).length, I 0], [Dh (later f ls hs ds)], ?_, ?_, ?_⟩; all_goals (repeat' (first | exact rfl | exact trivial | (with_reducible assumption) | refine And.intro ?_ ?_)); all_goals (first | omega | assumption); done) | (refine ⟨[some 1], .tup [.sl 0 7 (later f ls hs ds).length, I 0], [Dh (later f ls hs ds)], ?_, ?_, ?_⟩; all_goals (repeat' (first | exact rfl | exact trivial | (with_reducible assumption) | refine And.intro ?_ ?_)); all_goals (first | omega | assumption); done) | (refine ⟨[some 0], .tup [.sl 0 7 (later f ls hs ds).length, I 0], [Dh (later f ls hs ds)], ?_, ?_, ?_⟩; all_goals (repeat' (first | exact rfl | exact trivial | (with_reducible assumption) | refine And.intro ?_ ?_)); all_goals (first | omega | assumption); done) | (refine ⟨[some 2], .tup [.sl 0 7 (later f ls hs ds).length, I 0], [Dh (later f ls hs ds)], ?_, ?_, ?_⟩; all_goals (repeat' (first | exact rfl | exact trivial | (with_reducible assumption) | refine And.intro ?_ ?_)); all_goals (first | omega | assumption); done) | (refine ⟨[some 3], .tup [.sl 0 7 (later f ls hs ds).length, I 0], [Dh (later f ls hs ds)], ?_, ?_, ?_⟩; all_goals (repeat' (first | exact rfl | exact trivial | (with_reducible assumption) | refine And.intro ?_ ?_)); all_goals (first | omega | assumption); done) | (refine ⟨[some 4], .tup [.sl 0 7 (later f ls hs ds).length, I 0], [Dh (later f ls hs ds)], ?_, ?_, ?_⟩; all_goals (repeat' (first | exact rfl | exact trivial | (with_reducible assumption) | refine And.intro ?_ ?_)); all_goals (first | omega | assumption); done) | (refine ⟨[some 5], .tup [.sl 0 7 (later f ls hs ds).length, I 0], [Dh (later f ls hs ds)], ?_, ?_, ?_⟩; all_goals (repeat' (first | exact rfl | exact trivial | (with_reducible assumption) | refine And.intro ?_ ?_)); all_goals (first | omega | assumption); done))
theorem implAge_ro (f : Int) (ls : List Int) (r : Int) (hs : List (List Int)) (ds : List Int) (hn : ls.length ≤ 1048576) (ho : okF f ls r hs) (hd : dOk hs ds) : CallA Tryz.prog G 75 [Bs f ls r, Rh hs, Ri ds] [] (fun v J => v = .tup [Rh (agR f ls r hs ds), I (agC f ls r hs ds)] ∧ J = []) :=
  CallA.frozen ((implAge_call f ls r hs ds hn ho hd).mono fun v J ⟨h1, h2⟩ => by subst h1 h2; exact ⟨.tup [Rh (agR f ls r hs ds), I (agC f ls r hs ds)], ⟨⟨rfl, rfl, rfl, rfl, rfl⟩, amE_self rfl, trivial⟩, rfl, rfl⟩)
/-! The reference -/
abbrev cntH (h : List Int) (d : Int) : List Int := [h.getD 0 0, h.getD 1 0, h.getD 2 0, h.getD 3 0, h.getD 4 0, h.getD 5 0, h.getD 6 0 - d]
theorem not_keeps {f : Int} {ls : List Int} {h : List Int} {d : Int} (hk : ¬ keeps f ls h d) (h1 : ¬ h.getD 6 0 - d = 0) (h2 : ¬ h.getD 5 0 = dur f ls (h.getD 0 0) (h.getD 1 0) (h.getD 2 0) - 1) : False := hk ⟨h1, fun e => h2 (by
  have e2 : h.getD 5 0 + 1 = dur f ls (h.getD 0 0) (h.getD 1 0) (h.getD 2 0) := e
  omega)⟩
set_option maxHeartbeats 4000000 in
set_option maxRecDepth 100000 in
theorem specAge_call (f : Int) (ls : List Int) (r : Int) (hs : List (List Int)) (ds : List Int) (hn : ls.length ≤ 1048576) (ho : okF f ls r hs) (hd : dOk hs ds) : CallA Tryz.prog G 125 [Bs f ls r, Rh hs, Ri ds] [] (fun v J => v = agT f ls r hs ds ∧ J = [Dh (agR f ls r hs ds)]) := by
  refine CallA.ends (callA_of_body hT Tryz.func125 rfl ?_)
  have hl := ho.2.1
  have hdl := hd.1
  repeat' (first | (intro h; first | contradiction | omega | (conv => whnf) | skip) | (refine And.intro ?_ ?_) | (refine arith_ok ⟨by omega, by omega⟩ ?_) | (first | (refine draw_quiet hT mixed (by decide +kernel) ?_) | (refine draw_hard hT mixed (by decide +kernel) ?_)) | (refine Ret.goP (specPortfolio_ret f ls r hs hn (by omega)) rfl ?_) | (refine Ret.goQP (specPortfolio_ret f ls r hs hn (by omega)) rfl ?_))
  all_goals first | omega | exact absurd ho (by assumption) | skip
  refine loop_rule hT (fun i : Nat => i ≤ hs.length) 91 1 [1, 2, 3, 8, 9] (fun i => [Rh hs, Ri ds, .ptr 0 0, Bo true, I i]) (fun _ => [.cells [I f, Ri ls, I r]]) (fun i => hs.length - i) (0) (Nat.le_of_ble_eq_true rfl) ?_ ?_ ?_
  · exact Nat.zero_le _
  · (first | (refine ⟨rfl, [], ?_, ?_⟩; all_goals (repeat' (first | exact rfl | exact trivial | (with_reducible assumption) | refine And.intro ?_ ?_)); all_goals (first | omega | assumption); done) | (refine ⟨rfl, [some 1], ?_, ?_⟩; all_goals (repeat' (first | exact rfl | exact trivial | (with_reducible assumption) | refine And.intro ?_ ?_)); all_goals (first | omega | assumption); done) | (refine ⟨rfl, [some 2], ?_, ?_⟩; all_goals (repeat' (first | exact rfl | exact trivial | (with_reducible assumption) | refine And.intro ?_ ?_)); all_goals (first | omega | assumption); done) | (refine ⟨rfl, [some 3], ?_, ?_⟩; all_goals (repeat' (first | exact rfl | exact trivial | (with_reducible assumption) | refine And.intro ?_ ?_)); all_goals (first | omega | assumption); done) | (refine ⟨rfl, [some 0], ?_, ?_⟩; all_goals (repeat' (first | exact rfl | exact trivial | (with_reducible assumption) | refine And.intro ?_ ?_)); all_goals (first | omega | assumption); done) | (refine ⟨rfl, [some 4], ?_, ?_⟩; all_goals (repeat' (first | exact rfl | exact trivial | (with_reducible assumption) | refine And.intro ?_ ?_)); all_goals (first | omega | assumption); done) | (refine ⟨rfl, [some 5], ?_, ?_⟩; all_goals (repeat' (first | exact rfl | exact trivial | (with_reducible assumption) | refine And.intro ?_ ?_)); all_goals (first | omega | assumption); done) | (refine ⟨rfl, [some 6], ?_, ?_⟩; all_goals (repeat' (first | exact rfl | exact trivial | (with_reducible assumption) | refine And.intro ?_ ?_)); all_goals (first | omega | assumption); done))
  · rintro i h1
    by_cases hi : i < hs.length
    · have hdi : 0 ≤ ds.getD ((i : Int)).toNat 0 ∧ ds.getD ((i : Int)).toNat 0 ≤ (hs.getD ((i : Int)).toNat []).getD 6 0 := hd.2 i hi
      repeat' (first | (intro h; first | contradiction | omega | (conv => whnf) | skip) | (refine And.intro ?_ ?_) | (refine arith_ok ⟨by omega, by omega⟩ ?_) | (first | (refine draw_quiet hT mixed (by decide +kernel) ?_) | (refine draw_hard hT mixed (by decide +kernel) ?_)) | (refine Ret.goP (l01In_ret _ _ _) rfl ?_) | (refine Ret.goQP (l01In_ret _ _ _) rfl ?_))
      all_goals first | omega | exact absurd hdi (by assumption) | ((conv => whnf); refine ⟨i + 1, by omega, ?_, by omega⟩; (first | (refine ⟨rfl, [], ?_, ?_⟩; all_goals (repeat' (first | exact rfl | exact trivial | (with_reducible assumption) | refine And.intro ?_ ?_)); all_goals (first | omega | assumption); done) | (refine ⟨rfl, [some 1], ?_, ?_⟩; all_goals (repeat' (first | exact rfl | exact trivial | (with_reducible assumption) | refine And.intro ?_ ?_)); all_goals (first | omega | assumption); done) | (refine ⟨rfl, [some 2], ?_, ?_⟩; all_goals (repeat' (first | exact rfl | exact trivial | (with_reducible assumption) | refine And.intro ?_ ?_)); all_goals (first | omega | assumption); done) | (refine ⟨rfl, [some 3], ?_, ?_⟩; all_goals (repeat' (first | exact rfl | exact trivial | (with_reducible assumption) | refine And.intro ?_ ?_)); all_goals (first | omega | assumption); done) | (refine ⟨rfl, [some 0], ?_, ?_⟩; all_goals (repeat' (first | exact rfl | exact trivial | (with_reducible assumption) | refine And.intro ?_ ?_)); all_goals (first | omega | assumption); done) | (refine ⟨rfl, [some 4], ?_, ?_⟩; all_goals (repeat' (first | exact rfl | exact trivial | (with_reducible assumption) | refine And.intro ?_ ?_)); all_goals (first | omega | assumption); done) | (refine ⟨rfl, [some 5], ?_, ?_⟩; all_goals (repeat' (first | exact rfl | exact trivial | (with_reducible assumption) | refine And.intro ?_ ?_)); all_goals (first | omega | assumption); done) | (refine ⟨rfl, [some 6], ?_, ?_⟩; all_goals (repeat' (first | exact rfl | exact trivial | (with_reducible assumption) | refine And.intro ?_ ?_)); all_goals (first | omega | assumption); done))) | trace_state
    · obtain rfl : i = hs.length := by omega
      repeat' (first | (intro h; first | contradiction | omega | (conv => whnf) | skip) | (refine And.intro ?_ ?_) | (refine arith_ok ⟨by omega, by omega⟩ ?_) | (first | (refine draw_quiet hT mixed (by decide +kernel) ?_) | (refine draw_hard hT mixed (by decide +kernel) ?_)) | fail)
      all_goals first | omega | skip
      refine loop_rule hT (fun i : Nat => i ≤ hs.length ∧ noBad f ls r hs ds i) 91 2 [1, 2, 3, 10, 11] (fun i => [Rh hs, Ri ds, .ptr 0 0, .sl 2 7 (agL f ls hs ds i).length, I i]) (fun i => [.cells [I f, Ri ls, I r], .dead, Dh (agL f ls hs ds i)]) (fun i => hs.length - i) (0) (Nat.le_of_ble_eq_true rfl) ?_ ?_ ?_
      · exact ⟨Nat.zero_le _, fun j hj => absurd hj (Nat.not_lt_zero j)⟩
      · (refine ⟨rfl, [some 1], ?_, ?_⟩; all_goals (repeat' (first | exact rfl | exact trivial | (with_reducible assumption) | refine And.intro ?_ ?_)); all_goals (first | omega | assumption | ((repeat' (first | first | exact congrArg (D.recs 7) (agL_zero f ls hs ds).symm | (rw [agL_zero]; rfl) | exact rfl | exact trivial | (with_reducible assumption) | refine And.intro ?_ ?_ | omega | assumption)); done)); done)
      · clear h1
        rintro i ⟨h1, h2⟩
        by_cases hi : i < hs.length
        · have hoh := ho.2.2 (hs.getD ((i : Int)).toNat []) (getD_mem hi)
          have hsm := okH_sum hoh
          have hdb := dur_bd hoh.1.1
          have hq := hoh.1.2.1
          have hdi : 0 ≤ ds.getD ((i : Int)).toNat 0 ∧ ds.getD ((i : Int)).toNat 0 ≤ (hs.getD ((i : Int)).toNat []).getD 6 0 := hd.2 i hi
          have hal := agL_len (f := f) (ls := ls) (hs := hs) (ds := ds) i
          have hh5 : 0 ≤ (hs.getD ((i : Int)).toNat []).getD 5 0 ∧ (hs.getD ((i : Int)).toNat []).getD 5 0 ≤ 1000 := by omega
          have hla := specLast_ret f ls r (cntH (hs.getD ((i : Int)).toNat []) (ds.getD ((i : Int)).toNat 0)) hoh.1.1
          by_cases hk : keeps f ls (hs.getD ((i : Int)).toNat []) (ds.getD ((i : Int)).toNat 0)
          · obtain ⟨hnx, hlx⟩ := agL_yes2 (i := i) hk
            have hk1 := hk.1
            have hk2 : ¬ (hs.getD ((i : Int)).toNat []).getD 5 0 + 1 = dur f ls ((hs.getD ((i : Int)).toNat []).getD 0 0) ((hs.getD ((i : Int)).toNat []).getD 1 0) ((hs.getD ((i : Int)).toNat []).getD 2 0) := hk.2
            have hk3 : ¬ (hs.getD ((i : Int)).toNat []).getD 5 0 = dur f ls ((hs.getD ((i : Int)).toNat []).getD 0 0) ((hs.getD ((i : Int)).toNat []).getD 1 0) ((hs.getD ((i : Int)).toNat []).getD 2 0) - 1 := by omega
            by_cases hz : cD f ls r ((hs.getD ((i : Int)).toNat []).getD 1 0 + ((hs.getD ((i : Int)).toNat []).getD 5 0 + 1)) = 0
            · have hag := ag_no (f := f) (ls := ls) (r := r) (hs := hs) (ds := ds) (fun hnb => hnb i hi ⟨hk, hz⟩)
              rw [agT, hag.1, hag.2]
              repeat' (first | (intro h; first | contradiction | omega | (conv => whnf) | skip) | (refine And.intro ?_ ?_) | (refine arith_ok ⟨by omega, by omega⟩ ?_) | (first | (refine draw_quiet hT mixed (by decide +kernel) ?_) | (refine draw_hard hT mixed (by decide +kernel) ?_)) | (refine Ret.goP (hla) rfl ?_) | (refine Ret.goQP (hla) rfl ?_) | (refine Ret.go (specD_ret f ls r _ hoh.1.1.1.1 hoh.1.1.1.2 (by omega)) rfl rfl ?_) | (refine Ret.goQ (specD_ret f ls r _ hoh.1.1.1.1 hoh.1.1.1.2 (by omega)) rfl rfl ?_))
              all_goals first | omega | exact absurd (by assumption) hk3 | (refine ⟨[none], .tup [.sl 0 7 0, I 5], [Dh []], ?_, ?_, ?_⟩; all_goals (repeat' (first | exact rfl | exact trivial | (with_reducible assumption) | refine And.intro ?_ ?_ | omega))) | trace_state
            · have hnb : ¬ bads f ls r (hs.getD i []) (ds.getD i 0) := fun e => hz e.2
              repeat' (first | (intro h; first | contradiction | omega | (conv => whnf) | skip) | (refine And.intro ?_ ?_) | (refine arith_ok ⟨by omega, by omega⟩ ?_) | (first | (refine draw_quiet hT mixed (by decide +kernel) ?_) | (refine draw_hard hT mixed (by decide +kernel) ?_)) | (refine Ret.goP (hla) rfl ?_) | (refine Ret.goQP (hla) rfl ?_) | (refine Ret.go (specD_ret f ls r _ hoh.1.1.1.1 hoh.1.1.1.2 (by omega)) rfl rfl ?_) | (refine Ret.goQ (specD_ret f ls r _ hoh.1.1.1.1 hoh.1.1.1.2 (by omega)) rfl rfl ?_))
              all_goals first | exact absurd (by assumption) hk3 | skip
              all_goals first | omega | (show ((agL f ls hs ds i).length + 1) * 56 ≤ _; omega) | rfl | exact absurd ⟨by assumption, by assumption⟩ hk | skip
              all_goals first | ((conv => whnf); refine ⟨i + 1, ⟨by omega, noBad_next h2 hnb⟩, ?_, by omega⟩; first | (refine ⟨rfl, [some 2], ?_, ?_⟩; all_goals (repeat' (first | exact rfl | exact trivial | (with_reducible assumption) | refine And.intro ?_ ?_)); all_goals (first | omega | assumption | ((repeat' (first | first | exact congrArg (D.recs 7) hnx | exact hlx | exact rfl | exact trivial | (with_reducible assumption) | refine And.intro ?_ ?_ | omega | assumption)); done)); done) | (refine ⟨rfl, [some 5], ?_, ?_⟩; all_goals (repeat' (first | exact rfl | exact trivial | (with_reducible assumption) | refine And.intro ?_ ?_)); all_goals (first | omega | assumption | ((repeat' (first | first | exact hlx | exact congrArg (D.recs 7) hnx | exact rfl | exact trivial | (with_reducible assumption) | refine And.intro ?_ ?_ | omega | assumption)); done)); done) | (refine ⟨rfl, [some 6], ?_, ?_⟩; all_goals (repeat' (first | exact rfl | exact trivial | (with_reducible assumption) | refine And.intro ?_ ?_)); all_goals (first | omega | assumption | ((repeat' (first | first | exact hlx | exact congrArg (D.recs 7) hnx | exact rfl | exact trivial | (with_reducible assumption) | refine And.intro ?_ ?_ | omega | assumption)); done)); done) | (refine ⟨rfl, [some 4], ?_, ?_⟩; all_goals (repeat' (first | exact rfl | exact trivial | (with_reducible assumption) | refine And.intro ?_ ?_)); all_goals (first | omega | assumption | ((repeat' (first | first | exact hlx | exact congrArg (D.recs 7) hnx | exact rfl | exact trivial | (with_reducible assumption) | refine And.intro ?_ ?_ | omega | assumption)); done)); done) | (refine ⟨rfl, [some 7], ?_, ?_⟩; all_goals (repeat' (first | exact rfl | exact trivial | (with_reducible assumption) | refine And.intro ?_ ?_)); all_goals (first | omega | assumption | ((repeat' (first | first | exact hlx | exact congrArg (D.recs 7) hnx | exact rfl | exact trivial | (with_reducible assumption) | refine And.intro ?_ ?_ | omega | assumption)); done)); done)) | trace_state
          · obtain ⟨hnx, hlx⟩ := agL_no2 (i := i) hk
            have hnb : ¬ bads f ls r (hs.getD i []) (ds.getD i 0) := fun e => hk e.1
            repeat' (first | (intro h; first | contradiction | omega | (conv => whnf) | skip) | (refine And.intro ?_ ?_) | (refine arith_ok ⟨by omega, by omega⟩ ?_) | (first | (refine draw_quiet hT mixed (by decide +kernel) ?_) | (refine draw_hard hT mixed (by decide +kernel) ?_)) | (refine Ret.goP (hla) rfl ?_) | (refine Ret.goQP (hla) rfl ?_))
            all_goals first | exact (not_keeps hk (by assumption) (by assumption)).elim | skip
            all_goals first | omega | (show ((agL f ls hs ds i).length + 1) * 56 ≤ _; omega) | rfl | exact absurd ⟨by assumption, by assumption⟩ hk | skip
            all_goals first | ((conv => whnf); refine ⟨i + 1, ⟨by omega, noBad_next h2 hnb⟩, ?_, by omega⟩; first | (refine ⟨rfl, [some 2], ?_, ?_⟩; all_goals (repeat' (first | exact rfl | exact trivial | (with_reducible assumption) | refine And.intro ?_ ?_)); all_goals (first | omega | assumption | ((repeat' (first | first | exact congrArg (D.recs 7) hnx | exact hlx | exact rfl | exact trivial | (with_reducible assumption) | refine And.intro ?_ ?_ | omega | assumption)); done)); done) | (refine ⟨rfl, [some 5], ?_, ?_⟩; all_goals (repeat' (first | exact rfl | exact trivial | (with_reducible assumption) | refine And.intro ?_ ?_)); all_goals (first | omega | assumption | ((repeat' (first | first | exact hlx | exact congrArg (D.recs 7) hnx | exact rfl | exact trivial | (with_reducible assumption) | refine And.intro ?_ ?_ | omega | assumption)); done)); done) | (refine ⟨rfl, [some 6], ?_, ?_⟩; all_goals (repeat' (first | exact rfl | exact trivial | (with_reducible assumption) | refine And.intro ?_ ?_)); all_goals (first | omega | assumption | ((repeat' (first | first | exact hlx | exact congrArg (D.recs 7) hnx | exact rfl | exact trivial | (with_reducible assumption) | refine And.intro ?_ ?_ | omega | assumption)); done)); done) | (refine ⟨rfl, [some 4], ?_, ?_⟩; all_goals (repeat' (first | exact rfl | exact trivial | (with_reducible assumption) | refine And.intro ?_ ?_)); all_goals (first | omega | assumption | ((repeat' (first | first | exact hlx | exact congrArg (D.recs 7) hnx | exact rfl | exact trivial | (with_reducible assumption) | refine And.intro ?_ ?_ | omega | assumption)); done)); done) | (refine ⟨rfl, [some 7], ?_, ?_⟩; all_goals (repeat' (first | exact rfl | exact trivial | (with_reducible assumption) | refine And.intro ?_ ?_)); all_goals (first | omega | assumption | ((repeat' (first | first | exact hlx | exact congrArg (D.recs 7) hnx | exact rfl | exact trivial | (with_reducible assumption) | refine And.intro ?_ ?_ | omega | assumption)); done)); done)) | trace_state
        · obtain rfl : i = hs.length := by omega
          have hag := ag_yes h2
          rw [agT, hag.1, hag.2]
          repeat' (first | (intro h; first | contradiction | omega | (conv => whnf) | skip) | (refine And.intro ?_ ?_) | (refine arith_ok ⟨by omega, by omega⟩ ?_) | (first | (refine draw_quiet hT mixed (by decide +kernel) ?_) | (refine draw_hard hT mixed (by decide +kernel) ?_)) | fail)
          all_goals first | omega | skip
          (first | (refine ⟨[], .tup [.sl 0 7 (later f ls hs ds).length, I 0], [Dh (later f ls hs ds)], ?_, ?_, ?_⟩; all_goals (repeat' (first | exact rfl | exact trivial | (with_reducible assumption) | refine And.intro ?_ ?_)); all_goals (first | omega | assumption); done) | (refine ⟨[some 1], .tup [.sl 0 7 (later f ls hs ds).length, I 0], [Dh (later f ls hs ds)], ?_, ?_, ?_⟩; all_goals (repeat' (first | exact rfl | exact trivial | (with_reducible assumption) | refine And.intro ?_ ?_)); all_goals (first | omega | assumption); done) | (refine ⟨[some 0], .tup [.sl 0 7 (later f ls hs ds).length, I 0], [Dh (later f ls hs ds)], ?_, ?_, ?_⟩; all_goals (repeat' (first | exact rfl | exact trivial | (with_reducible assumption) | refine And.intro ?_ ?_)); all_goals (first | omega | assumption); done) | (refine ⟨[some 2], .tup [.sl 0 7 (later f ls hs ds).length, I 0], [Dh (later f ls hs ds)], ?_, ?_, ?_⟩; all_goals (repeat' (first | exact rfl | exact trivial | (with_reducible assumption) | refine And.intro ?_ ?_)); all_goals (first | omega | assumption); done) | (refine ⟨[some 3], .tup [.sl 0 7 (later f ls hs ds).length, I 0], [Dh (later f ls hs ds)], ?_, ?_, ?_⟩; all_goals (repeat' (first | exact rfl | exact trivial | (with_reducible assumption) | refine And.intro ?_ ?_)); all_goals (first | omega | assumption); done) | (refine ⟨[some 4], .tup [.sl 0 7 (later f ls hs ds).length, I 0], [Dh (later f ls hs ds)], ?_, ?_, ?_⟩; all_goals (repeat' (first | exact rfl | exact trivial | (with_reducible assumption) | refine And.intro ?_ ?_)); all_goals (first | omega | assumption); done) | (refine ⟨[some 5], .tup [.sl 0 7 (later f ls hs ds).length, I 0], [Dh (later f ls hs ds)], ?_, ?_, ?_⟩; all_goals (repeat' (first | exact rfl | exact trivial | (with_reducible assumption) | refine And.intro ?_ ?_)); all_goals (first | omega | assumption); done))
end Go.Proofs.YtenofbabiacacaaGreat
