/-
  A portfolio a year later: what the functions return. The close of a year: what the functions return. The holdings behind the close of a year: rows of seven, no more than thirty. The codes of a year's close, and its end. No conditions but those in the statements.
-/
import Derived.Test.YtglbamncajileaaGreatDoorMk
import Derived.Test.YtglbamncajileaaGreatDoorSf
set_option linter.unusedVariables false
set_option linter.unusedSimpArgs false
set_option maxRecDepth 100000
set_option maxHeartbeats 4000000
namespace Go.Proofs.YtglbamncajileaaGreatDoor
open Go.AE
section
attribute [local irreducible] CallA LoopA DrawA CallQ arithK quoK remK eqK
attribute [local irreducible] cols cN cM cD cC dur pTop pBase lv
abbrev ageH (h : List Int) (d : Int) : List Int := [h.getD 0 0, h.getD 1 0, h.getD 2 0, h.getD 3 0, h.getD 4 0, h.getD 5 0 + 1, h.getD 6 0 - d]
abbrev keeps (f : Int) (ls : List Int) (h : List Int) (d : Int) : Prop := ¬ h.getD 6 0 - d = 0 ∧ ¬ h.getD 5 0 + 1 = hdur f ls h
abbrev bads (f : Int) (ls : List Int) (r : Int) (h : List Int) (d : Int) : Prop := keeps f ls h d ∧ cD f ls r (h.getD 1 0 + (h.getD 5 0 + 1)) = 0
def agL (f : Int) (ls : List Int) (hs : List (List Int)) (ds : List Int) : Nat → List (List Int)
 | 0 => []
 | i + 1 => if keeps f ls (hs.getD i []) (ds.getD i 0) then agL f ls hs ds i ++ [ageH (hs.getD i []) (ds.getD i 0)] else agL f ls hs ds i
theorem agL_zero (f : Int) (ls : List Int) (hs : List (List Int)) (ds : List Int) : agL f ls hs ds 0 = [] := rfl
theorem agL_yes {f : Int} {ls : List Int} {hs : List (List Int)} {ds : List Int} {i : Nat} (h : keeps f ls (hs.getD i []) (ds.getD i 0)) : agL f ls hs ds (i + 1) = agL f ls hs ds i ++ [ageH (hs.getD i []) (ds.getD i 0)] := by
 show (if _ then _ else _) = _
 rw [if_pos h]
theorem agL_no {f : Int} {ls : List Int} {hs : List (List Int)} {ds : List Int} {i : Nat} (h : ¬ keeps f ls (hs.getD i []) (ds.getD i 0)) : agL f ls hs ds (i + 1) = agL f ls hs ds i := by
 show (if _ then _ else _) = _
 rw [if_neg h]
theorem agL_yes2 {f : Int} {ls : List Int} {hs : List (List Int)} {ds : List Int} {i : Nat} (h : keeps f ls (hs.getD ((i : Int)).toNat []) (ds.getD ((i : Int)).toNat 0)) : agL f ls hs ds i ++ [ageH (hs.getD ((i : Int)).toNat []) (ds.getD ((i : Int)).toNat 0)] = agL f ls hs ds (i + 1) ∧ (agL f ls hs ds i ++ [ageH (hs.getD ((i : Int)).toNat []) (ds.getD ((i : Int)).toNat 0)]).length = (agL f ls hs ds (i + 1)).length := by
 have h1 : agL f ls hs ds i ++ [ageH (hs.getD ((i : Int)).toNat []) (ds.getD ((i : Int)).toNat 0)] = agL f ls hs ds (i + 1) := (agL_yes h).symm
 exact ⟨h1, by rw [h1]⟩
theorem agL_no2 {f : Int} {ls : List Int} {hs : List (List Int)} {ds : List Int} {i : Nat} (h : ¬ keeps f ls (hs.getD ((i : Int)).toNat []) (ds.getD ((i : Int)).toNat 0)) : agL f ls hs ds i = agL f ls hs ds (i + 1) ∧ (agL f ls hs ds i).length = (agL f ls hs ds (i + 1)).length := by
 have h1 : agL f ls hs ds i = agL f ls hs ds (i + 1) := (agL_no h).symm
 exact ⟨h1, by rw [h1]⟩
theorem agL_len {f : Int} {ls : List Int} {hs : List (List Int)} {ds : List Int} : ∀ i, (agL f ls hs ds i).length ≤ i
 | 0 => Nat.le_refl _
 | i + 1 => by
   have ih := agL_len (f := f) (ls := ls) (hs := hs) (ds := ds) i
   by_cases h : keeps f ls (hs.getD i []) (ds.getD i 0)
   · rw [agL_yes h, List.length_append]; simp; omega
   · rw [agL_no h]; omega
abbrev noBad (f : Int) (ls : List Int) (r : Int) (hs : List (List Int)) (ds : List Int) (i : Nat) : Prop := ∀ j, j < i → ¬ bads f ls r (hs.getD j []) (ds.getD j 0)
theorem noBad_next {f : Int} {ls : List Int} {r : Int} {hs : List (List Int)} {ds : List Int} {i : Nat} (h : noBad f ls r hs ds i) (h1 : ¬ bads f ls r (hs.getD i []) (ds.getD i 0)) : noBad f ls r hs ds (i + 1) := fun j hj => by
 by_cases he : j = i
 · rw [he]; exact h1
 · exact h j (by omega)
theorem age_ok {f : Int} {ls : List Int} {r : Int} {h : List Int} {d : Int} (ho : okH f ls r h) (hd : 0 ≤ d ∧ d ≤ h.getD 6 0) (hk : keeps f ls h d) (hb : ¬ bads f ls r h d) : okH f ls r (ageH h d) := by
 have h1 := ho.1.2.1
 have h2 := ho.2
 have h3 : cD f ls r (h.getD 1 0 + (h.getD 5 0 + 1)) ≠ 0 := fun e => hb ⟨hk, e⟩
 have h4 : ¬ h.getD 5 0 + 1 = dur f ls (h.getD 0 0) (h.getD 1 0) (h.getD 2 0) := hk.2
 have h5 : 0 ≤ h.getD 5 0 + 1 ∧ h.getD 5 0 + 1 ≤ dur f ls (h.getD 0 0) (h.getD 1 0) (h.getD 2 0) - 1 := by omega
 have h6 : 0 ≤ h.getD 6 0 - d ∧ h.getD 6 0 - d ≤ 1000000 := by omega
 exact ⟨⟨ho.1.1, h5, h3⟩, h6⟩
theorem agL_all {f : Int} {ls : List Int} {r : Int} {hs : List (List Int)} {ds : List Int} (ho : okF f ls r hs) (hd : dOk hs ds) (hb : noBad f ls r hs ds hs.length) : ∀ i, i ≤ hs.length → ∀ h ∈ agL f ls hs ds i, h.length = 7 ∧ okH f ls r h
 | 0, _ => fun h hh => by rw [agL_zero] at hh; cases hh
 | i + 1, hi => fun h hh => by
   by_cases hk : keeps f ls (hs.getD i []) (ds.getD i 0)
   · rw [agL_yes hk] at hh
     rcases List.mem_append.1 hh with h1 | h1
     · exact agL_all ho hd hb i (by omega) h h1
     · rw [List.mem_singleton.1 h1]
       exact ⟨rfl, age_ok (ho.2.2 _ (getD_mem (by omega))) (hd.2 i (by omega)) hk (hb i (by omega))⟩
   · rw [agL_no hk] at hh
     exact agL_all ho hd hb i (by omega) h hh
abbrev later (f : Int) (ls : List Int) (hs : List (List Int)) (ds : List Int) : List (List Int) := agL f ls hs ds hs.length
theorem later_ok {f : Int} {ls : List Int} {r : Int} {hs : List (List Int)} {ds : List Int} (ho : okF f ls r hs) (hd : dOk hs ds) (hb : noBad f ls r hs ds hs.length) : okF f ls r (later f ls hs ds) := by
 have h1 := agL_len (f := f) (ls := ls) (hs := hs) (ds := ds) hs.length
 have h2 := ho.2.1
 exact ⟨ho.1, Nat.le_trans h1 h2, fun h hh => (agL_all ho hd hb hs.length (Nat.le_refl _) h hh).2⟩
attribute [local irreducible] agL
noncomputable instance (f : Int) (ls : List Int) (r : Int) (hs : List (List Int)) (ds : List Int) (i : Nat) : Decidable (noBad f ls r hs ds i) := Classical.propDecidable _
noncomputable def agR (f : Int) (ls : List Int) (r : Int) (hs : List (List Int)) (ds : List Int) : List (List Int) := if noBad f ls r hs ds hs.length then later f ls hs ds else []
noncomputable def agC (f : Int) (ls : List Int) (r : Int) (hs : List (List Int)) (ds : List Int) : Int := if noBad f ls r hs ds hs.length then 0 else 5
theorem ag_yes {f : Int} {ls : List Int} {r : Int} {hs : List (List Int)} {ds : List Int} (h : noBad f ls r hs ds hs.length) : agR f ls r hs ds = later f ls hs ds ∧ agC f ls r hs ds = 0 := ⟨if_pos h, if_pos h⟩
theorem ag_no {f : Int} {ls : List Int} {r : Int} {hs : List (List Int)} {ds : List Int} (h : ¬ noBad f ls r hs ds hs.length) : agR f ls r hs ds = [] ∧ agC f ls r hs ds = 5 := ⟨if_neg h, if_neg h⟩
noncomputable abbrev agT (f : Int) (ls : List Int) (r : Int) (hs : List (List Int)) (ds : List Int) : AV := .tup [.sl 0 7 (agR f ls r hs ds).length, I (agC f ls r hs ds)]
theorem implAge_call (f : Int) (ls : List Int) (r : Int) (hs : List (List Int)) (ds : List Int) (hn : ls.length ≤ 1048576) (ho : okF f ls r hs) (hd : dOk hs ds) : Ca 280 [Bs f ls r, Rh hs, Ri ds] [] (fun v J => v = agT f ls r hs ds ∧ J = [Dh (agR f ls r hs ds)]) := by
 refine cZ Tryz.func280 ?_
 have hl := ho.2.1
 have hdl := hd.1
 have hc := implCheck_ret f ls r hs ds hn (by omega) (by omega)
 rw [show cDt f ls r hs ds true = 0 from (if_pos ho).trans (if_pos ⟨rfl, hd⟩)] at hc
 repeat' (conv => whnf); first | (intro h; try exact nZ) | apply And.intro | refine dZ ?_ | refine sZ ?_ | (refine Ret.go (hc) rfl rfl ?_) | (refine Ret.goQ (hc) rfl rfl ?_) | fail
 all_goals try omega
 refine loop_rule hT (fun i : Nat => i ≤ hs.length ∧ noBad f ls r hs ds i) 62 2 [2, 3, 9, 20, 21, 22] (fun i => [Ri ds, .ptr 0 0, .sl 2 7 (agL f ls hs ds i).length, Rh hs, I hs.length, I i]) (fun i => [.cells [I f, Ri ls, I r], .dead, Dh (agL f ls hs ds i)]) (fun i => hs.length - i) (0) (Nat.le_of_ble_eq_true rfl) ?_ ?_ ?_
 · exact ⟨Nat.zero_le _, fun j hj => absurd hj (Nat.not_lt_zero j)⟩
 · (refine ⟨rfl, [some 1], ?_, ?_⟩; (repeat' first | apply And.intro | exact xZ | first | exact congrArg (D.recs 7) (agL_zero f ls hs ds).symm | (rw [agL_zero]; rfl) | fail); done)
 · rintro i ⟨h1, h2⟩
   by_cases hi : i < hs.length
   · have hoh := ho.2.2 (hs.getD ((i : Int)).toNat []) (getD_mem hi)
     have hsm := okH_sum hoh
     have hdb := dur_bd hoh.1.1
     have hq := hoh.1.2.1
     have hdi : 0 ≤ ds.getD ((i : Int)).toNat 0 ∧ ds.getD ((i : Int)).toNat 0 ≤ (hs.getD ((i : Int)).toNat []).getD 6 0 := hd.2 i hi
     have hal := agL_len (f := f) (ls := ls) (hs := hs) (ds := ds) i
     have hh5 : 0 ≤ (hs.getD ((i : Int)).toNat []).getD 5 0 ∧ (hs.getD ((i : Int)).toNat []).getD 5 0 ≤ 1000 := by omega
     have hdu := implDur_ret f ls r ((hs.getD ((i : Int)).toNat []).getD 0 0) ((hs.getD ((i : Int)).toNat []).getD 1 0) ((hs.getD ((i : Int)).toNat []).getD 2 0) ((hs.getD ((i : Int)).toNat []).getD 3 0) ((hs.getD ((i : Int)).toNat []).getD 4 0) hoh.1.1
     by_cases hk : keeps f ls (hs.getD ((i : Int)).toNat []) (ds.getD ((i : Int)).toNat 0)
     · obtain ⟨hnx, hlx⟩ := agL_yes2 (i := i) hk
       have hk1 := hk.1
       have hk2 : ¬ (hs.getD ((i : Int)).toNat []).getD 5 0 + 1 = dur f ls ((hs.getD ((i : Int)).toNat []).getD 0 0) ((hs.getD ((i : Int)).toNat []).getD 1 0) ((hs.getD ((i : Int)).toNat []).getD 2 0) := hk.2
       have hpp := parts_ret f ls r (ageH (hs.getD ((i : Int)).toNat []) (ds.getD ((i : Int)).toNat 0)) hoh.1.1 (by show 0 ≤ (hs.getD ((i : Int)).toNat []).getD 5 0 + 1 ∧ (hs.getD ((i : Int)).toNat []).getD 5 0 + 1 ≤ dur f ls ((hs.getD ((i : Int)).toNat []).getD 0 0) ((hs.getD ((i : Int)).toNat []).getD 1 0) ((hs.getD ((i : Int)).toNat []).getD 2 0); omega)
       by_cases hz : cD f ls r ((hs.getD ((i : Int)).toNat []).getD 1 0 + ((hs.getD ((i : Int)).toNat []).getD 5 0 + 1)) = 0
       · have hag := ag_no (f := f) (ls := ls) (r := r) (hs := hs) (ds := ds) (fun hnb => hnb i hi ⟨hk, hz⟩)
         rw [agT, hag.1, hag.2]
         repeat' (conv => whnf); first | (intro h; try exact nZ) | apply And.intro | refine dZ ?_ | refine sZ ?_ | (refine Ret.go (hdu) rfl rfl ?_) | (refine Ret.goQ (hdu) rfl rfl ?_) | (refine Ret.go (hpp) rfl rfl ?_) | (refine Ret.goQ (hpp) rfl rfl ?_) | fail
         all_goals first | omega | (refine ⟨[none], .tup [.sl 0 7 0, I 5], [Dh []], ?_, ?_, ?_⟩; all_goals (repeat' (first | exact rfl | exact trivial | (with_reducible assumption) | refine And.intro ?_ ?_ | omega)))
       · have hnb : ¬ bads f ls r (hs.getD i []) (ds.getD i 0) := fun e => hz e.2
         repeat' (conv => whnf); first | (intro h; try exact nZ) | apply And.intro | refine dZ ?_ | refine sZ ?_ | (refine Ret.go (hdu) rfl rfl ?_) | (refine Ret.goQ (hdu) rfl rfl ?_) | (refine Ret.go (hpp) rfl rfl ?_) | (refine Ret.goQ (hpp) rfl rfl ?_) | fail
         all_goals first | omega | (show ((agL f ls hs ds i).length + 1) * 56 ≤ _; omega) | rfl | exact absurd ⟨by assumption, by assumption⟩ hk | skip
         all_goals first | ((conv => whnf); refine ⟨i + 1, ⟨by omega, noBad_next h2 hnb⟩, ?_, by omega⟩; first | (refine ⟨rfl, [some 2], ?_, ?_⟩; (repeat' first | apply And.intro | exact xZ | first | exact congrArg (D.recs 7) hnx | exact hlx | fail); done) | (refine ⟨rfl, [some 5], ?_, ?_⟩; (repeat' first | apply And.intro | exact xZ | first | exact hlx | exact congrArg (D.recs 7) hnx | fail); done) | (refine ⟨rfl, [some 6], ?_, ?_⟩; (repeat' first | apply And.intro | exact xZ | first | exact hlx | exact congrArg (D.recs 7) hnx | fail); done) | (refine ⟨rfl, [some 4], ?_, ?_⟩; (repeat' first | apply And.intro | exact xZ | first | exact hlx | exact congrArg (D.recs 7) hnx | fail); done) | (refine ⟨rfl, [some 7], ?_, ?_⟩; (repeat' first | apply And.intro | exact xZ | first | exact hlx | exact congrArg (D.recs 7) hnx | fail); done))
     · obtain ⟨hnx, hlx⟩ := agL_no2 (i := i) hk
       have hnb : ¬ bads f ls r (hs.getD i []) (ds.getD i 0) := fun e => hk e.1
       repeat' (conv => whnf); first | (intro h; try exact nZ) | apply And.intro | refine dZ ?_ | refine sZ ?_ | (refine Ret.go (hdu) rfl rfl ?_) | (refine Ret.goQ (hdu) rfl rfl ?_) | fail
       all_goals first | omega | (show ((agL f ls hs ds i).length + 1) * 56 ≤ _; omega) | rfl | exact absurd ⟨by assumption, by assumption⟩ hk | skip
       all_goals first | ((conv => whnf); refine ⟨i + 1, ⟨by omega, noBad_next h2 hnb⟩, ?_, by omega⟩; first | (refine ⟨rfl, [some 2], ?_, ?_⟩; (repeat' first | apply And.intro | exact xZ | first | exact congrArg (D.recs 7) hnx | exact hlx | fail); done) | (refine ⟨rfl, [some 5], ?_, ?_⟩; (repeat' first | apply And.intro | exact xZ | first | exact hlx | exact congrArg (D.recs 7) hnx | fail); done) | (refine ⟨rfl, [some 6], ?_, ?_⟩; (repeat' first | apply And.intro | exact xZ | first | exact hlx | exact congrArg (D.recs 7) hnx | fail); done) | (refine ⟨rfl, [some 4], ?_, ?_⟩; (repeat' first | apply And.intro | exact xZ | first | exact hlx | exact congrArg (D.recs 7) hnx | fail); done) | (refine ⟨rfl, [some 7], ?_, ?_⟩; (repeat' first | apply And.intro | exact xZ | first | exact hlx | exact congrArg (D.recs 7) hnx | fail); done))
   · obtain rfl : i = hs.length := by omega
     have hag := ag_yes h2
     rw [agT, hag.1, hag.2]
     repeat' (conv => whnf); first | (intro h; try exact nZ) | apply And.intro | refine dZ ?_ | refine sZ ?_ | fail
     all_goals try omega
     (exact endEA (.tup [.sl 0 7 (later f ls hs ds).length, I 0]) [Dh (later f ls hs ds)])
abbrev cntH (h : List Int) (d : Int) : List Int := [h.getD 0 0, h.getD 1 0, h.getD 2 0, h.getD 3 0, h.getD 4 0, h.getD 5 0, h.getD 6 0 - d]
theorem not_keeps {f : Int} {ls : List Int} {h : List Int} {d : Int} (hk : ¬ keeps f ls h d) (h1 : ¬ h.getD 6 0 - d = 0) (h2 : ¬ h.getD 5 0 = dur f ls (h.getD 0 0) (h.getD 1 0) (h.getD 2 0) - 1) : False := hk ⟨h1, fun e => h2 (by
 have e2 : h.getD 5 0 + 1 = dur f ls (h.getD 0 0) (h.getD 1 0) (h.getD 2 0) := e
 omega)⟩
theorem specAge_call (f : Int) (ls : List Int) (r : Int) (hs : List (List Int)) (ds : List Int) (hn : ls.length ≤ 1048576) (ho : okF f ls r hs) (hd : dOk hs ds) : Ca 234 [Bs f ls r, Rh hs, Ri ds] [] (fun v J => v = agT f ls r hs ds ∧ J = [Dh (agR f ls r hs ds)]) := by
 refine cZ Tryz.func234 ?_
 have hl := ho.2.1
 have hdl := hd.1
 repeat' (conv => whnf); first | (intro h; try exact nZ) | apply And.intro | refine dZ ?_ | refine sZ ?_ | (refine Ret.goP (specPortfolio_ret f ls r hs hn (by omega)) rfl ?_) | (refine Ret.goQP (specPortfolio_ret f ls r hs hn (by omega)) rfl ?_) | fail
 all_goals first | omega | exact absurd ho ‹_› | skip
 refine loop_rule hT (fun i : Nat => i ≤ hs.length) 91 1 [1, 2, 3, 8, 9] (fun i => [Rh hs, Ri ds, .ptr 0 0, Bo true, I i]) (fun _ => [.cells [I f, Ri ls, I r]]) (fun i => hs.length - i) (0) (Nat.le_of_ble_eq_true rfl) ?_ ?_ ?_
 · exact Nat.zero_le _
 · (exact endHA)
 · rintro i h1
   by_cases hi : i < hs.length
   · have hdi : 0 ≤ ds.getD ((i : Int)).toNat 0 ∧ ds.getD ((i : Int)).toNat 0 ≤ (hs.getD ((i : Int)).toNat []).getD 6 0 := hd.2 i hi
     repeat' (conv => whnf); first | (intro h; try exact nZ) | apply And.intro | refine dZ ?_ | refine sZ ?_ | (refine Ret.goP (l01In_ret _ _ _) rfl ?_) | (refine Ret.goQP (l01In_ret _ _ _) rfl ?_) | fail
     all_goals first | omega | exact absurd hdi ‹_› | ((conv => whnf); refine ⟨i + 1, by omega, ?_, by omega⟩; (exact endHA))
   · obtain rfl : i = hs.length := by omega
     repeat' (conv => whnf); first | (intro h; try exact nZ) | apply And.intro | refine dZ ?_ | refine sZ ?_ | fail
     all_goals try omega
     refine loop_rule hT (fun i : Nat => i ≤ hs.length ∧ noBad f ls r hs ds i) 91 2 [1, 2, 3, 10, 11] (fun i => [Rh hs, Ri ds, .ptr 0 0, .sl 2 7 (agL f ls hs ds i).length, I i]) (fun i => [.cells [I f, Ri ls, I r], .dead, Dh (agL f ls hs ds i)]) (fun i => hs.length - i) (0) (Nat.le_of_ble_eq_true rfl) ?_ ?_ ?_
     · exact ⟨Nat.zero_le _, fun j hj => absurd hj (Nat.not_lt_zero j)⟩
     · (refine ⟨rfl, [some 1], ?_, ?_⟩; (repeat' first | apply And.intro | exact xZ | first | exact congrArg (D.recs 7) (agL_zero f ls hs ds).symm | (rw [agL_zero]; rfl) | fail); done)
     · clear h1
       rintro i ⟨h1, h2⟩
       by_cases hi : i < hs.length
       · have hoh := ho.2.2 (hs.getD ((i : Int)).toNat []) (getD_mem hi)
         have hsm := okH_sum hoh
         have hdb := dur_bd hoh.1.1
         have hq := hoh.1.2.1
         have hdi : 0 ≤ ds.getD ((i : Int)).toNat 0 ∧ ds.getD ((i : Int)).toNat 0 ≤ (hs.getD ((i : Int)).toNat []).getD 6 0 := hd.2 i hi
         have hal := agL_len (f := f) (ls := ls) (hs := hs) (ds := ds) i
         have hh5 : 0 ≤ (hs.getD ((i : Int)).toNat []).getD 5 0 ∧ (hs.getD ((i : Int)).toNat []).getD 5 0 ≤ 1000 := by omega
         have hla := specLast_ret f ls r (cntH (hs.getD ((i : Int)).toNat []) (ds.getD ((i : Int)).toNat 0)) hoh.1.1
         by_cases hk : keeps f ls (hs.getD ((i : Int)).toNat []) (ds.getD ((i : Int)).toNat 0)
         · obtain ⟨hnx, hlx⟩ := agL_yes2 (i := i) hk
           have hk1 := hk.1
           have hk2 : ¬ (hs.getD ((i : Int)).toNat []).getD 5 0 + 1 = dur f ls ((hs.getD ((i : Int)).toNat []).getD 0 0) ((hs.getD ((i : Int)).toNat []).getD 1 0) ((hs.getD ((i : Int)).toNat []).getD 2 0) := hk.2
           have hk3 : ¬ (hs.getD ((i : Int)).toNat []).getD 5 0 = dur f ls ((hs.getD ((i : Int)).toNat []).getD 0 0) ((hs.getD ((i : Int)).toNat []).getD 1 0) ((hs.getD ((i : Int)).toNat []).getD 2 0) - 1 := by omega
           by_cases hz : cD f ls r ((hs.getD ((i : Int)).toNat []).getD 1 0 + ((hs.getD ((i : Int)).toNat []).getD 5 0 + 1)) = 0
           · have hag := ag_no (f := f) (ls := ls) (r := r) (hs := hs) (ds := ds) (fun hnb => hnb i hi ⟨hk, hz⟩)
             rw [agT, hag.1, hag.2]
             repeat' (conv => whnf); first | (intro h; try exact nZ) | apply And.intro | refine dZ ?_ | refine sZ ?_ | (refine Ret.goP (hla) rfl ?_) | (refine Ret.goQP (hla) rfl ?_) | (refine Ret.go (specD_ret f ls r _ hoh.1.1.1.1 hoh.1.1.1.2 (by omega)) rfl rfl ?_) | (refine Ret.goQ (specD_ret f ls r _ hoh.1.1.1.1 hoh.1.1.1.2 (by omega)) rfl rfl ?_) | fail
             all_goals first | omega | exact absurd ‹_› hk3 | (refine ⟨[none], .tup [.sl 0 7 0, I 5], [Dh []], ?_, ?_, ?_⟩; all_goals (repeat' (first | exact rfl | exact trivial | (with_reducible assumption) | refine And.intro ?_ ?_ | omega)))
           · have hnb : ¬ bads f ls r (hs.getD i []) (ds.getD i 0) := fun e => hz e.2
             repeat' (conv => whnf); first | (intro h; try exact nZ) | apply And.intro | refine dZ ?_ | refine sZ ?_ | (refine Ret.goP (hla) rfl ?_) | (refine Ret.goQP (hla) rfl ?_) | (refine Ret.go (specD_ret f ls r _ hoh.1.1.1.1 hoh.1.1.1.2 (by omega)) rfl rfl ?_) | (refine Ret.goQ (specD_ret f ls r _ hoh.1.1.1.1 hoh.1.1.1.2 (by omega)) rfl rfl ?_) | fail
             all_goals first | exact absurd ‹_› hk3 | skip
             all_goals first | omega | (show ((agL f ls hs ds i).length + 1) * 56 ≤ _; omega) | rfl | exact absurd ⟨by assumption, by assumption⟩ hk | skip
             all_goals first | ((conv => whnf); refine ⟨i + 1, ⟨by omega, noBad_next h2 hnb⟩, ?_, by omega⟩; first | (refine ⟨rfl, [some 2], ?_, ?_⟩; (repeat' first | apply And.intro | exact xZ | first | exact congrArg (D.recs 7) hnx | exact hlx | fail); done) | (refine ⟨rfl, [some 5], ?_, ?_⟩; (repeat' first | apply And.intro | exact xZ | first | exact hlx | exact congrArg (D.recs 7) hnx | fail); done) | (refine ⟨rfl, [some 6], ?_, ?_⟩; (repeat' first | apply And.intro | exact xZ | first | exact hlx | exact congrArg (D.recs 7) hnx | fail); done) | (refine ⟨rfl, [some 4], ?_, ?_⟩; (repeat' first | apply And.intro | exact xZ | first | exact hlx | exact congrArg (D.recs 7) hnx | fail); done) | (refine ⟨rfl, [some 7], ?_, ?_⟩; (repeat' first | apply And.intro | exact xZ | first | exact hlx | exact congrArg (D.recs 7) hnx | fail); done))
         · obtain ⟨hnx, hlx⟩ := agL_no2 (i := i) hk
           have hnb : ¬ bads f ls r (hs.getD i []) (ds.getD i 0) := fun e => hk e.1
           repeat' (conv => whnf); first | (intro h; try exact nZ) | apply And.intro | refine dZ ?_ | refine sZ ?_ | (refine Ret.goP (hla) rfl ?_) | (refine Ret.goQP (hla) rfl ?_) | fail
           all_goals first | exact (not_keeps hk ‹_› ‹_›).elim | skip
           all_goals first | omega | (show ((agL f ls hs ds i).length + 1) * 56 ≤ _; omega) | rfl | exact absurd ⟨by assumption, by assumption⟩ hk | skip
           all_goals first | ((conv => whnf); refine ⟨i + 1, ⟨by omega, noBad_next h2 hnb⟩, ?_, by omega⟩; first | (refine ⟨rfl, [some 2], ?_, ?_⟩; (repeat' first | apply And.intro | exact xZ | first | exact congrArg (D.recs 7) hnx | exact hlx | fail); done) | (refine ⟨rfl, [some 5], ?_, ?_⟩; (repeat' first | apply And.intro | exact xZ | first | exact hlx | exact congrArg (D.recs 7) hnx | fail); done) | (refine ⟨rfl, [some 6], ?_, ?_⟩; (repeat' first | apply And.intro | exact xZ | first | exact hlx | exact congrArg (D.recs 7) hnx | fail); done) | (refine ⟨rfl, [some 4], ?_, ?_⟩; (repeat' first | apply And.intro | exact xZ | first | exact hlx | exact congrArg (D.recs 7) hnx | fail); done) | (refine ⟨rfl, [some 7], ?_, ?_⟩; (repeat' first | apply And.intro | exact xZ | first | exact hlx | exact congrArg (D.recs 7) hnx | fail); done))
       · obtain rfl : i = hs.length := by omega
         have hag := ag_yes h2
         rw [agT, hag.1, hag.2]
         repeat' (conv => whnf); first | (intro h; try exact nZ) | apply And.intro | refine dZ ?_ | refine sZ ?_ | fail
         all_goals try omega
         (exact endEA (.tup [.sl 0 7 (later f ls hs ds).length, I 0]) [Dh (later f ls hs ds)])
end
section
attribute [local irreducible] CallA LoopA DrawA CallQ arithK quoK remK eqK
abbrev V7 (a b c d e f g : Int) : AV := .agg [I a, I b, I c, I d, I e, I f, I g]
def isYr (a b c d e f g : Int) : Prop := allR [a, b, c, d, e, f, g] 0 1000000000000
instance (a b c d e f g : Int) : Decidable (isYr a b c d e f g) := by unfold isYr; infer_instance
theorem yr_bd {a b c d e f g : Int} (h : isYr a b c d e f g) : (0 ≤ a ∧ a ≤ 1000000000000) ∧ (0 ≤ b ∧ b ≤ 1000000000000) ∧ (0 ≤ c ∧ c ≤ 1000000000000) ∧ (0 ≤ d ∧ d ≤ 1000000000000) ∧ (0 ≤ e ∧ e ≤ 1000000000000) ∧ (0 ≤ f ∧ f ≤ 1000000000000) ∧ 0 ≤ g ∧ g ≤ 1000000000000 :=
 ⟨h a (by simp), h b (by simp), h c (by simp), h d (by simp), h e (by simp), h f (by simp), h g (by simp)⟩
theorem specYear_ret (a b c d e f g : Int) : Rt 236 [V7 a b c d e f g] (Bo (decide (isYr a b c d e f g))) := by
 refine bZ Tryz.func236 ?_
 have h0 := l01Within_ret [a, b, c, d, e, f, g] 7 0 1000000000000 (by simp)
 repeat' (conv => whnf); first | (intro h; try exact nZ) | apply And.intro | refine dZ ?_ | refine sZ ?_ | refine Ret.uP (h0) ?_ | refine Ret.uQP (h0) ?_ | fail
 all_goals first | exact bv_true h.1 | exact bv_false (fun hh => h ⟨hh, by simp⟩)
theorem implYear_ret (a b c d e f g : Int) : Rt 282 [V7 a b c d e f g] (Bo (decide (isYr a b c d e f g))) := by
 refine bZ Tryz.func282 ?_
 have h0 := allIn_ret [a, b, c, d, e, f, g] 0 1000000000000 (by simp)
 repeat' (conv => whnf); first | (intro h; try exact nZ) | apply And.intro | refine dZ ?_ | refine sZ ?_ | refine Ret.uP (h0) ?_ | refine Ret.uQP (h0) ?_ | fail
 all_goals first | exact bv_true h | exact bv_false h
theorem implEndF_ret (a b c d e f g : Int) (h : isYr a b c d e f g) : Rt 218 [V7 a b c d e f g] (I (a + b + c - d + e - f)) := by
 refine bZ Tryz.func218 ?_
 have hb := yr_bd h
 repeat' (conv => whnf); first | (intro h; try exact nZ) | apply And.intro | refine dZ ?_ | refine sZ ?_ | fail
 all_goals first | exact rZ
theorem specEnd2_ret (a b c d e f g : Int) (h : isYr a b c d e f g) : Rt 115 [V7 a b c d e f g] (I (a + b + c - d + e - f)) := by
 refine bZ Tryz.func115 ?_
 have hb := yr_bd h
 repeat' (conv => whnf); first | (intro h; try exact nZ) | apply And.intro | refine dZ ?_ | refine sZ ?_ | fail
 all_goals first | exact rZ
attribute [local irreducible] cols cN cM cD cC dur pTop pBase lv clS okT sumH agL
abbrev clm (f : Int) (ls : List Int) (hs : List (List Int)) (ds : List Int) : Int := clS f ls hs ds hs.length
def yrQ (f : Int) (ls : List Int) (r : Int) (hs : List (List Int)) (ds : List Int) (fu ex it : Int) : Prop := isYr fu (nets f ls r hs) (loads f ls r hs) ex it (clm f ls hs ds) (tot f ls r (later f ls hs ds))
def clQ (f : Int) (ls : List Int) (r : Int) (hs : List (List Int)) (ds : List Int) (fu ex it : Int) : Prop := noBad f ls r hs ds hs.length ∧ yrQ f ls r hs ds fu ex it
noncomputable instance (f : Int) (ls : List Int) (r : Int) (hs : List (List Int)) (ds : List Int) (fu ex it : Int) : Decidable (yrQ f ls r hs ds fu ex it) := Classical.propDecidable _
noncomputable instance (f : Int) (ls : List Int) (r : Int) (hs : List (List Int)) (ds : List Int) (fu ex it : Int) : Decidable (clQ f ls r hs ds fu ex it) := Classical.propDecidable _
noncomputable def clC (f : Int) (ls : List Int) (r : Int) (hs : List (List Int)) (ds : List Int) (fu ex it : Int) : Int := if noBad f ls r hs ds hs.length then (if yrQ f ls r hs ds fu ex it then 0 else 3) else 5
noncomputable def wh (p : Prop) (x : Int) : Int := @ite _ p (Classical.propDecidable p) x 0
noncomputable def whL (p : Prop) (x : List (List Int)) : List (List Int) := @ite _ p (Classical.propDecidable p) x []
theorem wh_yes {p : Prop} (h : p) (x : Int) : wh p x = x := if_pos h
theorem wh_no {p : Prop} (h : ¬ p) (x : Int) : wh p x = 0 := if_neg h
theorem whL_yes {p : Prop} (h : p) (x : List (List Int)) : whL p x = x := if_pos h
theorem whL_no {p : Prop} (h : ¬ p) (x : List (List Int)) : whL p x = [] := if_neg h
noncomputable abbrev yT (p : Prop) (f : Int) (ls : List Int) (r : Int) (hs : List (List Int)) (ds : List Int) (fu ex it : Int) (s : AV) (c : Int) : AV :=
 .tup [V7 (wh p fu) (wh p (nets f ls r hs)) (wh p (loads f ls r hs)) (wh p ex) (wh p it) (wh p (clm f ls hs ds)) (wh p (tot f ls r (later f ls hs ds))), s, I c]
noncomputable abbrev yL (p : Prop) (f : Int) (ls : List Int) (hs : List (List Int)) (ds : List Int) : List (List Int) := whL p (later f ls hs ds)
theorem yT_no {p : Prop} (h : ¬ p) {f : Int} {ls : List Int} {r : Int} {hs : List (List Int)} {ds : List Int} {fu ex it c : Int} {s : AV} : yT p f ls r hs ds fu ex it s c = .tup [V7 0 0 0 0 0 0 0, s, I c] := by
 unfold yT; rw [wh_no h, wh_no h, wh_no h, wh_no h, wh_no h, wh_no h, wh_no h]
theorem yT_yes {p : Prop} (h : p) {f : Int} {ls : List Int} {r : Int} {hs : List (List Int)} {ds : List Int} {fu ex it c : Int} {s : AV} : yT p f ls r hs ds fu ex it s c = .tup [V7 fu (nets f ls r hs) (loads f ls r hs) ex it (clm f ls hs ds) (tot f ls r (later f ls hs ds)), s, I c] := by
 unfold yT; rw [wh_yes h, wh_yes h, wh_yes h, wh_yes h, wh_yes h, wh_yes h, wh_yes h]
attribute [local irreducible] nets loads tot
theorem specClose_call (f : Int) (ls : List Int) (r : Int) (hs : List (List Int)) (ds : List Int) (fu ex it : Int) (hn : ls.length ≤ 1048576) (ho : okF f ls r hs) (hd : dOk hs ds) : Ca 169 [Bs f ls r, Rh hs, Ri ds, I fu, I ex, I it] [] (fun v J => v = yT (clQ f ls r hs ds fu ex it) f ls r hs ds fu ex it (.sl 0 7 (yL (clQ f ls r hs ds fu ex it) f ls hs ds).length) (clC f ls r hs ds fu ex it) ∧ J = [Dh (yL (clQ f ls r hs ds fu ex it) f ls hs ds)]) := by
 refine cZ Tryz.func169 ?_
 have hl := ho.2.1
 have hdl := hd.1
 have hag := specAge_call f ls r hs ds hn ho hd
 by_cases hb : noBad f ls r hs ds hs.length
 · rw [agT, (ag_yes hb).1, (ag_yes hb).2] at hag
   have hlo := later_ok ho hd hb
   by_cases hy : yrQ f ls r hs ds fu ex it
   · have hq : clQ f ls r hs ds fu ex it := ⟨hb, hy⟩
     have hc : clC f ls r hs ds fu ex it = 0 := (if_pos hb).trans (if_pos hy)
     rw [yT_yes hq, yL, whL_yes hq, hc]
     unfold yrQ at hy
     repeat' (conv => whnf); first | (intro h; try exact nZ) | apply And.intro | refine dZ ?_ | refine sZ ?_ | refine gZ [] (hag) ?_ | (refine Ret.go (specPrem_ret f ls r hs hn ho) rfl rfl ?_) | (refine Ret.goQ (specPrem_ret f ls r hs hn ho) rfl rfl ?_) | refine Ret.uA (specTotal_ret f ls r (later f ls hs ds) hn hlo) ?_ | refine Ret.uQ (specTotal_ret f ls r (later f ls hs ds) hn hlo) ?_ | (refine Ret.go (specClaims_ret f ls r hs ds ho hd) rfl rfl ?_) | (refine Ret.goQ (specClaims_ret f ls r hs ds ho hd) rfl rfl ?_) | (refine Ret.goP (specYear_ret _ _ _ _ _ _ _) rfl ?_) | (refine Ret.goQP (specYear_ret _ _ _ _ _ _ _) rfl ?_) | fail
     all_goals first | omega | exact absurd hy ‹_› | (exact endE1 [some 2] (.tup [V7 fu (nets f ls r hs) (loads f ls r hs) ex it (clm f ls hs ds) (tot f ls r (later f ls hs ds)), .sl 0 7 (later f ls hs ds).length, I 0]) [Dh (later f ls hs ds)])
   · have hq : ¬ clQ f ls r hs ds fu ex it := fun e => hy e.2
     have hc : clC f ls r hs ds fu ex it = 3 := (if_pos hb).trans (if_neg hy)
     rw [yT_no hq, yL, whL_no hq, hc]
     unfold yrQ at hy
     repeat' (conv => whnf); first | (intro h; try exact nZ) | apply And.intro | refine dZ ?_ | refine sZ ?_ | refine gZ [] (hag) ?_ | (refine Ret.go (specPrem_ret f ls r hs hn ho) rfl rfl ?_) | (refine Ret.goQ (specPrem_ret f ls r hs hn ho) rfl rfl ?_) | refine Ret.uA (specTotal_ret f ls r (later f ls hs ds) hn hlo) ?_ | refine Ret.uQ (specTotal_ret f ls r (later f ls hs ds) hn hlo) ?_ | (refine Ret.go (specClaims_ret f ls r hs ds ho hd) rfl rfl ?_) | (refine Ret.goQ (specClaims_ret f ls r hs ds ho hd) rfl rfl ?_) | (refine Ret.goP (specYear_ret _ _ _ _ _ _ _) rfl ?_) | (refine Ret.goQP (specYear_ret _ _ _ _ _ _ _) rfl ?_) | fail
     all_goals first | omega | exact absurd ‹_› hy | (refine ⟨[none], .tup [V7 0 0 0 0 0 0 0, .sl 0 7 0, I 3], [Dh []], ?_, ?_, ?_⟩; all_goals (repeat' (first | exact rfl | exact trivial | (with_reducible assumption) | refine And.intro ?_ ?_ | omega)))
 · rw [agT, (ag_no hb).1, (ag_no hb).2] at hag
   have hq : ¬ clQ f ls r hs ds fu ex it := fun e => hb e.1
   have hc : clC f ls r hs ds fu ex it = 5 := if_neg hb
   rw [yT_no hq, yL, whL_no hq, hc]
   repeat' (conv => whnf); first | (intro h; try exact nZ) | apply And.intro | refine dZ ?_ | refine sZ ?_ | refine gZ [] (hag) ?_ | fail
   all_goals first | omega | (refine ⟨[none], .tup [V7 0 0 0 0 0 0 0, .sl 0 7 0, I 5], [Dh []], ?_, ?_, ?_⟩; all_goals (repeat' (first | exact rfl | exact trivial | (with_reducible assumption) | refine And.intro ?_ ?_ | omega)))
def cyG (f : Int) (ls : List Int) (r : Int) (hs : List (List Int)) (ds : List Int) (fu ex it : Int) : Prop := (okF f ls r hs ∧ dOk hs ds) ∧ (okD fu ∧ okD ex ∧ okD it)
def cyQ (f : Int) (ls : List Int) (r : Int) (hs : List (List Int)) (ds : List Int) (fu ex it : Int) : Prop := cyG f ls r hs ds fu ex it ∧ clQ f ls r hs ds fu ex it
noncomputable def cyC (f : Int) (ls : List Int) (r : Int) (hs : List (List Int)) (ds : List Int) (fu ex it : Int) : Int := if okF f ls r hs then (if dOk hs ds ∧ okD fu ∧ okD ex ∧ okD it then clC f ls r hs ds fu ex it else 2) else 1
theorem cyC_yes {f : Int} {ls : List Int} {r : Int} {hs : List (List Int)} {ds : List Int} {fu ex it : Int} (h : cyG f ls r hs ds fu ex it) : cyC f ls r hs ds fu ex it = clC f ls r hs ds fu ex it := (if_pos h.1.1).trans (if_pos ⟨h.1.2, h.2⟩)
theorem yT_iff {p q : Prop} (h : p ↔ q) {f : Int} {ls : List Int} {r : Int} {hs : List (List Int)} {ds : List Int} {fu ex it c : Int} {s : AV} : yT p f ls r hs ds fu ex it s c = yT q f ls r hs ds fu ex it s c := by rw [propext h]
noncomputable abbrev cyT (f : Int) (ls : List Int) (r : Int) (hs : List (List Int)) (ds : List Int) (fu ex it : Int) (s : AV) : AV := yT (cyQ f ls r hs ds fu ex it) f ls r hs ds fu ex it s (cyC f ls r hs ds fu ex it)
noncomputable abbrev cyL (f : Int) (ls : List Int) (r : Int) (hs : List (List Int)) (ds : List Int) (fu ex it : Int) : List (List Int) := yL (cyQ f ls r hs ds fu ex it) f ls hs ds
theorem cd_inv {f : Int} {ls : List Int} {r : Int} {hs : List (List Int)} {ds : List Int} {fu ex it : Int} (h : ¬ okF f ls r hs) (b : Bool) : cDt f ls r hs ds b = 1 ∧ cyC f ls r hs ds fu ex it = 1 := ⟨if_neg h, if_neg h⟩
theorem cd_dth {f : Int} {ls : List Int} {r : Int} {hs : List (List Int)} {ds : List Int} {fu ex it : Int} (h : okF f ls r hs) (h2 : ¬ dOk hs ds) (b : Bool) : cDt f ls r hs ds b = 2 ∧ cyC f ls r hs ds fu ex it = 2 := ⟨(if_pos h).trans (if_neg fun e => h2 e.2), (if_pos h).trans (if_neg fun e => h2 e.1)⟩
theorem cd_fund {f : Int} {ls : List Int} {r : Int} {hs : List (List Int)} {ds : List Int} {fu ex it : Int} (h : okF f ls r hs) (h2 : ¬ (okD fu ∧ okD ex ∧ okD it)) : cDt f ls r hs ds false = 2 ∧ cyC f ls r hs ds fu ex it = 2 := ⟨(if_pos h).trans (if_neg fun e => (by have := e.1; cases this)), (if_pos h).trans (if_neg fun e => h2 e.2)⟩
theorem cy_three {f : Int} {ls : List Int} {r : Int} {hs : List (List Int)} {ds : List Int} {fu ex it : Int} (hg : ¬ cyG f ls r hs ds fu ex it) : (¬ okF f ls r hs ∨ (okF f ls r hs ∧ ¬ dOk hs ds)) ∨ ((okF f ls r hs ∧ dOk hs ds) ∧ ¬ (okD fu ∧ okD ex ∧ okD it)) := by
 by_cases h1 : okF f ls r hs
 · by_cases h2 : dOk hs ds
   · exact .inr ⟨⟨h1, h2⟩, fun e => hg ⟨⟨h1, h2⟩, e⟩⟩
   · exact .inl (.inr ⟨h1, h2⟩)
 · exact .inl (.inl h1)
theorem specCY_call (f : Int) (ls : List Int) (r : Int) (hs : List (List Int)) (ds : List Int) (fu ex it : Int) (hn : ls.length ≤ 1048576) (hh : hs.length ≤ 1048576) (hd : ds.length ≤ 1048576) : Ca 114 [Bs f ls r, Rh hs, Ri ds, I fu, I ex, I it] [] (fun v J => v = cyT f ls r hs ds fu ex it (.sl 0 7 (cyL f ls r hs ds fu ex it).length) ∧ J = [Dh (cyL f ls r hs ds fu ex it)]) := by
 refine cZ Tryz.func114 ?_
 have hcode := fun b => specCode_ret f ls r hs ds b hn hh hd
 by_cases hg : cyG f ls r hs ds fu ex it
 · have he : cyQ f ls r hs ds fu ex it ↔ clQ f ls r hs ds fu ex it := ⟨fun h => h.2, fun h => ⟨hg, h⟩⟩
   rw [cyT, cyL, cyC_yes hg, yT_iff he, propext he]
   have hc := hcode true
   rw [cDt_zero hg.1] at hc
   have h1 := hg.2.1
   have h2 := hg.2.2.1
   have h3 := hg.2.2.2
   repeat' (conv => whnf); first | (intro h; try exact nZ) | apply And.intro | refine dZ ?_ | refine sZ ?_ | refine gZ [] (specClose_call f ls r hs ds fu ex it hn hg.1.1 hg.1.2) ?_ | (refine Ret.go (hc) rfl rfl ?_) | (refine Ret.goQ (hc) rfl rfl ?_) | (refine Ret.goP (specFund_ret _) rfl ?_) | (refine Ret.goQP (specFund_ret _) rfl ?_) | fail
   all_goals first | omega | exact absurd h1 ‹_› | exact absurd h2 ‹_› | exact absurd h3 ‹_› | ((conv => whnf); (exact endE1 [some 2] (yT (clQ f ls r hs ds fu ex it) f ls r hs ds fu ex it (.sl 0 7 (yL (clQ f ls r hs ds fu ex it) f ls hs ds).length) (clC f ls r hs ds fu ex it)) [Dh (yL (clQ f ls r hs ds fu ex it) f ls hs ds)]))
 · have hq : ¬ cyQ f ls r hs ds fu ex it := fun e => hg e.1
   rcases cy_three hg with (h1 | ⟨h1, h2⟩) | ⟨h1, hf⟩
   · have hc := fun b => (cd_inv (ds := ds) (fu := fu) (ex := ex) (it := it) h1 b).1
     have ht := hcode true
     have hu := hcode false
     rw [hc] at ht hu
     rw [cyT, cyL, yT_no hq, yL, whL_no hq, (cd_inv h1 true).2]
     repeat' (conv => whnf); first | (intro h; try exact nZ) | apply And.intro | refine dZ ?_ | refine sZ ?_ | (refine Ret.go (ht) rfl rfl ?_) | (refine Ret.goQ (ht) rfl rfl ?_) | (refine Ret.go (hu) rfl rfl ?_) | (refine Ret.goQ (hu) rfl rfl ?_) | (refine Ret.goP (specFund_ret _) rfl ?_) | (refine Ret.goQP (specFund_ret _) rfl ?_) | fail
     all_goals first | omega | (refine ⟨[none], .tup [V7 0 0 0 0 0 0 0, .sl 0 7 0, I 1], [Dh []], ?_, ?_, ?_⟩; all_goals (repeat' (first | exact rfl | exact trivial | (with_reducible assumption) | refine And.intro ?_ ?_ | omega))) | exact (hf ⟨by assumption, by assumption, by assumption⟩).elim
   · have hc := fun b => (cd_dth (fu := fu) (ex := ex) (it := it) h1 h2 b).1
     have ht := hcode true
     have hu := hcode false
     rw [hc] at ht hu
     rw [cyT, cyL, yT_no hq, yL, whL_no hq, (cd_dth h1 h2 true).2]
     repeat' (conv => whnf); first | (intro h; try exact nZ) | apply And.intro | refine dZ ?_ | refine sZ ?_ | (refine Ret.go (ht) rfl rfl ?_) | (refine Ret.goQ (ht) rfl rfl ?_) | (refine Ret.go (hu) rfl rfl ?_) | (refine Ret.goQ (hu) rfl rfl ?_) | (refine Ret.goP (specFund_ret _) rfl ?_) | (refine Ret.goQP (specFund_ret _) rfl ?_) | fail
     all_goals first | omega | (refine ⟨[none], .tup [V7 0 0 0 0 0 0 0, .sl 0 7 0, I 2], [Dh []], ?_, ?_, ?_⟩; all_goals (repeat' (first | exact rfl | exact trivial | (with_reducible assumption) | refine And.intro ?_ ?_ | omega))) | exact (hf ⟨by assumption, by assumption, by assumption⟩).elim
   · have hu := hcode false
     rw [(cd_fund h1.1 hf).1] at hu
     rw [cyT, cyL, yT_no hq, yL, whL_no hq, (cd_fund h1.1 hf).2]
     repeat' (conv => whnf); first | (intro h; try exact nZ) | apply And.intro | refine dZ ?_ | refine sZ ?_ | (refine Ret.go (hu) rfl rfl ?_) | (refine Ret.goQ (hu) rfl rfl ?_) | (refine Ret.goP (specFund_ret _) rfl ?_) | (refine Ret.goQP (specFund_ret _) rfl ?_) | fail
     all_goals first | omega | (refine ⟨[none], .tup [V7 0 0 0 0 0 0 0, .sl 0 7 0, I 2], [Dh []], ?_, ?_, ?_⟩; all_goals (repeat' (first | exact rfl | exact trivial | (with_reducible assumption) | refine And.intro ?_ ?_ | omega))) | exact (hf ⟨by assumption, by assumption, by assumption⟩).elim
theorem draw_qs {P : Program} {T : TypeId → TD} {G : Nat → Option D} (qs : List Nat) (hT : TabOK P T) (hm : P.follows .mixedOrders = true) {ops : List Oper} {fr : List AV} {H : List Blk} {K : List AV → List Blk → Prop} (hB : treeOk ops.toArray (hardOf ops.toArray qs) (autoT qs ops) = true)
   (h : treeA T G (CallQ P G) (CallA P G) ops qs (autoT qs ops) fr H K) : DrawA P G ops fr H K := draw_tree hT hm _ _ hB h
theorem reserves_call2 (f : Int) (ls : List Int) (r : Int) (hs : List (List Int)) (ho : okF f ls r hs) : Ca 199 [Bs f ls r, Rh hs] [] (fun v J => v = .sl 0 1 (hs.map (hRes f ls r)).length ∧ J = [Di (hs.map (hRes f ls r))]) := by
 have h := reserves_call f ls r hs ho
 rw [show hs.length = (hs.map (hRes f ls r)).length from (List.length_map _).symm] at h
 exact h
theorem implCY_call (f : Int) (ls : List Int) (r : Int) (hs : List (List Int)) (ds : List Int) (fu ex it : Int) (hn : ls.length ≤ 1048576) (hh : hs.length ≤ 1048576) (hd : ds.length ≤ 1048576) : Ca 216 [Bs f ls r, Rh hs, Ri ds, I fu, I ex, I it] [] (fun v J => v = cyT f ls r hs ds fu ex it (.sl 0 7 (cyL f ls r hs ds fu ex it).length) ∧ J = [Dh (cyL f ls r hs ds fu ex it)]) := by
 refine cZ Tryz.func216 ?_
 have hcode := implCheck_ret f ls r hs ds hn hh hd
 by_cases hg : cyG f ls r hs ds fu ex it
 · have he : cyQ f ls r hs ds fu ex it ↔ clQ f ls r hs ds fu ex it := ⟨fun h => h.2, fun h => ⟨hg, h⟩⟩
   rw [cyT, cyL, cyC_yes hg, yT_iff he, propext he]
   rw [cDt_zero hg.1] at hcode
   have h1 := hg.2.1
   have h2 := hg.2.2.1
   have h3 := hg.2.2.2
   have ho := hg.1.1
   have hd := hg.1.2
   have hl := ho.2.1
   have hdl := hd.1
   have hag := implAge_call f ls r hs ds hn ho hd
   by_cases hb : noBad f ls r hs ds hs.length
   · rw [agT, (ag_yes hb).1, (ag_yes hb).2] at hag
     have hlo := later_ok ho hd hb
     by_cases hy : yrQ f ls r hs ds fu ex it
     · have hq : clQ f ls r hs ds fu ex it := ⟨hb, hy⟩
       have hc : clC f ls r hs ds fu ex it = 0 := (if_pos hb).trans (if_pos hy)
       rw [yT_yes hq, yL, whL_yes hq, hc]
       unfold yrQ at hy
       repeat' (conv => whnf); first | (intro h; try exact nZ) | apply And.intro | (refine draw_qs [8, 12] hT mixed (by decide +kernel) ?_) | refine sZ ?_ | (refine Ret.go (hcode) rfl rfl ?_) | (refine Ret.goQ (hcode) rfl rfl ?_) | (refine Ret.goP (implFund_ret _) rfl ?_) | (refine Ret.goQP (implFund_ret _) rfl ?_) | refine gZ [] (hag) ?_ | (refine Ret.go (implPrem_ret f ls r hs ho) rfl rfl ?_) | (refine Ret.goQ (implPrem_ret f ls r hs ho) rfl rfl ?_) | (refine Ret.go (implClaims_ret f ls r hs ds ho hd) rfl rfl ?_) | (refine Ret.goQ (implClaims_ret f ls r hs ds ho hd) rfl rfl ?_) | refine CallA.gM [] (reserves_call2 f ls r (later f ls hs ds) hlo) ?_ | (refine Ret.useQ (total_res f ls r (later f ls hs ds) hlo) (by first | ((repeat' (first | exact rfl | exact trivial | (with_reducible assumption) | refine And.intro ?_ ?_ | omega | assumption)); done) | fail) rfl ?_) | (refine Ret.use (total_res f ls r (later f ls hs ds) hlo) (by first | ((repeat' (first | exact rfl | exact trivial | (with_reducible assumption) | refine And.intro ?_ ?_ | omega | assumption)); done) | fail) ?_) | (refine Ret.goP (implYear_ret _ _ _ _ _ _ _) rfl ?_) | (refine Ret.goQP (implYear_ret _ _ _ _ _ _ _) rfl ?_) | fail
       all_goals first | omega | exact absurd h1 ‹_› | exact absurd h2 ‹_› | exact absurd h3 ‹_› | exact absurd hy ‹_› | (exact endE1 [some 2] (.tup [V7 fu (nets f ls r hs) (loads f ls r hs) ex it (clm f ls hs ds) (tot f ls r (later f ls hs ds)), .sl 0 7 (later f ls hs ds).length, I 0]) [Dh (later f ls hs ds)])
     · have hq : ¬ clQ f ls r hs ds fu ex it := fun e => hy e.2
       have hc : clC f ls r hs ds fu ex it = 3 := (if_pos hb).trans (if_neg hy)
       rw [yT_no hq, yL, whL_no hq, hc]
       unfold yrQ at hy
       repeat' (conv => whnf); first | (intro h; try exact nZ) | apply And.intro | (refine draw_qs [8, 12] hT mixed (by decide +kernel) ?_) | refine sZ ?_ | (refine Ret.go (hcode) rfl rfl ?_) | (refine Ret.goQ (hcode) rfl rfl ?_) | (refine Ret.goP (implFund_ret _) rfl ?_) | (refine Ret.goQP (implFund_ret _) rfl ?_) | refine gZ [] (hag) ?_ | (refine Ret.go (implPrem_ret f ls r hs ho) rfl rfl ?_) | (refine Ret.goQ (implPrem_ret f ls r hs ho) rfl rfl ?_) | (refine Ret.go (implClaims_ret f ls r hs ds ho hd) rfl rfl ?_) | (refine Ret.goQ (implClaims_ret f ls r hs ds ho hd) rfl rfl ?_) | refine CallA.gM [] (reserves_call2 f ls r (later f ls hs ds) hlo) ?_ | (refine Ret.useQ (total_res f ls r (later f ls hs ds) hlo) (by first | ((repeat' (first | exact rfl | exact trivial | (with_reducible assumption) | refine And.intro ?_ ?_ | omega | assumption)); done) | fail) rfl ?_) | (refine Ret.use (total_res f ls r (later f ls hs ds) hlo) (by first | ((repeat' (first | exact rfl | exact trivial | (with_reducible assumption) | refine And.intro ?_ ?_ | omega | assumption)); done) | fail) ?_) | (refine Ret.goP (implYear_ret _ _ _ _ _ _ _) rfl ?_) | (refine Ret.goQP (implYear_ret _ _ _ _ _ _ _) rfl ?_) | fail
       all_goals first | omega | exact absurd h1 ‹_› | exact absurd h2 ‹_› | exact absurd h3 ‹_› | exact absurd ‹_› hy | (refine ⟨[none], .tup [V7 0 0 0 0 0 0 0, .sl 0 7 0, I 3], [Dh []], ?_, ?_, ?_⟩; all_goals (repeat' (first | exact rfl | exact trivial | (with_reducible assumption) | refine And.intro ?_ ?_ | omega)))
   · rw [agT, (ag_no hb).1, (ag_no hb).2] at hag
     have hq : ¬ clQ f ls r hs ds fu ex it := fun e => hb e.1
     have hc : clC f ls r hs ds fu ex it = 5 := if_neg hb
     rw [yT_no hq, yL, whL_no hq, hc]
     repeat' (conv => whnf); first | (intro h; try exact nZ) | apply And.intro | refine dZ ?_ | refine sZ ?_ | (refine Ret.go (hcode) rfl rfl ?_) | (refine Ret.goQ (hcode) rfl rfl ?_) | (refine Ret.goP (implFund_ret _) rfl ?_) | (refine Ret.goQP (implFund_ret _) rfl ?_) | refine gZ [] (hag) ?_ | fail
     all_goals first | omega | exact absurd h1 ‹_› | exact absurd h2 ‹_› | exact absurd h3 ‹_› | (refine ⟨[none], .tup [V7 0 0 0 0 0 0 0, .sl 0 7 0, I 5], [Dh []], ?_, ?_, ?_⟩; all_goals (repeat' (first | exact rfl | exact trivial | (with_reducible assumption) | refine And.intro ?_ ?_ | omega)))
 · have hq : ¬ cyQ f ls r hs ds fu ex it := fun e => hg e.1
   rcases cy_three hg with (h1 | ⟨h1, h2⟩) | ⟨h1, hf⟩
   · rw [(cd_inv (ds := ds) (fu := fu) (ex := ex) (it := it) h1 true).1] at hcode
     rw [cyT, cyL, yT_no hq, yL, whL_no hq, (cd_inv h1 true).2]
     repeat' (conv => whnf); first | (intro h; try exact nZ) | apply And.intro | refine dZ ?_ | refine sZ ?_ | (refine Ret.go (hcode) rfl rfl ?_) | (refine Ret.goQ (hcode) rfl rfl ?_) | fail
     all_goals first | omega | (refine ⟨[none], .tup [V7 0 0 0 0 0 0 0, .sl 0 7 0, I 1], [Dh []], ?_, ?_, ?_⟩; all_goals (repeat' (first | exact rfl | exact trivial | (with_reducible assumption) | refine And.intro ?_ ?_ | omega)))
   · rw [(cd_dth (fu := fu) (ex := ex) (it := it) h1 h2 true).1] at hcode
     rw [cyT, cyL, yT_no hq, yL, whL_no hq, (cd_dth h1 h2 true).2]
     repeat' (conv => whnf); first | (intro h; try exact nZ) | apply And.intro | refine dZ ?_ | refine sZ ?_ | (refine Ret.go (hcode) rfl rfl ?_) | (refine Ret.goQ (hcode) rfl rfl ?_) | fail
     all_goals first | omega | (refine ⟨[none], .tup [V7 0 0 0 0 0 0 0, .sl 0 7 0, I 2], [Dh []], ?_, ?_, ?_⟩; all_goals (repeat' (first | exact rfl | exact trivial | (with_reducible assumption) | refine And.intro ?_ ?_ | omega)))
   · rw [cDt_zero h1] at hcode
     rw [cyT, cyL, yT_no hq, yL, whL_no hq, (cd_fund h1.1 hf).2]
     repeat' (conv => whnf); first | (intro h; try exact nZ) | apply And.intro | refine dZ ?_ | refine sZ ?_ | (refine Ret.go (hcode) rfl rfl ?_) | (refine Ret.goQ (hcode) rfl rfl ?_) | (refine Ret.goP (implFund_ret _) rfl ?_) | (refine Ret.goQP (implFund_ret _) rfl ?_) | fail
     all_goals first | omega | (refine ⟨[none], .tup [V7 0 0 0 0 0 0 0, .sl 0 7 0, I 2], [Dh []], ?_, ?_, ?_⟩; all_goals (repeat' (first | exact rfl | exact trivial | (with_reducible assumption) | refine And.intro ?_ ?_ | omega))) | exact (hf ⟨by assumption, by assumption, by assumption⟩).elim
end
section
theorem cyL_row {f : Int} {ls : List Int} {r : Int} {hs : List (List Int)} {ds : List Int} {fu ex it : Int} : (∀ h ∈ cyL f ls r hs ds fu ex it, h.length = 7) ∧ (cyL f ls r hs ds fu ex it).length ≤ 30 := by
 by_cases hq : cyQ f ls r hs ds fu ex it
 · rw [cyL, yL, whL_yes hq]
   have h1 := agL_len (f := f) (ls := ls) (hs := hs) (ds := ds) hs.length
   have h2 := hq.1.1.1.2.1
   exact ⟨fun h hh => (agL_all hq.1.1.1 hq.1.1.2 hq.2.1 hs.length (Nat.le_refl _) h hh).1, Nat.le_trans h1 h2⟩
 · rw [cyL, yL, whL_no hq]
   exact ⟨fun h hh => (by cases hh), Nat.zero_le _⟩
end
section
theorem clC_zero {f : Int} {ls : List Int} {r : Int} {hs : List (List Int)} {ds : List Int} {fu ex it : Int} (h : clQ f ls r hs ds fu ex it) : clC f ls r hs ds fu ex it = 0 := (if_pos h.1).trans (if_pos h.2)
theorem clC_ne {f : Int} {ls : List Int} {r : Int} {hs : List (List Int)} {ds : List Int} {fu ex it : Int} (h : ¬ clQ f ls r hs ds fu ex it) : clC f ls r hs ds fu ex it = 3 ∨ clC f ls r hs ds fu ex it = 5 := by
 unfold clC
 by_cases hb : noBad f ls r hs ds hs.length
 · rw [if_pos hb, if_neg (fun e => h ⟨hb, e⟩)]; exact .inl rfl
 · rw [if_neg hb]; exact .inr rfl
theorem cyC_zero {f : Int} {ls : List Int} {r : Int} {hs : List (List Int)} {ds : List Int} {fu ex it : Int} (h : cyQ f ls r hs ds fu ex it) : cyC f ls r hs ds fu ex it = 0 := (cyC_yes h.1).trans (clC_zero h.2)
theorem cyC_ne {f : Int} {ls : List Int} {r : Int} {hs : List (List Int)} {ds : List Int} {fu ex it : Int} (h : ¬ cyQ f ls r hs ds fu ex it) : 1 ≤ cyC f ls r hs ds fu ex it ∧ cyC f ls r hs ds fu ex it ≤ 5 := by
 unfold cyC
 by_cases h1 : okF f ls r hs
 · rw [if_pos h1]
   by_cases h2 : dOk hs ds ∧ okD fu ∧ okD ex ∧ okD it
   · rw [if_pos h2]
     rcases clC_ne (fun e => h ⟨⟨⟨h1, h2.1⟩, h2.2⟩, e⟩) with e | e <;> omega
   · rw [if_neg h2]; omega
 · rw [if_neg h1]; omega
def yEnd (f : Int) (ls : List Int) (r : Int) (hs : List (List Int)) (ds : List Int) (fu ex it : Int) : Int := fu + nets f ls r hs + loads f ls r hs - ex + it - clm f ls hs ds
theorem yr_of {f : Int} {ls : List Int} {r : Int} {hs : List (List Int)} {ds : List Int} {fu ex it : Int} (h : cyQ f ls r hs ds fu ex it) : isYr fu (nets f ls r hs) (loads f ls r hs) ex it (clm f ls hs ds) (tot f ls r (later f ls hs ds)) := by
 have h1 := h.2.2
 unfold yrQ at h1
 exact h1
end
end Go.Proofs.YtglbamncajileaaGreatDoor
