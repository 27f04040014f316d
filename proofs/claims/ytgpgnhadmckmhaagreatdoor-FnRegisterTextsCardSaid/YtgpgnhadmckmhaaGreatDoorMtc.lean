/-
  Which texts are texts of registers: plain facts, no program in sight. No conditions but those in the statements.
-/
import Derived.Test.YtgpgnhadmckmhaaGreatDoorMtb
import Derived.Test.YtgpgnhadmckmhaaGreatDoorMfb
import Derived.Test.YtgpgnhadmckmhaaGreatDoorSto
set_option linter.unusedVariables false
set_option linter.unusedSimpArgs false
namespace Go.Proofs.YtgpgnhadmckmhaaGreatDoor
open Go.AE Go.Lib

def lft (d : Int) : List UInt8 := if d = -1 then [45] else mt d
/-- The words of a member's line. -/
def mws (r : List Int) : List (List UInt8) := [itoa (r.getD 0 0), mt (r.getD 1 0), mt (r.getD 2 0), mt (r.getD 4 0), lft (r.getD 3 0)]
def mtx (r : List Int) : List UInt8 := join (mws r) [32]
def mln (r : List Int) : List UInt8 := mtx r ++ [10]
/-- The text of a register. -/
def rgx (xss : List (List Int)) : List UInt8 := (xss.map mln).flatten
theorem mtx_eq (r : List Int) : mtx r = itoa (r.getD 0 0) ++ ([32] ++ (mt (r.getD 1 0) ++ ([32] ++ (mt (r.getD 2 0) ++ ([32] ++ (mt (r.getD 4 0) ++ ([32] ++ lft (r.getD 3 0)))))))) := by
  unfold mtx mws
  rw [join_cons2, join_cons2, join_cons2, join_cons2, join_one]
theorem lft_len (d : Int) : (lft d).length ≤ 7 := by
  unfold lft
  split
  · decide
  · exact Nat.le_of_eq (mt_len d)
theorem mtx_len {r : List Int} (h : okI (r.getD 0 0)) : (mtx r).length ≤ 53 := by
  rw [mtx_eq]
  have := itoa_len h
  have := lft_len (r.getD 3 0)
  simp only [List.length_append, List.length_cons, List.length_nil, mt_len]
  omega
theorem rgx_nil : rgx [] = [] := rfl
theorem rgx_cons (r : List Int) (q : List (List Int)) : rgx (r :: q) = mtx r ++ 10 :: rgx q := by
  show mln r ++ (q.map mln).flatten = _
  unfold mln rgx
  rw [List.append_assoc]; rfl
theorem rgx_snoc {xss : List (List Int)} {i : Nat} (h : i < xss.length) : rgx (xss.take (i + 1)) = rgx (xss.take i) ++ mtx (xss.getD i []) ++ [10] := by
  rw [take_snoc [] h]
  unfold rgx
  rw [List.map_append, List.flatten_append, List.append_assoc]
  simp [mln]
theorem rgx_len {xss : List (List Int)} (h : ∀ r ∈ xss, okI (r.getD 0 0)) : ∀ i, i ≤ xss.length → (rgx (xss.take i)).length ≤ 54 * i
  | 0, _ => by simp [rgx]
  | i + 1, hi => by
    rw [rgx_snoc (by omega), List.length_append, List.length_append]
    have := rgx_len h i (by omega)
    have := mtx_len (h _ (getD_mem (d := ([] : List Int)) (show i < xss.length by omega)))
    show _ + 1 ≤ _
    omega
theorem rowR_of {xss : List (List Int)} (h : isReg xss) {r : List Int} (hr : r ∈ xss) : rowR r := by
  obtain ⟨i, hi, rfl⟩ := List.getElem_of_mem hr
  have := (h.1 i hi).1
  rw [show xss.getD ((i : Int)).toNat [] = xss[i] from by rw [Int.toNat_natCast, List.getD_eq_getElem?_getD, List.getElem?_eq_getElem hi]; rfl] at this
  exact this
theorem rowR_ok {r : List Int} (h : rowR r) : okI (r.getD 0 0) := by
  unfold rowR rowM at h
  unfold okI
  omega
theorem rowR_mon {r : List Int} (h : rowR r) : mon (r.getD 1 0) ∧ mon (r.getD 2 0) ∧ mon (r.getD 4 0) ∧ (r.getD 3 0 = -1 ∨ mon (r.getD 3 0)) := by
  unfold rowR rowM at h
  unfold mon
  omega
theorem mt_free {n : Int} {c : UInt8} (h : mon n) (h1 : c ≠ 45) (h2 : ¬ dgt c) : c ∉ mt n := fun hm => by
  unfold mon at h
  unfold mt at hm
  rcases List.mem_append.1 hm with hm | hm
  · exact h2 (mt4_dgt (by omega) c hm)
  · rcases List.mem_cons.1 hm with hm | hm
    · exact h1 hm
    · exact h2 (mt2_dgt (by omega) c hm)
theorem lft_free {n : Int} {c : UInt8} (h : n = -1 ∨ mon n) (h1 : c ≠ 45) (h2 : ¬ dgt c) : c ∉ lft n := fun hm => by
  unfold lft at hm
  split at hm
  · simp at hm; exact h1 hm
  · exact mt_free (by rcases h with h | h; exact absurd h (by assumption); exact h) h1 h2 hm
theorem mws_free {r : List Int} {c : UInt8} (h : rowR r) (h1 : c ≠ 45) (h2 : ¬ dgt c) : ∀ w ∈ mws r, c ∉ w := by
  obtain ⟨m1, m2, m3, m4⟩ := rowR_mon h
  intro w hw
  simp only [mws, List.mem_cons, List.not_mem_nil, or_false] at hw
  rcases hw with rfl | rfl | rfl | rfl | rfl
  · exact itoa_free h1 h2
  · exact mt_free m1 h1 h2
  · exact mt_free m2 h1 h2
  · exact mt_free m3 h1 h2
  · exact lft_free m4 h1 h2
theorem sp_mtx {r : List Int} (h : rowR r) : sp 32 (mtx r) = mws r := sp_join (by simp [mws]) (mws_free h (by decide) (by decide))
theorem mtx_free {r : List Int} (h : rowR r) : (10 : UInt8) ∉ mtx r := fun hm => by
  rcases join_mem hm with hm | ⟨w, hw, hm⟩
  · exact absurd hm (by decide)
  · exact mws_free h (by decide) (by decide) w hw hm
theorem sp_rgx : ∀ {xss : List (List Int)}, (∀ r ∈ xss, rowR r) → sp 10 (rgx xss) = xss.map mtx ++ [[]]
  | [], _ => rfl
  | r :: q, h => by
    rw [rgx_cons, sp_hit (mtx_free (h r (by simp))), sp_rgx fun x hx => h x (by simp [hx])]
    rfl
/-- The text of lines that end. -/
theorem join_lines : ∀ (ls : List (List UInt8)), join (ls ++ [[]]) [10] = (ls.map fun l => l ++ [10]).flatten
  | [] => by simp [join_one]
  | [x] => by
    show join [x, []] [10] = _
    rw [join_cons2, join_one]; simp
  | x :: y :: r => by
    rw [List.cons_append, List.cons_append, join_cons2, ← List.cons_append, join_lines (y :: r)]
    simp
theorem rgx_lines (xss : List (List Int)) : rgx xss = join (xss.map mtx ++ [[]]) [10] := by
  rw [join_lines, List.map_map]
  rfl
/-- A text of a valid register. -/
def AccM (s : List UInt8) (xss : List (List Int)) : Prop := (∀ r ∈ xss, r.length = 5) ∧ isReg xss ∧ s = rgx xss
theorem AccM.sp {s : List UInt8} {xss : List (List Int)} (h : AccM s xss) : Go.AE.sp 10 s = xss.map mtx ++ [[]] := by
  rw [h.2.2]
  exact sp_rgx fun r hr => rowR_of h.2.1 hr
/-! ### What a line is read as -/
open Classical in
noncomputable def dcV (w : List UInt8) : Int := if h : ∃ n, rg n ∧ w = itoa n then h.choose else 0
open Classical in
noncomputable def dcB (w : List UInt8) : Bool := if ∃ n, rg n ∧ w = itoa n then true else false
theorem dc_yes {w : List UInt8} {n : Int} (h : rg n) (e : w = itoa n) : dcV w = n ∧ dcB w = true := by
  have he : ∃ n, rg n ∧ w = itoa n := ⟨n, h, e⟩
  refine ⟨?_, if_pos he⟩
  unfold dcV
  rw [dif_pos he]
  exact itoa_inj (he.choose_spec.2.symm.trans e)
theorem dc_no {w : List UInt8} (h : ∀ n, rg n → w ≠ itoa n) : dcV w = 0 ∧ dcB w = false := by
  have he : ¬ ∃ n, rg n ∧ w = itoa n := fun ⟨n, h1, h2⟩ => h n h1 h2
  exact ⟨dif_neg he, if_neg he⟩
attribute [local irreducible] dcV dcB
noncomputable def lfV (w : List UInt8) : Int := if w = [45] then -1 else rmN w
noncomputable def lfB (w : List UInt8) : Bool := if w = [45] then true else rmB w
theorem lf_of {d : Int} (h : d = -1 ∨ mon d) : lfV (lft d) = d ∧ lfB (lft d) = true := by
  unfold lft
  by_cases hd : d = -1
  · rw [if_pos hd]; exact ⟨hd.symm, rfl⟩
  · rw [if_neg hd]
    have hm : mon d := by rcases h with h | h; exact absurd h hd; exact h
    have hne : mt d ≠ [45] := fun e => by have := congrArg List.length e; rw [mt_len] at this; cases this
    obtain ⟨e1, e2⟩ := rm_yes hm rfl
    unfold lfV lfB
    rw [if_neg hne, if_neg hne]
    exact ⟨e1, e2⟩
/-- The program's reading of a line. -/
noncomputable def rowP (l : List UInt8) : List Int := if (sp 32 l).length = 5 then [dcV ((sp 32 l).getD 0 []), rmN ((sp 32 l).getD 1 []), rmN ((sp 32 l).getD 2 []), lfV ((sp 32 l).getD 4 []), rmN ((sp 32 l).getD 3 [])] else [0, 0, 0, 0, 0]
noncomputable def okP (l : List UInt8) : Bool := decide ((sp 32 l).length = 5) && (dcB ((sp 32 l).getD 0 []) && (rmB ((sp 32 l).getD 1 []) && (rmB ((sp 32 l).getD 2 []) && (rmB ((sp 32 l).getD 3 []) && lfB ((sp 32 l).getD 4 [])))))
/-- The reference's. -/
noncomputable def rowS (l : List UInt8) : List Int := [digN ((sp 32 l).getD 0 []), rmN ((sp 32 l).getD 1 []), rmN ((sp 32 l).getD 2 []), lfV ((sp 32 l).getD 4 []), rmN ((sp 32 l).getD 3 [])]
theorem rowP_len (l : List UInt8) : (rowP l).length = 5 := by unfold rowP; split <;> rfl
theorem rowS_len (l : List UInt8) : (rowS l).length = 5 := rfl
theorem row_mtx {r : List Int} (hl : r.length = 5) (h : rowR r) : rowP (mtx r) = r ∧ okP (mtx r) = true ∧ rowS (mtx r) = r ∧ (sp 32 (mtx r)).length = 5 := by
  obtain ⟨m1, m2, m3, m4⟩ := rowR_mon h
  have ha : 0 ≤ r.getD 0 0 ∧ r.getD 0 0 ≤ 1000000 := by unfold rowR rowM at h; omega
  have hs := sp_mtx h
  have e0 : (mws r).getD 0 [] = itoa (r.getD 0 0) := rfl
  have e1 : (mws r).getD 1 [] = mt (r.getD 1 0) := rfl
  have e2 : (mws r).getD 2 [] = mt (r.getD 2 0) := rfl
  have e3 : (mws r).getD 3 [] = mt (r.getD 4 0) := rfl
  have e4 : (mws r).getD 4 [] = lft (r.getD 3 0) := rfl
  have e5 : (mws r).length = 5 := rfl
  obtain ⟨d1, d2⟩ := dc_yes (w := itoa (r.getD 0 0)) ⟨ha.1, by omega⟩ rfl
  have d3 : digN (itoa (r.getD 0 0)) = r.getD 0 0 := by
    rw [itoa_nat ha.1, (digB_dec (by omega)).2]; omega
  obtain ⟨a1, b1⟩ := rm_yes m1 rfl
  obtain ⟨a2, b2⟩ := rm_yes m2 rfl
  obtain ⟨a3, b3⟩ := rm_yes m3 rfl
  obtain ⟨a4, b4⟩ := lf_of m4
  refine ⟨?_, ?_, ?_, by rw [hs]; rfl⟩
  · unfold rowP
    rw [hs, if_pos e5, e0, e1, e2, e3, e4, d1, a1, a2, a3, a4]
    exact etaMember hl
  · unfold okP
    rw [hs, e0, e1, e2, e3, e4, d2, b1, b2, b3, b4]
    rfl
  · unfold rowS
    rw [hs, e0, e1, e2, e3, e4, d3, a1, a2, a3, a4]
    exact etaMember hl
theorem AccM.lines {s : List UInt8} {x : List (List Int)} (h : AccM s x) {ps : List (List UInt8)} {l : List UInt8} (e : Go.AE.sp 10 s = ps ++ [l]) : ps = x.map mtx ∧ l = [] := by
  rw [h.sp] at e
  obtain ⟨e1, e2⟩ := List.append_inj' e rfl
  exact ⟨e1.symm, by injection e2 with e3 _; exact e3.symm⟩
theorem map_row {f : List UInt8 → List Int} : ∀ {x : List (List Int)}, (∀ r ∈ x, f (mtx r) = r) → (x.map mtx).map f = x
  | [], _ => rfl
  | r :: q, h => by
    rw [List.map_cons, List.map_cons, h r (by simp), map_row fun y hy => h y (by simp [hy])]
theorem AccM.rows {s : List UInt8} {x : List (List Int)} (h : AccM s x) {ps : List (List UInt8)} {l : List UInt8} (e : Go.AE.sp 10 s = ps ++ [l]) : ps.map rowP = x ∧ ps.map rowS = x := by
  rw [(h.lines e).1]
  exact ⟨map_row fun r hr => (row_mtx (h.1 r hr) (rowR_of h.2.1 hr)).1, map_row fun r hr => (row_mtx (h.1 r hr) (rowR_of h.2.1 hr)).2.2.1⟩
theorem AccM.line {s : List UInt8} {x : List (List Int)} (h : AccM s x) {ps : List (List UInt8)} {l : List UInt8} (e : Go.AE.sp 10 s = ps ++ [l]) {i : Nat} (hi : i < ps.length) : ∃ r, r.length = 5 ∧ rowR r ∧ ps.getD i [] = mtx r := by
  obtain ⟨e1, _⟩ := h.lines e
  have hl : i < x.length := by have := congrArg List.length e1; rw [List.length_map] at this; omega
  refine ⟨x.getD i [], h.1 _ (getD_mem hl), rowR_of h.2.1 (getD_mem hl), ?_⟩
  rw [e1, List.getD_eq_getElem?_getD, List.getElem?_map, List.getD_eq_getElem?_getD, List.getElem?_eq_getElem hl]
  rfl
theorem sp_lastE (s : List UInt8) : ∃ ps l, sp 10 s = ps ++ [l] := ⟨_, _, (List.dropLast_concat_getLast (sp_ne 10 s)).symm⟩
theorem AccM.uniq {s : List UInt8} {x y : List (List Int)} (h : AccM s x) (h' : AccM s y) : x = y := by
  obtain ⟨ps, l, e⟩ := sp_lastE s
  rw [← (h.rows e).1, (h'.rows e).1]
open Classical in
noncomputable def RM (s : List UInt8) : List (List Int) := if h : ∃ x, AccM s x then h.choose else []
open Classical in
noncomputable def CM (s : List UInt8) : Int := if ∃ x, AccM s x then 0 else 6
theorem RM_yes {s : List UInt8} {x : List (List Int)} (h : AccM s x) : RM s = x ∧ CM s = 0 := by
  have he : ∃ x, AccM s x := ⟨x, h⟩
  refine ⟨?_, if_pos he⟩
  unfold RM
  rw [dif_pos he]
  exact he.choose_spec.uniq h
theorem RM_no {s : List UInt8} (h : ∀ x, ¬ AccM s x) : RM s = [] ∧ CM s = 6 := by
  have he : ¬ ∃ x, AccM s x := fun ⟨x, hx⟩ => h x hx
  exact ⟨dif_neg he, if_neg he⟩
theorem RM_row (s : List UInt8) : (∀ r ∈ RM s, r.length = 5) ∧ (RM s).length ≤ 60 := by
  by_cases he : ∃ x, AccM s x
  · obtain ⟨x, hx⟩ := he
    rw [(RM_yes hx).1]
    exact ⟨hx.1, hx.2.1.2⟩
  · rw [(RM_no fun x hx => he ⟨x, hx⟩).1]
    exact ⟨fun r hr => (by cases hr), Nat.zero_le _⟩
/-! ### The program's way -/
structure RdP (ps : List (List UInt8)) (i : Nat) (out : List (List Int)) : Prop where
  le : i ≤ ps.length
  eq : out = (ps.take i).map rowP
  ok : ∀ l ∈ ps.take i, okP l = true
theorem RdP.start (ps : List (List UInt8)) : RdP ps 0 [] := ⟨Nat.zero_le _, rfl, fun l h => by simp at h⟩
theorem RdP.len {ps : List (List UInt8)} {i : Nat} {out : List (List Int)} (h : RdP ps i out) : out.length = i := by rw [h.eq, List.length_map, List.length_take]; have := h.le; omega
theorem RdP.next {ps : List (List UInt8)} {i : Nat} {out : List (List Int)} (h : RdP ps i out) (hi : i < ps.length) (ho : okP (ps.getD i []) = true) : RdP ps (i + 1) (out ++ [rowP (ps.getD i [])]) :=
  ⟨hi, by rw [take_snoc [] hi, List.map_append, h.eq]; rfl, fun l hl => by
    rw [take_snoc [] hi] at hl
    rcases List.mem_append.1 hl with hl | hl
    · exact h.ok l hl
    · obtain rfl := List.mem_singleton.1 hl
      exact ho⟩
theorem RdP.row {ps : List (List UInt8)} {i : Nat} {out : List (List Int)} (h : RdP ps i out) : ∀ r ∈ out, r.length = 5 := by
  intro r hr
  rw [h.eq] at hr
  obtain ⟨l, _, rfl⟩ := List.mem_map.1 hr
  exact rowP_len l
theorem RdP.all {ps : List (List UInt8)} {out : List (List Int)} (h : RdP ps ps.length out) : out = ps.map rowP := by have := h.eq; rwa [take_all (Nat.le_refl _)] at this
theorem nacc_ok {s : List UInt8} {ps : List (List UInt8)} {l : List UInt8} (e : sp 10 s = ps ++ [l]) {i : Nat} (hi : i < ps.length) (h : okP (ps.getD i []) = false) (x : List (List Int)) : ¬ AccM s x := fun hx => by
  obtain ⟨r, h1, h2, h3⟩ := hx.line e hi
  rw [h3, (row_mtx h1 h2).2.1] at h
  cases h
theorem nacc_60 {s : List UInt8} {ps : List (List UInt8)} {l : List UInt8} (e : sp 10 s = ps ++ [l]) (h : 60 < ps.length) (x : List (List Int)) : ¬ AccM s x := fun hx => by
  have h1 := congrArg List.length (hx.lines e).1
  rw [List.length_map] at h1
  have := hx.2.1.2
  omega
theorem RdP.acc {s : List UInt8} {ps : List (List UInt8)} {out : List (List Int)} (h : RdP ps ps.length out) (h1 : isReg out) (h2 : rgx out = s) : AccM s out := ⟨h.row, h1, h2.symm⟩
theorem RdP.nacc {s : List UInt8} {ps : List (List UInt8)} {l : List UInt8} (e : sp 10 s = ps ++ [l]) {out : List (List Int)} (h : RdP ps ps.length out) (hn : ¬ (isReg out ∧ rgx out = s)) (x : List (List Int)) : ¬ AccM s x := fun hx => by
  have e1 : out = x := by rw [h.all]; exact (hx.rows e).1
  subst e1
  exact hn ⟨hx.2.1, hx.2.2.symm⟩
/-! ### The reference's way -/
structure RdS (ps : List (List UInt8)) (i : Nat) (out : List (List Int)) : Prop where
  le : i ≤ ps.length
  eq : out = (ps.take i).map rowS
  ok : ∀ l ∈ ps.take i, rowR (rowS l) ∧ mtx (rowS l) = l
theorem RdS.start (ps : List (List UInt8)) : RdS ps 0 [] := ⟨Nat.zero_le _, rfl, fun l h => by simp at h⟩
theorem RdS.len {ps : List (List UInt8)} {i : Nat} {out : List (List Int)} (h : RdS ps i out) : out.length = i := by rw [h.eq, List.length_map, List.length_take]; have := h.le; omega
theorem RdS.next {ps : List (List UInt8)} {i : Nat} {out : List (List Int)} (h : RdS ps i out) (hi : i < ps.length) (h1 : rowR (rowS (ps.getD i []))) (h2 : mtx (rowS (ps.getD i [])) = ps.getD i []) : RdS ps (i + 1) (out ++ [rowS (ps.getD i [])]) :=
  ⟨hi, by rw [take_snoc [] hi, List.map_append, h.eq]; rfl, fun l hl => by
    rw [take_snoc [] hi] at hl
    rcases List.mem_append.1 hl with hl | hl
    · exact h.ok l hl
    · obtain rfl := List.mem_singleton.1 hl
      exact ⟨h1, h2⟩⟩
theorem RdS.row {ps : List (List UInt8)} {i : Nat} {out : List (List Int)} (h : RdS ps i out) : ∀ r ∈ out, r.length = 5 := by
  intro r hr
  rw [h.eq] at hr
  obtain ⟨l, _, rfl⟩ := List.mem_map.1 hr
  exact rowS_len l
theorem RdS.all {ps : List (List UInt8)} {out : List (List Int)} (h : RdS ps ps.length out) : out = ps.map rowS := by have := h.eq; rwa [take_all (Nat.le_refl _)] at this
theorem nacc_row {s : List UInt8} {ps : List (List UInt8)} {l : List UInt8} (e : sp 10 s = ps ++ [l]) {i : Nat} (hi : i < ps.length) (h : ¬ ((sp 32 (ps.getD i [])).length = 5 ∧ rowR (rowS (ps.getD i [])) ∧ mtx (rowS (ps.getD i [])) = ps.getD i [])) (x : List (List Int)) : ¬ AccM s x := fun hx => by
  obtain ⟨r, h1, h2, h3⟩ := hx.line e hi
  obtain ⟨_, _, k1, k2⟩ := row_mtx h1 h2
  rw [h3] at h
  exact h ⟨k2, by rw [k1]; exact h2, by rw [k1]⟩
theorem nacc_last {s : List UInt8} {ps : List (List UInt8)} {l : List UInt8} (e : sp 10 s = ps ++ [l]) (h : l ≠ []) (x : List (List Int)) : ¬ AccM s x := fun hx => h (hx.lines e).2
theorem RdS.acc {s : List UInt8} {ps : List (List UInt8)} (e : sp 10 s = ps ++ [[]]) {out : List (List Int)} (h : RdS ps ps.length out) (h1 : isReg out) : AccM s out := ⟨h.row, h1, by
  have e2 : ps = out.map mtx := by
    rw [h.all, List.map_map]
    conv => lhs; rw [← List.map_id ps]
    exact List.map_congr_left fun l hl => (h.ok l (by rwa [take_all (Nat.le_refl _)])).2.symm
  rw [rgx_lines, ← e2, ← e, join_sp]⟩
theorem RdS.nacc {s : List UInt8} {ps : List (List UInt8)} {l : List UInt8} (e : sp 10 s = ps ++ [l]) {out : List (List Int)} (h : RdS ps ps.length out) (hn : ¬ isReg out) (x : List (List Int)) : ¬ AccM s x := fun hx => by
  have e1 : out = x := by rw [h.all]; exact (hx.rows e).2
  subst e1
  exact hn hx.2.1
end Go.Proofs.YtgpgnhadmckmhaaGreatDoor
