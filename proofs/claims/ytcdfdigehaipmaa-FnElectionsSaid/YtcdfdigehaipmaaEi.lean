/-
  Elections by rounds: what a round counts, in plain lists. No conditions but those in the statements.
-/
import Derived.Test.YtcdfdigehaipmaaEh
set_option linter.unusedVariables false
set_option linter.unusedSimpArgs false
namespace Go.Proofs.Ytcdfdigehaipmaa
open Go.AE

/-- Whom a ballot is for, of those who are in; -1: nobody. -/
def fI (ins b : List Int) : Int := if fin ins b < b.length then b.getD (fin ins b) 0 else -1
theorem fI_mem {ins b : List Int} (h : fI ins b ≠ -1) : fI ins b ∈ ins := by
  unfold fI at h ⊢
  by_cases hf : fin ins b < b.length
  · rw [if_pos hf]
    exact of_decide_eq_true ((firstOf_spec (fun y => decide (y ∈ ins)) 0 b).2 hf)
  · rw [if_neg hf] at h
    exact absurd rfl h
def vt (ins : List Int) (xss : List (List Int)) (i : Nat) (c : Int) : Nat := ((xss.take i).filter fun b => decide (fI ins b = c)).length
def al (ins : List Int) (xss : List (List Int)) (i : Nat) : Nat := ((xss.take i).filter fun b => decide (0 ≤ fI ins b)).length
theorem vt_next {ins : List Int} {xss : List (List Int)} {i : Nat} (c : Int) (h : i < xss.length) : vt ins xss (i + 1) c = vt ins xss i c + if fI ins (xss.getD i []) = c then 1 else 0 := by
  unfold vt
  rw [take_snoc [] h, List.filter_append, List.length_append]
  congr 1
  rw [List.filter_cons, List.filter_nil]
  by_cases hc : fI ins (xss.getD i []) = c
  · rw [if_pos (decide_eq_true hc), if_pos hc]; rfl
  · rw [if_neg (by rw [decide_eq_false hc]; decide), if_neg hc]; rfl
theorem al_next {ins : List Int} {xss : List (List Int)} {i : Nat} (h : i < xss.length) : al ins xss (i + 1) = al ins xss i + if 0 ≤ fI ins (xss.getD i []) then 1 else 0 := by
  unfold al
  rw [take_snoc [] h, List.filter_append, List.length_append]
  congr 1
  rw [List.filter_cons, List.filter_nil]
  by_cases hc : 0 ≤ fI ins (xss.getD i [])
  · rw [if_pos (decide_eq_true hc), if_pos hc]; rfl
  · rw [if_neg (by rw [decide_eq_false hc]; decide), if_neg hc]; rfl
theorem vt_le (ins : List Int) (xss : List (List Int)) (i : Nat) (c : Int) : vt ins xss i c ≤ i := Nat.le_trans (List.length_filter_le _ _) (List.length_take_le _ _)
theorem al_le (ins : List Int) (xss : List (List Int)) (i : Nat) : al ins xss i ≤ i := Nat.le_trans (List.length_filter_le _ _) (List.length_take_le _ _)
theorem vt_zero (ins : List Int) (xss : List (List Int)) (c : Int) : vt ins xss 0 c = 0 := rfl
theorem al_zero (ins : List Int) (xss : List (List Int)) : al ins xss 0 = 0 := rfl
def sm (v : Int → Nat) (l : List Int) : Nat := (l.map v).sum
theorem sm_snoc (v : Int → Nat) (l : List Int) (c : Int) : sm v (l ++ [c]) = sm v l + v c := by simp [sm]
theorem sm_cons (v : Int → Nat) (l : List Int) (c : Int) : sm v (c :: l) = v c + sm v l := by simp [sm]
theorem sm_add (f g : Int → Nat) : ∀ l : List Int, sm (fun c => f c + g c) l = sm f l + sm g l
  | [] => rfl
  | c :: l => by rw [sm_cons, sm_cons, sm_cons, sm_add f g l]; omega
theorem sm_one (x : Int) : ∀ l : List Int, l.Nodup → sm (fun c => if x = c then 1 else 0) l = if x ∈ l then 1 else 0
  | [], _ => rfl
  | c :: l, h => by
    rw [sm_cons, sm_one x l (List.nodup_cons.1 h).2]
    have hc := (List.nodup_cons.1 h).1
    by_cases hx : x = c
    · subst hx
      rw [if_pos rfl, if_neg hc, if_pos (List.mem_cons_self ..)]
    · rw [if_neg hx]
      by_cases hl : x ∈ l
      · rw [if_pos hl, if_pos (List.mem_cons_of_mem _ hl)]
      · rw [if_neg hl, if_neg (by rw [List.mem_cons]; rintro (e | e); exact hx e; exact hl e)]
theorem sm_congr {f g : Int → Nat} {l : List Int} (h : ∀ c ∈ l, f c = g c) : sm f l = sm g l := by
  unfold sm
  rw [List.map_congr_left h]
theorem sm_none : ∀ l : List Int, sm (fun _ => 0) l = 0
  | [] => rfl
  | c :: l => by rw [sm_cons, sm_none l]
theorem sm_vt {ins : List Int} (hd : ins.Nodup) (hp : ∀ c ∈ ins, 0 ≤ c) (xss : List (List Int)) : ∀ i, i ≤ xss.length → sm (vt ins xss i) ins = al ins xss i
  | 0, _ => by
    rw [al_zero, sm_congr (g := fun _ => 0) fun c _ => vt_zero ins xss c]
    exact sm_none ins
  | i + 1, hi => by
    rw [al_next (by omega), ← sm_vt hd hp xss i (by omega), sm_congr (g := fun c => vt ins xss i c + if fI ins (xss.getD i []) = c then 1 else 0) fun c _ => vt_next c (by omega), sm_add, sm_one _ _ hd]
    congr 1
    by_cases h : 0 ≤ fI ins (xss.getD i [])
    · rw [if_pos h, if_pos (fI_mem (by omega))]
    · rw [if_neg h, if_neg fun hm => h (hp _ hm)]
theorem sm_mem {v : Int → Nat} : ∀ {l : List Int} {c : Int}, c ∈ l → v c ≤ sm v l
  | a :: l, c, h => by
    rw [sm_cons]
    rcases List.mem_cons.1 h with rfl | h
    · omega
    · have := sm_mem (v := v) h; omega
theorem sm_two {v : Int → Nat} : ∀ {l : List Int} {c d : Int}, c ∈ l → d ∈ l → c ≠ d → v c + v d ≤ sm v l
  | a :: l, c, d, hc, hd, hne => by
    rw [sm_cons]
    rcases List.mem_cons.1 hc with rfl | hc
    · rcases List.mem_cons.1 hd with rfl | hd
      · exact absurd rfl hne
      · have := sm_mem (v := v) hd; omega
    · rcases List.mem_cons.1 hd with e | hd
      · have := sm_mem (v := v) hc; rw [e]; omega
      · have := sm_two (v := v) hc hd hne; omega
/-! Who is best, who is worst -/
def bS (v : Int → Nat) (w c : Int) : Int := if w < 0 ∨ v w < v c then c else w
def wS (v : Int → Nat) (w c : Int) : Int := if w < 0 ∨ v c ≤ v w then c else w
def lS (v : Int → Nat) (w c : Int) : Int := if v c ≤ v w then c else w
def bst (v : Int → Nat) (l : List Int) : Int := l.foldl (bS v) (-1)
def wst (v : Int → Nat) (l : List Int) : Int := l.foldl (wS v) (-1)
def lw (v : Int → Nat) (x : Int) (l : List Int) : Int := l.foldl (lS v) x
theorem bst_snoc (v : Int → Nat) (l : List Int) (c : Int) : bst v (l ++ [c]) = bS v (bst v l) c := by simp [bst, List.foldl_append]
theorem wst_snoc (v : Int → Nat) (l : List Int) (c : Int) : wst v (l ++ [c]) = wS v (wst v l) c := by simp [wst, List.foldl_append]
theorem lw_snoc (v : Int → Nat) (x : Int) (l : List Int) (c : Int) : lw v x (l ++ [c]) = lS v (lw v x l) c := by simp [lw, List.foldl_append]
theorem bS_fold (v : Int → Nat) : ∀ (l : List Int) (w : Int), 0 ≤ w → (∀ c ∈ l, 0 ≤ c) → l.foldl (bS v) w ∈ w :: l ∧ v w ≤ v (l.foldl (bS v) w) ∧ ∀ c ∈ l, v c ≤ v (l.foldl (bS v) w)
  | [], w, _, _ => ⟨List.mem_cons_self .., Nat.le_refl _, fun c h => by cases h⟩
  | a :: l, w, hw, hl => by
    have ha : 0 ≤ a := hl a (List.mem_cons_self ..)
    have hl' : ∀ c ∈ l, 0 ≤ c := fun c h => hl c (List.mem_cons_of_mem _ h)
    by_cases h : v w < v a
    · have he : bS v w a = a := if_pos (.inr h)
      obtain ⟨h1, h2, h3⟩ := bS_fold v l a ha hl'
      rw [List.foldl_cons, he]
      refine ⟨List.mem_cons_of_mem _ h1, by omega, fun c hc => ?_⟩
      rcases List.mem_cons.1 hc with rfl | hc
      · exact h2
      · exact h3 c hc
    · have he : bS v w a = w := if_neg (by rintro (e | e); omega; exact h e)
      obtain ⟨h1, h2, h3⟩ := bS_fold v l w hw hl'
      rw [List.foldl_cons, he]
      refine ⟨?_, h2, fun c hc => ?_⟩
      · rcases List.mem_cons.1 h1 with h1 | h1
        · rw [h1]; exact List.mem_cons_self ..
        · exact List.mem_cons_of_mem _ (List.mem_cons_of_mem _ h1)
      · rcases List.mem_cons.1 hc with rfl | hc
        · omega
        · exact h3 c hc
theorem bst_spec {v : Int → Nat} {l : List Int} (hp : ∀ c ∈ l, 0 ≤ c) (hl : l ≠ []) : bst v l ∈ l ∧ ∀ c ∈ l, v c ≤ v (bst v l) := by
  cases l with
  | nil => exact absurd rfl hl
  | cons a l =>
    have he : bst v (a :: l) = l.foldl (bS v) a := by
      unfold bst
      rw [List.foldl_cons, show bS v (-1) a = a from if_pos (.inl (by omega))]
    obtain ⟨h1, h2, h3⟩ := bS_fold v l a (hp a (List.mem_cons_self ..)) fun c h => hp c (List.mem_cons_of_mem _ h)
    rw [he]
    refine ⟨h1, fun c hc => ?_⟩
    rcases List.mem_cons.1 hc with rfl | hc
    · exact h2
    · exact h3 c hc
theorem lw_mem (v : Int → Nat) : ∀ (l : List Int) (w : Int), lw v w l ∈ w :: l
  | [], w => List.mem_cons_self ..
  | a :: l, w => by
    unfold lw
    rw [List.foldl_cons]
    have h : lS v w a = a ∨ lS v w a = w := by unfold lS; split; exact .inl rfl; exact .inr rfl
    have h2 := lw_mem v l (lS v w a)
    unfold lw at h2
    rcases h with h | h
    · rw [h] at h2 ⊢; exact List.mem_cons_of_mem _ h2
    · rw [h] at h2 ⊢
      rcases List.mem_cons.1 h2 with h2 | h2
      · rw [h2]; exact List.mem_cons_self ..
      · exact List.mem_cons_of_mem _ (List.mem_cons_of_mem _ h2)
theorem wS_lS (v : Int → Nat) : ∀ (l : List Int) (w : Int), 0 ≤ w → (∀ c ∈ l, 0 ≤ c) → l.foldl (wS v) w = l.foldl (lS v) w
  | [], _, _, _ => rfl
  | a :: l, w, hw, hl => by
    have he : wS v w a = lS v w a := by
      unfold wS lS
      by_cases h : v a ≤ v w
      · rw [if_pos (.inr h), if_pos h]
      · rw [if_neg (by rintro (e | e); omega; exact h e), if_neg h]
    have hp : 0 ≤ lS v w a := by unfold lS; split; exact hl a (List.mem_cons_self ..); exact hw
    rw [List.foldl_cons, List.foldl_cons, he, wS_lS v l _ hp fun c h => hl c (List.mem_cons_of_mem _ h)]
theorem wst_lw {v : Int → Nat} {l : List Int} (hp : ∀ c ∈ l, 0 ≤ c) (hl : l ≠ []) : wst v l = lw v (l.getD 0 0) l := by
  cases l with
  | nil => exact absurd rfl hl
  | cons a l =>
    show (a :: l).foldl (wS v) (-1) = (a :: l).foldl (lS v) a
    rw [List.foldl_cons, List.foldl_cons, show wS v (-1) a = a from if_pos (.inl (by omega)), show lS v a a = a by unfold lS; split <;> rfl]
    exact wS_lS v l a (hp a (List.mem_cons_self ..)) fun c h => hp c (List.mem_cons_of_mem _ h)
theorem lw_in {v : Int → Nat} {l : List Int} (hl : l ≠ []) (j : Nat) : lw v (l.getD 0 0) (l.take j) ∈ l := by
  have h0 : l.getD 0 0 ∈ l := getD_mem (List.length_pos_iff.2 hl)
  rcases List.mem_cons.1 (lw_mem v (l.take j) (l.getD 0 0)) with h | h
  · rw [h]; exact h0
  · exact List.mem_of_mem_take h
/-- One with more than half is the best. -/
theorem major {v : Int → Nat} {l : List Int} (hp : ∀ c ∈ l, 0 ≤ c) {c : Int} (hc : c ∈ l) (h : sm v l < 2 * v c) : bst v l = c := by
  obtain ⟨h1, h2⟩ := bst_spec (v := v) hp (List.ne_nil_of_mem hc)
  by_cases he : bst v l = c
  · exact he
  · have h3 := sm_two (v := v) h1 hc he
    have h4 := h2 c hc
    omega
/-- Answers: who, in which round, and the code. -/
def er (xss : List (List Int)) : Nat → List Int → Int → Int × Int × Int
  | 0, _, _ => (0, 0, 4)
  | k + 1, ins, r => if al ins xss xss.length = 0 then (0, 0, 4) else if al ins xss xss.length < 2 * vt ins xss xss.length (bst (vt ins xss xss.length) ins) then (bst (vt ins xss xss.length) ins, r, 0)
    else er xss k (kp ins (wst (vt ins xss xss.length) ins)) (r + 1)
theorem er_none {xss : List (List Int)} {k : Nat} {ins : List Int} {r : Int} (h : al ins xss xss.length = 0) : er xss k ins r = (0, 0, 4) := by
  cases k with
  | zero => rfl
  | succ k => show (if _ then _ else _) = _; rw [if_pos h]
theorem er_won {xss : List (List Int)} {k : Nat} {ins : List Int} {r : Int} (hk : 0 < k) (h : ¬ al ins xss xss.length = 0) (h2 : al ins xss xss.length < 2 * vt ins xss xss.length (bst (vt ins xss xss.length) ins)) : er xss k ins r = (bst (vt ins xss xss.length) ins, r, 0) := by
  cases k with
  | zero => omega
  | succ k => show (if _ then _ else _) = _; rw [if_neg h, if_pos h2]
theorem er_on {xss : List (List Int)} {k : Nat} {ins : List Int} {r : Int} (h : ¬ al ins xss xss.length = 0) (h2 : ¬ al ins xss xss.length < 2 * vt ins xss xss.length (bst (vt ins xss xss.length) ins)) : er xss (k + 1) ins r = er xss k (kp ins (wst (vt ins xss xss.length) ins)) (r + 1) := by
  show (if _ then _ else _) = _; rw [if_neg h, if_neg h2]
/-- Those who are in: some, once each, of 0 .. n-1. -/
structure Ins (n : Nat) (ins : List Int) : Prop where
  nd : ins.Nodup
  rg : ∀ c ∈ ins, 0 ≤ c ∧ c < n
  ne : ins ≠ []
theorem Ins.pos {n : Nat} {ins : List Int} (h : Ins n ins) : ∀ c ∈ ins, 0 ≤ c := fun c hc => (h.rg c hc).1
theorem Ins.sum {n : Nat} {ins : List Int} (h : Ins n ins) (xss : List (List Int)) : sm (vt ins xss xss.length) ins = al ins xss xss.length := sm_vt h.nd h.pos xss _ (Nat.le_refl _)
theorem Ins.wstIn {n : Nat} {ins : List Int} (h : Ins n ins) (v : Int → Nat) : wst v ins ∈ ins := by
  rw [wst_lw h.pos h.ne]
  have := lw_in (v := v) h.ne ins.length
  rwa [List.take_length] at this
theorem kp_len {l : List Int} {x : Int} (hd : l.Nodup) (hx : x ∈ l) : (kp l x).length + 1 = l.length := by
  induction l with
  | nil => cases hx
  | cons a l ih =>
    unfold kp at ih ⊢
    by_cases ha : x = a
    · subst ha
      rw [List.filter_cons_of_neg (by simp)]
      have : (l.filter fun y => decide (x ≠ y)) = l := by
        rw [List.filter_eq_self]
        intro y hy
        refine decide_eq_true fun e => ?_
        subst e
        exact (List.nodup_cons.1 hd).1 hy
      rw [this]; rfl
    · rw [List.filter_cons_of_pos (by simpa using ha), List.length_cons, List.length_cons]
      rcases List.mem_cons.1 hx with e | hx
      · exact absurd e ha
      · rw [ih (List.nodup_cons.1 hd).2 hx]
/-- Nobody has more than half: more than one is in. -/
theorem Ins.two {n : Nat} {ins : List Int} (h : Ins n ins) {xss : List (List Int)} (h1 : ¬ al ins xss xss.length = 0) (h2 : ¬ al ins xss xss.length < 2 * vt ins xss xss.length (bst (vt ins xss xss.length) ins)) : 2 ≤ ins.length := by
  match ins, h, h1, h2 with
  | [], h, _, _ => exact absurd rfl h.ne
  | [c], h, h1, h2 =>
    exfalso
    have hb : bst (vt [c] xss xss.length) [c] = c := by
      have := (bst_spec (v := vt [c] xss xss.length) h.pos h.ne).1
      simpa using this
    rw [hb] at h2
    have hs := h.sum xss
    simp [sm] at hs
    omega
  | _ :: _ :: l, _, _, _ => simp
theorem Ins.kp {n : Nat} {ins : List Int} (h : Ins n ins) (v : Int → Nat) (h2 : 2 ≤ ins.length) : Ins n (kp ins (wst v ins)) where
  nd := h.nd.filter _
  rg := fun c hc => h.rg c (List.mem_filter.1 hc).1
  ne := fun e => by
    have := kp_len h.nd (h.wstIn v)
    rw [e] at this
    simp at this
    omega
/-- Tables. -/
def tb (n : Nat) (f : Nat → Int) : List Int := (List.range n).map f
theorem tb_len (n : Nat) (f : Nat → Int) : (tb n f).length = n := by simp [tb]
theorem tb_get {n : Nat} {f : Nat → Int} {c : Nat} (h : c < n) : (tb n f).getD c 0 = f c := by
  rw [tb, List.getD_eq_getElem?_getD, List.getElem?_map, List.getElem?_range h]; rfl
theorem tb_ext {n : Nat} {f g : Nat → Int} (h : ∀ c, c < n → f c = g c) : tb n f = tb n g := List.map_congr_left fun c hc => h c (List.mem_range.1 hc)
theorem tb_set {n : Nat} {f : Nat → Int} {k : Nat} {v : Int} : (tb n f).set k v = tb n fun c => if c = k then v else f c := by
  refine ext_getD 0 (by rw [List.length_set, tb_len, tb_len]) fun i hi => ?_
  rw [List.length_set, tb_len] at hi
  rw [getD_set, tb_len, tb_get hi, tb_get hi]
  by_cases h : i = k
  · rw [if_pos h, if_pos ⟨h.symm, by omega⟩]
  · rw [if_neg h, if_neg fun e => h e.1.symm]
theorem tb_zero (n : Nat) : List.replicate n (0 : Int) = tb n fun _ => 0 := by
  refine ext_getD 0 (by rw [List.length_replicate, tb_len]) fun i hi => ?_
  rw [List.length_replicate] at hi
  rw [tb_get hi, List.getD_eq_getElem?_getD, List.getElem?_replicate, if_pos hi]; rfl
end Go.Proofs.Ytcdfdigehaipmaa
