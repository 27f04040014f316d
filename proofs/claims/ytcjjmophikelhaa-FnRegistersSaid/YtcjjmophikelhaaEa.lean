/-
  Enrolment in a register, and what a change of a register leaves true: plain facts. No conditions but those in the statements.
-/
import Derived.Test.YtcjjmophikelhaaFf
set_option linter.unusedVariables false
set_option linter.unusedSimpArgs false
namespace Go.Proofs.Ytcjjmophikelhaa
open Go.AE

def enArgs (num bo n : Int) : Prop := (1 ≤ num ∧ num ≤ 1000000) ∧ (0 ≤ bo ∧ bo ≤ 35999) ∧ (0 ≤ n ∧ n ≤ 35999) ∧ bo ≤ n
instance (num bo n : Int) : Decidable (enArgs num bo n) := by unfold enArgs; infer_instance
def enC (xss : List (List Int)) (num bo n : Int) : Int := if isReg xss then (if enArgs num bo n then (if hasM num xss then 5 else (if xss.length = 60 then 3 else 0)) else 2) else 1
def enRow (num bo n : Int) : List Int := [num, bo, n, -1, n]
def insL (xss : List (List Int)) (i : Nat) (r : List Int) : List (List Int) := xss.take i ++ [r] ++ xss.drop i
def enR (xss : List (List Int)) (num bo n : Int) : List (List Int) := if enC xss num bo n = 0 then insL xss (lo num xss) (enRow num bo n) else []
abbrev enT (xss : List (List Int)) (num bo n : Int) : AV := .tup [.sl 0 5 (enR xss num bo n).length, I (enC xss num bo n)]
theorem enC_1 {xss : List (List Int)} {num bo n : Int} (h : ¬ isReg xss) : enC xss num bo n = 1 := by simp [enC, h]
theorem enC_2 {xss : List (List Int)} {num bo n : Int} (h : isReg xss) (h2 : ¬ enArgs num bo n) : enC xss num bo n = 2 := by simp [enC, h, h2]
theorem enC_5 {xss : List (List Int)} {num bo n : Int} (h : isReg xss) (h2 : enArgs num bo n) (h3 : hasM num xss) : enC xss num bo n = 5 := by simp [enC, h, h2, h3]
theorem enC_3 {xss : List (List Int)} {num bo n : Int} (h : isReg xss) (h2 : enArgs num bo n) (h3 : ¬ hasM num xss) (h4 : xss.length = 60) : enC xss num bo n = 3 := by simp [enC, h, h2, h3, h4]
theorem enC_0 {xss : List (List Int)} {num bo n : Int} (h : isReg xss) (h2 : enArgs num bo n) (h3 : ¬ hasM num xss) (h4 : ¬ xss.length = 60) : enC xss num bo n = 0 := by simp [enC, h, h2, h3, h4]
theorem enC_inv {xss : List (List Int)} {num bo n : Int} (h : enC xss num bo n = 0) : isReg xss ∧ enArgs num bo n ∧ ¬ hasM num xss ∧ xss.length < 60 := by
  unfold enC at h
  repeat' split at h
  all_goals first | omega | skip
  rename_i h1 h2 h3 h4
  exact ⟨h1, h2, h3, by have := h1.2; omega⟩
theorem enR_ok {xss : List (List Int)} {num bo n : Int} (h : enC xss num bo n = 0) : enR xss num bo n = insL xss (lo num xss) (enRow num bo n) := by simp [enR, h]
theorem enR_no {xss : List (List Int)} {num bo n c : Int} (h : enC xss num bo n = c) (hc : c ≠ 0) : enR xss num bo n = [] := by simp [enR, h, hc]
theorem insL_len (xss : List (List Int)) (i : Nat) (r : List Int) : (insL xss i r).length = xss.length + 1 := by simp [insL]; omega
theorem insL_at {xss : List (List Int)} {i : Nat} (hi : i ≤ xss.length) (r : List Int) (j : Nat) : (insL xss i r).getD j [] = if j < i then xss.getD j [] else if j = i then r else xss.getD (j - 1) [] := by
  unfold insL
  simp only [List.getD_eq_getElem?_getD]
  rw [List.append_assoc]
  by_cases h1 : j < i
  · rw [if_pos h1, List.getElem?_append_left (by simp; omega), List.getElem?_take, if_pos h1]
  · rw [if_neg h1, List.getElem?_append_right (by simp; omega), List.length_take, Nat.min_eq_left hi]
    by_cases h2 : j = i
    · subst h2
      rw [if_pos rfl, Nat.sub_self]; rfl
    · rw [if_neg h2, List.getElem?_append_right (by simp; omega), List.getElem?_drop, List.length_singleton]
      congr 2; omega
theorem enR_len (xss : List (List Int)) (num bo n : Int) : (enR xss num bo n).length ≤ 60 := by
  unfold enR
  split
  · rename_i h
    rw [insL_len]
    have := (enC_inv h).2.2.2
    omega
  · simp
theorem insL_row {xss : List (List Int)} (hr : ∀ r ∈ xss, r.length = 5) (i : Nat) {r : List Int} (h : r.length = 5) : ∀ s ∈ insL xss i r, s.length = 5 := fun s hs => by
  unfold insL at hs
  rcases List.mem_append.1 hs with hs | hs
  · rcases List.mem_append.1 hs with hs | hs
    · exact hr s (List.mem_of_mem_take hs)
    · obtain rfl := List.mem_singleton.1 hs; exact h
  · exact hr s (List.mem_of_mem_drop hs)
theorem enR_row (xss : List (List Int)) (num bo n : Int) (hr : ∀ r ∈ xss, r.length = 5) : ∀ r ∈ enR xss num bo n, r.length = 5 := by
  unfold enR
  split
  · exact insL_row hr _ rfl
  · intro r h; cases h
/-! ### Registers stay registers -/
theorem reg_of {xss : List (List Int)} (h : ∀ i, i < xss.length → rowR (xss.getD i []) ∧ (0 < i → (xss.getD (i - 1) []).getD 0 0 < (xss.getD i []).getD 0 0)) (hl : xss.length ≤ 60) : isReg xss :=
  ⟨fun i hi => ⟨(h i hi).1, fun h0 => by
    have e : ((i : Int) - 1).toNat = i - 1 := by omega
    rw [e]
    exact (h i hi).2 (by omega)⟩, hl⟩
theorem reg_at {xss : List (List Int)} (h : isReg xss) {i : Nat} (hi : i < xss.length) : rowR (xss.getD i []) ∧ (0 < i → (xss.getD (i - 1) []).getD 0 0 < (xss.getD i []).getD 0 0) := by
  obtain ⟨h1, h2⟩ := h.1 i hi
  refine ⟨h1, fun h0 => ?_⟩
  have e : ((i : Int) - 1).toNat = i - 1 := by omega
  have := h2 (by omega)
  rw [e] at this
  exact this
theorem reg_ins {xss : List (List Int)} {num bo n : Int} (h : enC xss num bo n = 0) : isReg (insL xss (lo num xss) (enRow num bo n)) := by
  obtain ⟨hr, ⟨ha1, ha2, ha3, ha4⟩, hm, hl⟩ := enC_inv h
  obtain ⟨s1, s2⟩ := lo_spec num xss
  have hlo := lo_le num xss
  have hne : lo num xss < xss.length → num < (xss.getD (lo num xss) []).getD 0 0 := fun hlt => by
    have h1 := s2 hlt
    have h2 : (xss.getD (lo num xss) []).getD 0 0 ≠ num := fun e => hm ⟨hlt, e⟩
    omega
  have hrow : rowR (enRow num bo n) := ⟨ha1, ha2, ha3, ha3, .inl rfl, ha4, Int.le_refl _, .inl rfl⟩
  refine reg_of (fun j hj => ?_) (by rw [insL_len]; omega)
  rw [insL_len] at hj
  rw [insL_at hlo, insL_at hlo]
  rcases Nat.lt_trichotomy j (lo num xss) with h1 | h1 | h1
  · rw [if_pos h1, if_pos (show j - 1 < lo num xss by omega)]
    exact reg_at hr (by omega)
  · rw [if_neg (by omega), if_pos h1]
    refine ⟨hrow, fun h0 => ?_⟩
    rw [if_pos (by omega)]
    exact s1 _ (by omega)
  · rw [if_neg (by omega), if_neg (by omega)]
    obtain ⟨g1, g2⟩ := reg_at hr (i := j - 1) (by omega)
    refine ⟨g1, fun _ => ?_⟩
    rw [if_neg (by omega)]
    by_cases h2 : j - 1 = lo num xss
    · rw [if_pos h2, h2]
      exact hne (by omega)
    · rw [if_neg h2]
      exact g2 (by omega)
theorem chC_inv {num n : Int} {xss : List (List Int)} (h : chC num n xss = 0) : isReg xss ∧ argsOk num n ∧ hasM num xss ∧ openM n (rowLo num xss) := by
  unfold chC at h
  repeat' split at h
  all_goals first | omega | skip
  rename_i h1 h2 h3 h4
  exact ⟨h1, h2, h3, h4⟩
theorem chL_at (j : Nat) (n : Int) (xss : List (List Int)) {i : Nat} (hi : i < xss.length) (k : Nat) : (chL j n xss i).getD k [] = if k = i then setInts (xss.getD i []) j [n] else xss.getD k [] := by
  unfold chL
  simp only [List.getD_eq_getElem?_getD]
  by_cases h : k = i
  · subst h; rw [if_pos rfl, List.getElem?_set_self hi]; rfl
  · rw [if_neg h, List.getElem?_set_ne (fun e => h e.symm)]
theorem set3 {r : List Int} (hl : r.length = 5) (n : Int) : ∃ a b c d e, r = [a, b, c, d, e] ∧ setInts r 3 [n] = [a, b, c, n, e] ∧ setInts r 4 [n] = [a, b, c, d, n] := by
  match r, hl with
  | [a, b, c, d, e], _ => exact ⟨a, b, c, d, e, rfl, rfl, rfl⟩
theorem reg_ch {num n : Int} {xss : List (List Int)} (hr : ∀ r ∈ xss, r.length = 5) (h : chC num n xss = 0) : isReg (chL 3 n xss (lo num xss)) ∧ isReg (chL 4 n xss (lo num xss)) := by
  obtain ⟨hreg, ⟨ha1, ha2⟩, hm, ho1, ho2⟩ := chC_inv h
  have hlt : lo num xss < xss.length := hm.1
  have hl5 : (xss.getD (lo num xss) []).length = 5 := hr _ (getD_mem hlt)
  obtain ⟨a, b, c, d, e, e0, e3, e4⟩ := set3 hl5 n
  have hrow := (reg_at hreg hlt).1
  have ho1 : (xss.getD (lo num xss) []).getD 3 0 = -1 := ho1
  have ho2 : (xss.getD (lo num xss) []).getD 4 0 ≤ n := ho2
  rw [e0] at hrow ho1 ho2
  have ho1 : d = -1 := ho1
  have ho2 : e ≤ n := ho2
  have hrow : rowM a b c d e := hrow
  obtain ⟨r1, r2, r3, r4, r5, r6, r7, r8⟩ := hrow
  have main : ∀ j s, setInts (xss.getD (lo num xss) []) j [n] = s → rowR s → s.getD 0 0 = (xss.getD (lo num xss) []).getD 0 0 → isReg (chL j n xss (lo num xss)) := fun j s hs hrs h0 => by
    have hnum : ∀ k, ((chL j n xss (lo num xss)).getD k []).getD 0 0 = (xss.getD k []).getD 0 0 := fun k => by
      rw [chL_at j n xss hlt k]
      split
      · rename_i hk; subst hk; rw [hs, h0]
      · rfl
    have hlen : (chL j n xss (lo num xss)).length = xss.length := chL_len _ _ _ _
    refine reg_of (fun k hk => ?_) (by rw [hlen]; exact hreg.2)
    rw [hlen] at hk
    rw [hnum, hnum]
    refine ⟨?_, (reg_at hreg hk).2⟩
    rw [chL_at j n xss hlt k]
    split
    · rw [hs]; exact hrs
    · exact (reg_at hreg hk).1
  exact ⟨main 3 _ e3 ⟨r1, r2, r3, r4, .inr ha2, r6, r7, .inr ho2⟩ (by rw [e0]; rfl), main 4 _ e4 ⟨r1, r2, r3, ha2, .inl ho1, r6, show c ≤ n by omega, .inl ho1⟩ (by rw [e0]; rfl)⟩
/-! ### Who is told of -/
theorem mem_sel {q : Nat → Bool} {g : Nat → Int} {m : Nat} {x : Int} : x ∈ selL q g m ↔ ∃ j, j < m ∧ q j = true ∧ g j = x := by
  unfold selL
  simp only [List.mem_map, List.mem_filter, List.mem_range]
  constructor
  · rintro ⟨j, ⟨h1, h2⟩, h3⟩; exact ⟨j, h1, h2, h3⟩
  · rintro ⟨j, h1, h2, h3⟩; exact ⟨j, ⟨h1, h2⟩, h3⟩
theorem reg_inj {xss : List (List Int)} (h : isReg xss) {i j : Nat} (hi : i < xss.length) (hj : j < xss.length) (he : (xss.getD i []).getD 0 0 = (xss.getD j []).getD 0 0) : i = j := by
  rcases Nat.lt_trichotomy i j with h1 | h1 | h1
  · have h2 := reg_mono h i (j - 1) (by omega) (by omega)
    have h3 := (reg_at h hj).2 (by omega)
    omega
  · exact h1
  · have h2 := reg_mono h j (i - 1) (by omega) (by omega)
    have h3 := (reg_at h hi).2 (by omega)
    omega
theorem en_in {xss : List (List Int)} {num bo n : Int} (_h : enC xss num bo n = 0) : num ∈ selL (telQ allW (insL xss (lo num xss) (enRow num bo n)) n) (fun i => numOf ((insL xss (lo num xss) (enRow num bo n)).getD i [])) (insL xss (lo num xss) (enRow num bo n)).length := by
  have hlo := lo_le num xss
  have he : (insL xss (lo num xss) (enRow num bo n)).getD (lo num xss) [] = enRow num bo n := by rw [insL_at hlo, if_neg (Nat.lt_irrefl _), if_pos rfl]
  refine mem_sel.2 ⟨lo num xss, by rw [insL_len]; omega, tel_yes rfl ?_, ?_⟩
  · rw [he]; exact ⟨Int.le_refl _, .inl rfl⟩
  · show numOf ((insL xss (lo num xss) (enRow num bo n)).getD (lo num xss) []) = num
    rw [he]; rfl
theorem left_out {num n : Int} {xss : List (List Int)} (hr : ∀ r ∈ xss, r.length = 5) (h : chC num n xss = 0) :
    num ∉ selL (telQ allW (chL 3 n xss (lo num xss)) n) (fun i => numOf ((chL 3 n xss (lo num xss)).getD i [])) (chL 3 n xss (lo num xss)).length := fun hm => by
  obtain ⟨hreg, ⟨ha1, ha2⟩, hh, _, _⟩ := chC_inv h
  have hlt : lo num xss < xss.length := hh.1
  obtain ⟨a, b, c, d, e, e0, e3, e4⟩ := set3 (hr _ (getD_mem hlt)) n
  obtain ⟨j, h1, h2, h3⟩ := mem_sel.1 hm
  rw [chL_len] at h1
  have h3 : ((chL 3 n xss (lo num xss)).getD j []).getD 0 0 = num := h3
  have h4 := chL_at 3 n xss hlt j
  by_cases hj : j = lo num xss
  · rw [if_pos hj, e3] at h4
    have : telQ allW (chL 3 n xss (lo num xss)) n j = false := tel_no2 (by rw [h4]; rintro ⟨_, g⟩; rcases g with g | g <;> (simp at g; try omega))
    rw [this] at h2; cases h2
  · rw [if_neg hj] at h4
    rw [h4] at h3
    exact hj (reg_inj hreg h1 hlt (h3.trans hh.2.symm))
theorem proved_out {num n : Int} {xss : List (List Int)} (hr : ∀ r ∈ xss, r.length = 5) (h : chC num n xss = 0) :
    num ∉ selL (telQ (silW n) (chL 4 n xss (lo num xss)) n) (fun i => numOf ((chL 4 n xss (lo num xss)).getD i [])) (chL 4 n xss (lo num xss)).length := fun hm => by
  obtain ⟨hreg, ⟨ha1, ha2⟩, hh, _, _⟩ := chC_inv h
  have hlt : lo num xss < xss.length := hh.1
  obtain ⟨a, b, c, d, e, e0, e3, e4⟩ := set3 (hr _ (getD_mem hlt)) n
  obtain ⟨j, h1, h2, h3⟩ := mem_sel.1 hm
  rw [chL_len] at h1
  have h3 : ((chL 4 n xss (lo num xss)).getD j []).getD 0 0 = num := h3
  have h4 := chL_at 4 n xss hlt j
  by_cases hj : j = lo num xss
  · rw [if_pos hj, e4] at h4
    have : telQ (silW n) (chL 4 n xss (lo num xss)) n j = false := tel_no1 (by rw [h4]; exact decide_eq_false (by simp))
    rw [this] at h2; cases h2
  · rw [if_neg hj] at h4
    rw [h4] at h3
    exact hj (reg_inj hreg h1 hlt (h3.trans hh.2.symm))
end Go.Proofs.Ytcjjmophikelhaa
