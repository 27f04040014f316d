/-
  Elections in plain lists: sums of points, who is elected by rounds, elections of two. No conditions but those in the statements.
-/
import Derived.Test.YtcdfdigehaipmaaEs
import Derived.Test.YtcdfdigehaipmaaEl
set_option linter.unusedVariables false
set_option linter.unusedSimpArgs false
namespace Go.Proofs.Ytcdfdigehaipmaa
open Go.AE

theorem set_sum {l : List Int} {i : Nat} {x : Int} (h : i < l.length) : (l.set i x).sum = l.sum - l.getD i 0 + x := by
  induction l generalizing i with
  | nil => simp at h
  | cons y r ih =>
    cases i with
    | zero => simp; omega
    | succ i =>
      have := ih (i := i) (by simpa using h)
      simp only [List.set_cons_succ, List.sum_cons, List.getD_cons_succ, this]
      omega
def ttK (n : Int) : Nat → Int
  | 0 => 0
  | k + 1 => ttK n k + (n - k)
def ttl (n : Int) (xss : List (List Int)) : Nat → Int
  | 0 => 0
  | i + 1 => ttl n xss i + ttK n (xss.getD i []).length
theorem ptK_sum {n : Int} {b out : List Int} (hr : ∀ j, j < b.length → (b.getD j 0).toNat < out.length) : ∀ k, k ≤ b.length → (ptK n b out k).sum = out.sum + ttK n k
  | 0, _ => by simp [ptK, ttK]
  | k + 1, hk => by
    have ih := ptK_sum (n := n) hr k (by omega)
    rw [ptK_next, set_sum (by rw [ptK_len]; exact hr k (by omega)), ih]
    simp only [ttK]
    omega
theorem ptN_sum {n : Int} {xss : List (List Int)} (h : okB n xss) : ∀ i, i ≤ xss.length → (ptN n xss i).sum = ttl n xss i
  | 0, _ => by simp [ptN, ttl]
  | i + 1, hi => by
    have ih := ptN_sum h i (by omega)
    have ho := h.2.2 _ (getD_mem (d := ([] : List Int)) (show i < xss.length by omega))
    rw [ptN_next, ptK_sum (fun j hj => by
      have := ho.1 _ (getD_mem (d := (0 : Int)) hj)
      rw [ptN_len]
      omega) _ (Nat.le_refl _), ih]
    rfl
theorem ttK_bd {n : Int} (hn : 0 ≤ n ∧ n ≤ 13) : ∀ k : Nat, k ≤ 5 → -100 ≤ ttK n k ∧ ttK n k ≤ 13 * k
  | 0, _ => by simp [ttK]
  | 1, _ => by simp [ttK]; omega
  | 2, _ => by simp [ttK]; omega
  | 3, _ => by simp [ttK]; omega
  | 4, _ => by simp [ttK]; omega
  | 5, _ => by simp [ttK]; omega
theorem ttl_bd {n : Int} (hn : 0 ≤ n ∧ n ≤ 13) {xss : List (List Int)} (hr : ∀ r ∈ xss, r.length ≤ 5) : ∀ i : Nat, i ≤ xss.length → -100 * (i : Int) ≤ ttl n xss i ∧ ttl n xss i ≤ 100 * i
  | 0, _ => by simp [ttl]
  | i + 1, hi => by
    have ih := ttl_bd hn hr i (by omega)
    have hl := hr _ (getD_mem (d := ([] : List Int)) (show i < xss.length by omega))
    have := ttK_bd hn _ hl
    simp only [ttl]
    omega
theorem er_rg {n : Nat} {xss : List (List Int)} : ∀ (k : Nat) (ins : List Int) (r c rr : Int), Ins n ins → ins.length ≤ k → er xss k ins r = (c, rr, 0) → (0 ≤ c ∧ c < n) ∧ r ≤ rr ∧ rr ≤ r + ins.length - 1
  | 0, ins, r, c, rr, hI, hl, _ => by
    have := hI.ne
    cases ins with
    | nil => exact absurd rfl this
    | cons _ _ => simp at hl
  | k + 1, ins, r, c, rr, hI, hl, h => by
    have hne : 1 ≤ ins.length := by
      cases ins with
      | nil => exact absurd rfl hI.ne
      | cons _ _ => simp
    by_cases h1 : al ins xss xss.length = 0
    · rw [er_none h1] at h
      cases h
    · by_cases h2 : al ins xss xss.length < 2 * vt ins xss xss.length (bst (vt ins xss xss.length) ins)
      · rw [er_won (by omega) h1 h2] at h
        cases h
        have := hI.rg _ (bst_spec (v := vt ins xss xss.length) hI.pos hI.ne).1
        exact ⟨this, by omega, by omega⟩
      · rw [er_on h1 h2] at h
        have htw := hI.two h1 h2
        have hkl := kp_len hI.nd (hI.wstIn (vt ins xss xss.length))
        have := er_rg k _ _ _ _ (hI.kp (vt ins xss xss.length) htw) (by omega) h
        refine ⟨this.1, by omega, by omega⟩
theorem baM_all {xss : List (List Int)} {n : Nat} (h : baM xss n < n) : bAll xss n (baM xss n) := by
  have h1 := (firstOf_spec (fun c => decide (bAll xss n c)) 0 (List.range n)).2 (by rw [List.length_range]; exact h)
  have h2 := of_decide_eq_true h1
  have hr : (List.range n).getD (baM xss n) 0 = baM xss n := by
    rw [List.getD_eq_getElem?_getD, List.getElem?_range h]; rfl
  have h3 : bAll xss n ((List.range n).getD (baM xss n) 0) := h2
  rwa [hr] at h3
theorem fo_head {b : List Int} {x : Int} (h : 0 < b.length) (hx : b.getD 0 0 = x) : fo b x = 0 := fo_eq (by omega) (fun j hj => by omega) fun _ => hx.symm
theorem fo_pos {b : List Int} {x : Int} (h : 0 < b.length) (hx : b.getD 0 0 ≠ x) : 1 ≤ fo b x := by
  rcases Nat.eq_zero_or_pos (fo b x) with h0 | h0
  · have := fo_at (l := b) (x := x) (by omega)
    rw [h0] at this
    exact absurd this.symm hx
  · exact h0
theorem two_one {b : List Int} (h : ok1 2 b) : ldI b 0 1 = (if fI [0, 1] b = 0 then 1 else 0) - (if fI [0, 1] b = 1 then 1 else 0) ∧ ldI b 1 0 = (if fI [0, 1] b = 1 then 1 else 0) - (if fI [0, 1] b = 0 then 1 else 0) := by
  rcases Nat.eq_zero_or_pos b.length with h0 | h0
  · obtain rfl := List.eq_nil_of_length_eq_zero h0
    decide
  · have hb := h.1 _ (getD_mem (d := (0 : Int)) h0)
    have hin : b.getD 0 0 ∈ ([0, 1] : List Int) := by
      simp only [List.mem_cons, List.not_mem_nil, or_false]; omega
    have hf : fin [0, 1] b = 0 := fin_eq (by omega) (fun j hj => by omega) fun _ => hin
    have hfi : fI [0, 1] b = b.getD 0 0 := by unfold fI; rw [hf, if_pos h0]
    rw [hfi]
    by_cases hz : b.getD 0 0 = 0
    · have e0 := fo_head h0 hz
      have e1 := fo_pos (x := 1) h0 (by omega)
      rw [ldI_gt (by omega), ldI_lt (by omega), if_pos hz, if_neg (by omega)]
      decide
    · have hz1 : b.getD 0 0 = 1 := by omega
      have e0 := fo_head h0 hz1
      have e1 := fo_pos (x := 0) h0 (by omega)
      rw [ldI_lt (by omega), ldI_gt (by omega), if_neg hz, if_pos hz1]
      decide
theorem lead_two {xss : List (List Int)} (h : okB 2 xss) : ∀ i, i ≤ xss.length → lead xss 0 1 i = (vt [0, 1] xss i 0 : Int) - vt [0, 1] xss i 1 ∧ lead xss 1 0 i = (vt [0, 1] xss i 1 : Int) - vt [0, 1] xss i 0
  | 0, _ => by simp [lead_zero, vt_zero]
  | i + 1, hi => by
    have ih := lead_two h i (by omega)
    have ho := two_one (h.2.2 _ (getD_mem (d := ([] : List Int)) (show i < xss.length by omega)))
    rw [lead_next _ _ (by omega), lead_next _ _ (by omega), vt_next _ (by omega), vt_next _ (by omega), ho.1, ho.2]
    push_cast
    split <;> split <;> omega
theorem two_same {xss : List (List Int)} (h : okB 2 xss) (hb : baM xss 2 < 2) {c r : Int} (he : er xss 2 (marks 2 0) 1 = (c, r, 0)) : (baM xss 2 : Int) = c := by
  have hall := baM_all hb
  have hl := lead_two h xss.length (Nat.le_refl _)
  have hI := marks_ins (n := 2) (by omega)
  have hm : marks 2 0 = [0, 1] := rfl
  rw [hm] at he hI
  have hs := hI.sum xss
  have hsm : sm (vt [0, 1] xss xss.length) [0, 1] = vt [0, 1] xss xss.length 0 + vt [0, 1] xss xss.length 1 := by simp [sm]
  have key : ∀ x : Int, x ∈ ([0, 1] : List Int) → vt [0, 1] xss xss.length 0 + vt [0, 1] xss xss.length 1 < 2 * vt [0, 1] xss xss.length x → c = x := fun x hx hv => by
    have hbst := major (v := vt [0, 1] xss xss.length) hI.pos hx (by rw [hsm]; exact hv)
    have h1 : ¬ al [0, 1] xss xss.length = 0 := by
      rw [← hs, hsm]
      simp only [List.mem_cons, List.not_mem_nil, or_false] at hx
      rcases hx with rfl | rfl <;> omega
    rw [er_won (by decide) h1 (by rw [hbst, ← hs, hsm]; exact hv), hbst] at he
    cases he
    rfl
  have h2 : baM xss 2 = 0 ∨ baM xss 2 = 1 := by omega
  rcases h2 with h2 | h2
  · rw [h2] at hall ⊢
    have := hall 1 (by decide)
    rcases this with h3 | h3
    · cases h3
    · have h3 : 0 < lead xss 0 1 xss.length := h3
      exact (key 0 (by simp) (by omega)).symm
  · rw [h2] at hall ⊢
    have := hall 0 (by decide)
    rcases this with h3 | h3
    · cases h3
    · have h3 : 0 < lead xss 1 0 xss.length := h3
      exact (key 1 (by simp) (by omega)).symm
end Go.Proofs.Ytcdfdigehaipmaa
