/-
  Elections: what the answers of the functions come to, case by case. No conditions but those in the statements.
-/
import Derived.Test.YtcdfdigehaipmaaEv
import Derived.Test.YtcdfdigehaipmaaEu
set_option linter.unusedVariables false
set_option linter.unusedSimpArgs false
namespace Go.Proofs.Ytcdfdigehaipmaa
open Go.AE

theorem take_bd {l : List Int} {B : Int} (h : ∀ j, 0 ≤ l.getD j 0 ∧ l.getD j 0 ≤ B) : ∀ i : Nat, i ≤ l.length → 0 ≤ (l.take i).sum ∧ (l.take i).sum ≤ B * i
  | 0, _ => by simp
  | i + 1, hi => by
    have ih := take_bd h i (by omega)
    have h1 := h i
    rw [take_snoc 0 (by omega), List.sum_append]
    have e : B * ((i + 1 : Nat) : Int) = B * i + B := by push_cast; rw [Int.mul_add, Int.mul_one]
    rw [e]
    simp only [List.sum_cons, List.sum_nil]
    omega
theorem el_cases (k : Int) (x : List (List Int)) (s : Int) :
    (∃ (m : Nat) (L P : List Int), k = m ∧ elR k x s = L ∧ elC k x s = 0 ∧ poR k x = P ∧ poC k x = 0 ∧ (L.length : Int) = s ∧ P.length = m ∧ (1 ≤ s ∧ s ≤ 12) ∧ (1 ≤ m ∧ m ≤ 12) ∧ (∀ i, i < L.length → 0 ≤ L.getD i 0 ∧ L.getD i 0 < m) ∧
      (∀ i : Nat, 1 ≤ i → i < L.length → P.getD (L.getD i 0).toNat 0 ≤ P.getD (L.getD (i - 1) 0).toNat 0)) ∨
    (∃ e : Int, e ≠ 0 ∧ elR k x s = [] ∧ elC k x s = e) := by
  by_cases ho : okB k x
  · by_cases hs : 1 ≤ s ∧ s ≤ 12
    · by_cases hk : s ≤ k
      · have hy := el_yes ho hs hk
        have hp := po_yes ho
        have hc := ho.1
        obtain ⟨m, rfl⟩ : ∃ m : Nat, k = (m : Int) := ⟨k.toNat, by omega⟩
        have hS := isrt_So (ptN (m : Int) x x.length) m
        have hsl := hS.len
        have hpl := ptN_len (m : Int) x x.length
        have hmt : ((m : Int)).toNat = m := rfl
        rw [hmt] at hy hpl
        refine .inl ⟨m, _, _, rfl, hy.1, hy.2, hp.1, hp.2, by rw [List.length_take, hsl]; omega, hpl, hs, by omega, ?_, ?_⟩
        · intro i hi
          exact hS.rg _ (List.mem_of_mem_take (getD_mem (d := (0 : Int)) hi))
        · intro i h1 hi
          have hpw := List.Pairwise.sublist (List.take_sublist s.toNat _) hS.ord
          have hlt : i - 1 < ((isrt (ptN (m : Int) x x.length) m).take s.toNat).length := by omega
          have := List.pairwise_iff_getElem.1 hpw (i - 1) i hlt hi (by omega)
          rw [← getD_lt (d := (0 : Int)) hlt, ← getD_lt (d := (0 : Int)) hi] at this
          unfold Ah pv at this
          omega
      · have := el_state ho hs hk
        exact .inr ⟨5, by decide, this.1, this.2⟩
    · have := el_no (n := k) (xss := x) (s := s) (fun e => hs e.2)
      exact .inr ⟨2, by decide, this.1, this.2⟩
  · have := el_no (n := k) (xss := x) (s := s) (fun e => ho e.1)
    exact .inr ⟨2, by decide, this.1, this.2⟩
theorem po_cases (n : Int) (xss : List (List Int)) :
    (∃ (P : List Int) (c r e b f : Int), poR n xss = P ∧ poC n xss = 0 ∧ erX n xss = (c, r, e) ∧ baV n xss = b ∧ baC n xss = f ∧ (1 ≤ n ∧ n ≤ 12) ∧ P.sum = ttl n xss xss.length ∧ P.length ≤ 12 ∧
      (∀ i, i ≤ P.length → -9223372036854775808 ≤ (P.take i).sum ∧ (P.take i).sum ≤ 9223372036854775807) ∧ (e = 0 → (1 ≤ r ∧ r ≤ n) ∧ 0 ≤ c ∧ c < n) ∧ (n = 2 → e = 0 → f = 0 → b = c)) ∨
    (poR n xss = [] ∧ poC n xss = 2 ∧ erX n xss = (0, 0, 2) ∧ baV n xss = 0 ∧ baC n xss = 2) := by
  by_cases ho : okB n xss
  · have hp := po_yes ho
    have hc := ho.1
    have hlb : ∀ b ∈ xss, (b.length : Int) ≤ n := fun b hb => ok1_lenN hc (ho.2.2 b hb)
    have hx := ho.2.1
    refine .inl ⟨_, (erX n xss).1, (erX n xss).2.1, (erX n xss).2.2, _, _, hp.1, hp.2, rfl, rfl, rfl, hc, ptN_sum ho _ (Nat.le_refl _), by rw [ptN_len]; omega, ?_, ?_, ?_⟩
    · intro i hi
      have hbd := take_bd (ptN_bd hc hlb xss.length (Nat.le_refl _)) i hi
      rw [ptN_len] at hi
      have h1 := Int.mul_le_mul (a := 144 * (xss.length : Int)) (b := (i : Int)) (c := 8640) (d := 12) (by omega) (by omega) (by omega) (by omega)
      omega
    · intro he
      rw [erX_yes ho] at he ⊢
      have hI := marks_ins (n := n.toNat) (by omega)
      have hr := er_rg (xss := xss) n.toNat (marks n.toNat 0) 1 _ _ hI (by rw [marks_len]; exact Nat.le_refl _) (show er xss n.toNat (marks n.toNat 0) 1 = ((er xss n.toNat (marks n.toNat 0) 1).1, (er xss n.toNat (marks n.toNat 0) 1).2.1, 0) by rw [← he])
      rw [marks_len] at hr
      omega
    · intro h2 he hf
      subst h2
      rw [erX_yes ho] at he ⊢
      unfold baC at hf
      rw [if_pos ho] at hf
      unfold baV
      by_cases hb : baM xss (2 : Int).toNat < (2 : Int).toNat
      · rw [if_pos ⟨ho, hb⟩]
        exact two_same ho hb (r := (er xss 2 (marks 2 0) 1).2.1) (show er xss 2 (marks 2 0) 1 = ((er xss 2 (marks 2 0) 1).1, (er xss 2 (marks 2 0) 1).2.1, 0) by
          have he' : (er xss 2 (marks 2 0) 1).2.2 = 0 := he
          rw [← he'])
      · rw [if_neg hb] at hf
        cases hf
  · have hp := po_no ho
    refine .inr ⟨hp.1, hp.2, erX_no ho, ?_, ?_⟩
    · unfold baV
      rw [if_neg (fun e => ho e.1)]
    · unfold baC
      rw [if_neg ho]
end Go.Proofs.Ytcdfdigehaipmaa
