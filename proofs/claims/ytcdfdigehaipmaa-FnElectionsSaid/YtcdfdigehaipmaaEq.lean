/-
  Candidates in the order of their points: the list, and that there is but one. No conditions but those in the statements.
-/
import Derived.Test.YtcdfdigehaipmaaEf
set_option linter.unusedVariables false
set_option linter.unusedSimpArgs false
namespace Go.Proofs.Ytcdfdigehaipmaa
open Go.AE

attribute [local irreducible] CallA LoopA DrawA CallQ arithK quoK remK eqK
abbrev pv (ps : List Int) (c : Int) : Int := ps.getD c.toNat 0
/-- The first stands ahead of the second. -/
def Ah (ps : List Int) (a b : Int) : Prop := pv ps b < pv ps a ∨ (pv ps b = pv ps a ∧ a < b)
theorem Ah.asym {ps : List Int} {a b : Int} (h : Ah ps a b) (h2 : Ah ps b a) : False := by unfold Ah at h h2; omega
theorem Ah.trans {ps : List Int} {a b c : Int} (h : Ah ps a b) (h2 : Ah ps b c) : Ah ps a c := by unfold Ah at h h2 ⊢; omega
structure So (ps : List Int) (k : Nat) (A : List Int) : Prop where
  ord : A.Pairwise (Ah ps)
  len : A.length = k
  rg : ∀ e ∈ A, 0 ≤ e ∧ e < k
/-- A number laid into a list, behind those that have no less. -/
def inP (ps : List Int) (A : List Int) (x : Int) : List Int := A.filter (fun a => decide (pv ps x ≤ pv ps a)) ++ x :: A.filter (fun a => !decide (pv ps x ≤ pv ps a))
def isrt (ps : List Int) : Nat → List Int
  | 0 => []
  | k + 1 => inP ps (isrt ps k) k
theorem filter_two (p : Int → Bool) : ∀ l : List Int, (l.filter p).length + (l.filter fun a => !p a).length = l.length
  | [] => rfl
  | x :: r => by
    have := filter_two p r
    cases h : p x <;> simp [h] <;> omega
theorem isrt_So (ps : List Int) : ∀ k, So ps k (isrt ps k)
  | 0 => ⟨List.Pairwise.nil, rfl, fun e h => by simp [isrt] at h⟩
  | k + 1 => by
    have ih := isrt_So ps k
    refine ⟨?_, ?_, ?_⟩
    · refine List.pairwise_append.2 ⟨ih.ord.filter _, List.pairwise_cons.2 ⟨fun b hb => ?_, ih.ord.filter _⟩, fun a ha b hb => ?_⟩
      · have := of_decide_eq_false (by simpa only [Bool.not_eq_true'] using (List.mem_filter.1 hb).2)
        exact .inl (by omega)
      · have h1 := List.mem_filter.1 ha
        have h2 := ih.rg a h1.1
        have h3 := of_decide_eq_true h1.2
        rcases List.mem_cons.1 hb with rfl | hb
        · unfold Ah; omega
        · have := of_decide_eq_false (by simpa only [Bool.not_eq_true'] using (List.mem_filter.1 hb).2)
          unfold Ah; omega
    · have := filter_two (fun a => decide (pv ps (k : Int) ≤ pv ps a)) (isrt ps k)
      rw [ih.len] at this
      simp only [isrt, inP, List.length_append, List.length_cons]
      omega
    · intro e he
      rcases List.mem_append.1 he with he | he
      · have := ih.rg e (List.mem_filter.1 he).1; omega
      · rcases List.mem_cons.1 he with rfl | he
        · omega
        · have := ih.rg e (List.mem_filter.1 he).1; omega
theorem So.nodup {ps : List Int} {k : Nat} {A : List Int} (h : So ps k A) : A.Nodup := h.ord.imp fun {a b} h1 e => by subst e; exact h1.asym h1
theorem So.all {ps : List Int} {k : Nat} {A : List Int} (h : So ps k A) {y : Int} (hy : 0 ≤ y ∧ y < k) : y ∈ A := by
  refine Classical.byContradiction fun hn => ?_
  have := pigeon k (y :: A) (List.nodup_cons.2 ⟨hn, h.nodup⟩) (fun x hx => by
    rcases List.mem_cons.1 hx with rfl | hx
    · exact hy
    · exact h.rg x hx)
  rw [List.length_cons, h.len] at this
  omega
theorem ord_eq {ps : List Int} : ∀ {A B : List Int}, A.Pairwise (Ah ps) → B.Pairwise (Ah ps) → (∀ x, x ∈ A ↔ x ∈ B) → A = B
  | [], [], _, _, _ => rfl
  | [], b :: B, _, _, h => by have := (h b).2 (by simp); simp at this
  | a :: A, [], _, _, h => by have := (h a).1 (by simp); simp at this
  | a :: A, b :: B, hA, hB, h => by
    obtain ⟨ha, hA2⟩ := List.pairwise_cons.1 hA
    obtain ⟨hb, hB2⟩ := List.pairwise_cons.1 hB
    have he : a = b := by
      refine Classical.byContradiction fun hne => ?_
      have h1 : a ∈ B := by
        rcases List.mem_cons.1 ((h a).1 (by simp)) with h1 | h1
        · exact absurd h1 hne
        · exact h1
      have h2 : b ∈ A := by
        rcases List.mem_cons.1 ((h b).2 (by simp)) with h2 | h2
        · exact absurd h2.symm hne
        · exact h2
      exact (ha b h2).asym (hb a h1)
    subst he
    congr 1
    refine ord_eq hA2 hB2 fun x => ⟨fun hx => ?_, fun hx => ?_⟩
    · rcases List.mem_cons.1 ((h x).1 (List.mem_cons_of_mem _ hx)) with rfl | h1
      · exact ((ha x hx).asym (ha x hx)).elim
      · exact h1
    · rcases List.mem_cons.1 ((h x).2 (List.mem_cons_of_mem _ hx)) with rfl | h1
      · exact ((hb x hx).asym (hb x hx)).elim
      · exact h1
theorem So.uniq {ps : List Int} {k : Nat} {A : List Int} (h : So ps k A) : A = isrt ps k :=
  ord_eq h.ord (isrt_So ps k).ord fun x => ⟨fun hx => (isrt_So ps k).all (h.rg x hx), fun hx => h.all ((isrt_So ps k).rg x hx)⟩
/-- A number laid in at a place, if what is behind has less and what is ahead has not. -/
theorem lay_in {ps : List Int} {i j : Nat} (hj : j ≤ i) (hb : ∀ b ∈ (isrt ps i).drop j, pv ps b < pv ps (i : Int)) (ha : 0 < j → pv ps (i : Int) ≤ pv ps ((isrt ps i).getD (j - 1) 0)) :
    (isrt ps i).take j ++ (i : Int) :: (isrt ps i).drop j = isrt ps (i + 1) := by
  have h := isrt_So ps i
  have h0 : (isrt ps i).take j ++ (isrt ps i).drop j = isrt ps i := List.take_append_drop _ _
  have hp := h.ord
  rw [← h0] at hp
  obtain ⟨p1, p2, p3⟩ := List.pairwise_append.1 hp
  have hfst : ∀ a ∈ (isrt ps i).take j, Ah ps a (i : Int) := fun a hm => by
    have hr := h.rg a (List.mem_of_mem_take hm)
    have hj0 : 0 < j := by
      rcases Nat.eq_zero_or_pos j with rfl | h1
      · simp at hm
      · exact h1
    have h1 := ha hj0
    have hl := h.len
    rw [show j = j - 1 + 1 by omega, take_snoc 0 (by omega)] at hm p1
    rcases List.mem_append.1 hm with hm | hm
    · have := (List.pairwise_append.1 p1).2.2 a hm _ (List.mem_singleton.2 rfl)
      unfold Ah at this ⊢; omega
    · have := List.mem_singleton.1 hm
      subst this
      unfold Ah; omega
  refine So.uniq ⟨?_, ?_, ?_⟩
  · refine List.pairwise_append.2 ⟨p1, List.pairwise_cons.2 ⟨fun b hm => .inl (hb b hm), p2⟩, fun a hm b hm2 => ?_⟩
    rcases List.mem_cons.1 hm2 with rfl | hm2
    · exact hfst a hm
    · exact p3 a hm b hm2
  · rw [List.length_append, List.length_cons, List.length_take, List.length_drop, h.len]; omega
  · intro e he
    rcases List.mem_append.1 he with he | he
    · have := h.rg e (List.mem_of_mem_take he); omega
    · rcases List.mem_cons.1 he with rfl | he
      · omega
      · have := h.rg e (List.mem_of_mem_drop he); omega
/-- Two neighbours change places. -/
theorem swap_down {A Z : List Int} {j : Nat} {x : Int} (h0 : 0 < j) (hj : j ≤ A.length) :
    ((A.take j ++ x :: Z).set j (A.getD (j - 1) 0)).set (j - 1) x = A.take (j - 1) ++ x :: (A.getD (j - 1) 0 :: Z) := by
  obtain ⟨m, rfl⟩ : ∃ m, j = m + 1 := ⟨j - 1, by omega⟩
  have hl : (A.take (m + 1)).length = m + 1 := by rw [List.length_take]; omega
  rw [List.set_append_right _ _ (by omega), hl, Nat.sub_self, List.set_cons_zero, Nat.add_sub_cancel, take_snoc 0 (by omega), List.append_assoc]
  have hl2 : (A.take m).length = m := by rw [List.length_take]; omega
  rw [List.set_append_right _ _ (by omega), hl2, Nat.sub_self]
  rfl
theorem drop_down {A : List Int} {j : Nat} (h0 : 0 < j) (hj : j ≤ A.length) : A.drop (j - 1) = A.getD (j - 1) 0 :: A.drop j := by
  rw [List.drop_eq_getElem_cons (by omega), getD_lt (by omega), show j - 1 + 1 = j by omega]
end Go.Proofs.Ytcdfdigehaipmaa
