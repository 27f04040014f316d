/-
  The builtin clear, of the abstract evaluator. No conditions.
-/
import Derived.Test.YtkmnmmckgobeeaaAeOps8
namespace Go.AE

section
variable {P : Program} {G : Nat → Option D} {T : TypeId → TD} {C : Ctx} {β : Nat → Option Nat} {S : Nat → Prop} {H : List Blk} {w : World}

theorem zeroAt_length {xs : List Int} {lo len : Nat} (h : lo + len ≤ xs.length) : (zeroAt xs lo len).length = xs.length := by
  simp [zeroAt]; omega
theorem zeroAt_get {xs : List Int} {lo len : Nat} (h : lo + len ≤ xs.length) (i : Nat) : (zeroAt xs lo len).getD i 0 = if lo ≤ i ∧ i < lo + len then 0 else xs.getD i 0 := by
  unfold zeroAt
  rw [List.append_assoc, List.getD_eq_getElem?_getD, List.getD_eq_getElem?_getD]
  by_cases h1 : i < lo
  · rw [List.getElem?_append_left (by simp; omega), List.getElem?_take_of_lt h1, if_neg (by omega)]
  · rw [List.getElem?_append_right (by simp; omega)]
    have hlt : (xs.take lo).length = lo := by simp; omega
    rw [hlt]
    by_cases h2 : i < lo + len
    · rw [List.getElem?_append_left (by simp; omega), if_pos (by omega), List.getElem?_replicate, if_pos (by omega)]
      rfl
    · rw [List.getElem?_append_right (by simp; omega), List.getElem?_drop, if_neg (by omega)]
      simp only [List.length_replicate]
      have : lo + len + (i - lo - len) = i := by omega
      rw [this]
theorem zeroAt_zero (xs : List Int) (lo : Nat) : zeroAt xs lo 0 = xs := by simp [zeroAt]
theorem setB_self {H : List Blk} {k : Nat} {b : Blk} (h : H[k]? = some b) : H.set k b = H := by
  apply List.ext_getElem?
  intro i
  by_cases hi : i = k
  · subst hi
    have := lt_of_get h
    rw [List.getElem?_set_self this, h]
  · rw [List.getElem?_set_ne (fun e => hi e.symm)]
theorem clearA_sound (hT : TabOK P T) (hs : HS G C β S H w) {t ty : TypeId} {a : AV} {x : Value} {K : List Blk → Prop} (h : clearA (T t) a H K) (hv : VR β H.length S w a x) :
    ∃ H' w', K H' ∧ HS G C β S H' w' ∧ Tr H.length β S w H'.length β S w' ∧ (Builtin.clear_ #[t] ty #[x]).run P w = .ok (.tuple #[]) w' := by
  have hTt := hT t
  unfold clearA at h
  split at h
  · rename_i k0 ys sz bytes k sz' lo len htd
    rw [htd] at hTt
    obtain ⟨_, hsl, hdz, hpos, hbpos, _, _⟩ := hTt
    obtain ⟨e, i, hu, hi, hsz, hby, hz⟩ := sliceP_info hsl
    split at h
    · rename_i kd xs hb
      have hk := nthB_some hb (by simp)
      simp only [req_iff, setB_eq, Bool.and_eq_true] at h
      obtain ⟨⟨hkk, hs1⟩, hlen, h⟩ := h
      obtain rfl := Nat.eq_of_beq_eq_true hs1
      obtain rfl := kindEq_eq hkk
      cases len with
      | zero =>
        rw [zeroAt_zero, setB_self hk] at h
        refine ⟨H, w, h, hs, Tr.refl _ _ _ _, ?_⟩
        rcases hv.sub_inv with ⟨_, a, rfl⟩ | ⟨r, cap, arr, e', _, hβ, hc, hm, hh, hzz, rfl⟩
        · cases a <;> simp [Builtin.clear_, run_underlying hu]
        · simp [Builtin.clear_, run_underlying hu]
      | succ m =>
        rcases hv.sub_inv with ⟨h0, a, rfl⟩ | ⟨r, cap, arr, e', _, hβ, hc, hm, hh, hzz, rfl⟩
        · cases h0
        have hB := hs.rel.blk k _ hk
        rw [hβ] at hB
        cases hB with
        | data _ arr2 e2 _ hh2 hl hcells =>
          obtain ⟨fz, hh⟩ := hh
          rw [hh] at hh2
          cases hh2
          simp only [D.len, D.sz, Nat.mul_one] at hl
          have hl' : lo + (List.replicate (m + 1) (Value.int k0 0)).length ≤ arr.size := by simp; omega
          have hsize := splice_size arr lo (List.replicate (m + 1) (Value.int k0 0)) hl'
          have ht := Tr.write hs hk (by simp) hβ hh hsize
          have hw := HS.write hs hk (by simp) hβ hh hsize (b' := .data (.ints k0 (zeroAt xs lo (m + 1))))
            (.data r _ e' _ (setRow_heap w r arr _ e' _ hh) (by rw [hsize]; simp only [D.len, D.sz, Nat.mul_one, zeroAt_length hlen]; exact hl) fun i' hi' j' hj' => by
              simp only [D.len, zeroAt_length hlen] at hi'
              simp only [D.sz] at hj'
              have hj0 : j' = 0 := by omega
              subst hj0
              have h1 := hcells i' hi' 0 (by simp [D.sz])
              simp only [D.sz, Nat.mul_one, Nat.add_zero] at h1 ⊢
              simp only [cellR, D.cv] at h1 ⊢
              rw [splice_get arr lo _ hl', zeroAt_get hlen, List.length_replicate]
              split
              · rename_i hin
                rw [List.getD_eq_getElem?_getD, List.getElem?_replicate, if_pos (by omega)]
                rfl
              · exact h1)
          refine ⟨_, _, h, hw.1, hw.2, ?_⟩
          have hst := run_storeCells_at P r lo e' (List.replicate (m + 1) (Value.int k0 0)) 0 arr w hh (by simpa using hl') (by intro u hu; rw [List.eq_of_mem_replicate hu]; rfl)
          have hzc : (Builtin.zeroCells (Value.int k0 0).cells (m + 1)).toList = List.replicate (m + 1) (Value.int k0 0) := by
            simp [Builtin.zeroCells, Value.cells]
            apply List.ext_getElem
            · simp
            · intro i h1 h2
              simp [Nat.mod_one]
          simp only [Nat.add_zero] at hst
          have hzz := run_zeroValue' (P := P) (t := e) w (z := .int k0 0) (by simp [zeroP, hi, hz, zrow])
          simp [Builtin.clear_, run_underlying hu, hzz, hzc, hst]
    · exact h.elim
  · exact h.elim
end
end Go.AE
