/-
  Struct literals, new variables, appends of the abstract evaluator. No conditions.
-/
import Derived.Test.YtkmnmmckgobeeaaAeOps5
namespace Go.AE

section
variable {P : Program} {G : Nat → Option D} {T : TypeId → TD} {C : Ctx} {β : Nat → Option Nat} {S : Nat → Prop} {H : List Blk} {w : World}

theorem sizeP_some {t : TypeId} {b : Bool} (h : aggOf P t = some b) : ∃ n, sizeP P t = some n := by
  unfold aggOf Program.underlying at h
  unfold sizeP
  cases hi : P.info? t with
  | none => rw [hi] at h; simp at h
  | some i => exact ⟨i.size, rfl⟩
theorem run_places' (w : World) : ∀ (fs : List Field), (∀ f ∈ fs, (aggOf P f.type).isSome = true) →
    (fs.mapM fun f => Prod.mk f.offset <$> sizeOf f.type).run P w = .ok (fs.map fun f => (f.offset, (sizeP P f.type).getD 0)) w
  | [], _ => by simp
  | f :: r, h => by
    obtain ⟨b, hb⟩ := Option.isSome_iff_exists.1 (h f (by simp))
    obtain ⟨n, hn⟩ := sizeP_some hb
    simp [List.mapM_cons, run_sizeOf' w hn, hn, run_places' w r fun g hg => h g (by simp [hg])]
theorem buildA_sound (hT : TabOK P T) {fr : List AV} {a : Act} (hrd : ∀ x, VR β H.length S w (rd fr x) (a.eval x)) {t : TypeId} {ps : List (Nat × Operand)} {K : AV → Prop} (h : buildA (T t) (rdParts fr ps) K) :
    ∃ v u, K v ∧ VR β H.length S w v u ∧ ∀ w', (Instr.build t (ps.map fun p => (p.1, a.eval p.2)).toArray).run P w' = .ok u w' := by
  have hTt := hT t
  unfold buildA at h
  split at h
  · rename_i c offs zero htd
    rw [htd] at hTt
    obtain ⟨_, hst, hz, _⟩ := hTt
    split at h
    · rename_i cs hcs
      simp only [req_iff, avsK_eq] at h
      obtain ⟨hpos, h⟩ := h
      unfold structP at hst
      split at hst
      · rename_i fs hu
        split at hst
        case isFalse => cases hst
        rename_i hall
        cases hst
        obtain ⟨arr', h1, h2, h3⟩ := fillA_sound (S := S) (w := w) hrd (place := fun i => (fs.toList.map fun f => (f.offset, (sizeP P f.type).getD 0))[i]?) (fun i off size ag hi => by
          rw [List.getElem?_map, Option.map_eq_some_iff] at hi ⊢
          obtain ⟨f, hf, he⟩ := hi
          simp only [Prod.mk.injEq] at he
          exact ⟨f, hf, by simp [he.1, he.2.1]⟩) ps (zero.map const1) cs zero.toArray hcs (by simp) (fun i c hc => by
          rw [List.getElem?_map, Option.map_eq_some_iff] at hc
          obtain ⟨y, hy, rfl⟩ := hc
          have : zero.toArray.getD i undef = y := by rw [Array.getD_eq_getD_getElem?]; simp [hy]
          rw [this]; exact const1_vr y) (fun x hx => by simpa using List.all_eq_true.1 hpos x hx)
        refine ⟨_, .agg arr', h, .agg cs arr' h2 h3, fun w' => ?_⟩
        have hpl := run_places' (P := P) w' fs.toList (List.all_eq_true.1 hall)
        have hzv : (zeroValue t).run P w' = .ok (.agg zero.toArray) w' := run_zeroValue' w' hz
        have hfill : Instr.fill (fun x => ((fs.toList.map fun f => (f.offset, (sizeP P f.type).getD 0)).toArray)[x]?) zero.toArray (ps.map fun p => (p.1, a.eval p.2)) = some arr' := by
          rw [← h1]; congr 1; funext i; simp
        simp only [Instr.build, Sem.run_bind, hzv, Result.andThen_ok, run_underlying hu, Value.cells]
        simp [Array.mapM_eq_mapM_toList, hpl] at hfill ⊢
        rw [hfill]
        simp
      · cases hst
    · exact h.elim
  · exact h.elim
theorem newCells_sound (hs : HS G C β S H w) {cs : List AV} {arr : Array Value} {e : TypeId} (hl : cs.length ≤ arr.size) (hc : ∀ i c, cs[i]? = some c → VR β H.length S w c (arr.getD i undef)) :
    HS G C (upd β H.length (some w.heap.size)) S (H ++ [.cells cs]) (w.alloc (.cells arr e)) ∧ Tr H.length β S w (H ++ [Blk.cells cs]).length (upd β H.length (some w.heap.size)) S (w.alloc (.cells arr e)) ∧
      VR (upd β H.length (some w.heap.size)) (H ++ [Blk.cells cs]).length S (w.alloc (.cells arr e)) (.ptr H.length 0) (.pointer (some ⟨w.heap.size, 0, none⟩)) := by
  have ht : Tr H.length β S w (H.length + 1) (upd β H.length (some w.heap.size)) S (w.alloc (.cells arr e)) := Tr.grow hs.rel (evo_alloc w _) (by omega) fun k hk => upd_lt β _ hk
  have hp := HS.push hs (evo_alloc w (.cells arr e)) (q := some w.heap.size) (b := .cells cs) (fun r hr => by cases hr; exact Nat.le_refl _)
    (.cells _ arr e cs (heap_alloc_new w _) hl fun i c hi => (hc i c hi).tr ht)
  exact ⟨hp.1, hp.2, .ptr _ _ _ (by simp) (upd_same _ _ _)⟩
theorem zeroCellsA_sound (hT : TabOK P T) {t : TypeId} {cs : List AV} (h : zeroCellsA (T t) = some cs) : ∃ z, zeroP P t = some z ∧ cs.length = z.cells.size ∧ ∀ i c, cs[i]? = some c → VR β H.length S w c (z.cells.getD i undef) := by
  have hTt := hT t
  have one : ∀ (v : AV) (z : Value), zeroP P t = some z → cs = [v] → z.cells = #[z] → VR β H.length S w v z → ∃ z, zeroP P t = some z ∧ cs.length = z.cells.size ∧ ∀ i c, cs[i]? = some c → VR β H.length S w c (z.cells.getD i undef) := by
    intro v z h1 h2 h3 h4
    refine ⟨z, h1, by rw [h2, h3]; rfl, fun i c hc => ?_⟩
    rw [h2] at hc
    rw [h3]
    cases i with
    | zero => simp at hc; subst hc; exact h4
    | succ i => simp at hc
  unfold zeroCellsA at h
  split at h
  · rename_i c offs zero htd
    rw [htd] at hTt
    cases h
    refine ⟨_, hTt.2.2.1, by simp [Value.cells], fun i c hc => ?_⟩
    rw [List.getElem?_map, Option.map_eq_some_iff] at hc
    obtain ⟨y, hy, rfl⟩ := hc
    have : (Value.agg zero.toArray).cells.getD i undef = y := by rw [Array.getD_eq_getD_getElem?]; simp [Value.cells, hy]
    rw [this]; exact const1_vr y
  · rename_i k htd
    rw [htd] at hTt
    cases h
    exact one _ _ hTt.2.2 rfl rfl (.v _ rfl)
  · rename_i htd
    rw [htd] at hTt
    cases h
    exact one _ _ hTt.2.2 rfl rfl (.v _ rfl)
  · rename_i htd
    rw [htd] at hTt
    cases h
    exact one _ _ hTt.2.2 rfl rfl (.v _ rfl)
  · rename_i d sz bytes htd
    rw [htd] at hTt
    cases h
    exact one _ _ hTt.2.2.2.2.2.1 rfl rfl .nilsl
  · rename_i htd
    rw [htd] at hTt
    cases h
    exact one _ _ hTt.2.2 rfl rfl (.v _ rfl)
  · cases h

/-! ### Appends -/
theorem app_sound {d dx d' : D} (h : d.app dx = some d') : d'.len = d.len + dx.len ∧ d'.sz = d.sz ∧ (∀ i, i < d.len → ∀ j u, cellR S w d i j u → cellR S w d' i j u) ∧
    ∀ i, i < dx.len → ∀ j u, cellR S w dx i j u → cellR S w d' (d.len + i) j u := by
  have getl : ∀ {α : Type} (xs ys : List α) (y : α) (i : Nat), i < xs.length → (xs ++ ys).getD i y = xs.getD i y := fun xs ys y i h => by
    rw [List.getD_eq_getElem?_getD, List.getD_eq_getElem?_getD, List.getElem?_append_left h]
  have getr : ∀ {α : Type} (xs ys : List α) (y : α) (i : Nat), (xs ++ ys).getD (xs.length + i) y = ys.getD i y := fun xs ys y i => by
    rw [List.getD_eq_getElem?_getD, List.getD_eq_getElem?_getD, List.getElem?_append_right (by omega)]; congr 2; omega
  unfold D.app at h
  split at h
  · rename_i k xs
    split at h
    · rename_i k' ys
      cases hk : kindEq k k'
      · rw [hk] at h; cases h
      · rw [hk] at h; cases h
        obtain rfl := kindEq_eq hk
        refine ⟨by simp [D.len], rfl, fun i hi j u hu => ?_, fun i hi j u hu => ?_⟩
        · simp only [D.len] at hi
          simp only [cellR, D.cv, getl _ _ _ _ hi] at hu ⊢; exact hu
        · simp only [cellR, D.cv, D.len, getr] at hu ⊢; exact hu
    · cases h
  · rename_i sz xss
    split at h
    · rename_i sz' yss
      cases hk : Nat.beq sz sz'
      · rw [hk] at h; cases h
      · rw [hk] at h; cases h
        obtain rfl := Nat.eq_of_beq_eq_true hk
        refine ⟨by simp [D.len], rfl, fun i hi j u hu => ?_, fun i hi j u hu => ?_⟩
        · simp only [D.len] at hi
          simp only [cellR, D.cv, getl _ _ _ _ hi] at hu ⊢; exact hu
        · simp only [cellR, D.cv, D.len, getr] at hu ⊢; exact hu
    · cases h
  · split at h
    · cases h
      refine ⟨by simp [D.len], rfl, fun i hi j u hu => ?_, fun i hi j u hu => ?_⟩
      · simp only [D.len] at hi
        simp only [cellR, D.cv, getl _ _ _ _ hi] at hu ⊢; exact hu
      · simp only [cellR, D.cv, D.len, getr] at hu ⊢; exact hu
    · cases h
  · split at h
    · cases h
      refine ⟨by simp [D.len], rfl, fun i hi j u hu => ?_, fun i hi j u hu => ?_⟩
      · simp only [D.len] at hi
        simp only [cellR, D.cv, getl _ _ _ _ hi] at hu ⊢; exact hu
      · simp only [cellR, D.cv, D.len, getr] at hu ⊢; exact hu
    · cases h
  · split at h
    · cases h
      refine ⟨by simp [D.len], rfl, fun i hi j u hu => ?_, fun i hi j u hu => ?_⟩
      · simp only [D.len] at hi
        simp only [cellR, getl _ _ _ _ hi] at hu ⊢; exact hu
      · simp only [cellR, D.len, getr] at hu ⊢; exact hu
    · cases h
  · cases h
/-- The cells of a slice that is read, one behind the other. -/
theorem dataK_sound (hr : Rel G β S H w) {x : AV} {xx : Value} {sz : Nat} (hsz : 0 < sz) {K : D → Prop} (h : dataK H x sz K) (hv : VR β H.length S w x xx) :
    ∃ dx, K dx ∧ dx.sz = sz ∧ ∃ a c, xx = .slice a dx.len c ∧ dx.len ≤ c ∧ (0 < dx.len → ∃ b off, a = some ⟨b, off, none⟩ ∧ ∃ us : List Value, us.length = dx.len * sz ∧
      (∀ p u, us[p]? = some u → w.cell? ⟨b, off + p, none⟩ = some u) ∧ ∀ i, i < dx.len → ∀ j, j < sz → cellR S w dx i j (us.getD (i * sz + j) undef)) := by
  have fin : ∀ (dx : D) (b off : Nat), dx.sz = sz → (∀ i, i < dx.len → ∀ j, j < sz → ∃ u, w.cell? ⟨b, off + (i * sz + j), none⟩ = some u ∧ cellR S w dx i j u) →
      ∃ us : List Value, us.length = dx.len * sz ∧ (∀ p u, us[p]? = some u → w.cell? ⟨b, off + p, none⟩ = some u) ∧ ∀ i, i < dx.len → ∀ j, j < sz → cellR S w dx i j (us.getD (i * sz + j) undef) := by
    intro dx b off _ hc
    have hall : ∀ p, ∃ u, p < dx.len * sz → w.cell? ⟨b, off + p, none⟩ = some u ∧ cellR S w dx (p / sz) (p % sz) u := fun p => by
      by_cases hp : p < dx.len * sz
      · have h1 : p / sz < dx.len := (Nat.div_lt_iff_lt_mul hsz).2 hp
        obtain ⟨u, h2, h3⟩ := hc (p / sz) h1 (p % sz) (Nat.mod_lt _ hsz)
        rw [Nat.mul_comm, Nat.div_add_mod] at h2
        exact ⟨u, fun _ => ⟨h2, h3⟩⟩
      · exact ⟨undef, fun h => absurd h hp⟩
    obtain ⟨g, hg⟩ := Classical.axiomOfChoice hall
    refine ⟨(List.range (dx.len * sz)).map g, by simp, fun p u hp => ?_, fun i hi j hj => ?_⟩
    · rw [List.getElem?_map, Option.map_eq_some_iff] at hp
      obtain ⟨q, hq, rfl⟩ := hp
      have hlt : p < dx.len * sz := by
        rcases Nat.lt_or_ge p (dx.len * sz) with h | h
        · exact h
        · rw [List.getElem?_eq_none (by simpa using h)] at hq; cases hq
      rw [List.getElem?_range hlt] at hq
      cases hq
      exact (hg p hlt).1
    · have hlt : i * sz + j < dx.len * sz := by
        have : (i + 1) * sz ≤ dx.len * sz := Nat.mul_le_mul_right _ hi
        rw [Nat.add_mul] at this
        omega
      rw [List.getD_eq_getElem?_getD, List.getElem?_map, List.getElem?_range hlt]
      have h1 : (i * sz + j) / sz = i := by rw [Nat.mul_comm, Nat.mul_add_div hsz, Nat.div_eq_of_lt hj]; rfl
      have h2 : (i * sz + j) % sz = j := by rw [Nat.mul_comm, Nat.mul_add_mod]; exact Nat.mod_eq_of_lt hj
      have := (hg _ hlt).2
      rw [h1, h2] at this
      exact this
  unfold dataK at h
  simp only [lenD_eq] at h
  split at h
  · rename_i k sz' len
    split at h
    · rename_i d hb
      have hk := nthB_some hb (by simp)
      simp only [req_iff, Bool.and_eq_true] at h
      obtain ⟨⟨hz, hz'⟩, rfl, h⟩ := h
      obtain rfl := Nat.eq_of_beq_eq_true hz
      have hz' := Nat.eq_of_beq_eq_true hz'
      rcases hv.sl_inv with ⟨h0, a, rfl⟩ | ⟨r, cap, arr, e', _, hβ, hc, hm, hh, hzz, rfl⟩
      · exact ⟨d, h, hz', a, 0, by rw [h0], by omega, fun h1 => by omega⟩
      · refine ⟨d, h, hz', _, cap, rfl, hc, fun hp => ⟨r, 0, rfl, fin d r 0 hz' fun i hi j hj => ?_⟩⟩
        have hB := hr.blk k _ hk
        rw [hβ] at hB
        cases hB with
        | data _ arr1 e1 _ hh1 hl hcells =>
          rw [hz'] at hl hcells
          have hlt : i * sz' + j < d.len * sz' := by
            have : (i + 1) * sz' ≤ d.len * sz' := Nat.mul_le_mul_right _ hi
            rw [Nat.add_mul] at this
            omega
          exact ⟨_, by rw [Nat.zero_add]; exact cell_row hh1 (by omega), hcells i hi j hj⟩
    · exact h.elim
  · rename_i k sz' lo len
    split at h
    · rename_i d hb
      have hk := nthB_some hb (by simp)
      simp only [req_iff, Bool.and_eq_true] at h
      obtain ⟨⟨hz, hz'⟩, hlen, h⟩ := h
      obtain rfl := Nat.eq_of_beq_eq_true hz
      have hz' := Nat.eq_of_beq_eq_true hz'
      have hsl := D.sub_len d lo len hlen
      rcases hv.sub_inv with ⟨rfl, a, rfl⟩ | ⟨r, cap, arr, e', _, hβ, hc, hm, hh, hzz, rfl⟩
      · exact ⟨_, h, by rw [D.sub_sz]; exact hz', a, 0, by rw [hsl], by omega, fun h1 => by omega⟩
      · refine ⟨_, h, by rw [D.sub_sz]; exact hz', _, cap, by rw [hsl], by omega, fun hp => ⟨r, lo * sz', rfl, fin _ r (lo * sz') (by rw [D.sub_sz]; exact hz') fun i hi j hj => ?_⟩⟩
        rw [hsl] at hi
        have hB := hr.blk k _ hk
        rw [hβ] at hB
        cases hB with
        | data _ arr1 e1 _ hh1 hl hcells =>
          rw [hz'] at hl hcells
          have hlt : (lo + i) * sz' + j < d.len * sz' := by
            have : (lo + i + 1) * sz' ≤ d.len * sz' := Nat.mul_le_mul_right _ (by omega)
            rw [Nat.add_mul (lo + i) 1] at this
            omega
          refine ⟨_, ?_, (cellR_sub hi).2 (hcells (lo + i) (by omega) j hj)⟩
          rw [← Nat.add_assoc, ← Nat.add_mul]
          exact cell_row hh1 (by omega)
    · exact h.elim
  · rename_i d
    rw [req_iff] at h
    obtain ⟨hz, h⟩ := h
    obtain rfl := Nat.eq_of_beq_eq_true hz
    obtain ⟨a, cap, rfl, hc, hm, hpos⟩ := hv.ro_inv
    refine ⟨d, h, rfl, a, cap, rfl, hc, fun hp => ?_⟩
    obtain ⟨b, off, rfl, hS, hd⟩ := hpos hp
    refine ⟨b, off, rfl, fin d b off rfl fun i hi j hj => ?_⟩
    obtain ⟨u, h1, h2⟩ := hd i hi j hj
    exact ⟨u, by rw [← Nat.add_assoc]; exact h1, h2⟩
  · exact h.elim
end
end Go.AE
