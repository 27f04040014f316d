/-
  Makes, literals and appends of the abstract evaluator. No conditions.
-/
import Derived.Test.YtkmnmmckgobeeaaAeOps4
import Derived.Laws.MakeOwn
namespace Go.AE

section
variable {P : Program} {G : Nat → Option D} {T : TypeId → TD} {C : Ctx} {β : Nat → Option Nat} {S : Nat → Prop} {H : List Blk} {w : World}

theorem zrow_size (d : D) : (zrow d).cells.size = d.sz := by cases d <;> simp [zrow, Value.cells, D.sz]
theorem zeroD_len (d : D) (n : Nat) : (zeroD d n).len = n := by cases d <;> simp [zeroD, D.len]
theorem zeroD_sz (d : D) (n : Nat) : (zeroD d n).sz = d.sz := by cases d <;> rfl
theorem getD_replicate' {α : Type} (n i : Nat) (x y : α) (h : i < n) : (List.replicate n x).getD i y = x := by
  rw [List.getD_eq_getElem?_getD, List.getElem?_replicate, if_pos h]; rfl
theorem zero_cellR (d : D) (n i j : Nat) (hi : i < n) (hj : j < d.sz) : cellR S w (zeroD d n) i j ((zrow d).cells.getD j undef) := by
  cases d with
  | ints k xs =>
    have : j = 0 := by simp [D.sz] at hj; exact hj
    subst this
    simp only [zeroD, cellR, D.cv, zrow, Value.cells, getD_replicate' n i (0 : Int) 0 hi]; rfl
  | bools bs =>
    have : j = 0 := by simp [D.sz] at hj; exact hj
    subst this
    simp only [zeroD, cellR, D.cv, zrow, Value.cells, getD_replicate' n i false false hi]; rfl
  | strs ss =>
    have : j = 0 := by simp [D.sz] at hj; exact hj
    subst this
    simp only [zeroD, cellR, D.cv, zrow, Value.cells, getD_replicate' n i ByteArray.empty ByteArray.empty hi]; rfl
  | recs sz xss =>
    simp only [D.sz] at hj
    simp only [zeroD, cellR, D.cv, zrow, Value.cells, getD_replicate' n i _ [] hi, getD_replicate' sz j (0 : Int) 0 hj]
    rw [Array.getD_eq_getD_getElem?]
    simp [hj]
  | nest xss =>
    have : j = 0 := by simp [D.sz] at hj; exact hj
    subst this
    simp only [zeroD, cellR, getD_replicate' n i ([] : List Int) [] hi]
    refine ⟨none, 0, by simp [zrow, Value.cells], Nat.zero_le _, Nat.zero_le _, fun h => absurd h (by simp)⟩
  | told p m =>
    have : j = 0 := by simp [D.sz] at hj; exact hj
    subst this
    exact ⟨rfl, rfl⟩
theorem makeSliceA_sound (hT : TabOK P T) (hs : HS G C β S H w) {t : TypeId} {a b : AV} {x y : Value} {K : AV → List Blk → Prop} (h : makeSliceA (T t) a b H K) (ha : VR β H.length S w a x) (hb : VR β H.length S w b y) :
    ∃ v H' β' w' u, K v H' ∧ HS G C β' S H' w' ∧ Tr H.length β S w H'.length β' S w' ∧ VR β' H'.length S w' v u ∧ (Instr.makeSlice t x y).run P w = .ok u w' := by
  have hTt := hT t
  unfold makeSliceA at h
  split at h
  · rename_i d sz bytes k n k' m htd
    rw [htd] at hTt
    obtain ⟨_, hsl, hdz, hpos, hbpos, _⟩ := hTt
    obtain ⟨e, i, hu, hi, hsz, hby, hz⟩ := sliceP_info hsl
    obtain ⟨rfl, h0, hbytes, h⟩ := h
    rw [newB_eq] at h
    obtain rfl := ha.v_inv.1
    obtain rfl := hb.v_inv.1
    subst hsz hby
    have hn : (n.toNat : Int) = n := Int.toNat_of_nonneg h0
    have hbig : (i.bytes : Int) * n ≤ 1099511627776 := by rw [Int.mul_comm]; exact hbytes
    have hn1 : n * 1 ≤ n * (i.bytes : Int) := Int.mul_le_mul_of_nonneg_left (by omega) h0
    have hnm : n ≤ 9223372036854775807 ∧ n.toNat ≤ maxLen := by unfold maxLen; omega
    have hrun := run_make (P := P) w t e i (zrow d) hu hi hz k k' n n h0 (Int.le_refl _) (by omega) hnm.1
    have hblk : BlkR (upd β H.length (some w.heap.size)) (H.length + 1) S (w.alloc (.cells (madeCells (zrow d).cells (n.toNat * i.size)) e)) (some w.heap.size) (.data (zeroD d n.toNat)) := by
      refine .data _ _ e _ (heap_alloc_new w _) (by rw [zeroD_len, zeroD_sz, size_madeCells, hdz]; exact Nat.le_refl _) fun i' hi' j' hj' => ?_
      rw [zeroD_len] at hi'
      rw [zeroD_sz] at hj' ⊢
      have hlt : i' * d.sz + j' < n.toNat * i.size := by
        have : (i' + 1) * d.sz ≤ n.toNat * d.sz := Nat.mul_le_mul_right _ hi'
        rw [Nat.add_mul] at this
        rw [← hdz]
        omega
      have hmod : (i' * d.sz + j') % d.sz = j' := by rw [Nat.mul_comm, Nat.mul_add_mod]; exact Nat.mod_eq_of_lt hj'
      have hval : (madeCells (zrow d).cells (n.toNat * i.size)).getD (i' * d.sz + j') undef = (zrow d).cells.getD j' undef := by
        have hj'' : j' < (zrow d).cells.size := by rw [zrow_size]; exact hj'
        rw [Array.getD_eq_getD_getElem?, Array.getD_eq_getD_getElem?]
        simp only [madeCells, zrow_size, Array.getElem?_map, Array.getElem?_range, if_pos hlt, Option.map_some, hmod]
        simp [hj'']
      rw [hval]
      exact zero_cellR d n.toNat i' j' hi' hj'
    have hp := HS.push hs (evo_alloc w _) (fun r hr => by cases hr; exact Nat.le_refl _) hblk
    refine ⟨_, _, _, _, _, h, hp.1, hp.2, ?_, hrun⟩
    exact .sl H.length i.size n.toNat w.heap.size n.toNat (by simp) (upd_same _ _ _) (Nat.le_refl _) hnm.2 _ e ⟨_, heap_alloc_new w _⟩ (by rw [size_madeCells]; exact Nat.le_refl _)
  · exact h.elim

/-! ### Literals -/
theorem foldl_put (off : Nat) : ∀ (l : List Value) (k : Nat) (cs : Array Value),
    ((l.zipIdx k).foldl (fun cs (p : Value × Nat) => cs.setIfInBounds (off + p.2) p.1) cs).size = cs.size ∧
    ∀ m, m < cs.size → ((l.zipIdx k).foldl (fun cs (p : Value × Nat) => cs.setIfInBounds (off + p.2) p.1) cs).getD m undef = if off + k ≤ m ∧ m < off + k + l.length then l.getD (m - (off + k)) undef else cs.getD m undef
  | [], k, cs => ⟨rfl, fun m _ => by rw [if_neg (by rw [List.length_nil]; omega)]; rfl⟩
  | v :: r, k, cs => by
    simp only [List.zipIdx_cons, List.foldl_cons]
    obtain ⟨h1, h2⟩ := foldl_put off r (k + 1) (cs.setIfInBounds (off + k) v)
    rw [Array.size_setIfInBounds] at h1 h2
    refine ⟨h1, fun m hm => ?_⟩
    rw [h2 m hm]
    simp only [List.length_cons]
    by_cases hc : off + (k + 1) ≤ m ∧ m < off + (k + 1) + r.length
    · rw [if_pos hc, if_pos (by omega), show m - (off + k) = (m - (off + (k + 1))) + 1 by omega]
      simp
    · rw [if_neg hc]
      by_cases he : m = off + k
      · subst he
        rw [if_pos (by omega)]
        rw [Array.getD_eq_getD_getElem?, Array.getElem?_setIfInBounds_self_of_lt hm]
        simp
      · rw [if_neg (by omega), Array.getD_eq_getD_getElem?, Array.getD_eq_getD_getElem?, Array.getElem?_setIfInBounds_ne (fun e => he e.symm)]
def putCells (cs : Array Value) (off : Nat) (v : Value) : Array Value := v.cells.zipIdx.foldl (fun cs (c, j) => cs.setIfInBounds (off + j) c) cs
theorem putCells_spec (cs : Array Value) (off : Nat) (v : Value) : (putCells cs off v).size = cs.size ∧
    ∀ m, m < cs.size → (putCells cs off v).getD m undef = if off ≤ m ∧ m < off + v.cells.size then v.cells.getD (m - off) undef else cs.getD m undef := by
  have h := foldl_put off v.cells.toList 0 cs
  have e : putCells cs off v = (v.cells.toList.zipIdx 0).foldl (fun cs (p : Value × Nat) => cs.setIfInBounds (off + p.2) p.1) cs := by
    unfold putCells
    rw [← Array.foldl_toList]
    simp
  rw [e]
  refine ⟨h.1, fun m hm => ?_⟩
  rw [h.2 m hm]
  simp only [Nat.add_zero, Array.length_toList]
  split
  · rw [Array.getD_eq_getD_getElem?, List.getD_eq_getElem?_getD, Array.getElem?_toList]
  · rfl
theorem fill_cons {place : Nat → Option (Nat × Nat)} {cs : Array Value} {i : Nat} {v : Value} {rest : List (Nat × Value)} {off size : Nat} (hp : place i = some (off, size)) (h1 : v.cells.size = size) (h2 : off + size ≤ cs.size) :
    Instr.fill place cs ((i, v) :: rest) = Instr.fill place (putCells cs off v) rest := by
  subst h1
  simp only [Instr.fill, hp]
  rw [if_neg (by simp; omega)]
  rfl
theorem fillA_sound {n : Nat} {fr : List AV} {a : Act} (hrd : ∀ x, VR β n S w (rd fr x) (a.eval x)) {offs : List (Nat × Nat × Bool)} {place : Nat → Option (Nat × Nat)}
    (hplace : ∀ i off size ag, offs[i]? = some (off, size, ag) → place i = some (off, size)) :
    ∀ (ps : List (Nat × Operand)) (cs cs' : List AV) (arr : Array Value), fillA offs cs (rdParts fr ps) = some cs' → cs.length = arr.size → (∀ i c, cs[i]? = some c → VR β n S w c (arr.getD i undef)) → (∀ x ∈ rdParts fr ps, 0 < (cellsOf x.2).length) →
      ∃ arr', Instr.fill place arr (ps.map fun p => (p.1, a.eval p.2)) = some arr' ∧ cs'.length = arr'.size ∧ ∀ i c, cs'[i]? = some c → VR β n S w c (arr'.getD i undef)
  | [], cs, cs', arr, h, hl, hc, _ => by
    simp only [rdParts, fillA] at h
    cases h
    exact ⟨arr, rfl, hl, hc⟩
  | (i, x) :: r, cs, cs', arr, h, hl, hc, hpos => by
    simp only [rdParts, fillA] at h
    split at h
    · rename_i off size ag hoff
      cases hb : (Nat.beq (cellsOf (rd fr x)).length size && Nat.ble (off + size) cs.length)
      · rw [hb] at h; cases h
      · rw [hb] at h
        simp only [cond_true] at h
        simp only [Bool.and_eq_true, Nat.ble_eq] at hb
        have hsz := Nat.eq_of_beq_eq_true hb.1
        have hv := cellsOf_vr (hrd x)
        have hp := hpos (i, rd fr x) (by simp [rdParts])
        have hxs := hv.2.2 hp
        obtain ⟨hs1, hs2⟩ := putCells_spec arr off (a.eval x)
        simp only [List.map_cons]
        rw [fill_cons (hplace i off size ag hoff) (by omega) (by omega)]
        refine fillA_sound hrd hplace r _ cs' _ h (by rw [setCells_length, hs1, hl]) (fun m c hm => ?_) (fun y hy => hpos y (by simp [rdParts, hy]))
        have hml := lt_of_get hm
        rw [setCells_length] at hml
        rw [setCells_get] at hm
        rw [hs2 m (by omega)]
        split at hm
        · rename_i hin
          rw [if_pos (by omega)]
          exact hv.2.1 _ _ hm
        · rename_i hin
          rw [if_neg (by omega)]
          exact hc m c hm
    · cases h
theorem D.empty_len (d : D) : (emptyD d).len = 0 ∧ (emptyD d).sz = d.sz := by cases d <;> exact ⟨rfl, rfl⟩
theorem getD_snoc_lt {α : Type} (xs : List α) (x y : α) (i : Nat) (h : i < xs.length) : (xs ++ [x]).getD i y = xs.getD i y := by
  rw [List.getD_eq_getElem?_getD, List.getD_eq_getElem?_getD, List.getElem?_append_left h]
theorem getD_snoc_eq {α : Type} (xs : List α) (x y : α) : (xs ++ [x]).getD xs.length y = x := by
  rw [List.getD_eq_getElem?_getD, List.getElem?_append_right (Nat.le_refl _)]; simp
theorem lit1_sound {n : Nat} {d d' : D} {c : AV} {x : Value} (h : lit1 d c = some d') (hv : VR β n S w c x) :
    d'.len = d.len + 1 ∧ d'.sz = d.sz ∧ x.cells.size = d.sz ∧ (∀ j, j < d.sz → cellR S w d' d.len j (x.cells.getD j undef)) ∧ ∀ i, i < d.len → ∀ j u, cellR S w d i j u → cellR S w d' i j u := by
  unfold lit1 at h
  split at h
  · rename_i k xs k' m
    cases hk : kindEq k k'
    · rw [hk] at h; cases h
    · rw [hk] at h
      cases h
      obtain rfl := kindEq_eq hk
      obtain rfl := hv.v_inv.1
      refine ⟨by simp [D.len], rfl, rfl, fun j hj => ?_, fun i hi j u hu => ?_⟩
      · have : j = 0 := by simp [D.sz] at hj; exact hj
        subst this
        simp only [cellR, D.cv, D.len, getD_snoc_eq]; rfl
      · simp only [D.len] at hi
        simp only [cellR, D.cv, getD_snoc_lt _ _ _ _ hi] at hu ⊢; exact hu
  · rename_i bs b
    cases h
    obtain rfl := hv.v_inv.1
    refine ⟨by simp [D.len], rfl, rfl, fun j hj => ?_, fun i hi j u hu => ?_⟩
    · have : j = 0 := by simp [D.sz] at hj; exact hj
      subst this
      simp only [cellR, D.cv, D.len, getD_snoc_eq]; rfl
    · simp only [D.len] at hi
      simp only [cellR, D.cv, getD_snoc_lt _ _ _ _ hi] at hu ⊢; exact hu
  · rename_i ss s
    cases h
    obtain rfl := hv.v_inv.1
    refine ⟨by simp [D.len], rfl, rfl, fun j hj => ?_, fun i hi j u hu => ?_⟩
    · have : j = 0 := by simp [D.sz] at hj; exact hj
      subst this
      simp only [cellR, D.cv, D.len, getD_snoc_eq]; rfl
    · simp only [D.len] at hi
      simp only [cellR, D.cv, getD_snoc_lt _ _ _ _ hi] at hu ⊢; exact hu
  · rename_i sz xss cs
    split at h
    · rename_i ns hns
      cases hb : Nat.beq ns.length sz
      · rw [hb] at h; cases h
      · rw [hb] at h
        cases h
        have hb := Nat.eq_of_beq_eq_true hb
        obtain ⟨hl, hg⟩ := i64s_get _ _ hns
        obtain ⟨vs, rfl, hvl, hvs⟩ := hv.agg_inv
        refine ⟨by simp [D.len], rfl, by simp [Value.cells, D.sz]; omega, fun j hj => ?_, fun i hi j u hu => ?_⟩
        · simp only [D.sz] at hj
          have hjc : j < cs.length := by omega
          have h1 := hvs j _ (List.getElem?_eq_getElem hjc)
          rw [hg j _ (List.getElem?_eq_getElem hjc)] at h1
          simp only [cellR, D.cv, D.len, getD_snoc_eq]
          exact h1.v_inv.1
        · simp only [D.len] at hi
          simp only [cellR, D.cv, getD_snoc_lt _ _ _ _ hi] at hu ⊢; exact hu
    · cases h
  · rename_i xss ys
    cases h
    have hv' := hv.ro_inv.ints
    obtain ⟨a, cap, h1, h2, h3, h4⟩ := hv'
    subst h1
    refine ⟨by simp [D.len], rfl, rfl, fun j hj => ?_, fun i hi j u hu => ?_⟩
    · have : j = 0 := by simp [D.sz] at hj; exact hj
      subst this
      simp only [cellR, D.len, getD_snoc_eq]
      exact ⟨a, cap, rfl, h2, h3, h4⟩
    · simp only [D.len] at hi
      simp only [cellR, getD_snoc_lt _ _ _ _ hi] at hu ⊢; exact hu
  · cases h
theorem litD_sound {n : Nat} {fr : List AV} {a : Act} (hrd : ∀ x, VR β n S w (rd fr x) (a.eval x)) {sz len : Nat} (hsz : 0 < sz) :
    ∀ (ps : List (Nat × Operand)) (d d' : D) (m : Nat) (arr : Array Value), litD d m (rdParts fr ps) = some d' → d.len = m → d.sz = sz → arr.size = len * sz → m + ps.length ≤ len →
      (∀ i, i < m → ∀ j, j < sz → cellR S w d i j (arr.getD (i * sz + j) undef)) →
      ∃ arr', Instr.fill (fun i => some (i * sz, sz)) arr (ps.map fun p => (p.1, a.eval p.2)) = some arr' ∧ arr'.size = len * sz ∧ d'.len = m + ps.length ∧ d'.sz = sz ∧
        ∀ i, i < m + ps.length → ∀ j, j < sz → cellR S w d' i j (arr'.getD (i * sz + j) undef)
  | [], d, d', m, arr, h, hl, hz, hs, _, hc => by
    simp only [rdParts, litD] at h
    cases h
    exact ⟨arr, rfl, hs, hl, hz, hc⟩
  | (i, x) :: r, d, d', m, arr, h, hl, hz, hs, hm, hc => by
    simp only [rdParts, litD] at h
    simp only [List.length_cons] at hm
    cases hb : Nat.beq m i
    · rw [hb] at h; cases h
    · rw [hb] at h
      simp only [cond_true] at h
      have hb := Nat.eq_of_beq_eq_true hb
      subst hb
      split at h
      · rename_i d1 hd1
        obtain ⟨l1, z1, x1, c1, c2⟩ := lit1_sound hd1 (hrd x)
        obtain ⟨hs1, hs2⟩ := putCells_spec arr (m * sz) (a.eval x)
        have hend : m * sz + sz ≤ len * sz := by
          have : (m + 1) * sz ≤ len * sz := Nat.mul_le_mul_right _ (by omega)
          rw [Nat.add_mul] at this
          omega
        simp only [List.map_cons]
        rw [fill_cons rfl (by omega) (by omega)]
        obtain ⟨arr', h1, h2, h3, h4, h5⟩ := litD_sound (len := len) hrd hsz r d1 d' (m + 1) (putCells arr (m * sz) (a.eval x)) h (by omega) (by omega) (hs1.trans hs) (by omega) (fun i' hi' j' hj' => by
          have hlt : i' * sz + j' < arr.size := by
            have : (i' + 1) * sz ≤ len * sz := Nat.mul_le_mul_right _ (by omega)
            rw [Nat.add_mul] at this
            omega
          rw [hs2 _ hlt]
          rcases Nat.lt_or_ge i' m with hlt' | hge
          · have : (i' + 1) * sz ≤ m * sz := Nat.mul_le_mul_right _ hlt'
            rw [Nat.add_mul] at this
            rw [if_neg (by omega)]
            exact c2 i' (by omega) j' _ (hc i' hlt' j' hj')
          · have : i' = m := by omega
            subst this
            rw [if_pos (by omega), show i' * sz + j' - i' * sz = j' by omega, ← hl]
            exact c1 j' (by omega))
        refine ⟨arr', h1, h2, by rw [h3]; simp only [List.length_cons]; omega, h4, fun i' hi' j' hj' => h5 i' (by simp only [List.length_cons] at hi'; omega) j' hj'⟩
      · cases h
theorem rdParts_length (fr : List AV) : ∀ ps : List (Nat × Operand), (rdParts fr ps).length = ps.length
  | [] => rfl
  | _ :: r => by simp [rdParts, rdParts_length fr r]
theorem offs1_get : ∀ (n i j : Nat), (offs1 i n)[j]? = if j < n then some (i + j, 1, false) else none
  | 0, _, _ => by simp [offs1]
  | n + 1, i, 0 => by simp [offs1]
  | n + 1, i, j + 1 => by
    show (offs1 (i + 1) n)[j]? = _
    rw [offs1_get n (i + 1) j]
    by_cases h : j < n
    · rw [if_pos h, if_pos (by omega), show i + 1 + j = i + (j + 1) by omega]
    · rw [if_neg h, if_neg (by omega)]
theorem fillA_len (offs : List (Nat × Nat × Bool)) : ∀ (ps : List (Nat × AV)) (cs cs' : List AV), fillA offs cs ps = some cs' → cs'.length = cs.length
  | [], cs, cs', h => by simp only [fillA] at h; cases h; rfl
  | (i, v) :: r, cs, cs', h => by
    simp only [fillA] at h
    split at h
    · rename_i off size ag _
      cases hb : (Nat.beq (cellsOf v).length size && Nat.ble (off + size) cs.length)
      · rw [hb] at h; cases h
      · rw [hb] at h
        rw [fillA_len offs r _ _ h, setCells_length]
    · cases h
theorem buildSliceA_sound (hT : TabOK P T) (hs : HS G C β S H w) {fr : List AV} {a : Act} (hrd : ∀ x, VR β H.length S w (rd fr x) (a.eval x)) {t : TypeId} {len : Nat} {ps : List (Nat × Operand)} {K : AV → List Blk → Prop}
    (h : buildSliceA (T t) len (rdParts fr ps) H K) :
    ∃ v H' β' w' u, K v H' ∧ HS G C β' S H' w' ∧ Tr H.length β S w H'.length β' S w' ∧ VR β' H'.length S w' v u ∧ (Instr.buildSlice t len (ps.map fun p => (p.1, a.eval p.2)).toArray).run P w = .ok u w' := by
  have hTt := hT t
  unfold buildSliceA at h
  split at h
  · rename_i d sz bytes htd
    rw [htd] at hTt
    obtain ⟨_, hsl, hdz, hpos, _⟩ := hTt
    obtain ⟨e, i, hu, hi, hsz, hby, hz⟩ := sliceP_info hsl
    split at h
    · -- pointers
      obtain ⟨zr, hz⟩ : ∃ zr, i.zero = some zr := ⟨_, hz⟩
      simp only [req_iff, Bool.and_eq_true, Nat.ble_eq] at h
      obtain ⟨⟨⟨⟨hl, hbig⟩, hs1⟩, hall⟩, h⟩ := h
      have hl := Nat.eq_of_beq_eq_true hl
      have hs1 := Nat.eq_of_beq_eq_true hs1
      rw [rdParts_length] at hl
      split at h
      · rename_i cs hcs
        rw [avsK_eq, newB_eq] at h
        have z0 : ((Array.range (len * sz)).map (fun x => (if len * sz = 0 then #[] else zr.cells)[x % (if len * sz = 0 then (#[] : Array Value) else zr.cells).size]!)).size = len := by simp [hs1]
        obtain ⟨arr', h1, h2, h3⟩ := fillA_sound (S := S) (w := w) hrd (place := fun i => some (i * sz, sz)) (fun i off size ag hi => by
          rw [offs1_get] at hi
          split at hi
          · cases hi; rw [hs1, Nat.mul_one, Nat.zero_add]
          · cases hi) ps (List.replicate len .un) cs _ hcs (by rw [z0, List.length_replicate]) (fun i c hc => by
            rw [List.getElem?_replicate] at hc
            split at hc
            · cases hc; exact .un _
            · cases hc) (fun x hx => by simpa using List.all_eq_true.1 hall x hx)
        have hcl : cs.length = len := by rw [fillA_len _ _ _ _ hcs, List.length_replicate]
        have ht : Tr H.length β S w (H.length + 1) (upd β H.length (some w.heap.size)) S (w.alloc (.cells arr' e)) := Tr.grow hs.rel (evo_alloc w _) (by omega) fun k hk => upd_lt β _ hk
        have hp := HS.push hs (evo_alloc w (.cells arr' e)) (q := some w.heap.size) (b := .cells cs) (fun r hr => by cases hr; exact Nat.le_refl _)
          (.cells _ arr' e cs (heap_alloc_new w _) (by omega) fun i c hi => (h3 i c hi).tr ht)
        refine ⟨_, _, _, _, .slice (some ⟨w.heap.size, 0, none⟩) len len, h, hp.1, hp.2, ?_, ?_⟩
        · exact .sl H.length 1 len w.heap.size len (by simp) (upd_same _ _ _) (Nat.le_refl _) (by unfold maxLen; omega) arr' e ⟨_, heap_alloc_new w _⟩ (by omega)
        · have hnot : ¬ (16777216 < len * sz) := by rw [hs1]; omega
          by_cases hz0 : len * sz = 0
          · rw [if_pos hz0] at h1
            simp [Instr.buildSlice, run_underlying hu, sizeOf, typeInfo, hi, hsz, hz0, newRow] at h1 ⊢
            simp only [h1]
            simp
          · rw [if_neg hz0] at h1
            simp [Instr.buildSlice, run_underlying hu, sizeOf, typeInfo, zeroValue, hi, hsz, hz0, hnot, hz, newRow, h1]
      · exact h.elim
    · -- plain data
      simp only [req_iff, Bool.and_eq_true, Nat.ble_eq] at h
      obtain ⟨⟨hl, hbig⟩, h⟩ := h
      have hl := Nat.eq_of_beq_eq_true hl
      rw [rdParts_length] at hl
      split at h
      · rename_i d' hd'
        rw [newB_eq] at h
        have z0 : ((Array.range (len * sz)).map (fun x => (if len * sz = 0 then #[] else (zrow d).cells)[x % (if len * sz = 0 then (#[] : Array Value) else (zrow d).cells).size]!)).size = len * sz := by simp
        obtain ⟨arr', h1, h2, h3, h4, h5⟩ := litD_sound hrd hpos ps (emptyD d) d' 0 _ hd' (D.empty_len d).1 ((D.empty_len d).2.trans hdz) z0 (by omega) (fun i hi => absurd hi (by omega))
        have hblk : BlkR (upd β H.length (some w.heap.size)) (H.length + 1) S (w.alloc (.cells arr' e)) (some w.heap.size) (.data d') :=
          .data _ arr' e _ (heap_alloc_new w _) (by rw [h3, h4, h2, Nat.zero_add, hl]; exact Nat.le_refl _) fun i' hi' j' hj' => by
            rw [h4] at hj' ⊢
            exact (h5 i' (by omega) j' hj').keep (fun _ h => h) fun b hb => (evo_alloc w _).keep b (hs.rel.lt b hb) id
        have hp := HS.push hs (evo_alloc w _) (fun r hr => by cases hr; exact Nat.le_refl _) hblk
        refine ⟨_, _, _, _, .slice (some ⟨w.heap.size, 0, none⟩) len len, h, hp.1, hp.2, ?_, ?_⟩
        · exact .sl H.length sz len w.heap.size len (by simp) (upd_same _ _ _) (Nat.le_refl _) (by
            have : len * 1 ≤ len * sz := Nat.mul_le_mul_left _ hpos
            unfold maxLen; omega) arr' e ⟨_, heap_alloc_new w _⟩ (by rw [h2]; exact Nat.le_refl _)
        · have hnot : ¬ (16777216 < len * sz) := by omega
          by_cases hz0 : len * sz = 0
          · rw [if_pos hz0] at h1
            simp [Instr.buildSlice, run_underlying hu, sizeOf, typeInfo, hi, hsz, hz0, newRow] at h1 ⊢
            simp only [h1]
            simp
          · rw [if_neg hz0] at h1
            simp [Instr.buildSlice, run_underlying hu, sizeOf, typeInfo, zeroValue, hi, hsz, hz0, hnot, hz, newRow, h1]
      · exact h.elim
  · exact h.elim
end
end Go.AE
