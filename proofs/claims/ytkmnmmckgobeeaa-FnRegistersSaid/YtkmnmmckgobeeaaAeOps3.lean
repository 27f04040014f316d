/-
  Stores, slices, appends and calls of the abstract evaluator. No conditions.
-/
import Derived.Test.YtkmnmmckgobeeaaAeOps2
namespace Go.AE

section
variable {P : Program} {G : Nat → Option D} {T : TypeId → TD} {C : Ctx} {β : Nat → Option Nat} {S : Nat → Prop} {H : List Blk} {w : World}

theorem setCells_length : ∀ (vs cs : List AV) (j : Nat), (setCells cs j vs).length = cs.length
  | [], _, _ => rfl
  | v :: r, cs, j => by simp only [setCells]; rw [setCells_length r]; simp
theorem setCells_get : ∀ (vs cs : List AV) (j i : Nat), (setCells cs j vs)[i]? = if j ≤ i ∧ i < j + vs.length ∧ i < cs.length then vs[i - j]? else cs[i]?
  | [], cs, j, i => by
    rw [if_neg (by simp; omega)]; rfl
  | v :: r, cs, j, i => by
    simp only [setCells]
    rw [setCells_get r]
    simp only [List.length_set, List.length_cons]
    by_cases h1 : j + 1 ≤ i ∧ i < j + 1 + r.length ∧ i < cs.length
    · rw [if_pos h1, if_pos (by omega)]
      rw [show i - j = (i - (j + 1)) + 1 by omega, List.getElem?_cons_succ]
    · rw [if_neg h1]
      by_cases h2 : i = j
      · subst h2
        by_cases h3 : i < cs.length
        · rw [if_pos (by omega), List.getElem?_set_self h3]; simp
        · rw [if_neg (by omega), List.getElem?_eq_none (by simpa using h3), List.getElem?_eq_none (by simpa using h3)]
      · rw [List.getElem?_set_ne (fun e => h2 e.symm), if_neg (by omega)]
/-- What a row holds behind a splice. -/
theorem splice_get (cur : Array Value) (o : Nat) (vs : List Value) (hl : o + vs.length ≤ cur.size) (i : Nat) :
    ((cur.toList.take o ++ vs ++ cur.toList.drop (o + vs.length)).toArray).getD i undef = if o ≤ i ∧ i < o + vs.length then vs.getD (i - o) undef else cur.getD i undef := by
  rw [Array.getD_eq_getD_getElem?, Array.getD_eq_getD_getElem?]
  simp only [List.getElem?_toArray, List.append_assoc]
  by_cases h1 : i < o
  · rw [List.getElem?_append_left (by simp; omega), List.getElem?_take_of_lt h1, if_neg (by omega)]
    simp
  · rw [List.getElem?_append_right (by simp; omega)]
    have hlt : (cur.toList.take o).length = o := by simp; omega
    rw [hlt]
    by_cases h2 : i < o + vs.length
    · rw [List.getElem?_append_left (by omega), if_pos (by omega), List.getD_eq_getElem?_getD]
    · rw [List.getElem?_append_right (by omega), List.getElem?_drop, if_neg (by omega)]
      have : o + vs.length + (i - o - vs.length) = i := by omega
      rw [this]
      simp
theorem splice_size (cur : Array Value) (o : Nat) (vs : List Value) (hl : o + vs.length ≤ cur.size) :
    ((cur.toList.take o ++ vs ++ cur.toList.drop (o + vs.length)).toArray).size = cur.size := by
  simp; omega

theorem i64s_get : ∀ (vs : List AV) (ns : List Int), i64s vs = some ns → vs.length = ns.length ∧ ∀ (i : Nat) c, vs[i]? = some c → c = .v (.int .i64 (ns.getD i 0))
  | [], ns, h => by simp only [i64s] at h; cases h; exact ⟨rfl, fun i c hc => by simp at hc⟩
  | v :: r, ns, h => by
    unfold i64s at h
    split at h
    · rename_i he; cases he
    · rename_i n r' he
      cases he
      rw [Option.map_eq_some_iff] at h
      obtain ⟨ms, h1, rfl⟩ := h
      obtain ⟨h2, h3⟩ := i64s_get r ms h1
      refine ⟨by simp [h2], fun i c hc => ?_⟩
      cases i with
      | zero => simp at hc; subst hc; simp
      | succ i => simp at hc; simpa using h3 i c hc
    · cases h
theorem setInts_get : ∀ (vs cs : List Int) (j i : Nat), j + vs.length ≤ cs.length → (setInts cs j vs).getD i 0 = if j ≤ i ∧ i < j + vs.length then vs.getD (i - j) 0 else cs.getD i 0
  | [], cs, j, i, _ => by rw [if_neg (by rw [List.length_nil]; omega)]; rfl
  | v :: r, cs, j, i, h => by
    simp only [setInts]
    simp only [List.length_cons] at h
    rw [setInts_get r _ _ _ (by simp; omega)]
    simp only [List.length_cons]
    by_cases h1 : j + 1 ≤ i ∧ i < j + 1 + r.length
    · rw [if_pos h1, if_pos (by omega), show i - j = (i - (j + 1)) + 1 by omega]
      simp
    · rw [if_neg h1]
      by_cases h2 : i = j
      · subst h2
        rw [if_pos (by omega)]
        simp [List.getD_eq_getElem?_getD, List.getElem?_set_self (show i < cs.length by omega)]
      · rw [if_neg (by omega)]
        simp [List.getD_eq_getElem?_getD, List.getElem?_set_ne (fun e => h2 e.symm)]
theorem row_iff {sz i i' j j' len : Nat} (hj : j + len ≤ sz) (hj' : j' < sz) : (i * sz + j ≤ i' * sz + j' ∧ i' * sz + j' < i * sz + j + len) ↔ (i' = i ∧ j ≤ j' ∧ j' < j + len) := by
  rcases Nat.lt_trichotomy i' i with h | h | h
  · have : (i' + 1) * sz ≤ i * sz := Nat.mul_le_mul_right _ h
    rw [Nat.add_mul] at this
    constructor <;> intro h' <;> omega
  · subst h; constructor <;> intro h' <;> omega
  · have : (i + 1) * sz ≤ i' * sz := Nat.mul_le_mul_right _ h
    rw [Nat.add_mul] at this
    constructor <;> intro h' <;> omega
theorem SlD.ints {k : IntKind} {xs : List Int} {x : Value} (h : SlD S w (.ints k xs) x) : SlInts S w k xs x :=
  SlOf.mono (At := fun b off => S b ∧ DataAt S w (.ints k xs) b off) h fun b off hb => ⟨hb.1, fun i hi => by
    obtain ⟨u, h1, h2⟩ := hb.2 i hi 0 (by simp [D.sz])
    simp only [D.sz, Nat.mul_one, Nat.add_zero] at h1
    have h3 : u = .int k (xs.getD i 0) := h2
    rw [h1, h3]⟩
theorem storeData_sound {n : Nat} {d : D} {i j : Nat} {vs : List AV} {K : D → Prop} (h : storeData d i j vs K) (hi : i < d.len) :
    ∃ d', K d' ∧ d'.len = d.len ∧ d'.sz = d.sz ∧ j + vs.length ≤ d.sz ∧ (∀ c ∈ vs, plainCell c = true) ∧
      ∀ us : List Value, (∀ m c, vs[m]? = some c → VR β n S w c (us.getD m undef)) → ∀ i', i' < d.len → ∀ j', j' < d.sz → ∀ u0, cellR S w d i' j' u0 →
        cellR S w d' i' j' (if i' = i ∧ j ≤ j' ∧ j' < j + vs.length then us.getD (j' - j) undef else u0) := by
  unfold storeData at h
  split at h
  · rename_i k xs
    split at h
    · rename_i k' m
      simp only [req_iff, Bool.and_eq_true] at h
      obtain ⟨⟨hk, hj⟩, h⟩ := h
      obtain rfl := kindEq_eq hk
      have hj := Nat.eq_of_beq_eq_true hj
      subst hj
      refine ⟨_, h, by simp [D.len], rfl, by simp [D.sz], by simp [plainCell], fun us hus i' hi' j' hj' u0 hu0 => ?_⟩
      simp only [D.sz] at hj'
      have hj0 : j' = 0 := by omega
      subst hj0
      simp only [cellR, D.cv] at hu0 ⊢
      by_cases he : i' = i
      · subst he
        have h1 := (hus 0 _ rfl).v_inv.1
        simp only [D.len] at hi'
        simp [List.getD_eq_getElem?_getD, List.getElem?_set_self hi']
        simpa [List.getD_eq_getElem?_getD] using h1
      · rw [if_neg (by simp [he])]
        rw [hu0]
        simp [List.getD_eq_getElem?_getD, List.getElem?_set_ne (fun e => he e.symm)]
    · exact h.elim
  · rename_i bs
    split at h
    · rename_i b
      simp only [req_iff] at h
      obtain ⟨hj, h⟩ := h
      have hj := Nat.eq_of_beq_eq_true hj
      subst hj
      refine ⟨_, h, by simp [D.len], rfl, by simp [D.sz], by simp [plainCell], fun us hus i' hi' j' hj' u0 hu0 => ?_⟩
      simp only [D.sz] at hj'
      have hj0 : j' = 0 := by omega
      subst hj0
      simp only [cellR, D.cv] at hu0 ⊢
      by_cases he : i' = i
      · subst he
        have h1 := (hus 0 _ rfl).v_inv.1
        simp only [D.len] at hi'
        simp [List.getD_eq_getElem?_getD, List.getElem?_set_self hi']
        simpa [List.getD_eq_getElem?_getD] using h1
      · rw [if_neg (by simp [he])]
        rw [hu0]
        simp [List.getD_eq_getElem?_getD, List.getElem?_set_ne (fun e => he e.symm)]
    · exact h.elim
  · rename_i ss
    split at h
    · rename_i s
      simp only [req_iff] at h
      obtain ⟨hj, h⟩ := h
      have hj := Nat.eq_of_beq_eq_true hj
      subst hj
      refine ⟨_, h, by simp [D.len], rfl, by simp [D.sz], by simp [plainCell], fun us hus i' hi' j' hj' u0 hu0 => ?_⟩
      simp only [D.sz] at hj'
      have hj0 : j' = 0 := by omega
      subst hj0
      simp only [cellR, D.cv] at hu0 ⊢
      by_cases he : i' = i
      · subst he
        have h1 := (hus 0 _ rfl).v_inv.1
        simp only [D.len] at hi'
        simp [List.getD_eq_getElem?_getD, List.getElem?_set_self hi']
        simpa [List.getD_eq_getElem?_getD] using h1
      · rw [if_neg (by simp [he])]
        rw [hu0]
        simp [List.getD_eq_getElem?_getD, List.getElem?_set_ne (fun e => he e.symm)]
    · exact h.elim
  · rename_i sz xss
    split at h
    · rename_i ns hns
      obtain ⟨hlen, hget⟩ := i64s_get _ _ hns
      simp only [req_iff, Nat.ble_eq] at h
      obtain ⟨hj, hrow, h⟩ := h
      have plain : ∀ c ∈ vs, plainCell c = true := fun c hc => by
        obtain ⟨m, hm⟩ := List.getElem?_of_mem hc
        rw [hget m c hm]; rfl
      refine ⟨_, h, by simp [D.len], rfl, by simp only [D.sz]; omega, plain, fun us hus i' hi' j' hj' u0 hu0 => ?_⟩
      simp only [D.sz, D.len] at hj' hi' hi
      simp only [cellR, D.cv] at hu0 ⊢
      by_cases he : i' = i
      · subst he
        have hs : (xss.set i' (setInts (xss.getD i' []) j ns)).getD i' [] = setInts (xss.getD i' []) j ns := by
          simp [List.getD_eq_getElem?_getD, List.getElem?_set_self hi]
        rw [hs, setInts_get _ _ _ _ (by omega)]
        by_cases hjj : j ≤ j' ∧ j' < j + vs.length
        · rw [if_pos ⟨rfl, hjj⟩, if_pos (by omega)]
          have hm : j' - j < vs.length := by omega
          have h1 := hus (j' - j) _ (List.getElem?_eq_getElem hm)
          rw [hget _ _ (List.getElem?_eq_getElem hm)] at h1
          exact h1.v_inv.1
        · rw [if_neg (by simp only [true_and]; exact hjj), if_neg (by omega)]
          exact hu0
      · rw [if_neg (by simp [he])]
        have hs : (xss.set i (setInts (xss.getD i []) j ns)).getD i' [] = xss.getD i' [] := by
          simp [List.getD_eq_getElem?_getD, List.getElem?_set_ne (fun e => he e.symm)]
        rw [hs]; exact hu0
    · exact h.elim
  · rename_i xss
    split at h
    · rename_i ys
      simp only [req_iff] at h
      obtain ⟨hj, h⟩ := h
      have hj := Nat.eq_of_beq_eq_true hj
      subst hj
      refine ⟨_, h, by simp [D.len], rfl, by simp [D.sz], by simp [plainCell], fun us hus i' hi' j' hj' u0 hu0 => ?_⟩
      simp only [D.sz] at hj'
      have hj0 : j' = 0 := by omega
      subst hj0
      simp only [cellR] at hu0 ⊢
      by_cases he : i' = i
      · subst he
        have h1 := (hus 0 _ rfl).ro_inv.ints
        simp only [D.len] at hi'
        rw [if_pos (by simp)]
        have hs : (xss.set i' ys).getD i' [] = ys := by simp [List.getD_eq_getElem?_getD, List.getElem?_set_self hi']
        rw [hs]
        exact h1
      · rw [if_neg (by simp [he])]
        have hs : (xss.set i ys).getD i' [] = xss.getD i' [] := by simp [List.getD_eq_getElem?_getD, List.getElem?_set_ne (fun e => he e.symm)]
        rw [hs]; exact hu0
    · exact h.elim
  · exact h.elim
/-- A store. -/
theorem storeA_sound (hT : TabOK P T) {t : TypeId} {a y : AV} {xa xy : Value} {K : List Blk → Prop} (h : storeA (T t) a y H K) (hs : HS G C β S H w) (hva : VR β H.length S w a xa) (hvy : VR β H.length S w y xy) :
    ∃ H' w', K H' ∧ HS G C β S H' w' ∧ Tr H.length β S w H'.length β S w' ∧ (Instr.storeAt t xa xy).run P w = .ok () w' := by
  have hc := cellsOf_vr hvy
  have one : (∀ c ∈ cellsOf y, plainCell c = true) → xy.cells.size = (cellsOf y).length → ∀ u ∈ xy.cells.toList, u.oneCell' = true := fun hp hsz u hu => by
    obtain ⟨m, hm⟩ := List.getElem?_of_mem hu
    have hlt : m < (cellsOf y).length := by
      have := lt_of_get hm
      simp at this; omega
    have h1 := hc.2.1 m _ (List.getElem?_eq_getElem hlt)
    have h2 := hp _ (List.getElem_mem hlt)
    have h3 : xy.cells.getD m undef = u := by rw [Array.getD_eq_getD_getElem?]; simp at hm; simp [hm]
    rw [h3] at h1
    refine oneCell_vr h1 ?_ ?_ ?_ ?_ <;> intro <;> (try intro) <;> simp_all [plainCell]
  have cellsCase : ∀ (k j r : Nat) (cs : List AV), nthB H k = .cells cs → β k = some r → xa = .pointer (some ⟨r, j, none⟩) → (T t).ok = true → 0 < (T t).size → (cellsOf y).length = (T t).size → j + (cellsOf y).length ≤ cs.length → (cellsOf y).all plainCell = true →
      K (H.set k (.cells (setCells cs j (cellsOf y)))) → ∃ H' w', K H' ∧ HS G C β S H' w' ∧ Tr H.length β S w H'.length β S w' ∧ (Instr.storeAt t xa xy).run P w = .ok () w' := by
    intro k j r cs hb hβ hxa hok h0 hsz hlen hpl h
    subst hxa
    have hk := nthB_some hb (by simp)
    have hxs := hc.2.2 (by omega)
    have hB := hs.rel.blk k _ hk
    rw [hβ] at hB
    cases hB with
    | cells _ arr e _ hh hl hcells =>
      have hl' : j + xy.cells.toList.length ≤ arr.size := by simp; omega
      have hsize := splice_size arr j xy.cells.toList hl'
      have ht := Tr.write hs hk (by simp) hβ hh hsize
      have hw := HS.write hs hk (by simp) hβ hh hsize (b' := .cells (setCells cs j (cellsOf y)))
        (.cells r _ e _ (setRow_heap w r arr _ e _ hh) (by rw [setCells_length, hsize]; exact hl) fun i c hic => by
          rw [setCells_get] at hic
          rw [splice_get arr j _ hl']
          split at hic
          · rename_i hin
            rw [if_pos (by simp; omega)]
            have := (hc.2.1 _ _ hic).tr ht
            rwa [Array.getD_eq_getD_getElem?, ← Array.getElem?_toList, ← List.getD_eq_getElem?_getD] at this
          · rename_i hin
            have hi := lt_of_get hic
            rw [if_neg (by simp; omega)]
            exact (hcells i c hic).tr ht)
      refine ⟨_, _, h, hw.1, hw.2, ?_⟩
      simp only [Instr.storeAt, Instr.sureAddr, Sem.run_bind, Sem.run_pure, Result.andThen_ok]
      have hrun := run_storeVar (P := P) w (t := t) (g := r) (o := j) (v := xy) (n := (T t).size) (cur := arr) (e := e) ((hT t).1 hok).2 (by omega) hh (by omega)
        (one (fun c hcm => by simpa using List.all_eq_true.1 hpl c hcm) hxs)
      have e1 : (T t).size = xy.cells.toList.length := by simp; omega
      rw [e1] at hrun
      exact hrun
  unfold storeA at h
  simp only [lenD_eq] at h
  split at h
  · rename_i k j
    split at h
    · rename_i cs hb
      simp only [req_iff, Bool.and_eq_true, Nat.ble_eq, Nat.blt_eq, avsK_eq, setB_eq] at h
      obtain ⟨⟨⟨⟨⟨hok, h0⟩, hsz⟩, hlen⟩, hpl⟩, h⟩ := h
      obtain ⟨r, _, hβ, hxa⟩ := hva.ptr_inv
      exact cellsCase k j r cs hb hβ hxa hok h0 (Nat.eq_of_beq_eq_true hsz) hlen hpl h
    · exact h.elim
  · rename_i k sz i j
    split at h
    · rename_i d hb
      have hk := nthB_some hb (by simp)
      simp only [req_iff, Bool.and_eq_true, Nat.blt_eq] at h
      obtain ⟨⟨⟨⟨hok, h0⟩, hsz⟩, hdz⟩, hi, h⟩ := h
      have hsz := Nat.eq_of_beq_eq_true hsz
      have hdz := Nat.eq_of_beq_eq_true hdz
      subst hdz
      have hxs := hc.2.2 (by omega)
      obtain ⟨r, _, hβ, rfl⟩ := hva.eptr_inv
      have hB := hs.rel.blk k _ hk
      rw [hβ] at hB
      cases hB with
      | data _ arr e _ hh hl hcells =>
        obtain ⟨d', hK, hdl, hds, hjl, hpl, hall⟩ := storeData_sound (β := β) (S := S) (w := w) (n := H.length) h hi
        rw [setB_eq] at hK
        have hend : i * d.sz + j + (cellsOf y).length ≤ d.len * d.sz := by
          have : (i + 1) * d.sz ≤ d.len * d.sz := Nat.mul_le_mul_right _ hi
          rw [Nat.add_mul] at this
          omega
        have hl' : i * d.sz + j + xy.cells.toList.length ≤ arr.size := by simp; omega
        have hsize := splice_size arr (i * d.sz + j) xy.cells.toList hl'
        have ht := Tr.write hs hk (by simp) hβ hh hsize
        have hw := HS.write hs hk (by simp) hβ hh hsize (b' := .data d')
          (.data r _ e _ (setRow_heap w r arr _ e _ hh) (by rw [hdl, hds, hsize]; exact hl) fun i' hi' j' hj' => by
            rw [hdl] at hi'
            rw [hds] at hj'
            have hres := hall xy.cells.toList (fun m c hm => by
              have := hc.2.1 m c hm
              rwa [Array.getD_eq_getD_getElem?, ← Array.getElem?_toList, ← List.getD_eq_getElem?_getD] at this) i' hi' j' hj' _ (hcells i' hi' j' hj')
            rw [splice_get arr _ _ hl', hds]
            have hiff := row_iff (sz := d.sz) (i := i) (i' := i') (j := j) (j' := j') (len := (cellsOf y).length) hjl hj'
            have hxl : xy.cells.toList.length = (cellsOf y).length := by simpa using hxs
            have hcond : (i * d.sz + j ≤ i' * d.sz + j' ∧ i' * d.sz + j' < i * d.sz + j + xy.cells.toList.length) ↔ (i' = i ∧ j ≤ j' ∧ j' < j + (cellsOf y).length) := by rw [hxl]; exact hiff
            by_cases hin : i' = i ∧ j ≤ j' ∧ j' < j + (cellsOf y).length
            · rw [if_pos hin] at hres
              rw [if_pos (hcond.2 hin)]
              obtain ⟨rfl, h1, h2⟩ := hin
              have : i' * d.sz + j' - (i' * d.sz + j) = j' - j := by omega
              rw [this]
              exact hres.keep ht.sub ht.keep
            · rw [if_neg hin] at hres
              rw [if_neg (fun h => hin (hcond.1 h))]
              exact hres.keep ht.sub ht.keep)
        refine ⟨_, _, hK, hw.1, hw.2, ?_⟩
        simp only [Instr.storeAt, Instr.sureAddr, Sem.run_bind, Sem.run_pure, Result.andThen_ok]
        have hrun := run_storeVar (P := P) w (t := t) (g := r) (o := i * d.sz + j) (v := xy) (n := (T t).size) (cur := arr) (e := e) ((hT t).1 hok).2 (by omega) hh (by simp at hl'; omega) (one hpl hxs)
        have e1 : (T t).size = xy.cells.toList.length := by simp; omega
        rw [e1] at hrun
        exact hrun
    · rename_i cs hb
      split at h
      · rename_i d1 s1 b1 k' sz' l htd
        simp only [req_iff, Bool.and_eq_true, setB_eq] at h
        obtain ⟨⟨hsz, hj⟩, hi, h⟩ := h
        have hsz := Nat.eq_of_beq_eq_true hsz
        have hj := Nat.eq_of_beq_eq_true hj
        subst hsz hj
        obtain ⟨r, _, hβ, hxa⟩ := hva.eptr_inv
        have hi1 : i * 1 + 0 = i := by omega
        rw [hi1] at hxa
        exact cellsCase k i r cs hb hβ hxa (by rw [htd]; rfl) (by rw [htd]; exact Nat.zero_lt_one) (by rw [htd]; rfl) (by show i + 1 ≤ cs.length; omega) rfl h
      · exact h.elim
    · exact h.elim
  · exact h.elim
end
end Go.AE
