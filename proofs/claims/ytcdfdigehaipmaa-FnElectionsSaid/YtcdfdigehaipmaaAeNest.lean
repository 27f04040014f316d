/-
  Over the abstract evaluator: heaps of any number of blocks; lists of lists that are owned. No conditions but those in the statements.
-/
import Derived.Test.YtcdfdigehaipmaaAeOpen
import Derived.Test.YtcdfdigehaipmaaAeList
set_option linter.unusedVariables false
set_option linter.unusedSimpArgs false
namespace Go.AE

section
variable {P : Program} {G : Nat → Option D} {T : TypeId → TD}
theorem nthB_app_lt {H J : List Blk} {k : Nat} (h : k < H.length) : nthB (H ++ J) k = nthB H k := by
  rw [nthB_eq, nthB_eq, List.getD_eq_getElem?_getD, List.getD_eq_getElem?_getD, List.getElem?_append_left h]
theorem nthB_app_ge {H J : List Blk} {k : Nat} (h : H.length ≤ k) : nthB (H ++ J) k = nthB J (k - H.length) := by
  rw [nthB_eq, nthB_eq, List.getD_eq_getElem?_getD, List.getD_eq_getElem?_getD, List.getElem?_append_right h]
theorem nthB_snoc {H : List Blk} {b : Blk} : nthB (H ++ [b]) H.length = b := by rw [nthB_app_ge (Nat.le_refl _), Nat.sub_self]; rfl
/-- A call that only makes. -/
theorem CallA.goN {f : FuncId} {args dargs : List AV} {H J0 : List Blk} {r : AV} {K : AV → List Blk → Prop} (conv : Bool) (h : CallA P G f dargs [] fun v J => v = r ∧ J = J0)
    (ha : vmL (amV conv [] H) args dargs) (hk : K (shV conv [] H.length r) (H ++ J0.map (shB conv [] H.length))) : CallA P G f args H K :=
  h.use conv [] rfl ha trivial fun v J ⟨h1, h2⟩ => by subst h1 h2; exact hk
/-- A call that makes nothing, and whose answer is no block's. -/
theorem CallA.goF {f : FuncId} {args : List AV} {H : List Blk} {r : AV} {K : AV → List Blk → Prop} (h : CallA P G f args [] fun v J => v = r ∧ J = []) (ha : args.all selfV = true) (hr : shV false [] H.length r = r) (hk : K r H) : CallA P G f args H K :=
  h.use false [] rfl (args_self ha) trivial fun v J ⟨h1, h2⟩ => by
    subst h1 h2
    rw [hr]
    show K _ (H ++ [])
    rw [List.append_nil]
    exact hk
/-- A call that changes one block. -/
theorem CallA.goW {f : FuncId} {args dargs : List AV} {H : List Blk} {b0 b1 : Blk} {r : AV} {K : AV → List Blk → Prop} (q : Nat) (hq : q < H.length) (h : CallA P G f dargs [b0] fun v J => v = r ∧ J = [b1])
    (ha : vmL (amV true [q] H) args dargs) (hb : blkA true [q] H (nthB H q) b0) (hk : K (shV true [q] H.length r) (H.set q (shB true [q] H.length b1))) : CallA P G f args H K :=
  h.use true [q] (by simp [idsOk, isId, hq, Nat.blt_eq]) ha ⟨hb, trivial⟩ fun v J ⟨h1, h2⟩ => by
    subst h1 h2
    show K _ (H.set q _ ++ [])
    rw [List.append_nil]
    exact hk
/-- A call that may change some blocks, and makes none. -/
theorem CallA.goM {f : FuncId} {args dargs : List AV} {H H0 : List Blk} {r : AV} {K : AV → List Blk → Prop} (ids : List Nat) (h : CallA P G f dargs H0 fun v J => v = r ∧ J.length = H0.length) (hi : idsOk H.length ids = true)
    (ha : vmL (amV true ids H) args dargs) (hh : heapA true ids H ids H0) (hk : ∀ H', H'.length = H.length → (∀ k, isId ids k = false → nthB H' k = nthB H k) → K (shV true ids H.length r) H') : CallA P G f args H K :=
  h.use true ids hi ha hh fun v J ⟨h1, h2⟩ => by
    subst h1
    obtain ⟨hilt, hinj⟩ := idsOk_get hi
    obtain ⟨hlen0, _⟩ := heapA_get hh
    obtain ⟨hml, hmg⟩ := mergeB_get (shB true ids H.length) hilt hinj (show ids.length ≤ J.length by omega)
    have hml' : (mergeB (shB true ids H.length) ids H J).length = H.length := by omega
    refine hk _ hml' fun k hk => ?_
    by_cases hlt : k < H.length
    · have hk2 := List.getElem?_eq_getElem (show k < (mergeB (shB true ids H.length) ids H J).length by omega)
      have hn : nthB (mergeB (shB true ids H.length) ids H J) k = (mergeB (shB true ids H.length) ids H J)[k] := by rw [nthB_eq, List.getD_eq_getElem?_getD, hk2]; rfl
      rcases hmg k _ hk2 with ⟨i, c, g1, _, _⟩ | ⟨_, _, g3⟩ | ⟨g1, _⟩
      · rw [(isId_mem ids k).2 (List.mem_of_getElem? g1)] at hk; cases hk
      · rw [hn, nthB_eq, List.getD_eq_getElem?_getD, g3]; rfl
      · omega
    · rw [nthB_eq, nthB_eq, List.getD_eq_getElem?_getD, List.getD_eq_getElem?_getD, List.getElem?_eq_none (by omega), List.getElem?_eq_none (by omega)]

/-! ### Blocks in a row -/
def selS (ne m : Nat) : List (Option Nat) := (List.range' ne m).map some
theorem selS_succ (ne m : Nat) : selS ne (m + 1) = some ne :: selS (ne + 1) m := by simp [selS, List.range'_succ]
theorem selAt_selS : ∀ (m ne j : Nat), j < m → selAt (selS ne m) j = some (ne + j)
  | 0, _, _, h => by omega
  | m + 1, ne, 0, _ => by rw [selS_succ]; rfl
  | m + 1, ne, j + 1, h => by
    rw [selS_succ]
    show selAt (selS (ne + 1) m) j = _
    rw [selAt_selS m (ne + 1) j (by omega)]
    congr 1; omega
theorem isSel_selS : ∀ (m ne k : Nat), k < ne → isSel (selS ne m) k = false
  | 0, _, _, _ => rfl
  | m + 1, ne, k, h => by
    rw [selS_succ]
    show (Nat.beq ne k || isSel (selS (ne + 1) m) k) = false
    rw [isSel_selS m (ne + 1) k (by omega)]
    have : Nat.beq ne k = false := by
      cases he : Nat.beq ne k
      · rfl
      · have := Nat.eq_of_beq_eq_true he; omega
    rw [this]; rfl
theorem selOk_selS : ∀ (m ne : Nat), selOk (selS ne m) = true
  | 0, _ => rfl
  | m + 1, ne => by
    rw [selS_succ]
    show (!isSel (selS (ne + 1) m) ne && selOk (selS (ne + 1) m)) = true
    rw [isSel_selS m (ne + 1) ne (by omega), selOk_selS m (ne + 1)]
    rfl
theorem idM_selS {ne m k : Nat} (h : k < ne + m) : idM ne (selS ne m) k k = true := by
  unfold idM
  by_cases hk : k < ne
  · rw [show Nat.blt k ne = true from Nat.blt_eq ▸ hk]; exact Nat.beq_refl k
  · have : Nat.blt k ne = false := by
      cases he : Nat.blt k ne
      · rfl
      · exact absurd (Nat.blt_eq ▸ he) hk
    rw [this]
    show (match selAt (selS ne m) (k - ne) with | some q => Nat.beq q k | none => false) = true
    rw [selAt_selS m ne (k - ne) (by omega)]
    show Nat.beq (ne + (k - ne)) k = true
    rw [show ne + (k - ne) = k by omega]
    exact Nat.beq_refl k
theorem highs_selS {sel : List (Option Nat)} {N : Nat} {H : List Blk} : ∀ (E : List Blk) (ne : Nat), (∀ j b, E[j]? = some b → blkM N sel (nthB H (ne + j)) b) → highsM N sel H (selS ne E.length) E
  | [], _, _ => trivial
  | b :: E, ne, h => by
    rw [List.length_cons, selS_succ]
    refine ⟨h 0 b rfl, highs_selS E (ne + 1) fun j b' hj => ?_⟩
    have := h (j + 1) b' hj
    rwa [show ne + (j + 1) = ne + 1 + j by omega] at this
theorem lows_nil {N : Nat} : ∀ {H J : List Blk} {k : Nat}, H.length = J.length → (∀ j b, J[j]? = some b → blkM N [] (nthB H j) b) → lowsM N [] k H J
  | [], [], _, _, _ => trivial
  | [], _ :: _, _, h, _ => by simp at h
  | _ :: _, [], _, h, _ => by simp at h
  | c :: H, b :: J, k, h, hb => by
    have ih := lows_nil (N := N) (H := H) (J := J) (k := k + 1) (by simpa using h) fun j b' hj => hb (j + 1) b' hj
    have h0 := hb 0 b rfl
    cases b with
    | dead => exact ⟨trivial, ih⟩
    | cells cs => exact ⟨⟨rfl, h0⟩, ih⟩
    | obj p => exact ⟨⟨rfl, h0⟩, ih⟩
    | data d => exact ⟨⟨rfl, h0⟩, ih⟩
/-- All blocks stay. -/
theorem heap_low {N : Nat} {H J : List Blk} (hH : H.length = N) (hJ : J.length = N) (hb : ∀ j b, J[j]? = some b → blkM N [] (nthB H j) b) : heapM N [] H J := by
  refine ⟨rfl, by rw [List.length_take, hJ, Nat.min_self], ?_, ?_⟩
  · rw [List.take_of_length_le (by omega)]
    exact lows_nil (by omega) hb
  · rw [List.drop_eq_nil_of_le (by omega)]
    trivial

/-! ### Parts -/
abbrev Pt (ys : List Int) : Blk := .data (.ints .i64 ys)
/-- Slices of blocks in a row, from b on. -/
def refs : Nat → List (List Int) → List AV
  | _, [] => []
  | b, ys :: r => .sl b 1 ys.length :: refs (b + 1) r
theorem refs_len : ∀ (b : Nat) (yss : List (List Int)), (refs b yss).length = yss.length
  | _, [] => rfl
  | b, _ :: r => by simp [refs, refs_len (b + 1) r]
theorem refs_get : ∀ (b : Nat) (yss : List (List Int)) (i : Nat), i < yss.length → (refs b yss)[i]? = some (.sl (b + i) 1 (yss.getD i []).length)
  | _, [], _, h => by simp at h
  | b, ys :: r, 0, _ => by simp [refs]
  | b, ys :: r, i + 1, h => by
    have := refs_get (b + 1) r i (by simpa using h)
    simp only [refs, List.getElem?_cons_succ, this]
    rw [show b + 1 + i = b + (i + 1) by omega]
    simp
theorem refs_map (nb : Nat) : ∀ (b : Nat) (yss : List (List Int)), (refs b yss).map (shV true [] nb) = refs (nb + b) yss
  | _, [] => rfl
  | b, ys :: r => by
    simp only [refs, List.map_cons, refs_map nb (b + 1) r]
    rw [show nb + (b + 1) = nb + b + 1 by omega]
    rfl
theorem refs_same : ∀ (b : Nat) (xs ys : List (List Int)), xs.length = ys.length → (∀ i, (xs.getD i []).length = (ys.getD i []).length) → refs b xs = refs b ys
  | _, [], [], _, _ => rfl
  | _, [], _ :: _, h, _ => by simp at h
  | _, _ :: _, [], h, _ => by simp at h
  | b, x :: xs, y :: ys, h, hl => by
    have h0 : x.length = y.length := hl 0
    simp only [refs, h0]
    rw [refs_same (b + 1) xs ys (by simpa using h) fun i => hl (i + 1)]
theorem refs_snoc : ∀ (b : Nat) (yss : List (List Int)) (ys : List Int), refs b (yss ++ [ys]) = refs b yss ++ [.sl (b + yss.length) 1 ys.length]
  | _, [], _ => rfl
  | b, y :: r, ys => by
    simp only [List.cons_append, refs, refs_snoc (b + 1) r ys, List.length_cons]
    rw [show b + 1 + r.length = b + (r.length + 1) by omega]
theorem parts_get {yss : List (List Int)} {i : Nat} (h : i < yss.length) : nthB (yss.map Pt) i = Pt (yss.getD i []) := by
  rw [nthB_eq, List.getD_eq_getElem?_getD, List.getElem?_map, List.getD_eq_getElem?_getD, List.getElem?_eq_getElem h]; rfl
/-- Read as plain data. -/
theorem am_nest {H : List Blk} {k n b : Nat} {xss : List (List Int)} (hk : nthB H k = .cells (refs b xss)) (hn : n = xss.length) (hp : ∀ i, i < xss.length → nthB H (b + i) = Pt (xss.getD i [])) : amV true [] H (.sl k 1 n) (.ro (.nest xss)) := by
  show true = true ∧ isId [] k = false ∧ _
  refine ⟨rfl, rfl, ?_⟩
  rw [hk]
  refine ⟨⟨rfl, by rw [refs_len]; exact hn⟩, xss, rfl, (refs_len b xss).symm, fun i hi => ?_⟩
  rw [refs_len] at hi
  exact ⟨b + i, refs_get b xss i hi, rfl, hp i hi⟩
theorem am_data {H : List Blk} {k n sz : Nat} {d : D} (hk : nthB H k = .data d) (hs : sz = d.sz) (hn : n = d.len) : amV true [] H (.sl k sz n) (.ro d) := by
  show true = true ∧ isId [] k = false ∧ _
  refine ⟨rfl, rfl, ?_⟩
  rw [hk]
  exact ⟨by rw [hs]; exact Nat.beq_refl _, hn, rfl⟩
/-- Owned: the slices, then the parts. -/
abbrev own (b : Nat) (yss : List (List Int)) : List Blk := .cells (refs b yss) :: yss.map Pt
theorem own_len (b : Nat) (yss : List (List Int)) : (own b yss).length = yss.length + 1 := by simp [own]
theorem own_get {b : Nat} {yss : List (List Int)} {i : Nat} (h : i < yss.length) : nthB (own b yss) (1 + i) = Pt (yss.getD i []) := by
  rw [Nat.add_comm]; exact parts_get h
theorem vmL_id {f : AV → AV → Prop} : ∀ {l : List AV}, (∀ c ∈ l, f c c) → vmL f l l
  | [], _ => trivial
  | x :: r, h => ⟨h x (by simp), vmL_id fun c hc => h c (List.mem_cons_of_mem _ hc)⟩
theorem refs_mem : ∀ {b : Nat} {yss : List (List Int)} {c : AV}, c ∈ refs b yss → ∃ k l, c = .sl k 1 l ∧ k < b + yss.length
  | _, [], _, h => by simp [refs] at h
  | b, ys :: r, c, h => by
    simp only [refs, List.mem_cons] at h
    rcases h with rfl | h
    · exact ⟨b, _, rfl, by simp⟩
    · obtain ⟨k, l, h1, h2⟩ := refs_mem h
      exact ⟨k, l, h1, by rw [List.length_cons]; omega⟩
theorem vm_refs {ne m N n : Nat} {yss : List (List Int)} (hm : N + yss.length ≤ ne + m) : vmL (vmV ne (selS ne m)) (refs N yss ++ List.replicate n .un) (refs N yss ++ List.replicate n .un) :=
  vmL_id fun c hc => by
    rcases List.mem_append.1 hc with h | h
    · obtain ⟨k, l, rfl, h2⟩ := refs_mem h
      exact ⟨idM_selS (by omega), rfl, rfl⟩
    · rw [(List.mem_replicate.1 h).2]
      trivial
/-- One part more: the heap is as the loop's head asks. -/
theorem heap_row {cs ds : List AV} {yss : List (List Int)} (h : vmL (vmV 1 (selS 1 yss.length)) cs ds) : heapM 1 (selS 1 yss.length) (.cells cs :: yss.map Pt) (.cells ds :: yss.map Pt) := by
  refine ⟨selOk_selS _ _, rfl, ⟨⟨isSel_selS _ _ _ (by omega), h⟩, by cases yss <;> trivial⟩, ?_⟩
  have hl : (yss.map Pt).length = yss.length := by simp
  have := highs_selS (sel := selS 1 yss.length) (N := 1) (H := .cells cs :: yss.map Pt) (yss.map Pt) 1 fun j b hj => by
    have hlt : j < yss.length := by have := (List.getElem?_eq_some_iff.1 hj).1; simpa using this
    have hb : b = Pt (yss.getD j []) := by rw [← parts_get hlt, nthB_eq, List.getD_eq_getElem?_getD, hj]; rfl
    subst hb
    rw [own_get (b := 0) hlt |> fun h => (show nthB (Blk.cells cs :: yss.map Pt) (1 + j) = Pt (yss.getD j []) by rw [Nat.add_comm]; exact parts_get hlt)]
    exact rfl
  rw [hl] at this
  exact this
/-- All stays owned. -/
theorem heap_own {yss : List (List Int)} : heapM (yss.length + 1) [] (own 1 yss) (own 1 yss) :=
  heap_low (own_len 1 yss) (own_len 1 yss) fun j b hj => by
    have hb : nthB (own 1 yss) j = b := by rw [nthB_eq, List.getD_eq_getElem?_getD, hj]; rfl
    rw [hb]
    cases j with
    | zero =>
      have : b = .cells (refs 1 yss) := by simpa [own] using hj.symm
      subst this
      have := vm_refs (ne := yss.length + 1) (m := 0) (N := 1) (n := 0) (yss := yss) (by omega)
      rw [List.replicate_zero, List.append_nil] at this
      exact this
    | succ j =>
      have h2 : (yss.map Pt)[j]? = some b := by simpa [own] using hj
      rw [List.getElem?_map, Option.map_eq_some_iff] at h2
      obtain ⟨ys, _, rfl⟩ := h2
      exact rfl

/-! ### Calls at a heap of which only some blocks are known -/
/-- A list and a code are told. -/
theorem CallA.goT {f : FuncId} {args dargs : List AV} {H : List Blk} {xs : List Int} {c : Value} {K : AV → List Blk → Prop} (h : CallA P G f dargs [] fun v J => v = .tup [.sl 0 1 xs.length, .v c] ∧ J = [Pt xs])
    (ha : vmL (amV true [] H) args dargs) (hk : ∀ kg H', kg = H.length → H'.length = H.length + 1 → (∀ k, k < H.length → nthB H' k = nthB H k) → nthB H' kg = Pt xs → K (.tup [.sl kg 1 xs.length, .v c]) H') : CallA P G f args H K := by
  refine CallA.goN true h ha ?_
  exact hk H.length (H ++ [Pt xs]) rfl (by simp) (fun k hk => nthB_app_lt hk) nthB_snoc
/-- A list of lists is made and owned. -/
theorem CallA.goO {f : FuncId} {args dargs : List AV} {H : List Blk} {xss : List (List Int)} {K : AV → List Blk → Prop} (h : CallA P G f dargs [] fun v J => v = .sl 0 1 xss.length ∧ J = own 1 xss)
    (ha : vmL (amV true [] H) args dargs) (hk : ∀ q H', q = H.length → H'.length = q + 1 + xss.length → (∀ k, k < H.length → nthB H' k = nthB H k) → nthB H' q = .cells (refs (q + 1) xss) → (∀ i, i < xss.length → nthB H' (q + 1 + i) = Pt (xss.getD i [])) → K (.sl q 1 xss.length) H') : CallA P G f args H K := by
  refine CallA.goN true h ha ?_
  have h1 : (own 1 xss).map (shB true [] H.length) = .cells (refs (H.length + 1) xss) :: xss.map Pt := by
    have h2 : shB true [] H.length (.cells (refs 1 xss)) = .cells (refs (H.length + 1) xss) := by
      show Blk.cells _ = _
      rw [refs_map]
    simp only [own, List.map_cons, h2, List.map_map]
    congr 1
  rw [h1]
  refine hk H.length _ rfl (by simp; omega) (fun k hk => nthB_app_lt hk) ?_ fun i hi => ?_
  · rw [nthB_app_ge (Nat.le_refl _), Nat.sub_self]; rfl
  · rw [nthB_app_ge (by omega), show H.length + 1 + i - H.length = i + 1 by omega]
    exact parts_get hi
/-- One block is changed. -/
theorem CallA.goV {f : FuncId} {args dargs : List AV} {H : List Blk} {b0 b1 : Blk} {c : Value} {K : AV → List Blk → Prop} (q : Nat) (hq : q < H.length) (h : CallA P G f dargs [b0] fun v J => v = .v c ∧ J = [b1])
    (ha : vmL (amV true [q] H) args dargs) (hb : blkA true [q] H (nthB H q) b0) (hb1 : shB true [q] H.length b1 = b1) (hk : ∀ H', H'.length = H.length → (∀ k, k ≠ q → nthB H' k = nthB H k) → nthB H' q = b1 → K (.v c) H') : CallA P G f args H K := by
  refine CallA.goW q hq h ha hb ?_
  rw [hb1]
  refine hk _ (by simp) (fun k hk => ?_) ?_
  · rw [nthB_eq, nthB_eq, List.getD_eq_getElem?_getD, List.getD_eq_getElem?_getD, List.getElem?_set_ne (fun e => hk e.symm)]
  · rw [nthB_eq, List.getD_eq_getElem?_getD, List.getElem?_set_self hq]; rfl
theorem am_int {conv : Bool} {ids : List Nat} {H : List Blk} (n : Int) : amV conv ids H (.v (.int .i64 n)) (.v (.int .i64 n)) := ⟨rfl, rfl⟩
/-- The numbers of an owned list's blocks. -/
def idsN (q n : Nat) : List Nat := q :: List.range' (q + 1) n
theorem isId_idsN {q n k : Nat} : isId (idsN q n) k = true ↔ q ≤ k ∧ k < q + 1 + n := by
  rw [isId_mem]
  simp only [idsN, List.mem_cons, List.mem_range'_1]
  omega
theorem isId_out {q n k : Nat} (h : k < q ∨ q + 1 + n ≤ k) : isId (idsN q n) k = false := by
  cases he : isId (idsN q n) k
  · rfl
  · have := isId_idsN.1 he; omega
theorem idsOk_idsN {q n N : Nat} (h : q + 1 + n ≤ N) : idsOk N (idsN q n) = true := by
  have go : ∀ (m b : Nat), b + m ≤ N → idsOk N (List.range' b m) = true := by
    intro m
    induction m with
    | zero => intro b _; rfl
    | succ m ih =>
      intro b hb
      rw [List.range'_succ]
      show (Nat.blt b N && !isId (List.range' (b + 1) m) b && idsOk N (List.range' (b + 1) m)) = true
      have h1 : isId (List.range' (b + 1) m) b = false := by
        cases he : isId (List.range' (b + 1) m) b
        · rfl
        · have := (isId_mem _ _).1 he; rw [List.mem_range'_1] at this; omega
      rw [ih (b + 1) (by omega), h1, show Nat.blt b N = true from Nat.blt_eq ▸ (by omega)]
      rfl
  have := go (n + 1) q (by omega)
  rwa [List.range'_succ] at this
theorem idI_range : ∀ (n b i : Nat), i < n → idI (List.range' b n) i (b + i) = true
  | 0, _, _, h => by omega
  | n + 1, b, 0, _ => by rw [List.range'_succ]; exact Nat.beq_refl b
  | n + 1, b, i + 1, h => by
    rw [List.range'_succ]
    show idI (List.range' (b + 1) n) i (b + (i + 1)) = true
    have := idI_range n (b + 1) i (by omega)
    rwa [show b + 1 + i = b + (i + 1) by omega] at this
theorem heapA_parts {ids : List Nat} {H : List Blk} : ∀ (yss : List (List Int)) (b : Nat), (∀ i, i < yss.length → nthB H (b + i) = Pt (yss.getD i [])) → heapA true ids H (List.range' b yss.length) (yss.map Pt)
  | [], _, _ => trivial
  | ys :: r, b, h => by
    rw [List.length_cons, List.range'_succ]
    refine ⟨?_, heapA_parts r (b + 1) fun i hi => ?_⟩
    · have := h 0 (by simp)
      rw [Nat.add_zero] at this
      rw [this]
      exact rfl
    · have := h (i + 1) (by simpa using hi)
      rw [show b + 1 + i = b + (i + 1) by omega, this]
      simp
theorem vm_own {ids : List Nat} {H : List Blk} : ∀ (yss : List (List Int)) (b c : Nat), (∀ i, i < yss.length → idI ids (c + i) (b + i) = true) → vmL (amV true ids H) (refs b yss) (refs c yss)
  | [], _, _, _ => trivial
  | ys :: r, b, c, h => ⟨⟨h 0 (by simp), rfl, rfl⟩, vm_own r (b + 1) (c + 1) fun i hi => by
      have := h (i + 1) (by simpa using hi)
      rwa [show c + (i + 1) = c + 1 + i by omega, show b + (i + 1) = b + 1 + i by omega] at this⟩
/-- An owned list of lists may be marked: what else there is stays. -/
theorem CallA.goI {f : FuncId} {args : List AV} {H : List Blk} {xss : List (List Int)} {k c : Value} {K : AV → List Blk → Prop} (q : Nat) (h : CallA P G f [.sl 0 1 xss.length, .v k] (own 1 xss) fun v J => v = .v c ∧ J.length = (own 1 xss).length)
    (hl : q + 1 + xss.length ≤ H.length) (hc : nthB H q = .cells (refs (q + 1) xss)) (hp : ∀ i, i < xss.length → nthB H (q + 1 + i) = Pt (xss.getD i []))
    (ha : vmL (amV true (idsN q xss.length) H) args [.sl 0 1 xss.length, .v k])
    (hk : ∀ H', H'.length = H.length → (∀ k, k < q ∨ q + 1 + xss.length ≤ k → nthB H' k = nthB H k) → K (.v c) H') : CallA P G f args H K := by
  refine CallA.goM (idsN q xss.length) h (idsOk_idsN hl) ha ⟨?_, heapA_parts xss (q + 1) hp⟩ fun H' h1 h2 => hk H' h1 fun k h3 => h2 k (isId_out h3)
  rw [hc]
  exact vm_own xss (q + 1) 1 fun i hi => by
    rw [Nat.add_comm 1 i]
    exact idI_range xss.length (q + 1) i hi
end
end Go.AE
