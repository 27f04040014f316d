/-
  Over the abstract evaluator: a contract that is proved in a small heap holds in a larger one. No conditions.
-/
import Derived.Test.YtkmnmmckgobeeaaAeTop2
namespace Go.AE

/-- The small heap's block k' is the large one's block k. -/
def idI : List Nat → Nat → Nat → Bool
  | [], _, _ => false
  | q :: _, 0, k => Nat.beq q k
  | _ :: r, n + 1, k => idI r n k
def isId : List Nat → Nat → Bool
  | [], _ => false
  | q :: r, k => Nat.beq q k || isId r k
def idsOk (n : Nat) : List Nat → Bool
  | [] => true
  | q :: r => Nat.blt q n && !isId r q && idsOk n r
/-- The cells are slices of the heap's blocks, which hold the parts. -/
def nestOf (ids : List Nat) (H : List Blk) (d : D) (cs : List AV) : Prop :=
  ∃ xss, d = .nest xss ∧ xss.length = cs.length ∧ ∀ i, i < cs.length → ∃ k, cs[i]? = some (.sl k 1 (xss.getD i []).length) ∧ isId ids k = false ∧ nthB H k = .data (.ints .i64 (xss.getD i []))
/-- The first is the caller's, the second the contract's. With conv a slice may be handed on as plain data. -/
noncomputable def am0 (conv : Bool) (ids : List Nat) (H : List Blk) : AV → AV → Prop
  | _, .un => True
  | .no, .no => True
  | .v x, .v y => veq x y
  | .nilsl, .nilsl => True
  | .nilsl, .sl _ _ len => len = 0
  | .nilsl, .ro d => d.len = 0
  | .ptr k j, .ptr k' j' => idI ids k' k = true ∧ j = j'
  | .eptr k sz i j, .eptr k' sz' i' j' => idI ids k' k = true ∧ sz = sz' ∧ i = i' ∧ j = j'
  | .sl k sz len, .sl k' sz' len' => idI ids k' k = true ∧ sz = sz' ∧ len = len'
  | .sub k sz lo len, .sub k' sz' lo' len' => idI ids k' k = true ∧ sz = sz' ∧ lo = lo' ∧ len = len'
  | .sl k sz len, .ro d => conv = true ∧ isId ids k = false ∧ (match nthB H k with
    | .data d0 => Nat.beq sz d0.sz = true ∧ len = d0.len ∧ d0 = d
    | .cells cs => (sz = 1 ∧ len = cs.length) ∧ nestOf ids H d cs
    | _ => False)
  | .sub k sz lo len, .ro d => conv = true ∧ isId ids k = false ∧ (match nthB H k with
    | .data d0 => Nat.beq sz d0.sz = true ∧ lo + len ≤ d0.len ∧ d0.sub lo len = d
    | _ => False)
  | .ro d, .ro d' => d = d'
  | .rop d i j, .rop d' i' j' => d = d' ∧ i = i' ∧ j = j'
  | .rpc cs j, .rpc cs' j' => cs = cs' ∧ j = j'
  | .gl g, .gl g' => g = g'
  | .fn f [], .fn f' [] => f = f'
  | .ifc, .ifc => True
  | _, _ => False
/-- A pointer to cells may be handed on as one that only reads. -/
noncomputable def am1 (conv : Bool) (ids : List Nat) (H : List Blk) (a b : AV) : Prop :=
  match a, b with
  | .ptr k j, .rpc cs j' => conv = true ∧ isId ids k = false ∧ j = j' ∧ (match nthB H k with
    | .cells ds => cs.all rpcOk = true ∧ vmL (am0 conv ids H) ds cs
    | _ => False)
  | a, b => am0 conv ids H a b
noncomputable def amE (conv : Bool) (ids : List Nat) (H : List Blk) (a b : AV) : Prop :=
  match a, b with
  | .agg cs, .agg ds => vmL (am1 conv ids H) cs ds
  | a, b => am1 conv ids H a b
noncomputable def amV (conv : Bool) (ids : List Nat) (H : List Blk) (a b : AV) : Prop :=
  match a, b with
  | .agg cs, .agg ds => vmL (am1 conv ids H) cs ds
  | .tup cs, .tup ds => vmL (amE conv ids H) cs ds
  | .fn f cs, .fn g ds => f = g ∧ vmL (amE conv ids H) cs ds
  | a, b => am1 conv ids H a b
noncomputable def blkA (conv : Bool) (ids : List Nat) (H : List Blk) (a b : Blk) : Prop :=
  match a, b with
  | _, .dead => True
  | .data d, .data d' => d = d'
  | .cells cs, .cells ds => vmL (amV conv ids H) cs ds
  | .obj p, .obj q => p = q
  | _, _ => False
noncomputable def heapA (conv : Bool) (ids : List Nat) (H : List Blk) : List Nat → List Blk → Prop
  | [], [] => True
  | q :: r, b :: H0 => blkA conv ids H (nthB H q) b ∧ heapA conv ids H r H0
  | _, _ => False
def shI : List Nat → Nat → Nat → Nat
  | [], nb, k => nb + k
  | q :: _, _, 0 => q
  | _ :: r, nb, k + 1 => shI r nb k
def sh1 (conv : Bool) (ids : List Nat) (nb : Nat) : AV → AV
  | .ptr k j => .ptr (shI ids nb k) j
  | .eptr k sz i j => .eptr (shI ids nb k) sz i j
  | .sl k sz len => .sl (shI ids nb k) sz len
  | .sub k sz lo len => .sub (shI ids nb k) sz lo len
  | .ro d => bif conv then .un else .ro d
  | .rop d i j => bif conv then .un else .rop d i j
  | .rpc cs j => bif conv then .un else .rpc cs j
  | .agg _ => .un
  | .tup _ => .un
  | .fn f [] => .fn f []
  | .fn _ _ => .un
  | v => v
def shE (conv : Bool) (ids : List Nat) (nb : Nat) (v : AV) : AV :=
  match v with
  | .agg cs => .agg (cs.map (sh1 conv ids nb))
  | v => sh1 conv ids nb v
def shV (conv : Bool) (ids : List Nat) (nb : Nat) (v : AV) : AV :=
  match v with
  | .agg cs => .agg (cs.map (sh1 conv ids nb))
  | .tup cs => .tup (cs.map (shE conv ids nb))
  | .fn f cs => .fn f (cs.map (shE conv ids nb))
  | v => sh1 conv ids nb v
def shB (conv : Bool) (ids : List Nat) (nb : Nat) (b : Blk) : Blk :=
  match b with
  | .cells cs => .cells (cs.map (shV conv ids nb))
  | .data (.nest x) => bif conv then .dead else .data (.nest x)
  | b => b
/-- The large heap behind the call. -/
def mergeB (f : Blk → Blk) : List Nat → List Blk → List Blk → List Blk
  | [], H, J => H ++ J.map f
  | q :: ids, H, b :: J => mergeB f ids (H.set q (f b)) J
  | _ :: _, H, [] => H

section
variable {P : Program} {G : Nat → Option D} {T : TypeId → TD}

theorem isId_mem (ids : List Nat) (k : Nat) : isId ids k = true ↔ k ∈ ids := by
  induction ids with
  | nil => simp [isId]
  | cons q r ih =>
    simp only [isId, Bool.or_eq_true, ih, List.mem_cons]
    constructor
    · rintro (h | h)
      · exact .inl (Nat.eq_of_beq_eq_true h).symm
      · exact .inr h
    · rintro (rfl | h)
      · exact .inl (Nat.beq_refl _)
      · exact .inr h
theorem idI_get : ∀ {ids : List Nat} {k' k : Nat}, idI ids k' k = true → ids[k']? = some k
  | [], _, _, h => by simp [idI] at h
  | q :: r, 0, k, h => by simp only [idI] at h; simp [Nat.eq_of_beq_eq_true h]
  | q :: r, n + 1, k, h => by simp only [idI] at h; simpa using idI_get h
theorem idsOk_get {n : Nat} : ∀ {ids : List Nat}, idsOk n ids = true → (∀ k ∈ ids, k < n) ∧ ∀ i j k : Nat, ids[i]? = some k → ids[j]? = some k → i = j
  | [], _ => ⟨fun k hk => by simp at hk, fun i j k h => by simp at h⟩
  | q :: r, h => by
    simp only [idsOk, Bool.and_eq_true, Bool.not_eq_true', Nat.blt_eq] at h
    obtain ⟨⟨h1, h2⟩, h3⟩ := h
    obtain ⟨h4, h5⟩ := idsOk_get h3
    have h2' : q ∉ r := fun hm => by rw [(isId_mem r q).2 hm] at h2; cases h2
    refine ⟨fun k hk => ?_, fun i j k hi hj => ?_⟩
    · rcases List.mem_cons.1 hk with rfl | hk
      · exact h1
      · exact h4 k hk
    · cases i with
      | zero =>
        cases j with
        | zero => rfl
        | succ j => simp at hi hj; subst hi; exact absurd (List.mem_of_getElem? hj) h2'
      | succ i =>
        cases j with
        | zero => simp at hi hj; subst hj; exact absurd (List.mem_of_getElem? hi) h2'
        | succ j => simp at hi hj; rw [h5 i j k hi hj]
theorem heapA_get {conv : Bool} {ids : List Nat} {H : List Blk} : ∀ {is : List Nat} {H0 : List Blk}, heapA conv ids H is H0 → H0.length = is.length ∧ ∀ (i : Nat) (b : Blk), H0[i]? = some b → ∃ q, is[i]? = some q ∧ blkA conv ids H (nthB H q) b
  | [], [], _ => ⟨rfl, fun i b h => by simp at h⟩
  | q :: r, c :: H0, h => by
    obtain ⟨h1, h2⟩ := heapA_get h.2
    refine ⟨by simp [h1], fun i b hb => ?_⟩
    cases i with
    | zero => simp at hb; subst hb; exact ⟨q, rfl, h.1⟩
    | succ i => simp at hb; simpa using h2 i b hb
  | [], _ :: _, h => h.elim
  | _ :: _, [], h => h.elim
theorem mergeB_get (f : Blk → Blk) : ∀ {ids : List Nat} {H J : List Blk}, (∀ k ∈ ids, k < H.length) → (∀ i j k : Nat, ids[i]? = some k → ids[j]? = some k → i = j) → ids.length ≤ J.length →
    (mergeB f ids H J).length = H.length + (J.length - ids.length) ∧ ∀ (k : Nat) (b : Blk), (mergeB f ids H J)[k]? = some b →
      (∃ (i : Nat) (c : Blk), ids[i]? = some k ∧ J[i]? = some c ∧ b = f c) ∨ (k ∉ ids ∧ k < H.length ∧ H[k]? = some b) ∨ (H.length ≤ k ∧ ∃ c, J[ids.length + (k - H.length)]? = some c ∧ b = f c)
  | [], H, J, _, _, _ => by
    refine ⟨by simp [mergeB], fun k b h => ?_⟩
    simp only [mergeB] at h
    by_cases hk : k < H.length
    · rw [List.getElem?_append_left hk] at h
      exact .inr (.inl ⟨by simp, hk, h⟩)
    · rw [List.getElem?_append_right (by omega), List.getElem?_map, Option.map_eq_some_iff] at h
      obtain ⟨c, h1, h2⟩ := h
      exact .inr (.inr ⟨by omega, c, by simpa using h1, h2.symm⟩)
  | q :: ids, H, c :: J, hlt, hinj, hle => by
    have hq : q ∉ ids := fun hm => by
      obtain ⟨j, hj⟩ := List.getElem?_of_mem hm
      have := hinj 0 (j + 1) q rfl (by simpa using hj)
      omega
    have hinj' : ∀ i j k : Nat, ids[i]? = some k → ids[j]? = some k → i = j := fun i j k h1 h2 => by
      have := hinj (i + 1) (j + 1) k (by simpa using h1) (by simpa using h2)
      omega
    obtain ⟨h1, h2⟩ := mergeB_get f (ids := ids) (H := H.set q (f c)) (J := J) (fun k hk => by simpa using hlt k (List.mem_cons_of_mem _ hk)) hinj' (by simpa using hle)
    refine ⟨by simp only [mergeB]; rw [h1]; simp, fun k b h => ?_⟩
    simp only [mergeB] at h
    rcases h2 k b h with ⟨i, d, h3, h4, h5⟩ | ⟨h3, h4, h5⟩ | ⟨h3, d, h4, h5⟩
    · exact .inl ⟨i + 1, d, by simpa using h3, by simpa using h4, h5⟩
    · by_cases hk : q = k
      · subst hk
        rw [List.getElem?_set_self (by simpa using h4)] at h5
        cases h5
        exact .inl ⟨0, c, rfl, rfl, rfl⟩
      · rw [List.getElem?_set_ne hk] at h5
        exact .inr (.inl ⟨by simp only [List.mem_cons, not_or]; exact ⟨fun e => hk e.symm, h3⟩, by simpa using h4, h5⟩)
    · simp only [List.length_set] at h3 h4
      refine .inr (.inr ⟨h3, d, ?_, h5⟩)
      rw [List.length_cons, show ids.length + 1 + (k - H.length) = ids.length + (k - H.length) + 1 by omega]
      simpa using h4
  | _ :: _, _, [], _, _, hle => by simp at hle
theorem shI_lt : ∀ (ids : List Nat) (nb k q : Nat), ids[k]? = some q → shI ids nb k = q
  | [], _, _, _, h => by simp at h
  | q :: r, nb, 0, _, h => by simp at h; exact h
  | q :: r, nb, k + 1, p, h => by simp only [shI]; exact shI_lt r nb k p (by simpa using h)
theorem shI_ge : ∀ (ids : List Nat) (nb k : Nat), ids.length ≤ k → shI ids nb k = nb + (k - ids.length)
  | [], _, _, _ => by simp [shI]
  | q :: r, nb, 0, h => by simp at h
  | q :: r, nb, k + 1, h => by simp only [shI]; rw [shI_ge r nb k (by simpa using h)]; simp

theorem VR.sh1_ {β β2 : Nat → Option Nat} {n n2 nb : Nat} {S S2 : Nat → Prop} {w : World} {conv : Bool} {ids : List Nat} {v : AV} {x : Value} (h : VR β n S w v x) (hb : ∀ k, k < n → β2 (shI ids nb k) = β k ∧ shI ids nb k < n2) (hS : conv = false → ∀ b, S b → S2 b) : VR β2 n2 S2 w (sh1 conv ids nb v) x := by
  cases h with
  | un x => exact .un x
  | no => exact .no
  | v x h => exact .v x h
  | agg cs vs hl h => exact .un _
  | tup cs vs hl h => exact .un _
  | nilsl => exact .nilsl
  | ptr k j r hk hβ => exact .ptr _ _ _ (hb k hk).2 ((hb k hk).1.trans hβ)
  | eptr k sz i j r hk hβ => exact .eptr _ _ _ _ _ (hb k hk).2 ((hb k hk).1.trans hβ)
  | sl k sz len r cap hk hβ hc hm arr e hh hs => exact .sl _ _ _ r cap (hb k hk).2 ((hb k hk).1.trans hβ) hc hm arr e hh hs
  | sl0 k sz a => exact .sl0 _ _ _
  | sub k sz lo len r cap hk hβ hc hm arr e hh hs => exact .sub _ _ _ _ r cap (hb k hk).2 ((hb k hk).1.trans hβ) hc hm arr e hh hs
  | sub0 k sz lo a => exact .sub0 _ _ _ _
  | ro d x h =>
    cases conv with
    | true => exact .un _
    | false => exact .ro _ _ (h.keep (hS rfl) fun _ _ => rfl)
  | rop d i j b off hSb hd =>
    cases conv with
    | true => exact .un _
    | false => exact .rop _ _ _ _ _ (hS rfl b hSb) (DataAt.keep hSb hd (hS rfl) fun _ _ => rfl)
  | rpc cs j b hSb arr e hh hl ho h =>
    cases conv with
    | true => exact .un _
    | false => exact VR.rpc_fixed (.rpc cs j b hSb arr e hh hl ho h) (hS rfl)
  | gl g => exact .gl g
  | ifc te p => exact .ifc te p
  | fn f cs vs hl h =>
    cases cs with
    | nil => exact .fn _ _ _ hl fun i c hc => by simp at hc
    | cons _ _ => exact .un _
theorem VR.sh_all {β β2 : Nat → Option Nat} {n n2 : Nat} {S S2 : Nat → Prop} {w : World} {f : AV → AV} (one : ∀ v x, VR β n S w v x → VR β2 n2 S2 w (f v) x) {cs : List AV} {vs : Array Value} (hv : ∀ i c, cs[i]? = some c → VR β n S w c (vs.getD i undef)) :
    ∀ i c, (cs.map f)[i]? = some c → VR β2 n2 S2 w c (vs.getD i undef) := fun i c hc => by
  rw [List.getElem?_map, Option.map_eq_some_iff] at hc
  obtain ⟨d, h1, rfl⟩ := hc
  exact one _ _ (hv i d h1)
theorem VR.shE_ {β β2 : Nat → Option Nat} {n n2 nb : Nat} {S S2 : Nat → Prop} {w : World} {conv : Bool} {ids : List Nat} {v : AV} {x : Value} (h : VR β n S w v x) (hb : ∀ k, k < n → β2 (shI ids nb k) = β k ∧ shI ids nb k < n2) (hS : conv = false → ∀ b, S b → S2 b) : VR β2 n2 S2 w (shE conv ids nb v) x := by
  unfold shE
  split
  · obtain ⟨vs, rfl, hl, hv⟩ := h.agg_inv; exact .agg _ vs (by simpa using hl) (VR.sh_all (fun _ _ h => h.sh1_ hb hS) hv)
  · exact h.sh1_ hb hS
theorem VR.shV_ {β β2 : Nat → Option Nat} {n n2 nb : Nat} {S S2 : Nat → Prop} {w : World} {conv : Bool} {ids : List Nat} {v : AV} {x : Value} (h : VR β n S w v x) (hb : ∀ k, k < n → β2 (shI ids nb k) = β k ∧ shI ids nb k < n2) (hS : conv = false → ∀ b, S b → S2 b) : VR β2 n2 S2 w (shV conv ids nb v) x := by
  unfold shV
  split
  · obtain ⟨vs, rfl, hl, hv⟩ := h.agg_inv; exact .agg _ vs (by simpa using hl) (VR.sh_all (fun _ _ h => h.sh1_ hb hS) hv)
  · obtain ⟨vs, rfl, hl, hv⟩ := h.tup_inv; exact .tup _ vs (by simpa using hl) (VR.sh_all (fun _ _ h => h.shE_ hb hS) hv)
  · obtain ⟨vs, rfl, hl, hv⟩ := h.fn_inv; exact .fn _ _ vs (by simpa using hl) (VR.sh_all (fun _ _ h => h.shE_ hb hS) hv)
  · exact h.sh1_ hb hS
theorem BlkR.shB_ {β β2 : Nat → Option Nat} {n n2 nb : Nat} {S S2 : Nat → Prop} {w : World} {conv : Bool} {ids : List Nat} {r : Option Nat} {b : Blk} (h : BlkR β n S w r b) (hb : ∀ k, k < n → β2 (shI ids nb k) = β k ∧ shI ids nb k < n2) (hS : conv = false → ∀ b, S b → S2 b) : BlkR β2 n2 S2 w r (shB conv ids nb b) := by
  cases h with
  | dead => exact .dead _
  | obj r arr e p hh h => exact .obj r arr e p hh h
  | cells r arr e cs hh hl h =>
    exact .cells r arr e _ hh (by simpa using hl) fun i c hc => by
      rw [List.getElem?_map, Option.map_eq_some_iff] at hc
      obtain ⟨d, h1, rfl⟩ := hc
      exact (h i d h1).shV_ hb hS
  | data0 d h =>
    cases d with
    | nest xss =>
      cases conv with
      | true => exact .dead _
      | false => exact .data0 _ h
    | _ => exact .data0 _ h
  | data r arr e d hh hl h =>
    cases d with
    | nest xss =>
      cases conv with
      | true => exact .dead _
      | false => exact .data r arr e _ hh hl fun i hi j hj => (h i hi j hj).keep (hS rfl) fun _ _ => rfl
    | _ => exact .data r arr e _ hh hl h
theorem shB_dead {conv : Bool} {ids : List Nat} {nb : Nat} {b : Blk} (h : shB conv ids nb b ≠ .dead) : b ≠ .dead := fun e => by subst e; exact h rfl

/-- What a call may take for plain data. -/
def wideS (conv : Bool) (ids : List Nat) (H : List Blk) (β : Nat → Option Nat) (S : Nat → Prop) (b : Nat) : Prop :=
  S b ∨ (conv = true ∧ ∃ k c, H[k]? = some c ∧ c ≠ Blk.dead ∧ isId ids k = false ∧ β k = some b)
def smallβ (ids : List Nat) (β : Nat → Option Nat) (i : Nat) : Option Nat := ids[i]?.bind β
theorem VR.am0_ {β : Nat → Option Nat} {S : Nat → Prop} {H : List Blk} {w : World} {conv : Bool} {ids : List Nat} (hr : Rel G β S H w) {a s : AV} {x : Value} (h : VR β H.length S w a x) (hm : am0 conv ids H a s) :
    VR (smallβ ids β) ids.length (wideS conv ids H β S) w s x := by
  have idk : ∀ {k k' : Nat} {r : Nat}, idI ids k' k = true → β k = some r → k' < ids.length ∧ smallβ ids β k' = some r := fun h1 h2 => by
    have h3 := idI_get h1
    refine ⟨?_, by simp [smallβ, h3, h2]⟩
    exact (List.getElem?_eq_some_iff.1 h3).1
  cases s with
  | un => exact .un x
  | no => cases h <;> first | exact .no | exact hm.elim
  | v y => cases h with
    | v x h => have := veq_eq hm; subst this; exact .v _ h
    | _ => exact hm.elim
  | nilsl => cases h <;> first | exact .nilsl | exact hm.elim
  | ptr k' j' => cases h with
    | ptr k j r hk hb => obtain ⟨h1, rfl⟩ := hm; obtain ⟨h2, h3⟩ := idk h1 hb; exact .ptr _ _ _ h2 h3
    | _ => exact hm.elim
  | eptr k' sz' i' j' => cases h with
    | eptr k sz i j r hk hb => obtain ⟨h1, rfl, rfl, rfl⟩ := hm; obtain ⟨h2, h3⟩ := idk h1 hb; exact .eptr _ _ _ _ _ h2 h3
    | _ => exact hm.elim
  | sl k' sz' len' => cases h with
    | nilsl => have : len' = 0 := hm; subst this; exact .sl0 _ _ _
    | sl k sz len r cap hk hb hc hm' arr e hh hs => obtain ⟨h1, rfl, rfl⟩ := hm; obtain ⟨h2, h3⟩ := idk h1 hb; exact .sl _ _ _ r cap h2 h3 hc hm' arr e hh hs
    | sl0 k sz a => obtain ⟨h1, rfl, rfl⟩ := hm; exact .sl0 _ _ _
    | _ => exact hm.elim
  | sub k' sz' lo' len' => cases h with
    | sub k sz lo len r cap hk hb hc hm' arr e hh hs => obtain ⟨h1, rfl, rfl, rfl⟩ := hm; obtain ⟨h2, h3⟩ := idk h1 hb; exact .sub _ _ _ _ r cap h2 h3 hc hm' arr e hh hs
    | sub0 k sz lo a => obtain ⟨h1, rfl, rfl, rfl⟩ := hm; exact .sub0 _ _ _ _
    | _ => exact hm.elim
  | ro d' =>
    have wS : ∀ b, S b → wideS conv ids H β S b := fun _ h => .inl h
    cases h with
    | nilsl => exact .ro _ _ ⟨none, 0, by rw [show d'.len = 0 from hm], by rw [show d'.len = 0 from hm]; exact Nat.le_refl _, Nat.zero_le _, fun hp => by rw [show d'.len = 0 from hm] at hp; omega⟩
    | ro d x h => have : d = d' := hm; subst this; exact .ro _ _ (h.keep wS fun _ _ => rfl)
    | sl k sz len r cap hk hb hc hm' arr e hh hs =>
      obtain ⟨hcv, hid, hd⟩ := hm
      split at hd
      · rename_i d0 hn
        obtain ⟨h1, rfl, rfl⟩ := hd
        obtain rfl := Nat.eq_of_beq_eq_true h1
        have hH := nthB_some hn (by simp)
        have hW : wideS conv ids H β S r := .inr ⟨hcv, k, _, hH, by simp, hid, hb⟩
        refine .ro _ _ ⟨_, cap, rfl, hc, hm', fun hp => ⟨r, 0, rfl, hW, ?_⟩⟩
        have hB := hr.blk k _ hH
        rw [hb] at hB
        cases hB with
        | data _ arr' e' _ hh' hl hcells =>
          intro i hi j hj
          have hlt : i * d0.sz + j < arr'.size := by
            have : (i + 1) * d0.sz ≤ d0.len * d0.sz := Nat.mul_le_mul_right _ hi
            rw [Nat.add_mul] at this
            omega
          exact ⟨_, by rw [Nat.zero_add]; exact cell_row hh' hlt, (hcells i hi j hj).keep wS fun _ _ => rfl⟩
      · rename_i cs hn
        obtain ⟨⟨rfl, rfl⟩, xss, rfl, hlx, hall⟩ := hd
        have hH := nthB_some hn (by simp)
        have hW : wideS conv ids H β S r := .inr ⟨hcv, k, _, hH, by simp, hid, hb⟩
        have hlx' : (D.nest xss).len = cs.length := hlx
        refine .ro _ _ ⟨_, cap, by rw [hlx'], by rw [hlx']; exact hc, hm', fun hp => ⟨r, 0, rfl, hW, ?_⟩⟩
        have hB := hr.blk k _ hH
        rw [hb] at hB
        cases hB with
        | cells _ arr' e' _ hh' hl hcells =>
          intro i hi j hj
          have hj : j = 0 := by simp only [D.sz] at hj; omega
          subst hj
          rw [hlx'] at hi
          obtain ⟨q, hq1, hq2, hq3⟩ := hall i hi
          refine ⟨arr'.getD i undef, ?_, ?_⟩
          · have : 0 + i * (D.nest xss).sz + 0 = i := by simp only [D.sz]; omega
            rw [this]
            exact cell_row hh' (by omega)
          · have hv := hcells i _ hq1
            have hq4 := nthB_some hq3 (by simp)
            show SlInts _ w .i64 (xss.getD i []) _
            generalize arr'.getD i undef = u at hv
            generalize hys : xss.getD i [] = ys at hv hq3 hq4
            generalize hyl : ys.length = n1 at hv
            cases hv with
            | sl _ _ _ r2 cap2 hk2 hb2 hc2 hm2 arr2 e2 hh2 hs2 =>
              refine ⟨_, cap2, by rw [hyl], by rw [hyl]; exact hc2, hm2, fun hp2 => ⟨r2, 0, rfl, .inr ⟨hcv, q, _, hq4, by simp, hq2, hb2⟩, ?_⟩⟩
              have hB2 := hr.blk q _ hq4
              rw [hb2] at hB2
              cases hB2 with
              | data _ arr3 e3 _ hh3 hl3 hc3 =>
                intro m hm3
                have h4 := hc3 m hm3 0 Nat.one_pos
                have hl3' : ys.length * 1 ≤ arr3.size := hl3
                rw [Nat.zero_add, cell_row hh3 (by omega)]
                have h5 : arr3.getD (m * 1 + 0) undef = .int .i64 (ys.getD m 0) := h4
                have h6 : m * 1 + 0 = m := by omega
                rw [h6] at h5
                rw [h5]
            | sl0 _ _ a2 => exact ⟨a2, 0, by rw [hyl], by rw [hyl]; exact Nat.le_refl _, Nat.zero_le _, fun hp2 => by omega⟩
      · exact hd.elim
    | sl0 k sz a =>
      obtain ⟨hcv, hid, hd⟩ := hm
      split at hd
      · rename_i d0 hn
        obtain ⟨h1, h2, rfl⟩ := hd
        exact .ro _ _ ⟨a, 0, by rw [← h2], by rw [← h2]; exact Nat.le_refl _, Nat.zero_le _, fun hp => by omega⟩
      · rename_i cs hn
        obtain ⟨⟨rfl, h2⟩, xss, rfl, hlx, hall⟩ := hd
        have hlx' : (D.nest xss).len = 0 := hlx.trans h2.symm
        exact .ro _ _ ⟨a, 0, by rw [hlx'], by rw [hlx']; exact Nat.le_refl _, Nat.zero_le _, fun hp => by rw [hlx'] at hp; omega⟩
      · exact hd.elim
    | sub k sz lo len r cap hk hb hc hm' arr e hh hs =>
      obtain ⟨hcv, hid, hd⟩ := hm
      split at hd
      · rename_i d0 hn
        obtain ⟨h1, h2, rfl⟩ := hd
        obtain rfl := Nat.eq_of_beq_eq_true h1
        have hH := nthB_some hn (by simp)
        have hW : wideS conv ids H β S r := .inr ⟨hcv, k, _, hH, by simp, hid, hb⟩
        have hsl := D.sub_len d0 lo len h2
        refine .ro _ _ ⟨_, cap, by rw [hsl], by rw [hsl]; exact hc, hm', fun hp => ⟨r, lo * d0.sz, rfl, hW, ?_⟩⟩
        have hB := hr.blk k _ hH
        rw [hb] at hB
        have hD : DataAt (wideS conv ids H β S) w d0 r 0 := by
          cases hB with
          | data _ arr' e' _ hh' hl hcells =>
            intro i hi j hj
            have hlt : i * d0.sz + j < arr'.size := by
              have : (i + 1) * d0.sz ≤ d0.len * d0.sz := Nat.mul_le_mul_right _ hi
              rw [Nat.add_mul] at this
              omega
            exact ⟨_, by rw [Nat.zero_add]; exact cell_row hh' hlt, (hcells i hi j hj).keep wS fun _ _ => rfl⟩
        have := hD.sub h2
        rwa [Nat.zero_add] at this
      · exact hd.elim
    | sub0 k sz lo a =>
      obtain ⟨hcv, hid, hd⟩ := hm
      split at hd
      · rename_i d0 hn
        obtain ⟨h1, h2, rfl⟩ := hd
        have hsl := D.sub_len d0 lo 0 h2
        exact .ro _ _ ⟨a, 0, by rw [hsl], by rw [hsl]; exact Nat.le_refl _, Nat.zero_le _, fun hp => by omega⟩
      · exact hd.elim
    | _ => exact hm.elim
  | rop d' i' j' => cases h with
    | rop d i j b off hS hd => obtain ⟨rfl, rfl, rfl⟩ := hm; exact .rop _ _ _ _ _ (.inl hS) (DataAt.keep hS hd (fun _ h => .inl h) fun _ _ => rfl)
    | _ => exact hm.elim
  | rpc cs' j' =>
    cases a with
    | rpc cs j => obtain ⟨rfl, rfl⟩ := hm; exact h.rpc_fixed fun _ h => .inl h
    | _ => exact hm.elim
  | gl g' => cases h with
    | gl g => have : g = g' := hm; subst this; exact .gl _
    | _ => exact hm.elim
  | ifc => cases h with
    | ifc te p => exact .ifc te p
    | _ => exact hm.elim
  | fn f' cs' => cases h with
    | fn f cs vs hl h =>
      cases cs with
      | nil =>
        cases cs' with
        | nil => have : f = f' := hm; subst this; exact .fn _ _ _ hl fun i c hc => by simp at hc
        | cons _ _ => exact hm.elim
      | cons _ _ => cases cs' <;> exact hm.elim
    | _ => cases cs' <;> exact hm.elim
  | agg cs => cases h <;> exact hm.elim
  | tup cs => cases h <;> exact hm.elim
theorem VR.am1_ {β : Nat → Option Nat} {S : Nat → Prop} {H : List Blk} {w : World} {conv : Bool} {ids : List Nat} (hr : Rel G β S H w) {a s : AV} {x : Value} (h : VR β H.length S w a x) (hm : am1 conv ids H a s) :
    VR (smallβ ids β) ids.length (wideS conv ids H β S) w s x := by
  unfold am1 at hm
  split at hm
  · rename_i k j cs j'
    obtain ⟨hcv, hid, rfl, hd⟩ := hm
    split at hd
    · rename_i ds hn
      obtain ⟨ho, hm⟩ := hd
      have hH := nthB_some hn (by simp)
      obtain ⟨r, hk, hb, rfl⟩ := h.ptr_inv
      have hB := hr.blk k _ hH
      rw [hb] at hB
      obtain ⟨h1, h2⟩ := vmL_get hm
      cases hB with
      | cells _ arr e _ hh hl hcells =>
        exact .rpc cs j r (.inr ⟨hcv, k, _, hH, by simp, hid, hb⟩) arr e hh (h1 ▸ hl) ho fun i c hc => by
          obtain ⟨d, h3, h4⟩ := h2 i c hc
          exact (hcells i d h3).am0_ hr h4
    · exact hd.elim
  · exact h.am0_ hr hm
theorem VR.am_all {β : Nat → Option Nat} {S : Nat → Prop} {H : List Blk} {w : World} {conv : Bool} {ids : List Nat} {m : AV → AV → Prop} (one : ∀ a s x, VR β H.length S w a x → m a s → VR (smallβ ids β) ids.length (wideS conv ids H β S) w s x)
    {cs ds : List AV} {vs : Array Value} (hl : vmL m cs ds) (hv : ∀ i c, cs[i]? = some c → VR β H.length S w c (vs.getD i undef)) : ∀ i c, ds[i]? = some c → VR (smallβ ids β) ids.length (wideS conv ids H β S) w c (vs.getD i undef) := fun i c hc => by
  obtain ⟨d, h1, h2⟩ := (vmL_get hl).2 i c hc
  exact one _ _ _ (hv i d h1) h2
theorem VR.amE_ {β : Nat → Option Nat} {S : Nat → Prop} {H : List Blk} {w : World} {conv : Bool} {ids : List Nat} (hr : Rel G β S H w) {a s : AV} {x : Value} (h : VR β H.length S w a x) (hm : amE conv ids H a s) :
    VR (smallβ ids β) ids.length (wideS conv ids H β S) w s x := by
  unfold amE at hm
  split at hm
  · obtain ⟨vs, rfl, hl, hv⟩ := h.agg_inv; exact .agg _ vs ((vmL_get hm).1 ▸ hl) (VR.am_all (fun _ _ _ h hm => h.am1_ hr hm) hm hv)
  · exact h.am1_ hr hm
theorem VR.amV_ {β : Nat → Option Nat} {S : Nat → Prop} {H : List Blk} {w : World} {conv : Bool} {ids : List Nat} (hr : Rel G β S H w) {a s : AV} {x : Value} (h : VR β H.length S w a x) (hm : amV conv ids H a s) :
    VR (smallβ ids β) ids.length (wideS conv ids H β S) w s x := by
  unfold amV at hm
  split at hm
  · obtain ⟨vs, rfl, hl, hv⟩ := h.agg_inv; exact .agg _ vs ((vmL_get hm).1 ▸ hl) (VR.am_all (fun _ _ _ h hm => h.am1_ hr hm) hm hv)
  · obtain ⟨vs, rfl, hl, hv⟩ := h.tup_inv; exact .tup _ vs ((vmL_get hm).1 ▸ hl) (VR.am_all (fun _ _ _ h hm => h.amE_ hr hm) hm hv)
  · obtain ⟨rfl, hm⟩ := hm; obtain ⟨vs, rfl, hl, hv⟩ := h.fn_inv; exact .fn _ _ vs ((vmL_get hm).1 ▸ hl) (VR.am_all (fun _ _ _ h hm => h.amE_ hr hm) hm hv)
  · exact h.am1_ hr hm
/-- A contract used in a larger heap. -/
theorem CallA.use {f : FuncId} {args dargs : List AV} {H H0 : List Blk} {Q K : AV → List Blk → Prop} (conv : Bool) (ids : List Nat) (h : CallA P G f dargs H0 Q) (hi : idsOk H.length ids = true)
    (ha : vmL (amV conv ids H) args dargs) (hh : heapA conv ids H ids H0) (hk : ∀ v J, Q v J → K (shV conv ids H.length v) (mergeB (shB conv ids H.length) ids H J)) : CallA P G f args H K := by
  refine ⟨h.1, fun β S w vs hr hl hv => ?_⟩
  obtain ⟨hilt, hinj⟩ := idsOk_get hi
  obtain ⟨hlen0, hblk⟩ := heapA_get hh
  obtain ⟨hal, hag⟩ := vmL_get ha
  -- a living block of the small heap stands for a living one
  have src : ∀ (i : Nat) (b : Blk), H0[i]? = some b → b ≠ .dead → ∃ q c, ids[i]? = some q ∧ H[q]? = some c ∧ c ≠ .dead ∧ blkA conv ids H c b ∧ smallβ ids β i = β q := fun i b hb hn => by
    obtain ⟨q, h1, h2⟩ := hblk i b hb
    have hlt := hilt q (List.mem_of_getElem? h1)
    refine ⟨q, H[q], h1, List.getElem?_eq_getElem hlt, ?_, ?_, by simp [smallβ, h1]⟩
    · intro hd
      rw [nthB_eq, List.getD_eq_getElem?_getD, List.getElem?_eq_getElem hlt, Option.getD_some, hd] at h2
      cases b with
      | dead => exact hn rfl
      | _ => exact h2.elim
    · rwa [nthB_eq, List.getD_eq_getElem?_getD, List.getElem?_eq_getElem hlt, Option.getD_some] at h2
  have notIn : ∀ {q i : Nat}, ids[i]? = some q → isId ids q = false → False := fun h1 h2 => by
    rw [(isId_mem ids _).2 (List.mem_of_getElem? h1)] at h2; cases h2
  have wS : ∀ b, S b → wideS conv ids H β S b := fun _ h => .inl h
  have hr0 : Rel G (smallβ ids β) (wideS conv ids H β S) H0 w := {
    blk := fun i b hb => by
      by_cases hd : b = .dead
      · subst hd; exact .dead _
      · obtain ⟨q, c, h1, h2, h3, h4, h5⟩ := src i b hb hd
        have hB := hr.blk q c h2
        rw [h5, hlen0]
        clear h5
        generalize β q = o at hB ⊢
        unfold blkA at h4
        split at h4
        · exact .dead _
        · subst h4
          cases hB with
          | data0 _ h => exact .data0 _ h
          | data r arr e _ hh hl h => exact .data r arr e _ hh hl fun i hi j hj => (h i hi j hj).keep wS fun _ _ => rfl
        · cases hB with
          | cells r arr e cs hh hl h =>
            obtain ⟨g1, g2⟩ := vmL_get h4
            exact .cells r arr e _ hh (g1 ▸ hl) fun i c hc => by
              obtain ⟨d, g3, g4⟩ := g2 i c hc
              exact (h i d g3).amV_ hr g4
        · subst h4
          cases hB with
          | obj r arr e _ hh h => exact .obj r arr e _ hh h
        · exact h4.elim
    sep := fun i i' b b' r hb hb' hn hn' e e' => by
      obtain ⟨q, c, h1, h2, h3, h4, h5⟩ := src i b hb hn
      obtain ⟨q', c', h1', h2', h3', h4', h5'⟩ := src i' b' hb' hn'
      have := hr.sep q q' c c' r h2 h2' h3 h3' (h5 ▸ e) (h5' ▸ e')
      subst this
      exact hinj i i' q h1 h1'
    off := fun i b r hb hn e hs => by
      obtain ⟨q, c, h1, h2, h3, h4, h5⟩ := src i b hb hn
      rcases hs with hs | ⟨_, k, c', g1, g2, g3, g4⟩
      · exact hr.off q c r h2 h3 (h5 ▸ e) hs
      · have := hr.sep q k c c' r h2 g1 h3 g2 (h5 ▸ e) g4
        subst this
        exact notIn h1 g3
    lt := fun r hs => by
      rcases hs with hs | ⟨_, k, c', g1, g2, g3, g4⟩
      · exact hr.lt r hs
      · exact hr.blk_lt g1 g2 g4
    glob := fun g d hg => by
      obtain ⟨h1, h2⟩ := hr.glob g d hg
      exact ⟨.inl h1, GlobAt.keep h1 h2 wS fun _ _ => rfl⟩ }
  have hargs : ∀ i c, dargs[i]? = some c → VR (smallβ ids β) H0.length (wideS conv ids H β S) w c (vs.getD i undef) := fun i c hc => by
    obtain ⟨d, h1, h2⟩ := hag i c hc
    rw [hlen0]
    exact (hv i d h1).amV_ hr h2
  refine (h.2 (smallβ ids β) (wideS conv ids H β S) w vs hr0 (hal ▸ hl) hargs).mono fun e w1 ⟨β1, S1, J, v, x, h1, h2, h3, h4⟩ => ?_
  have hJ : ids.length ≤ J.length := hlen0 ▸ h4.tr.le
  let S2 : Nat → Prop := fun b => S b ∨ (S1 b ∧ ¬ wideS conv ids H β S b)
  have hS1' : conv = false → ∀ b, S1 b → S2 b := fun hc b hb => by
    by_cases hw : wideS conv ids H β S b
    · rcases hw with h | ⟨h, _⟩
      · exact .inl h
      · rw [hc] at h; cases h
    · exact .inr ⟨hb, hw⟩
  let β2 : Nat → Option Nat := fun k => if k < H.length then β k else β1 (ids.length + (k - H.length))
  obtain ⟨hml, hmg⟩ := mergeB_get (shB conv ids H.length) hilt hinj hJ
  have hβ2 : ∀ k, k < J.length → β2 (shI ids H.length k) = β1 k ∧ shI ids H.length k < (mergeB (shB conv ids H.length) ids H J).length := fun k hk => by
    rw [hml]
    by_cases hki : k < ids.length
    · have hq := List.getElem?_eq_getElem hki
      rw [shI_lt ids _ k _ hq]
      have hlt := hilt _ (List.mem_of_getElem? hq)
      refine ⟨?_, by omega⟩
      show (if ids[k] < H.length then _ else _) = _
      rw [if_pos hlt, h4.tr.agree k (by show k < H0.length; omega)]
      simp [ctxOf, smallβ, hq]
    · rw [shI_ge ids _ k (by omega)]
      refine ⟨?_, by omega⟩
      show (if _ then _ else _) = _
      rw [if_neg (by omega)]
      congr 1
      omega
  have htr : Tr H.length β S w (mergeB (shB conv ids H.length) ids H J).length β2 S2 w1 :=
    ⟨fun k hk => if_pos hk, by rw [hml]; omega, fun _ h => .inl h, fun b hb => h4.tr.keep b (.inl hb), h4.tr.phys⟩
  -- what the small world has written of the old one
  have hM : ∀ r, (∃ k b, H0[k]? = some b ∧ b ≠ Blk.dead ∧ smallβ ids β k = some r) → ∃ i q c, ids[i]? = some q ∧ H[q]? = some c ∧ c ≠ Blk.dead ∧ β q = some r := fun r ⟨i, b, g1, g2, g3⟩ => by
    obtain ⟨q, c, k1, k2, k3, k4, k5⟩ := src i b g1 g2
    exact ⟨i, q, c, k1, k2, k3, k5 ▸ g3⟩
  -- the small heap's block behind a block of the merged heap
  have back : ∀ k b, (mergeB (shB conv ids H.length) ids H J)[k]? = some b → b ≠ .dead → (∃ i c, J[i]? = some c ∧ c ≠ .dead ∧ b = shB conv ids H.length c ∧ β2 k = β1 i ∧ k = shI ids H.length i) ∨ (k ∉ ids ∧ k < H.length ∧ H[k]? = some b ∧ β2 k = β k) := fun k b hb hn => by
    rcases hmg k b hb with ⟨i, c, g1, g2, rfl⟩ | ⟨g1, g2, g3⟩ | ⟨g1, c, g2, rfl⟩
    · have hk : k = shI ids H.length i := (shI_lt ids _ i k g1).symm
      exact .inl ⟨i, c, g2, shB_dead hn, rfl, by rw [hk]; exact (hβ2 i (List.getElem?_eq_some_iff.1 g2).1).1, hk⟩
    · exact .inr ⟨g1, g2, g3, if_pos g2⟩
    · have hk : k = shI ids H.length (ids.length + (k - H.length)) := by rw [shI_ge ids _ _ (by omega)]; omega
      exact .inl ⟨_, c, g2, shB_dead hn, rfl, by rw [hk, (hβ2 _ (List.getElem?_eq_some_iff.1 g2).1).1, ← hk], hk⟩
  -- a small block is none of the frame's
  have apart : ∀ i c k b r, J[i]? = some c → c ≠ .dead → β1 i = some r → k ∉ ids → H[k]? = some b → b ≠ .dead → β k = some r → False := fun i c k b r g1 g2 g3 g4 g5 g6 g7 => by
    rcases h4.new i c r g1 g2 g3 with hn | hn
    · have := hr.blk_lt g5 g6 g7
      exact absurd hn (by simp only [ctxOf]; omega)
    · obtain ⟨i', q, c', k1, k2, k3, k4⟩ := hM r hn
      have := hr.sep k q b c' r g5 k2 g6 k3 g7 k4
      subst this
      exact g4 (List.mem_of_getElem? k1)
  have hkeep : ∀ k b r, k ∉ ids → H[k]? = some b → b ≠ .dead → β k = some r → w1.heap[r]? = w.heap[r]? := fun k b r g1 g2 g3 g4 => by
    refine h4.evo.keep r (hr.blk_lt g2 g3 g4) fun hn => ?_
    obtain ⟨i', q, c', k1, k2, k3, k4⟩ := hM r hn
    have := hr.sep k q b c' r g2 k2 g3 k3 g4 k4
    subst this
    exact g1 (List.mem_of_getElem? k1)
  have newS : ∀ b, S2 b → S b ∨ w.heap.size ≤ b ∨ (∃ i q c, ids[i]? = some q ∧ H[q]? = some c ∧ c ≠ Blk.dead ∧ β q = some b) := fun b hb => by
    rcases hb with hb | ⟨hb, hw⟩
    · exact .inl hb
    · rcases h4.fix b hb with g | g | g
      · exact absurd g hw
      · exact .inr (.inl g)
      · exact .inr (.inr (hM b g))
  refine ⟨β2, S2, mergeB (shB conv ids H.length) ids H J, shV conv ids H.length v, x, h1, hk v J h2, h3.shV_ hβ2 hS1', ?_⟩
  exact {
    rel := {
      blk := fun k b hb => by
        by_cases hd : b = .dead
        · subst hd; exact .dead _
        · rcases back k b hb hd with ⟨i, c, g1, g2, rfl, g4, _⟩ | ⟨g1, g2, g3, g4⟩
          · rw [g4]; exact (h4.rel.blk i c g1).shB_ hβ2 hS1'
          · rw [g4]; exact (hr.blk k b g3).tr htr fun q hq _ => hkeep k b q g1 g3 hd hq
      sep := fun k k' b b' r hb hb' hn hn' e e' => by
        rcases back k b hb hn with ⟨i, c, g1, g2, rfl, g4, g5⟩ | ⟨g1, g2, g3, g4⟩
        · rcases back k' b' hb' hn' with ⟨i', c', g1', g2', rfl, g4', g5'⟩ | ⟨g1', g2', g3', g4'⟩
          · have := h4.rel.sep i i' c c' r g1 g1' g2 g2' (g4 ▸ e) (g4' ▸ e')
            subst this
            rw [g5, g5']
          · exact (apart i c k' b' r g1 g2 (g4 ▸ e) g1' g3' hn' (g4' ▸ e')).elim
        · rcases back k' b' hb' hn' with ⟨i', c', g1', g2', rfl, g4', g5'⟩ | ⟨g1', g2', g3', g4'⟩
          · exact (apart i' c' k b r g1' g2' (g4' ▸ e') g1 g3 hn (g4 ▸ e)).elim
          · exact hr.sep k k' b b' r g3 g3' hn hn' (g4 ▸ e) (g4' ▸ e')
      off := fun k b r hb hn e hs => by
        rcases back k b hb hn with ⟨i, c, g1, g2, rfl, g4, g5⟩ | ⟨g1, g2, g3, g4⟩
        · rcases hs with hs | ⟨hs, _⟩
          · exact h4.rel.off i c r g1 g2 (g4 ▸ e) (h4.tr.sub r (.inl hs))
          · exact h4.rel.off i c r g1 g2 (g4 ▸ e) hs
        · rcases newS r hs with hs | hs | ⟨i', q, c', k1, k2, k3, k4⟩
          · exact hr.off k b r g3 hn (g4 ▸ e) hs
          · have := hr.blk_lt g3 hn (g4 ▸ e)
            omega
          · have := hr.sep k q b c' r g3 k2 hn k3 (g4 ▸ e) k4
            subst this
            exact g1 (List.mem_of_getElem? k1)
      lt := fun r hs => by
        rcases hs with hs | ⟨hs, _⟩
        · exact Nat.lt_of_lt_of_le (hr.lt r hs) h4.evo.size
        · exact h4.rel.lt r hs
      glob := fun g d hg => by
        obtain ⟨g1, g2⟩ := hr.glob g d hg
        exact ⟨.inl g1, GlobAt.keep g1 g2 htr.sub htr.keep⟩ }
    evo := ⟨h4.evo.os, h4.evo.tape, h4.evo.output, h4.evo.size, fun b hb hm => h4.evo.keep b hb fun hn => by
      obtain ⟨i', q, c', k1, k2, k3, k4⟩ := hM b hn
      exact hm ⟨q, c', k2, k3, k4⟩⟩
    new := fun k b r hb hn e => by
      rcases back k b hb hn with ⟨i, c, g1, g2, rfl, g4, g5⟩ | ⟨g1, g2, g3, g4⟩
      · rcases h4.new i c r g1 g2 (g4 ▸ e) with hn | hn
        · exact .inl hn
        · obtain ⟨i', q, c', k1, k2, k3, k4⟩ := hM r hn
          exact .inr ⟨q, c', k2, k3, k4⟩
      · exact .inr ⟨k, b, g3, hn, g4 ▸ e⟩
    tr := htr
    fix := fun b hb => by
      rcases newS b hb with g | g | ⟨i', q, c', k1, k2, k3, k4⟩
      · exact .inl g
      · exact .inr (.inl g)
      · exact .inr (.inr ⟨q, c', k2, k3, k4⟩) }
/-- A call's end that gives up what it has made: it can be read only from here on. -/
theorem CallA.frozen {f : FuncId} {args : List AV} {K : AV → List Blk → Prop} (h : CallA P G f args [] fun v H => ∃ v', amV true [] H v v' ∧ K v' []) : CallA P G f args [] K :=
  ⟨h.1, fun β S w vs hr hl hv => (h.2 β S w vs hr hl hv).mono fun e w' ⟨β', S', H', v, x, h1, ⟨v', hm, hK⟩, h3, h4⟩ => by
    have hS : ∀ b, S' b → wideS true [] H' β' S' b := fun _ h => .inl h
    refine ⟨smallβ [] β', wideS true [] H' β' S', [], v', x, h1, hK, h3.amV_ h4.rel hm, ?_⟩
    exact {
      rel := {
        blk := fun k b hk => by simp at hk
        sep := fun k k' b b' r hk => by simp at hk
        off := fun k b r hk => by simp at hk
        lt := fun r hs => by
          rcases hs with hs | ⟨_, k, c, g1, g2, _, g4⟩
          · exact h4.rel.lt r hs
          · exact h4.rel.blk_lt g1 g2 g4
        glob := fun g d hg => by
          obtain ⟨g1, g2⟩ := h4.rel.glob g d hg
          exact ⟨.inl g1, GlobAt.keep g1 g2 hS fun _ _ => rfl⟩ }
      evo := h4.evo
      new := fun k b r hk => by simp at hk
      tr := ⟨fun k hk => absurd hk (Nat.not_lt_zero k), Nat.le_refl _, fun b hb => hS b (h4.tr.sub b hb), h4.tr.keep, h4.tr.phys⟩
      fix := fun b hb => by
        rcases hb with hb | ⟨_, k, c, g1, g2, _, g4⟩
        · exact h4.fix b hb
        · exact .inr (h4.new k c b g1 g2 g4) }⟩
end
end Go.AE
