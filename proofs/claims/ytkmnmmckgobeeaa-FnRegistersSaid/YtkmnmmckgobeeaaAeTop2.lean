/-
  Over the abstract evaluator: blocks renamed; a loop by an invariant; a body that gives a contract with clean results. No conditions.
-/
import Derived.Test.YtkmnmmckgobeeaaAeTop1
namespace Go.AE

/-! ### What matches what: the first is there, the second is asked -/
def veq : Value → Value → Prop
  | .int k n, .int k' m => kindEq k k' = true ∧ n = m
  | .bool a, .bool b => a = b
  | .string a, .string b => a = b
  | x, y => x = y
theorem veq_eq {x y : Value} (h : veq x y) : x = y := by
  unfold veq at h
  split at h
  · obtain ⟨h1, rfl⟩ := h; rw [kindEq_eq h1]
  · rw [h]
  · rw [h]
  · exact h
/-- Of the blocks sel the new ones are made, behind the first ne. -/
def selAt : List (Option Nat) → Nat → Option Nat
  | [], _ => none
  | x :: _, 0 => x
  | _ :: r, n + 1 => selAt r n
def idM (ne : Nat) (sel : List (Option Nat)) (k k' : Nat) : Bool :=
  bif Nat.blt k' ne then Nat.beq k k' else (match selAt sel (k' - ne) with | some q => Nat.beq q k | none => false)
def vmL (f : AV → AV → Prop) : List AV → List AV → Prop
  | [], [] => True
  | x :: r, y :: s => f x y ∧ vmL f r s
  | _, _ => False
def vm1 (ne : Nat) (sel : List (Option Nat)) : AV → AV → Prop
  | _, .un => True
  | .no, .no => True
  | .v x, .v y => veq x y
  | .nilsl, .nilsl => True
  | .nilsl, .sl _ _ len => len = 0
  | .ptr k j, .ptr k' j' => idM ne sel k k' = true ∧ j = j'
  | .eptr k sz i j, .eptr k' sz' i' j' => idM ne sel k k' = true ∧ sz = sz' ∧ i = i' ∧ j = j'
  | .sl k sz len, .sl k' sz' len' => idM ne sel k k' = true ∧ sz = sz' ∧ len = len'
  | .sub k sz lo len, .sub k' sz' lo' len' => idM ne sel k k' = true ∧ sz = sz' ∧ lo = lo' ∧ len = len'
  | .sl k sz len, .sub k' sz' lo' len' => idM ne sel k k' = true ∧ sz = sz' ∧ lo' = 0 ∧ len = len'
  | .ro d, .ro d' => d = d'
  | .rop d i j, .rop d' i' j' => d = d' ∧ i = i' ∧ j = j'
  | .rpc cs j, .rpc cs' j' => cs = cs' ∧ j = j'
  | .gl g, .gl g' => g = g'
  | .fn f [], .fn f' [] => f = f'
  | .ifc, .ifc => True
  | _, _ => False
/-- A part of a tuple: an aggregate or a cell. -/
def vmE (ne : Nat) (sel : List (Option Nat)) (a b : AV) : Prop :=
  match a, b with
  | .agg cs, .agg ds => vmL (vm1 ne sel) cs ds
  | a, b => vm1 ne sel a b
def vmV (ne : Nat) (sel : List (Option Nat)) (a b : AV) : Prop :=
  match a, b with
  | .agg cs, .agg ds => vmL (vm1 ne sel) cs ds
  | .tup cs, .tup ds => vmL (vmE ne sel) cs ds
  | .fn f cs, .fn g ds => f = g ∧ vmL (vmE ne sel) cs ds
  | a, b => vm1 ne sel a b
def blkM (ne : Nat) (sel : List (Option Nat)) (a b : Blk) : Prop :=
  match a, b with
  | _, .dead => True
  | .data d, .data d' => d = d'
  | .cells cs, .cells ds => vmL (vmV ne sel) cs ds
  | .obj p, .obj q => p = q
  | .data d, .cells ds => (0 < d.len ∧ ds.length ≤ d.len * d.sz) ∧ ∀ c ∈ ds, c = .un
  | _, _ => False
def isSel : List (Option Nat) → Nat → Bool
  | [], _ => false
  | some q :: r, k => Nat.beq q k || isSel r k
  | none :: r, k => isSel r k
def selOk : List (Option Nat) → Bool
  | [] => true
  | some q :: r => !isSel r q && selOk r
  | none :: r => selOk r
/-- The first blocks. -/
def lowsM (ne : Nat) (sel : List (Option Nat)) : Nat → List Blk → List Blk → Prop
  | _, _, [] => True
  | _, [], _ :: _ => False
  | k, b :: H, b' :: J => (match b' with
    | .dead => True
    | b' => isSel sel k = false ∧ blkM ne sel b b') ∧ lowsM ne sel (k + 1) H J
/-- The blocks that are made of those of sel. -/
noncomputable def highsM (ne : Nat) (sel : List (Option Nat)) (H : List Blk) : List (Option Nat) → List Blk → Prop
  | [], [] => True
  | some k :: s, b' :: J => blkM ne sel (nthB H k) b' ∧ highsM ne sel H s J
  | none :: s, b' :: J => (match b' with
    | .data d => d.len = 0
    | .dead => True
    | _ => False) ∧ highsM ne sel H s J
  | _, _ => False
noncomputable def heapM (ne : Nat) (sel : List (Option Nat)) (H J : List Blk) : Prop :=
  selOk sel = true ∧ (J.take ne).length = ne ∧ lowsM ne sel 0 H (J.take ne) ∧ highsM ne sel H sel (J.drop ne)

section
variable {P : Program} {G : Nat → Option D} {T : TypeId → TD}

theorem VR.agg_ {β : Nat → Option Nat} {n : Nat} {S : Nat → Prop} {w : World} {cs : List AV} {vs : Array Value} (hl : cs.length = vs.size) (h : ∀ i c, cs[i]? = some c → VR β n S w c (vs.getD i undef)) : VR β n S w (.agg cs) (.agg vs) := .agg cs vs hl h
theorem vmL_get {f : AV → AV → Prop} : ∀ {cs ds : List AV}, vmL f cs ds → cs.length = ds.length ∧ ∀ (i : Nat) (d : AV), ds[i]? = some d → ∃ c, cs[i]? = some c ∧ f c d
  | [], [], _ => ⟨rfl, fun i d h => by simp at h⟩
  | c :: cs, d :: ds, h => by
    obtain ⟨h1, h2⟩ := vmL_get h.2
    refine ⟨by simp [h1], fun i e he => ?_⟩
    cases i with
    | zero => simp at he; subst he; exact ⟨c, rfl, h.1⟩
    | succ i => simp at he; simpa using h2 i e he
  | [], _ :: _, h => h.elim
  | _ :: _, [], h => h.elim
/-- The ids of the renamed heap. -/
def renβ (ne : Nat) (sel : List (Option Nat)) (β : Nat → Option Nat) (k : Nat) : Option Nat :=
  if k < ne then β k else (selAt sel (k - ne)).bind β
theorem idM_ren {ne : Nat} {sel : List (Option Nat)} {k k' : Nat} (β : Nat → Option Nat) (h : idM ne sel k k' = true) : renβ ne sel β k' = β k ∧ k' < ne + sel.length := by
  have hs : ∀ (sel : List (Option Nat)) (n q : Nat), selAt sel n = some q → n < sel.length := by
    intro sel
    induction sel with
    | nil => intro n q h; simp [selAt] at h
    | cons x r ih =>
      intro n q h
      cases n with
      | zero => simp
      | succ n => simp only [selAt] at h; have := ih n q h; simp; omega
  unfold idM at h
  unfold renβ
  by_cases hk : k' < ne
  · have : Nat.blt k' ne = true := by rw [Nat.blt_eq]; exact hk
    rw [this] at h
    have : k = k' := Nat.eq_of_beq_eq_true h
    subst this
    rw [if_pos hk]
    exact ⟨rfl, by omega⟩
  · have : Nat.blt k' ne = false := by rw [← Bool.not_eq_true, Nat.blt_eq]; exact hk
    rw [this] at h
    simp only [cond_false] at h
    rw [if_neg hk]
    cases hq : selAt sel (k' - ne) with
    | none => rw [hq] at h; simp at h
    | some q =>
      rw [hq] at h
      have : q = k := Nat.eq_of_beq_eq_true h
      subst this
      exact ⟨rfl, by have := hs sel _ _ hq; omega⟩
theorem VR.ren1 {β : Nat → Option Nat} {n ne : Nat} {sel : List (Option Nat)} {S : Nat → Prop} {w : World} {v v' : AV} {x : Value} (h : VR β n S w v x) (hm : vm1 ne sel v v') : VR (renβ ne sel β) (ne + sel.length) S w v' x := by
  cases v' with
  | un => exact .un x
  | no => cases h <;> first | exact .no | exact hm.elim
  | v y => cases h with
    | v x h => have := veq_eq hm; subst this; exact .v _ h
    | _ => exact hm.elim
  | nilsl => cases h <;> first | exact .nilsl | exact hm.elim
  | ptr k' j' => cases h with
    | ptr k j r hk hb => obtain ⟨h1, rfl⟩ := hm; obtain ⟨h2, h3⟩ := idM_ren β h1; exact .ptr _ _ _ h3 (h2.trans hb)
    | _ => exact hm.elim
  | eptr k' sz' i' j' => cases h with
    | eptr k sz i j r hk hb => obtain ⟨h1, rfl, rfl, rfl⟩ := hm; obtain ⟨h2, h3⟩ := idM_ren β h1; exact .eptr _ _ _ _ _ h3 (h2.trans hb)
    | _ => exact hm.elim
  | sl k' sz' len' => cases h with
    | nilsl => have : len' = 0 := hm; subst this; exact .sl0 _ _ _
    | sl k sz len r cap hk hb hc hm' arr e hh hs => obtain ⟨h1, rfl, rfl⟩ := hm; obtain ⟨h2, h3⟩ := idM_ren β h1; exact .sl _ _ _ r cap h3 (h2.trans hb) hc hm' arr e hh hs
    | sl0 k sz a => obtain ⟨h1, rfl, rfl⟩ := hm; exact .sl0 _ _ _
    | _ => exact hm.elim
  | sub k' sz' lo' len' => cases h with
    | sub k sz lo len r cap hk hb hc hm' arr e hh hs => obtain ⟨h1, rfl, rfl, rfl⟩ := hm; obtain ⟨h2, h3⟩ := idM_ren β h1; exact .sub _ _ _ _ r cap h3 (h2.trans hb) hc hm' arr e hh hs
    | sub0 k sz lo a => obtain ⟨h1, rfl, rfl, rfl⟩ := hm; exact .sub0 _ _ _ _
    | sl k sz len r cap hk hb hc hm' arr e hh hs =>
      obtain ⟨h1, rfl, rfl, rfl⟩ := hm
      obtain ⟨h2, h3⟩ := idM_ren β h1
      have hx := VR.sub (β := renβ ne sel β) (n := ne + sel.length) (S := S) (w := w) k' sz 0 len r cap h3 (h2.trans hb) hc hm' arr e hh (by rw [Nat.zero_add]; exact hs)
      rw [Nat.zero_mul] at hx
      exact hx
    | sl0 k sz a => obtain ⟨h1, rfl, rfl, rfl⟩ := hm; exact .sub0 _ _ _ _
    | _ => exact hm.elim
  | ro d' => cases h with
    | ro d x h => have : d = d' := hm; subst this; exact .ro _ _ h
    | _ => exact hm.elim
  | rop d' i' j' => cases h with
    | rop d i j b off hS hd => obtain ⟨rfl, rfl, rfl⟩ := hm; exact .rop _ _ _ _ _ hS hd
    | _ => exact hm.elim
  | rpc cs' j' =>
    cases v with
    | rpc cs j => obtain ⟨rfl, rfl⟩ := hm; exact h.rpc_fixed fun _ h => h
    | _ => exact hm.elim
  | gl g' => cases h with
    | gl g => have : g = g' := hm; subst this; exact .gl _
    | _ => exact hm.elim
  | ifc => cases h with
    | ifc te p => exact .ifc te p
    | _ => exact hm.elim
  | fn f' cs' => cases h with
    | fn f cs vs hl h =>
      cases cs with
      | nil =>
        cases cs' with
        | nil => have : f = f' := hm; subst this; exact .fn _ _ _ hl fun i c hc => by simp at hc
        | cons _ _ => exact hm.elim
      | cons _ _ => cases cs' <;> exact hm.elim
    | _ => cases cs' <;> exact hm.elim
  | agg cs => cases h <;> exact hm.elim
  | tup cs => cases h <;> exact hm.elim
theorem VR.ren_all {β : Nat → Option Nat} {n ne : Nat} {sel : List (Option Nat)} {S : Nat → Prop} {w : World} {m : AV → AV → Prop} (one : ∀ v v' x, VR β n S w v x → m v v' → VR (renβ ne sel β) (ne + sel.length) S w v' x)
    {cs ds : List AV} {vs : Array Value} (hl : vmL m cs ds) (hv : ∀ i c, cs[i]? = some c → VR β n S w c (vs.getD i undef)) : ∀ i c, ds[i]? = some c → VR (renβ ne sel β) (ne + sel.length) S w c (vs.getD i undef) := fun i c hc => by
  obtain ⟨d, h1, h2⟩ := (vmL_get hl).2 i c hc
  exact one _ _ _ (hv i d h1) h2
theorem VR.renE {β : Nat → Option Nat} {n ne : Nat} {sel : List (Option Nat)} {S : Nat → Prop} {w : World} {v v' : AV} {x : Value} (h : VR β n S w v x) (hm : vmE ne sel v v') : VR (renβ ne sel β) (ne + sel.length) S w v' x := by
  unfold vmE at hm
  split at hm
  · obtain ⟨vs, rfl, hl, hv⟩ := h.agg_inv; exact .agg _ vs ((vmL_get hm).1 ▸ hl) (VR.ren_all (fun _ _ _ h hm => h.ren1 hm) hm hv)
  · exact h.ren1 hm
theorem VR.ren {β : Nat → Option Nat} {n ne : Nat} {sel : List (Option Nat)} {S : Nat → Prop} {w : World} {v v' : AV} {x : Value} (h : VR β n S w v x) (hm : vmV ne sel v v') : VR (renβ ne sel β) (ne + sel.length) S w v' x := by
  unfold vmV at hm
  split at hm
  · obtain ⟨vs, rfl, hl, hv⟩ := h.agg_inv; exact .agg _ vs ((vmL_get hm).1 ▸ hl) (VR.ren_all (fun _ _ _ h hm => h.ren1 hm) hm hv)
  · obtain ⟨vs, rfl, hl, hv⟩ := h.tup_inv; exact .tup _ vs ((vmL_get hm).1 ▸ hl) (VR.ren_all (fun _ _ _ h hm => h.renE hm) hm hv)
  · obtain ⟨rfl, hm⟩ := hm; obtain ⟨vs, rfl, hl, hv⟩ := h.fn_inv; exact .fn _ _ vs ((vmL_get hm).1 ▸ hl) (VR.ren_all (fun _ _ _ h hm => h.renE hm) hm hv)
  · exact h.ren1 hm
theorem BlkR.ren {β : Nat → Option Nat} {n ne : Nat} {sel : List (Option Nat)} {S : Nat → Prop} {w : World} {r : Option Nat} {b b' : Blk} (h : BlkR β n S w r b) (hm : blkM ne sel b b') : BlkR (renβ ne sel β) (ne + sel.length) S w r b' := by
  unfold blkM at hm
  split at hm
  · exact .dead _
  · subst hm
    cases h with
    | data0 _ h => exact .data0 _ h
    | data r arr e _ hh hl h => exact .data r arr e _ hh hl h
  · cases h with
    | cells r arr e cs hh hl h =>
      obtain ⟨h1, h2⟩ := vmL_get hm
      exact .cells r arr e _ hh (h1 ▸ hl) fun i c hc => by
        obtain ⟨d, h3, h4⟩ := h2 i c hc
        exact (h i d h3).ren h4
  · subst hm
    cases h with
    | obj r arr e _ hh h => exact .obj r arr e _ hh h
  · obtain ⟨⟨h1, h2⟩, h3⟩ := hm
    cases h with
    | data0 _ h => omega
    | data r arr e _ hh hl h => exact .cells r arr e _ hh (Nat.le_trans h2 hl) fun i c hc => by rw [h3 c (List.mem_of_getElem? hc)]; exact .un _
  · exact hm.elim
theorem lowsM_get {ne : Nat} {sel : List (Option Nat)} : ∀ {J H : List Blk} {k : Nat}, lowsM ne sel k H J → ∀ (i : Nat) (b' : Blk), J[i]? = some b' → b' ≠ .dead → ∃ b, H[i]? = some b ∧ isSel sel (k + i) = false ∧ blkM ne sel b b'
  | [], _, _, _, i, b', h1, _ => by simp at h1
  | b' :: J, [], _, h, _, _, _, _ => h.elim
  | c' :: J, c :: H, k, h, i, b', h1, h2 => by
    obtain ⟨h3, h4⟩ := h
    cases i with
    | zero =>
      simp at h1
      subst h1
      cases c' with
      | dead => exact absurd rfl h2
      | cells cs => exact ⟨c, rfl, h3.1, h3.2⟩
      | obj p => exact ⟨c, rfl, h3.1, h3.2⟩
      | data d => exact ⟨c, rfl, h3.1, h3.2⟩
    | succ i =>
      simp at h1
      obtain ⟨b, h5, h6, h7⟩ := lowsM_get h4 i b' h1 h2
      exact ⟨b, by simpa using h5, by rw [← h6]; congr 1; omega, h7⟩
theorem highsM_get {ne : Nat} {sel : List (Option Nat)} {H : List Blk} : ∀ {s : List (Option Nat)} {J : List Blk}, highsM ne sel H s J → J.length = s.length ∧ ∀ (i : Nat) (b' : Blk), J[i]? = some b' → b' ≠ .dead →
    (∃ k, s[i]? = some (some k) ∧ blkM ne sel (nthB H k) b') ∨ (s[i]? = some none ∧ ∃ d, b' = .data d ∧ d.len = 0)
  | [], [], _ => ⟨rfl, fun i b' h => by simp at h⟩
  | some k :: s, c' :: J, h => by
    obtain ⟨h1, h2⟩ := highsM_get h.2
    refine ⟨by simp [h1], fun i b' h3 h4 => ?_⟩
    cases i with
    | zero => simp at h3; subst h3; exact .inl ⟨k, rfl, h.1⟩
    | succ i => simp at h3; simpa using h2 i b' h3 h4
  | none :: s, c' :: J, h => by
    obtain ⟨h1, h2⟩ := highsM_get h.2
    refine ⟨by simp [h1], fun i b' h3 h4 => ?_⟩
    cases i with
    | zero =>
      simp at h3; subst h3
      cases c' with
      | dead => exact absurd rfl h4
      | data d => exact .inr ⟨rfl, d, rfl, h.1⟩
      | cells _ => exact h.1.elim
      | obj _ => exact h.1.elim
    | succ i => simp at h3; simpa using h2 i b' h3 h4
  | [], _ :: _, h => h.elim
  | some _ :: _, [], h => h.elim
  | none :: _, [], h => h.elim
theorem selAt_get (sel : List (Option Nat)) : ∀ n, selAt sel n = sel[n]?.join := by
  induction sel with
  | nil => intro n; rfl
  | cons x r ih => intro n; cases n with
    | zero => rfl
    | succ n => simp only [selAt]; rw [ih]; rfl
theorem isSel_mem (sel : List (Option Nat)) (k : Nat) : isSel sel k = true ↔ some k ∈ sel := by
  induction sel with
  | nil => simp [isSel]
  | cons x r ih =>
    cases x with
    | none => simp [isSel, ih]
    | some q =>
      simp only [isSel, Bool.or_eq_true, ih, List.mem_cons, Option.some.injEq]
      constructor
      · rintro (h | h)
        · exact .inl (Nat.eq_of_beq_eq_true h).symm
        · exact .inr h
      · rintro (rfl | h)
        · exact .inl (Nat.beq_refl _)
        · exact .inr h
theorem selOk_inj : ∀ {sel : List (Option Nat)}, selOk sel = true → ∀ i j k : Nat, sel[i]? = some (some k) → sel[j]? = some (some k) → i = j
  | [], _, i, j, k, h, _ => by simp at h
  | x :: r, h, i, j, k, h1, h2 => by
    have hr : selOk r = true := by
      cases x with
      | none => exact h
      | some q => simp only [selOk, Bool.and_eq_true] at h; exact h.2
    have hx : ∀ q, x = some q → some q ∉ r := fun q hq hm => by
      subst hq
      simp only [selOk, Bool.and_eq_true, Bool.not_eq_true'] at h
      have := (isSel_mem r q).2 hm
      rw [h.1] at this; cases this
    cases i with
    | zero =>
      cases j with
      | zero => rfl
      | succ j => simp at h1 h2; exact absurd (List.mem_of_getElem? h2) (hx k h1)
    | succ i =>
      cases j with
      | zero => simp at h1 h2; exact absurd (List.mem_of_getElem? h1) (hx k h2)
      | succ j => simp at h1 h2; rw [selOk_inj hr i j k h1 h2]
/-- The heap with its blocks renamed. -/
theorem HS.ren {C : Ctx} {β : Nat → Option Nat} {S : Nat → Prop} {H J : List Blk} {w : World} {ne : Nat} {sel : List (Option Nat)} (h : HS G C β S H w) (hn : C.n0 ≤ ne) (hm : heapM ne sel H J) :
    J.length = ne + sel.length ∧ HS G C (renβ ne sel β) S J w := by
  obtain ⟨h1, h2, h3, h4⟩ := hm
  obtain ⟨h5, h6⟩ := highsM_get h4
  have hlen : J.length = ne + sel.length := by
    rw [List.length_take] at h2
    rw [List.length_drop] at h5
    omega
  -- a living block comes of a living one
  have src : ∀ (k' : Nat) (b' : Blk), J[k']? = some b' → b' ≠ .dead → (∃ (k : Nat) (b : Blk), H[k]? = some b ∧ blkM ne sel b b' ∧ renβ ne sel β k' = β k ∧ ((k' < ne ∧ k = k' ∧ isSel sel k = false) ∨ (ne ≤ k' ∧ sel[k' - ne]? = some (some k)))) ∨ (renβ ne sel β k' = none ∧ ∃ d, b' = .data d ∧ d.len = 0) := by
    intro k' b' hk hb
    by_cases hlt : k' < ne
    · obtain ⟨b, h7, h8, h9⟩ := lowsM_get h3 k' b' (by rw [List.getElem?_take, if_pos hlt]; exact hk) hb
      rw [Nat.zero_add] at h8
      exact .inl ⟨k', b, h7, h9, by unfold renβ; rw [if_pos hlt], .inl ⟨hlt, rfl, h8⟩⟩
    · have hd : (J.drop ne)[k' - ne]? = some b' := by rw [List.getElem?_drop]; rwa [show ne + (k' - ne) = k' by omega]
      rcases h6 (k' - ne) b' hd hb with ⟨k, h7, h8⟩ | ⟨h7, h8⟩
      · refine .inl ⟨k, nthB H k, ?_, h8, ?_, .inr ⟨by omega, h7⟩⟩
        · rw [nthB_eq, List.getD_eq_getElem?_getD]
          cases hq : H[k]? with
          | some b => rfl
          | none =>
            rw [nthB_eq, List.getD_eq_getElem?_getD, hq] at h8
            cases b' with
            | dead => exact absurd rfl hb
            | _ => exact h8.elim
        · unfold renβ; rw [if_neg hlt, selAt_get, h7]; rfl
      · exact .inr ⟨by unfold renβ; rw [if_neg hlt, selAt_get, h7]; rfl, h8⟩
  have alive : ∀ {b b' : Blk}, blkM ne sel b b' → b' ≠ .dead → b ≠ .dead := by
    intro b b' hm hb hd
    subst hd
    cases b' with
    | dead => exact hb rfl
    | _ => exact hm.elim
  refine ⟨hlen, ?_⟩
  exact {
    rel := {
      blk := fun k' b' hk => by
        by_cases hb : b' = .dead
        · subst hb; exact .dead _
        · rw [hlen]
          rcases src k' b' hk hb with ⟨k, b, h7, h8, h9, _⟩ | ⟨h7, d, rfl, h8⟩
          · rw [h9]; exact (h.rel.blk k b h7).ren h8
          · rw [h7]; exact .data0 d h8
      sep := fun k k' b b' r hk hk' hb hb' e e' => by
        rcases src k b hk hb with ⟨q, c, h7, h8, h9, h10⟩ | ⟨h7, _⟩
        · rcases src k' b' hk' hb' with ⟨q', c', h7', h8', h9', h10'⟩ | ⟨h7', _⟩
          · rw [h9] at e
            rw [h9'] at e'
            have hq := h.rel.sep q q' c c' r h7 h7' (alive h8 hb) (alive h8' hb') e e'
            subst hq
            rcases h10 with ⟨l1, rfl, l2⟩ | ⟨l1, l2⟩
            · rcases h10' with ⟨m1, m3, m2⟩ | ⟨m1, m2⟩
              · exact m3
              · have := (isSel_mem sel q).2 (List.mem_of_getElem? m2)
                rw [l2] at this; cases this
            · rcases h10' with ⟨m1, m3, m2⟩ | ⟨m1, m2⟩
              · have := (isSel_mem sel q).2 (List.mem_of_getElem? l2)
                rw [m2] at this; cases this
              · have := selOk_inj h1 _ _ _ l2 m2
                omega
          · rw [h7'] at e'; cases e'
        · rw [h7] at e; cases e
      off := fun k b r hk hb e => by
        rcases src k b hk hb with ⟨q, c, h7, h8, h9, h10⟩ | ⟨h7, _⟩
        · rw [h9] at e; exact h.rel.off q c r h7 (alive h8 hb) e
        · rw [h7] at e; cases e
      lt := h.rel.lt
      glob := h.rel.glob }
    evo := h.evo
    new := fun k b r hk hb e => by
      rcases src k b hk hb with ⟨q, c, h7, h8, h9, h10⟩ | ⟨h7, _⟩
      · rw [h9] at e; exact h.new q c r h7 (alive h8 hb) e
      · rw [h7] at e; cases e
    tr := ⟨fun k hk => by
      have : renβ ne sel β k = β k := by unfold renβ; rw [if_pos (Nat.lt_of_lt_of_le hk hn)]
      rw [this]; exact h.tr.agree k hk, by omega, h.tr.sub, h.tr.keep, h.tr.phys⟩
    fix := h.fix }

/-! ### Loops -/
/-- A frame of n slots of which the ones in ks alone are known. -/
noncomputable def mkF (n : Nat) (ks : List (Nat × AV)) : List AV := ks.foldl (fun fr p => fr.set p.1 p.2) (List.replicate n .un)
noncomputable def pick (fr : List AV) (ks : List Nat) : List AV := ks.map (nth fr)
theorem mkF_length (n : Nat) (ks : List (Nat × AV)) : (mkF n ks).length = n := by
  unfold mkF
  have : ∀ (ks : List (Nat × AV)) (l : List AV), (ks.foldl (fun fr p => fr.set p.1 p.2) l).length = l.length := fun ks => by
    induction ks with
    | nil => intro l; rfl
    | cons p r ih => intro l; simp [ih]
  simp [this]
theorem mkF_get (n : Nat) (ks : List (Nat × AV)) (i : Nat) (v : AV) (h : (mkF n ks)[i]? = some v) : v = .un ∨ (i, v) ∈ ks := by
  have gen : ∀ (ks : List (Nat × AV)) (l : List AV), (ks.foldl (fun fr p => fr.set p.1 p.2) l)[i]? = some v → l[i]? = some v ∨ (i, v) ∈ ks := fun ks => by
    induction ks with
    | nil => intro l hl; exact .inl hl
    | cons p r ih =>
      intro l hl
      rcases ih _ hl with h1 | h1
      · by_cases hp : p.1 = i
        · subst hp
          by_cases hlt : p.1 < l.length
          · rw [List.getElem?_set_self hlt] at h1
            cases h1
            exact .inr (by simp)
          · rw [List.getElem?_eq_none (by simpa using hlt)] at h1; cases h1
        · rw [List.getElem?_set_ne hp] at h1; exact .inl h1
      · exact .inr (by simp [h1])
  rcases gen ks _ h with h1 | h1
  · rw [List.getElem?_replicate] at h1
    split at h1
    · cases h1; exact .inl rfl
    · cases h1
  · exact .inr h1
/-- The state is as a loop's head asks. -/
noncomputable def AtHead (ne n : Nat) (ks : List Nat) (vals : List AV) (J : List Blk) (fr : List AV) (H : List Blk) : Prop :=
  Nat.beq fr.length n = true ∧ ∃ sel, vmL (vmV ne sel) (pick fr ks) vals ∧ heapM ne sel H J
theorem FR.head {C : Ctx} {β : Nat → Option Nat} {S : Nat → Prop} {w : World} {fr : List AV} {a : Act} {H J : List Blk} {ne n : Nat} {ks : List Nat} {vals : List AV} (hf : FR β H.length S w fr a) (hs : HS G C β S H w) (hn : C.n0 ≤ ne) (hh : AtHead ne n ks vals J fr H) :
    ∃ β', FR β' J.length S w (mkF n (ks.zip vals)) a ∧ HS G C β' S J w := by
  obtain ⟨h1, sel, h2, h3⟩ := hh
  obtain ⟨h4, h5⟩ := hs.ren hn h3
  obtain ⟨h6, h7⟩ := vmL_get h2
  refine ⟨_, ⟨hf.1, by rw [mkF_length]; exact (Nat.eq_of_beq_eq_true h1) ▸ hf.2.1, fun i v hv => ?_⟩, h5⟩
  rcases mkF_get n _ i v hv with rfl | hm
  · exact .un _
  · obtain ⟨q, hq⟩ := List.getElem?_of_mem hm
    rw [List.getElem?_zip_eq_some] at hq
    obtain ⟨q1, q2⟩ := hq
    obtain ⟨c, q3, q4⟩ := h7 q v q2
    simp only [pick, List.getElem?_map, q1, Option.map_some, Option.some.injEq] at q3
    subst q3
    rw [h4]
    exact (nth_vr hf.2.1 hf.2.2 i).ren q4
theorem least (p : Nat → Prop) : ∀ n, p n → ∃ m, p m ∧ ∀ k, p k → m ≤ k := by
  intro n
  induction n using Nat.strongRecOn with
  | _ n ih =>
    intro hn
    by_cases h : ∃ k, k < n ∧ p k
    · obtain ⟨k, hk, hp⟩ := h
      exact ih k hk hp
    · exact ⟨n, hn, fun k hk => by
        rcases Nat.lt_or_ge k n with hlt | hge
        · exact absurd ⟨k, hlt, hk⟩ h
        · exact hge⟩
theorem wp_loop_x {c : Code} {Q : Exit → Act → World → Prop} {α : Type} (I : α → Act → World → Prop) (μ : α → Nat) {a : Act} {w : World} (x0 : α) (h0 : I x0 a w)
    (round : ∀ x a w, I x a w → c.wp P (Exit.then (fun a' w' => ∃ x', I x' a' w' ∧ μ x' < μ x) Q) a w) : (Code.loop c).wp P Q a w := by
  let pr (a : Act) (w : World) (m : Nat) : Prop := ∃ x, I x a w ∧ μ x = m
  let ms (a : Act) (w : World) : Nat := Classical.epsilon fun m => pr a w m ∧ ∀ k, pr a w k → m ≤ k
  have hms : ∀ a w x, I x a w → pr a w (ms a w) ∧ ∀ k, pr a w k → ms a w ≤ k := fun a w x hx => Classical.epsilon_spec (least (pr a w) (μ x) ⟨x, hx, rfl⟩)
  refine wp_loop (fun a w => ∃ x, I x a w) ms ⟨x0, h0⟩ fun a w ⟨x, hx⟩ => ?_
  obtain ⟨⟨y, hy, hym⟩, _⟩ := hms a w x hx
  refine wp_mono (round y a w hy) fun e a' w' hq => ?_
  cases e with
  | normal =>
    obtain ⟨x', h1, h2⟩ := hq
    refine ⟨⟨x', h1⟩, ?_⟩
    have := (hms a' w' x' h1).2 (μ x') ⟨x', h1, rfl⟩
    omega
  | _ => exact hq
theorem loop_rule (hT : TabOK P T) {c : Code} {fr : List AV} {H : List Blk} {K : Ex → List AV → List Blk → Prop} {α : Type} (Inv : α → Prop) (n ne : Nat) (ks : List Nat) (vals : α → List AV) (J : α → List Blk) (μ : α → Nat) (x0 : α)
    (hne : H.length ≤ ne) (hi : Inv x0) (h0 : AtHead ne n ks (vals x0) (J x0) fr H)
    (step : ∀ x, Inv x → avsK (mkF n (ks.zip (vals x))) fun fr' => codeA T G (CallA P G) (LoopA P G) (DrawA P G) c fr' (J x) fun e fr'' H'' => match e with
      | .normal => ∃ x', Inv x' ∧ AtHead ne n ks (vals x') (J x') fr'' H'' ∧ μ x' < μ x
      | .exit i => K (.exit i) fr'' H''
      | .ret => K .ret fr'' H'') : LoopA P G c fr H K := by
  intro C β S a w hf hs
  have hn : C.n0 ≤ ne := Nat.le_trans hs.tr.le hne
  obtain ⟨β0, f0, s0⟩ := hf.head hs hn h0
  refine wp_loop_x (fun x a w => Inv x ∧ ∃ β S, FR β (J x).length S w (mkF n (ks.zip (vals x))) a ∧ HS G C β S (J x) w) μ x0 ⟨hi, β0, S, f0, s0⟩ fun x a w ⟨hx, β', S', h1, h2⟩ => ?_
  have hst := step x hx
  rw [avsK_eq] at hst
  refine wp_mono (codeA_sound hT c _ _ _ hst C β' S' a w h1 h2) fun e a' w' hp => ?_
  cases e with
  | normal =>
    obtain ⟨β'', S'', fr'', H'', h3, h4, x', h7, h5, h6⟩ := hp
    obtain ⟨β3, f3, s3⟩ := h3.head h4 hn h5
    exact ⟨x', ⟨h7, β3, S'', f3, s3⟩, h6⟩
  | exit i => exact hp
  | ret => exact hp
  | goto l => exact hp.elim
  | panic ch => exact hp.elim
  | outgrown => exact hp.elim

/-- What a body ends with matches what is asked. -/
noncomputable def Ends (ne : Nat) (K : AV → List Blk → Prop) (v : AV) (H : List Blk) : Prop := ∃ sel v' J, vmV ne sel v v' ∧ heapM ne sel H J ∧ K v' J
theorem CallA.ends {f : FuncId} {args : List AV} {H : List Blk} {K : AV → List Blk → Prop} (h : CallA P G f args H (Ends H.length K)) : CallA P G f args H K :=
  ⟨h.1, fun β S w vs hr hl hv => (h.2 β S w vs hr hl hv).mono fun _ _ ⟨_, S', H', _, x, h1, ⟨sel, v', J, m1, m2, m3⟩, h3, h4⟩ => by
    obtain ⟨h5, h6⟩ := h4.ren (Nat.le_refl _) m2
    exact ⟨_, S', J, v', x, h1, m3, h5 ▸ h3.ren m1, h6⟩⟩
end
end Go.AE
