/-
  Over the abstract evaluator: a body gives a contract; a loop by an invariant; a contract weakened, cleaned of what is no more reached, and used in a larger heap. Over the abstract evaluator: blocks renamed; a loop by an invariant; a body that gives a contract with clean results. Over the abstract evaluator: a contract that is proved in a small heap holds in a larger one. A region that draws its order: operations that look at nothing, operations that only read, and operations that write; one walk in one order serves every order, if the order's Bool holds. Over the abstract evaluator: a region that draws its order, by one walk in one order; calls that only read and hand back plain values. Over the abstract evaluator: a region that draws its order, where no one order serves: a tree of orders; the tree is reckoned off the region's edges. Over the abstract evaluator: the forms in which contracts are used. Over the abstract evaluator: contracts of calls that make memory or change it, used at the caller's own heap, with what comes written out. No conditions but those in the statements.
-/
import Derived.Test.YtenofbabiacacaaGreatAeA
import Derived.Deep.Quiet
import Derived.StillTail
set_option linter.unusedVariables false
set_option linter.unusedSimpArgs false
namespace Go.AE

section
variable {P : Program} {G : Nat → Option D} {T : TypeId → TD}

theorem CallA.mono {f : FuncId} {args : List AV} {H : List Blk} {K K' : AV → List Blk → Prop} (h : CallA P G f args H K) (hk : ∀ v H', K v H' → K' v H') : CallA P G f args H K' :=
  ⟨h.1, fun β S w vs hr hl hv => (h.2 β S w vs hr hl hv).mono fun _ _ ⟨β', S', H', v, x, h1, h2, h3, h4⟩ => ⟨β', S', H', v, x, h1, hk _ _ h2, h3, h4⟩⟩

/-! ### Bodies -/
def resSem (tmps : Array Value) : ResultVar → Sem Value
  | .tmp t => pure (tmps.getD t undef)
  | .cell c t => do loadVar t (← asAddr (tmps.getD c undef))
theorem results_eq (fn : Func) (tmps : Array Value) : results fn tmps = (do let vs ← fn.results.mapM (resSem tmps); pure (if h : vs.size = 1 then vs[0] else .tuple vs)) := by
  unfold results
  congr 1
theorem resA_sound (hT : TabOK P T) {β : Nat → Option Nat} {S : Nat → Prop} {H : List Blk} {w : World} (hr : Rel G β S H w) {fr : List AV} {a : Act} (hf : FR β H.length S w fr a) {r : ResultVar} {K : AV → Prop} (h : resA T H fr r K) :
    ∃ v x, K v ∧ VR β H.length S w v x ∧ (resSem a.tmps r).run P w = .ok x w := by
  cases r with
  | tmp t =>
    simp only [resA, avK_eq] at h
    exact ⟨_, _, h, nth_vr hf.2.1 hf.2.2 t, rfl⟩
  | cell c t =>
    simp only [resA] at h
    obtain ⟨v, u, h1, h2, h3⟩ := loadA_sound hT h hr (nth_vr hf.2.1 hf.2.2 c)
    have h3 := h3 w (Evo.refl _ _)
    refine ⟨v, u, h1, h2, ?_⟩
    simp only [resSem]
    generalize a.tmps.getD c undef = x at h3
    cases x with
    | pointer q =>
      cases q with
      | none => simp [Instr.loadAt, Instr.sureAddr] at h3
      | some q => simpa [Instr.loadAt, Instr.sureAddr, asAddr] using h3
    | _ => simp [Instr.loadAt, Instr.sureAddr] at h3
theorem ressA_sound (hT : TabOK P T) {β : Nat → Option Nat} {S : Nat → Prop} {H : List Blk} {w : World} (hr : Rel G β S H w) {fr : List AV} {a : Act} (hf : FR β H.length S w fr a) :
    ∀ (l : List ResultVar) (K : List AV → Prop), ressA T H fr l K → ∃ vs : List AV, ∃ xs : List Value, K vs ∧ vs.length = xs.length ∧ (∀ i c, vs[i]? = some c → VR β H.length S w c (xs.getD i undef)) ∧
      (l.mapM (resSem a.tmps)).run P w = .ok xs w
  | [], K, h => ⟨[], [], h, rfl, fun i c hc => by simp at hc, by simp⟩
  | r :: rest, K, h => by
    have h' : resA T H fr r (fun v => ressA T H fr rest fun vs => K (v :: vs)) := h
    obtain ⟨v, x, h1, h2, h3⟩ := resA_sound hT hr hf h'
    obtain ⟨vs, xs, h4, h5, h6, h7⟩ := ressA_sound hT hr hf rest _ h1
    refine ⟨v :: vs, x :: xs, h4, by simp [h5], fun i c hc => ?_, ?_⟩
    · cases i with
      | zero => simp at hc; subst hc; exact h2
      | succ i => simp at hc; simpa using h6 i c hc
    · simp only [List.mapM_cons, Sem.run_bind, h3, h7, Result.andThen_ok, Sem.run_pure]
theorem resultsA_sound (hT : TabOK P T) {β : Nat → Option Nat} {S : Nat → Prop} {H : List Blk} {w : World} (hr : Rel G β S H w) {fr : List AV} {a : Act} (hf : FR β H.length S w fr a) {fn : Func} {K : AV → Prop} (h : resultsA T fn H fr K) :
    ∃ v x, K v ∧ VR β H.length S w v x ∧ (results fn a.tmps).run P w = .ok x w := by
  obtain ⟨vs, xs, h1, h2, h3, h4⟩ := ressA_sound hT hr hf _ _ h
  have hrun : (results fn a.tmps).run P w = .ok (if h : xs.toArray.size = 1 then xs.toArray[0] else .tuple xs.toArray) w := by
    rw [results_eq, Sem.run_bind, Array.mapM_eq_mapM_toList, Sem.run_map, h4]
    simp only [Result.andThen_ok, Sem.run_pure]
  split at h1
  · rename_i v
    match xs, h2, h3, hrun with
    | [x], _, h3, hrun => exact ⟨v, x, h1, by simpa using h3 0 v rfl, hrun⟩
  · rename_i hne
    refine ⟨_, .tuple xs.toArray, h1, .tup _ _ (by simpa using h2) fun i c hc => ?_, ?_⟩
    · have : xs.toArray.getD i undef = xs.getD i undef := by rw [Array.getD_eq_getD_getElem?, List.getD_eq_getElem?_getD]; simp
      rw [this]; exact h3 i c hc
    · have hn1 : ¬ xs.toArray.size = 1 := fun h1s => by
        have : vs.length = 1 := by rw [h2]; simpa using h1s
        match vs, this, hne with
        | [v], _, hne => exact hne v rfl
      rw [hrun, dif_neg hn1]
/-- A body gives a contract. -/
theorem callA_of_body (hT : TabOK P T) {f : FuncId} {fn : Func} {args : List AV} {H : List Blk} {K : AV → List Blk → Prop} (hf : P.funcs[f]? = some fn) (hn : (fn.name == "runtime.NumGoroutine") = false)
    (h : bodyA T G (CallA P G) (LoopA P G) (DrawA P G) fn args H K) : CallA P G f args H K := by
  unfold bodyA at h
  split at h
  · rename_i c hb
    rw [avsK_eq] at h
    refine ⟨⟨fn, hf, by rw [hb]; rfl, hn⟩, fun β S w vs hr hl hv => ?_⟩
    refine calls_of_wp hf hb ?_
    have hfr : FR β H.length S w (args ++ List.replicate (fn.ntmps - args.length) .no) { tmps := vs ++ Array.replicate (fn.ntmps - vs.size) undef, defers := [] } := by
      refine ⟨rfl, by simp [hl], fun i v hiv => ?_⟩
      by_cases hi : i < args.length
      · rw [List.getElem?_append_left hi] at hiv
        have := hv i v hiv
        rw [Array.getD_eq_getD_getElem?] at this ⊢
        rwa [Array.getElem?_append_left (by omega)]
      · rw [List.getElem?_append_right (by omega), List.getElem?_replicate] at hiv
        split at hiv
        · cases hiv
          rw [Array.getD_eq_getD_getElem?, Array.getElem?_append_right (by omega), Array.getElem?_replicate]
          split <;> exact .no
        · cases hiv
    refine wp_mono (codeA_sound hT c _ _ _ h (ctxOf β S H w) β S _ w hfr (HS.start hr)) fun e a w' hp => ?_
    have fin : ∀ {β' S' fr' H'}, FR β' H'.length S' w' fr' a → HS G (ctxOf β S H w) β' S' H' w' → resultsA T fn H' fr' (fun v => K v H') →
        a.defers = [] ∧ ∃ v, (results fn a.tmps).run P w' = .ok v w' ∧ ∃ β' S' H' v' x, Ending.returned v = .returned x ∧ K v' H' ∧ VR β' H'.length S' w' v' x ∧ HS G (ctxOf β S H w) β' S' H' w' := by
      intro β' S' fr' H' h1 h2 h3
      obtain ⟨v, x, hk, hvx, hrun⟩ := resultsA_sound hT h2.rel h1 h3
      exact ⟨h1.1, x, hrun, β', S', H', v, x, rfl, hk, hvx, h2⟩
    cases e with
    | normal => obtain ⟨β', S', fr', H', h1, h2, h3⟩ := hp; exact fin h1 h2 h3
    | ret => obtain ⟨β', S', fr', H', h1, h2, h3⟩ := hp; exact fin h1 h2 h3
    | exit i => obtain ⟨β', S', fr', H', h1, h2, h3⟩ := hp; exact h3.elim
    | goto l => exact hp.elim
    | panic ch => exact hp.elim
    | outgrown => exact hp.elim
  · exact h.elim

end
end Go.AE
namespace Go.AE

/-! ### What matches what: the first is there, the second is asked -/
def veq : Value → Value → Prop
  | .int k n, .int k' m => kindEq k k' = true ∧ n = m
  | .bool a, .bool b => a = b
  | .string a, .string b => a = b
  | x, y => x = y
theorem veq_eq {x y : Value} (h : veq x y) : x = y := by
  unfold veq at h
  split at h
  · obtain ⟨h1, rfl⟩ := h; rw [kindEq_eq h1]
  · rw [h]
  · rw [h]
  · exact h
/-- Of the blocks sel the new ones are made, behind the first ne. -/
def selAt : List (Option Nat) → Nat → Option Nat
  | [], _ => none
  | x :: _, 0 => x
  | _ :: r, n + 1 => selAt r n
def idM (ne : Nat) (sel : List (Option Nat)) (k k' : Nat) : Bool :=
  bif Nat.blt k' ne then Nat.beq k k' else (match selAt sel (k' - ne) with | some q => Nat.beq q k | none => false)
def vmL (f : AV → AV → Prop) : List AV → List AV → Prop
  | [], [] => True
  | x :: r, y :: s => f x y ∧ vmL f r s
  | _, _ => False
def vm1 (ne : Nat) (sel : List (Option Nat)) : AV → AV → Prop
  | _, .un => True
  | .no, .no => True
  | .v x, .v y => veq x y
  | .nilsl, .nilsl => True
  | .nilsl, .sl _ _ len => len = 0
  | .ptr k j, .ptr k' j' => idM ne sel k k' = true ∧ j = j'
  | .eptr k sz i j, .eptr k' sz' i' j' => idM ne sel k k' = true ∧ sz = sz' ∧ i = i' ∧ j = j'
  | .sl k sz len, .sl k' sz' len' => idM ne sel k k' = true ∧ sz = sz' ∧ len = len'
  | .sub k sz lo len, .sub k' sz' lo' len' => idM ne sel k k' = true ∧ sz = sz' ∧ lo = lo' ∧ len = len'
  | .sl k sz len, .sub k' sz' lo' len' => idM ne sel k k' = true ∧ sz = sz' ∧ lo' = 0 ∧ len = len'
  | .ro d, .ro d' => d = d'
  | .rop d i j, .rop d' i' j' => d = d' ∧ i = i' ∧ j = j'
  | .rpc cs j, .rpc cs' j' => cs = cs' ∧ j = j'
  | .gl g, .gl g' => g = g'
  | .fn f [], .fn f' [] => f = f'
  | .ifc, .ifc => True
  | _, _ => False
/-- A part of a tuple: an aggregate or a cell. -/
def vmE (ne : Nat) (sel : List (Option Nat)) (a b : AV) : Prop :=
  match a, b with
  | .agg cs, .agg ds => vmL (vm1 ne sel) cs ds
  | a, b => vm1 ne sel a b
def vmV (ne : Nat) (sel : List (Option Nat)) (a b : AV) : Prop :=
  match a, b with
  | .agg cs, .agg ds => vmL (vm1 ne sel) cs ds
  | .tup cs, .tup ds => vmL (vmE ne sel) cs ds
  | .fn f cs, .fn g ds => f = g ∧ vmL (vmE ne sel) cs ds
  | a, b => vm1 ne sel a b
def blkM (ne : Nat) (sel : List (Option Nat)) (a b : Blk) : Prop :=
  match a, b with
  | _, .dead => True
  | .data d, .data d' => d = d'
  | .cells cs, .cells ds => vmL (vmV ne sel) cs ds
  | .obj p, .obj q => p = q
  | .data d, .cells ds => (0 < d.len ∧ ds.length ≤ d.len * d.sz) ∧ ∀ c ∈ ds, c = .un
  | _, _ => False
def isSel : List (Option Nat) → Nat → Bool
  | [], _ => false
  | some q :: r, k => Nat.beq q k || isSel r k
  | none :: r, k => isSel r k
def selOk : List (Option Nat) → Bool
  | [] => true
  | some q :: r => !isSel r q && selOk r
  | none :: r => selOk r
/-- The first blocks. -/
def lowsM (ne : Nat) (sel : List (Option Nat)) : Nat → List Blk → List Blk → Prop
  | _, _, [] => True
  | _, [], _ :: _ => False
  | k, b :: H, b' :: J => (match b' with
    | .dead => True
    | b' => isSel sel k = false ∧ blkM ne sel b b') ∧ lowsM ne sel (k + 1) H J
/-- The blocks that are made of those of sel. -/
noncomputable def highsM (ne : Nat) (sel : List (Option Nat)) (H : List Blk) : List (Option Nat) → List Blk → Prop
  | [], [] => True
  | some k :: s, b' :: J => blkM ne sel (nthB H k) b' ∧ highsM ne sel H s J
  | none :: s, b' :: J => (match b' with
    | .data d => d.len = 0
    | .dead => True
    | _ => False) ∧ highsM ne sel H s J
  | _, _ => False
noncomputable def heapM (ne : Nat) (sel : List (Option Nat)) (H J : List Blk) : Prop :=
  selOk sel = true ∧ (J.take ne).length = ne ∧ lowsM ne sel 0 H (J.take ne) ∧ highsM ne sel H sel (J.drop ne)

section
variable {P : Program} {G : Nat → Option D} {T : TypeId → TD}

theorem VR.agg_ {β : Nat → Option Nat} {n : Nat} {S : Nat → Prop} {w : World} {cs : List AV} {vs : Array Value} (hl : cs.length = vs.size) (h : ∀ i c, cs[i]? = some c → VR β n S w c (vs.getD i undef)) : VR β n S w (.agg cs) (.agg vs) := .agg cs vs hl h
theorem vmL_get {f : AV → AV → Prop} : ∀ {cs ds : List AV}, vmL f cs ds → cs.length = ds.length ∧ ∀ (i : Nat) (d : AV), ds[i]? = some d → ∃ c, cs[i]? = some c ∧ f c d
  | [], [], _ => ⟨rfl, fun i d h => by simp at h⟩
  | c :: cs, d :: ds, h => by
    obtain ⟨h1, h2⟩ := vmL_get h.2
    refine ⟨by simp [h1], fun i e he => ?_⟩
    cases i with
    | zero => simp at he; subst he; exact ⟨c, rfl, h.1⟩
    | succ i => simp at he; simpa using h2 i e he
  | [], _ :: _, h => h.elim
  | _ :: _, [], h => h.elim
/-- The ids of the renamed heap. -/
def renβ (ne : Nat) (sel : List (Option Nat)) (β : Nat → Option Nat) (k : Nat) : Option Nat :=
  if k < ne then β k else (selAt sel (k - ne)).bind β
theorem idM_ren {ne : Nat} {sel : List (Option Nat)} {k k' : Nat} (β : Nat → Option Nat) (h : idM ne sel k k' = true) : renβ ne sel β k' = β k ∧ k' < ne + sel.length := by
  have hs : ∀ (sel : List (Option Nat)) (n q : Nat), selAt sel n = some q → n < sel.length := by
    intro sel
    induction sel with
    | nil => intro n q h; simp [selAt] at h
    | cons x r ih =>
      intro n q h
      cases n with
      | zero => simp
      | succ n => simp only [selAt] at h; have := ih n q h; simp; omega
  unfold idM at h
  unfold renβ
  by_cases hk : k' < ne
  · have : Nat.blt k' ne = true := by rw [Nat.blt_eq]; exact hk
    rw [this] at h
    have : k = k' := Nat.eq_of_beq_eq_true h
    subst this
    rw [if_pos hk]
    exact ⟨rfl, by omega⟩
  · have : Nat.blt k' ne = false := by rw [← Bool.not_eq_true, Nat.blt_eq]; exact hk
    rw [this] at h
    simp only [cond_false] at h
    rw [if_neg hk]
    cases hq : selAt sel (k' - ne) with
    | none => rw [hq] at h; simp at h
    | some q =>
      rw [hq] at h
      have : q = k := Nat.eq_of_beq_eq_true h
      subst this
      exact ⟨rfl, by have := hs sel _ _ hq; omega⟩
theorem VR.ren1 {β : Nat → Option Nat} {n ne : Nat} {sel : List (Option Nat)} {S : Nat → Prop} {w : World} {v v' : AV} {x : Value} (h : VR β n S w v x) (hm : vm1 ne sel v v') : VR (renβ ne sel β) (ne + sel.length) S w v' x := by
  cases v' with
  | un => exact .un x
  | no => cases h <;> first | exact .no | exact hm.elim
  | v y => cases h with
    | v x h => have := veq_eq hm; subst this; exact .v _ h
    | _ => exact hm.elim
  | nilsl => cases h <;> first | exact .nilsl | exact hm.elim
  | ptr k' j' => cases h with
    | ptr k j r hk hb => obtain ⟨h1, rfl⟩ := hm; obtain ⟨h2, h3⟩ := idM_ren β h1; exact .ptr _ _ _ h3 (h2.trans hb)
    | _ => exact hm.elim
  | eptr k' sz' i' j' => cases h with
    | eptr k sz i j r hk hb => obtain ⟨h1, rfl, rfl, rfl⟩ := hm; obtain ⟨h2, h3⟩ := idM_ren β h1; exact .eptr _ _ _ _ _ h3 (h2.trans hb)
    | _ => exact hm.elim
  | sl k' sz' len' => cases h with
    | nilsl => have : len' = 0 := hm; subst this; exact .sl0 _ _ _
    | sl k sz len r cap hk hb hc hm' arr e hh hs => obtain ⟨h1, rfl, rfl⟩ := hm; obtain ⟨h2, h3⟩ := idM_ren β h1; exact .sl _ _ _ r cap h3 (h2.trans hb) hc hm' arr e hh hs
    | sl0 k sz a => obtain ⟨h1, rfl, rfl⟩ := hm; exact .sl0 _ _ _
    | _ => exact hm.elim
  | sub k' sz' lo' len' => cases h with
    | sub k sz lo len r cap hk hb hc hm' arr e hh hs => obtain ⟨h1, rfl, rfl, rfl⟩ := hm; obtain ⟨h2, h3⟩ := idM_ren β h1; exact .sub _ _ _ _ r cap h3 (h2.trans hb) hc hm' arr e hh hs
    | sub0 k sz lo a => obtain ⟨h1, rfl, rfl, rfl⟩ := hm; exact .sub0 _ _ _ _
    | sl k sz len r cap hk hb hc hm' arr e hh hs =>
      obtain ⟨h1, rfl, rfl, rfl⟩ := hm
      obtain ⟨h2, h3⟩ := idM_ren β h1
      have hx := VR.sub (β := renβ ne sel β) (n := ne + sel.length) (S := S) (w := w) k' sz 0 len r cap h3 (h2.trans hb) hc hm' arr e hh (by rw [Nat.zero_add]; exact hs)
      rw [Nat.zero_mul] at hx
      exact hx
    | sl0 k sz a => obtain ⟨h1, rfl, rfl, rfl⟩ := hm; exact .sub0 _ _ _ _
    | _ => exact hm.elim
  | ro d' => cases h with
    | ro d x h => have : d = d' := hm; subst this; exact .ro _ _ h
    | _ => exact hm.elim
  | rop d' i' j' => cases h with
    | rop d i j b off hS hd => obtain ⟨rfl, rfl, rfl⟩ := hm; exact .rop _ _ _ _ _ hS hd
    | _ => exact hm.elim
  | rpc cs' j' =>
    cases v with
    | rpc cs j => obtain ⟨rfl, rfl⟩ := hm; exact h.rpc_fixed fun _ h => h
    | _ => exact hm.elim
  | gl g' => cases h with
    | gl g => have : g = g' := hm; subst this; exact .gl _
    | _ => exact hm.elim
  | ifc => cases h with
    | ifc te p => exact .ifc te p
    | _ => exact hm.elim
  | fn f' cs' => cases h with
    | fn f cs vs hl h =>
      cases cs with
      | nil =>
        cases cs' with
        | nil => have : f = f' := hm; subst this; exact .fn _ _ _ hl fun i c hc => by simp at hc
        | cons _ _ => exact hm.elim
      | cons _ _ => cases cs' <;> exact hm.elim
    | _ => cases cs' <;> exact hm.elim
  | agg cs => cases h <;> exact hm.elim
  | tup cs => cases h <;> exact hm.elim
theorem VR.ren_all {β : Nat → Option Nat} {n ne : Nat} {sel : List (Option Nat)} {S : Nat → Prop} {w : World} {m : AV → AV → Prop} (one : ∀ v v' x, VR β n S w v x → m v v' → VR (renβ ne sel β) (ne + sel.length) S w v' x)
    {cs ds : List AV} {vs : Array Value} (hl : vmL m cs ds) (hv : ∀ i c, cs[i]? = some c → VR β n S w c (vs.getD i undef)) : ∀ i c, ds[i]? = some c → VR (renβ ne sel β) (ne + sel.length) S w c (vs.getD i undef) := fun i c hc => by
  obtain ⟨d, h1, h2⟩ := (vmL_get hl).2 i c hc
  exact one _ _ _ (hv i d h1) h2
theorem VR.renE {β : Nat → Option Nat} {n ne : Nat} {sel : List (Option Nat)} {S : Nat → Prop} {w : World} {v v' : AV} {x : Value} (h : VR β n S w v x) (hm : vmE ne sel v v') : VR (renβ ne sel β) (ne + sel.length) S w v' x := by
  unfold vmE at hm
  split at hm
  · obtain ⟨vs, rfl, hl, hv⟩ := h.agg_inv; exact .agg _ vs ((vmL_get hm).1 ▸ hl) (VR.ren_all (fun _ _ _ h hm => h.ren1 hm) hm hv)
  · exact h.ren1 hm
theorem VR.ren {β : Nat → Option Nat} {n ne : Nat} {sel : List (Option Nat)} {S : Nat → Prop} {w : World} {v v' : AV} {x : Value} (h : VR β n S w v x) (hm : vmV ne sel v v') : VR (renβ ne sel β) (ne + sel.length) S w v' x := by
  unfold vmV at hm
  split at hm
  · obtain ⟨vs, rfl, hl, hv⟩ := h.agg_inv; exact .agg _ vs ((vmL_get hm).1 ▸ hl) (VR.ren_all (fun _ _ _ h hm => h.ren1 hm) hm hv)
  · obtain ⟨vs, rfl, hl, hv⟩ := h.tup_inv; exact .tup _ vs ((vmL_get hm).1 ▸ hl) (VR.ren_all (fun _ _ _ h hm => h.renE hm) hm hv)
  · obtain ⟨rfl, hm⟩ := hm; obtain ⟨vs, rfl, hl, hv⟩ := h.fn_inv; exact .fn _ _ vs ((vmL_get hm).1 ▸ hl) (VR.ren_all (fun _ _ _ h hm => h.renE hm) hm hv)
  · exact h.ren1 hm
theorem BlkR.ren {β : Nat → Option Nat} {n ne : Nat} {sel : List (Option Nat)} {S : Nat → Prop} {w : World} {r : Option Nat} {b b' : Blk} (h : BlkR β n S w r b) (hm : blkM ne sel b b') : BlkR (renβ ne sel β) (ne + sel.length) S w r b' := by
  unfold blkM at hm
  split at hm
  · exact .dead _
  · subst hm
    cases h with
    | data0 _ h => exact .data0 _ h
    | data r arr e _ hh hl h => exact .data r arr e _ hh hl h
  · cases h with
    | cells r arr e cs hh hl h =>
      obtain ⟨h1, h2⟩ := vmL_get hm
      exact .cells r arr e _ hh (h1 ▸ hl) fun i c hc => by
        obtain ⟨d, h3, h4⟩ := h2 i c hc
        exact (h i d h3).ren h4
  · subst hm
    cases h with
    | obj r arr e _ hh h => exact .obj r arr e _ hh h
  · obtain ⟨⟨h1, h2⟩, h3⟩ := hm
    cases h with
    | data0 _ h => omega
    | data r arr e _ hh hl h => exact .cells r arr e _ hh (Nat.le_trans h2 hl) fun i c hc => by rw [h3 c (List.mem_of_getElem? hc)]; exact .un _
  · exact hm.elim
theorem lowsM_get {ne : Nat} {sel : List (Option Nat)} : ∀ {J H : List Blk} {k : Nat}, lowsM ne sel k H J → ∀ (i : Nat) (b' : Blk), J[i]? = some b' → b' ≠ .dead → ∃ b, H[i]? = some b ∧ isSel sel (k + i) = false ∧ blkM ne sel b b'
  | [], _, _, _, i, b', h1, _ => by simp at h1
  | b' :: J, [], _, h, _, _, _, _ => h.elim
  | c' :: J, c :: H, k, h, i, b', h1, h2 => by
    obtain ⟨h3, h4⟩ := h
    cases i with
    | zero =>
      simp at h1
      subst h1
      cases c' with
      | dead => exact absurd rfl h2
      | cells cs => exact ⟨c, rfl, h3.1, h3.2⟩
      | obj p => exact ⟨c, rfl, h3.1, h3.2⟩
      | data d => exact ⟨c, rfl, h3.1, h3.2⟩
    | succ i =>
      simp at h1
      obtain ⟨b, h5, h6, h7⟩ := lowsM_get h4 i b' h1 h2
      exact ⟨b, by simpa using h5, by rw [← h6]; congr 1; omega, h7⟩
theorem highsM_get {ne : Nat} {sel : List (Option Nat)} {H : List Blk} : ∀ {s : List (Option Nat)} {J : List Blk}, highsM ne sel H s J → J.length = s.length ∧ ∀ (i : Nat) (b' : Blk), J[i]? = some b' → b' ≠ .dead →
    (∃ k, s[i]? = some (some k) ∧ blkM ne sel (nthB H k) b') ∨ (s[i]? = some none ∧ ∃ d, b' = .data d ∧ d.len = 0)
  | [], [], _ => ⟨rfl, fun i b' h => by simp at h⟩
  | some k :: s, c' :: J, h => by
    obtain ⟨h1, h2⟩ := highsM_get h.2
    refine ⟨by simp [h1], fun i b' h3 h4 => ?_⟩
    cases i with
    | zero => simp at h3; subst h3; exact .inl ⟨k, rfl, h.1⟩
    | succ i => simp at h3; simpa using h2 i b' h3 h4
  | none :: s, c' :: J, h => by
    obtain ⟨h1, h2⟩ := highsM_get h.2
    refine ⟨by simp [h1], fun i b' h3 h4 => ?_⟩
    cases i with
    | zero =>
      simp at h3; subst h3
      cases c' with
      | dead => exact absurd rfl h4
      | data d => exact .inr ⟨rfl, d, rfl, h.1⟩
      | cells _ => exact h.1.elim
      | obj _ => exact h.1.elim
    | succ i => simp at h3; simpa using h2 i b' h3 h4
  | [], _ :: _, h => h.elim
  | some _ :: _, [], h => h.elim
  | none :: _, [], h => h.elim
theorem selAt_get (sel : List (Option Nat)) : ∀ n, selAt sel n = sel[n]?.join := by
  induction sel with
  | nil => intro n; rfl
  | cons x r ih => intro n; cases n with
    | zero => rfl
    | succ n => simp only [selAt]; rw [ih]; rfl
theorem isSel_mem (sel : List (Option Nat)) (k : Nat) : isSel sel k = true ↔ some k ∈ sel := by
  induction sel with
  | nil => simp [isSel]
  | cons x r ih =>
    cases x with
    | none => simp [isSel, ih]
    | some q =>
      simp only [isSel, Bool.or_eq_true, ih, List.mem_cons, Option.some.injEq]
      constructor
      · rintro (h | h)
        · exact .inl (Nat.eq_of_beq_eq_true h).symm
        · exact .inr h
      · rintro (rfl | h)
        · exact .inl (Nat.beq_refl _)
        · exact .inr h
theorem selOk_inj : ∀ {sel : List (Option Nat)}, selOk sel = true → ∀ i j k : Nat, sel[i]? = some (some k) → sel[j]? = some (some k) → i = j
  | [], _, i, j, k, h, _ => by simp at h
  | x :: r, h, i, j, k, h1, h2 => by
    have hr : selOk r = true := by
      cases x with
      | none => exact h
      | some q => simp only [selOk, Bool.and_eq_true] at h; exact h.2
    have hx : ∀ q, x = some q → some q ∉ r := fun q hq hm => by
      subst hq
      simp only [selOk, Bool.and_eq_true, Bool.not_eq_true'] at h
      have := (isSel_mem r q).2 hm
      rw [h.1] at this; cases this
    cases i with
    | zero =>
      cases j with
      | zero => rfl
      | succ j => simp at h1 h2; exact absurd (List.mem_of_getElem? h2) (hx k h1)
    | succ i =>
      cases j with
      | zero => simp at h1 h2; exact absurd (List.mem_of_getElem? h1) (hx k h2)
      | succ j => simp at h1 h2; rw [selOk_inj hr i j k h1 h2]
/-- The heap with its blocks renamed. -/
theorem HS.ren {C : Ctx} {β : Nat → Option Nat} {S : Nat → Prop} {H J : List Blk} {w : World} {ne : Nat} {sel : List (Option Nat)} (h : HS G C β S H w) (hn : C.n0 ≤ ne) (hm : heapM ne sel H J) :
    J.length = ne + sel.length ∧ HS G C (renβ ne sel β) S J w := by
  obtain ⟨h1, h2, h3, h4⟩ := hm
  obtain ⟨h5, h6⟩ := highsM_get h4
  have hlen : J.length = ne + sel.length := by
    rw [List.length_take] at h2
    rw [List.length_drop] at h5
    omega
  -- a living block comes of a living one
  have src : ∀ (k' : Nat) (b' : Blk), J[k']? = some b' → b' ≠ .dead → (∃ (k : Nat) (b : Blk), H[k]? = some b ∧ blkM ne sel b b' ∧ renβ ne sel β k' = β k ∧ ((k' < ne ∧ k = k' ∧ isSel sel k = false) ∨ (ne ≤ k' ∧ sel[k' - ne]? = some (some k)))) ∨ (renβ ne sel β k' = none ∧ ∃ d, b' = .data d ∧ d.len = 0) := by
    intro k' b' hk hb
    by_cases hlt : k' < ne
    · obtain ⟨b, h7, h8, h9⟩ := lowsM_get h3 k' b' (by rw [List.getElem?_take, if_pos hlt]; exact hk) hb
      rw [Nat.zero_add] at h8
      exact .inl ⟨k', b, h7, h9, by unfold renβ; rw [if_pos hlt], .inl ⟨hlt, rfl, h8⟩⟩
    · have hd : (J.drop ne)[k' - ne]? = some b' := by rw [List.getElem?_drop]; rwa [show ne + (k' - ne) = k' by omega]
      rcases h6 (k' - ne) b' hd hb with ⟨k, h7, h8⟩ | ⟨h7, h8⟩
      · refine .inl ⟨k, nthB H k, ?_, h8, ?_, .inr ⟨by omega, h7⟩⟩
        · rw [nthB_eq, List.getD_eq_getElem?_getD]
          cases hq : H[k]? with
          | some b => rfl
          | none =>
            rw [nthB_eq, List.getD_eq_getElem?_getD, hq] at h8
            cases b' with
            | dead => exact absurd rfl hb
            | _ => exact h8.elim
        · unfold renβ; rw [if_neg hlt, selAt_get, h7]; rfl
      · exact .inr ⟨by unfold renβ; rw [if_neg hlt, selAt_get, h7]; rfl, h8⟩
  have alive : ∀ {b b' : Blk}, blkM ne sel b b' → b' ≠ .dead → b ≠ .dead := by
    intro b b' hm hb hd
    subst hd
    cases b' with
    | dead => exact hb rfl
    | _ => exact hm.elim
  refine ⟨hlen, ?_⟩
  exact {
    rel := {
      blk := fun k' b' hk => by
        by_cases hb : b' = .dead
        · subst hb; exact .dead _
        · rw [hlen]
          rcases src k' b' hk hb with ⟨k, b, h7, h8, h9, _⟩ | ⟨h7, d, rfl, h8⟩
          · rw [h9]; exact (h.rel.blk k b h7).ren h8
          · rw [h7]; exact .data0 d h8
      sep := fun k k' b b' r hk hk' hb hb' e e' => by
        rcases src k b hk hb with ⟨q, c, h7, h8, h9, h10⟩ | ⟨h7, _⟩
        · rcases src k' b' hk' hb' with ⟨q', c', h7', h8', h9', h10'⟩ | ⟨h7', _⟩
          · rw [h9] at e
            rw [h9'] at e'
            have hq := h.rel.sep q q' c c' r h7 h7' (alive h8 hb) (alive h8' hb') e e'
            subst hq
            rcases h10 with ⟨l1, rfl, l2⟩ | ⟨l1, l2⟩
            · rcases h10' with ⟨m1, m3, m2⟩ | ⟨m1, m2⟩
              · exact m3
              · have := (isSel_mem sel q).2 (List.mem_of_getElem? m2)
                rw [l2] at this; cases this
            · rcases h10' with ⟨m1, m3, m2⟩ | ⟨m1, m2⟩
              · have := (isSel_mem sel q).2 (List.mem_of_getElem? l2)
                rw [m2] at this; cases this
              · have := selOk_inj h1 _ _ _ l2 m2
                omega
          · rw [h7'] at e'; cases e'
        · rw [h7] at e; cases e
      off := fun k b r hk hb e => by
        rcases src k b hk hb with ⟨q, c, h7, h8, h9, h10⟩ | ⟨h7, _⟩
        · rw [h9] at e; exact h.rel.off q c r h7 (alive h8 hb) e
        · rw [h7] at e; cases e
      lt := h.rel.lt
      glob := h.rel.glob }
    evo := h.evo
    new := fun k b r hk hb e => by
      rcases src k b hk hb with ⟨q, c, h7, h8, h9, h10⟩ | ⟨h7, _⟩
      · rw [h9] at e; exact h.new q c r h7 (alive h8 hb) e
      · rw [h7] at e; cases e
    tr := ⟨fun k hk => by
      have : renβ ne sel β k = β k := by unfold renβ; rw [if_pos (Nat.lt_of_lt_of_le hk hn)]
      rw [this]; exact h.tr.agree k hk, by omega, h.tr.sub, h.tr.keep, h.tr.phys⟩
    fix := h.fix }

/-! ### Loops -/
/-- A frame of n slots of which the ones in ks alone are known. -/
noncomputable def mkF (n : Nat) (ks : List (Nat × AV)) : List AV := ks.foldl (fun fr p => fr.set p.1 p.2) (List.replicate n .un)
noncomputable def pick (fr : List AV) (ks : List Nat) : List AV := ks.map (nth fr)
theorem mkF_length (n : Nat) (ks : List (Nat × AV)) : (mkF n ks).length = n := by
  unfold mkF
  have : ∀ (ks : List (Nat × AV)) (l : List AV), (ks.foldl (fun fr p => fr.set p.1 p.2) l).length = l.length := fun ks => by
    induction ks with
    | nil => intro l; rfl
    | cons p r ih => intro l; simp [ih]
  simp [this]
theorem mkF_get (n : Nat) (ks : List (Nat × AV)) (i : Nat) (v : AV) (h : (mkF n ks)[i]? = some v) : v = .un ∨ (i, v) ∈ ks := by
  have gen : ∀ (ks : List (Nat × AV)) (l : List AV), (ks.foldl (fun fr p => fr.set p.1 p.2) l)[i]? = some v → l[i]? = some v ∨ (i, v) ∈ ks := fun ks => by
    induction ks with
    | nil => intro l hl; exact .inl hl
    | cons p r ih =>
      intro l hl
      rcases ih _ hl with h1 | h1
      · by_cases hp : p.1 = i
        · subst hp
          by_cases hlt : p.1 < l.length
          · rw [List.getElem?_set_self hlt] at h1
            cases h1
            exact .inr (by simp)
          · rw [List.getElem?_eq_none (by simpa using hlt)] at h1; cases h1
        · rw [List.getElem?_set_ne hp] at h1; exact .inl h1
      · exact .inr (by simp [h1])
  rcases gen ks _ h with h1 | h1
  · rw [List.getElem?_replicate] at h1
    split at h1
    · cases h1; exact .inl rfl
    · cases h1
  · exact .inr h1
/-- The state is as a loop's head asks. -/
noncomputable def AtHead (ne n : Nat) (ks : List Nat) (vals : List AV) (J : List Blk) (fr : List AV) (H : List Blk) : Prop :=
  Nat.beq fr.length n = true ∧ ∃ sel, vmL (vmV ne sel) (pick fr ks) vals ∧ heapM ne sel H J
theorem FR.head {C : Ctx} {β : Nat → Option Nat} {S : Nat → Prop} {w : World} {fr : List AV} {a : Act} {H J : List Blk} {ne n : Nat} {ks : List Nat} {vals : List AV} (hf : FR β H.length S w fr a) (hs : HS G C β S H w) (hn : C.n0 ≤ ne) (hh : AtHead ne n ks vals J fr H) :
    ∃ β', FR β' J.length S w (mkF n (ks.zip vals)) a ∧ HS G C β' S J w := by
  obtain ⟨h1, sel, h2, h3⟩ := hh
  obtain ⟨h4, h5⟩ := hs.ren hn h3
  obtain ⟨h6, h7⟩ := vmL_get h2
  refine ⟨_, ⟨hf.1, by rw [mkF_length]; exact (Nat.eq_of_beq_eq_true h1) ▸ hf.2.1, fun i v hv => ?_⟩, h5⟩
  rcases mkF_get n _ i v hv with rfl | hm
  · exact .un _
  · obtain ⟨q, hq⟩ := List.getElem?_of_mem hm
    rw [List.getElem?_zip_eq_some] at hq
    obtain ⟨q1, q2⟩ := hq
    obtain ⟨c, q3, q4⟩ := h7 q v q2
    simp only [pick, List.getElem?_map, q1, Option.map_some, Option.some.injEq] at q3
    subst q3
    rw [h4]
    exact (nth_vr hf.2.1 hf.2.2 i).ren q4
theorem least (p : Nat → Prop) : ∀ n, p n → ∃ m, p m ∧ ∀ k, p k → m ≤ k := by
  intro n
  induction n using Nat.strongRecOn with
  | _ n ih =>
    intro hn
    by_cases h : ∃ k, k < n ∧ p k
    · obtain ⟨k, hk, hp⟩ := h
      exact ih k hk hp
    · exact ⟨n, hn, fun k hk => by
        rcases Nat.lt_or_ge k n with hlt | hge
        · exact absurd ⟨k, hlt, hk⟩ h
        · exact hge⟩
theorem wp_loop_x {c : Code} {Q : Exit → Act → World → Prop} {α : Type} (I : α → Act → World → Prop) (μ : α → Nat) {a : Act} {w : World} (x0 : α) (h0 : I x0 a w)
    (round : ∀ x a w, I x a w → c.wp P (Exit.then (fun a' w' => ∃ x', I x' a' w' ∧ μ x' < μ x) Q) a w) : (Code.loop c).wp P Q a w := by
  let pr (a : Act) (w : World) (m : Nat) : Prop := ∃ x, I x a w ∧ μ x = m
  let ms (a : Act) (w : World) : Nat := Classical.epsilon fun m => pr a w m ∧ ∀ k, pr a w k → m ≤ k
  have hms : ∀ a w x, I x a w → pr a w (ms a w) ∧ ∀ k, pr a w k → ms a w ≤ k := fun a w x hx => Classical.epsilon_spec (least (pr a w) (μ x) ⟨x, hx, rfl⟩)
  refine wp_loop (fun a w => ∃ x, I x a w) ms ⟨x0, h0⟩ fun a w ⟨x, hx⟩ => ?_
  obtain ⟨⟨y, hy, hym⟩, _⟩ := hms a w x hx
  refine wp_mono (round y a w hy) fun e a' w' hq => ?_
  cases e with
  | normal =>
    obtain ⟨x', h1, h2⟩ := hq
    refine ⟨⟨x', h1⟩, ?_⟩
    have := (hms a' w' x' h1).2 (μ x') ⟨x', h1, rfl⟩
    omega
  | _ => exact hq
theorem loop_rule (hT : TabOK P T) {c : Code} {fr : List AV} {H : List Blk} {K : Ex → List AV → List Blk → Prop} {α : Type} (Inv : α → Prop) (n ne : Nat) (ks : List Nat) (vals : α → List AV) (J : α → List Blk) (μ : α → Nat) (x0 : α)
    (hne : H.length ≤ ne) (hi : Inv x0) (h0 : AtHead ne n ks (vals x0) (J x0) fr H)
    (step : ∀ x, Inv x → avsK (mkF n (ks.zip (vals x))) fun fr' => codeA T G (CallA P G) (LoopA P G) (DrawA P G) c fr' (J x) fun e fr'' H'' => match e with
      | .normal => ∃ x', Inv x' ∧ AtHead ne n ks (vals x') (J x') fr'' H'' ∧ μ x' < μ x
      | .exit i => K (.exit i) fr'' H''
      | .ret => K .ret fr'' H'') : LoopA P G c fr H K := by
  intro C β S a w hf hs
  have hn : C.n0 ≤ ne := Nat.le_trans hs.tr.le hne
  obtain ⟨β0, f0, s0⟩ := hf.head hs hn h0
  refine wp_loop_x (fun x a w => Inv x ∧ ∃ β S, FR β (J x).length S w (mkF n (ks.zip (vals x))) a ∧ HS G C β S (J x) w) μ x0 ⟨hi, β0, S, f0, s0⟩ fun x a w ⟨hx, β', S', h1, h2⟩ => ?_
  have hst := step x hx
  rw [avsK_eq] at hst
  refine wp_mono (codeA_sound hT c _ _ _ hst C β' S' a w h1 h2) fun e a' w' hp => ?_
  cases e with
  | normal =>
    obtain ⟨β'', S'', fr'', H'', h3, h4, x', h7, h5, h6⟩ := hp
    obtain ⟨β3, f3, s3⟩ := h3.head h4 hn h5
    exact ⟨x', ⟨h7, β3, S'', f3, s3⟩, h6⟩
  | exit i => exact hp
  | ret => exact hp
  | goto l => exact hp.elim
  | panic ch => exact hp.elim
  | outgrown => exact hp.elim

/-- What a body ends with matches what is asked. -/
noncomputable def Ends (ne : Nat) (K : AV → List Blk → Prop) (v : AV) (H : List Blk) : Prop := ∃ sel v' J, vmV ne sel v v' ∧ heapM ne sel H J ∧ K v' J
theorem CallA.ends {f : FuncId} {args : List AV} {H : List Blk} {K : AV → List Blk → Prop} (h : CallA P G f args H (Ends H.length K)) : CallA P G f args H K :=
  ⟨h.1, fun β S w vs hr hl hv => (h.2 β S w vs hr hl hv).mono fun _ _ ⟨_, S', H', _, x, h1, ⟨sel, v', J, m1, m2, m3⟩, h3, h4⟩ => by
    obtain ⟨h5, h6⟩ := h4.ren (Nat.le_refl _) m2
    exact ⟨_, S', J, v', x, h1, m3, h5 ▸ h3.ren m1, h6⟩⟩
end
end Go.AE
namespace Go.AE

/-- The small heap's block k' is the large one's block k. -/
def idI : List Nat → Nat → Nat → Bool
  | [], _, _ => false
  | q :: _, 0, k => Nat.beq q k
  | _ :: r, n + 1, k => idI r n k
def isId : List Nat → Nat → Bool
  | [], _ => false
  | q :: r, k => Nat.beq q k || isId r k
def idsOk (n : Nat) : List Nat → Bool
  | [] => true
  | q :: r => Nat.blt q n && !isId r q && idsOk n r
/-- The cells are slices of the heap's blocks, which hold the parts. -/
def nestOf (ids : List Nat) (H : List Blk) (d : D) (cs : List AV) : Prop :=
  ∃ xss, d = .nest xss ∧ xss.length = cs.length ∧ ∀ i, i < cs.length → ∃ k, cs[i]? = some (.sl k 1 (xss.getD i []).length) ∧ isId ids k = false ∧ nthB H k = .data (.ints .i64 (xss.getD i []))
/-- The first is the caller's, the second the contract's. With conv a slice may be handed on as plain data. -/
noncomputable def am0 (conv : Bool) (ids : List Nat) (H : List Blk) : AV → AV → Prop
  | _, .un => True
  | .no, .no => True
  | .v x, .v y => veq x y
  | .nilsl, .nilsl => True
  | .nilsl, .sl _ _ len => len = 0
  | .nilsl, .ro d => d.len = 0
  | .ptr k j, .ptr k' j' => idI ids k' k = true ∧ j = j'
  | .eptr k sz i j, .eptr k' sz' i' j' => idI ids k' k = true ∧ sz = sz' ∧ i = i' ∧ j = j'
  | .sl k sz len, .sl k' sz' len' => idI ids k' k = true ∧ sz = sz' ∧ len = len'
  | .sub k sz lo len, .sub k' sz' lo' len' => idI ids k' k = true ∧ sz = sz' ∧ lo = lo' ∧ len = len'
  | .sl k sz len, .ro d => conv = true ∧ isId ids k = false ∧ (match nthB H k with
    | .data d0 => Nat.beq sz d0.sz = true ∧ len = d0.len ∧ d0 = d
    | .cells cs => (sz = 1 ∧ len = cs.length) ∧ nestOf ids H d cs
    | _ => False)
  | .sub k sz lo len, .ro d => conv = true ∧ isId ids k = false ∧ (match nthB H k with
    | .data d0 => Nat.beq sz d0.sz = true ∧ lo + len ≤ d0.len ∧ d0.sub lo len = d
    | _ => False)
  | .ro d, .ro d' => d = d'
  | .rop d i j, .rop d' i' j' => d = d' ∧ i = i' ∧ j = j'
  | .rpc cs j, .rpc cs' j' => cs = cs' ∧ j = j'
  | .gl g, .gl g' => g = g'
  | .fn f [], .fn f' [] => f = f'
  | .ifc, .ifc => True
  | _, _ => False
/-- A pointer to cells may be handed on as one that only reads. -/
noncomputable def am1 (conv : Bool) (ids : List Nat) (H : List Blk) (a b : AV) : Prop :=
  match a, b with
  | .ptr k j, .rpc cs j' => conv = true ∧ isId ids k = false ∧ j = j' ∧ (match nthB H k with
    | .cells ds => cs.all rpcOk = true ∧ vmL (am0 conv ids H) ds cs
    | _ => False)
  | a, b => am0 conv ids H a b
noncomputable def amE (conv : Bool) (ids : List Nat) (H : List Blk) (a b : AV) : Prop :=
  match a, b with
  | .agg cs, .agg ds => vmL (am1 conv ids H) cs ds
  | a, b => am1 conv ids H a b
noncomputable def amV (conv : Bool) (ids : List Nat) (H : List Blk) (a b : AV) : Prop :=
  match a, b with
  | .agg cs, .agg ds => vmL (am1 conv ids H) cs ds
  | .tup cs, .tup ds => vmL (amE conv ids H) cs ds
  | .fn f cs, .fn g ds => f = g ∧ vmL (amE conv ids H) cs ds
  | a, b => am1 conv ids H a b
noncomputable def blkA (conv : Bool) (ids : List Nat) (H : List Blk) (a b : Blk) : Prop :=
  match a, b with
  | _, .dead => True
  | .data d, .data d' => d = d'
  | .cells cs, .cells ds => vmL (amV conv ids H) cs ds
  | .obj p, .obj q => p = q
  | _, _ => False
noncomputable def heapA (conv : Bool) (ids : List Nat) (H : List Blk) : List Nat → List Blk → Prop
  | [], [] => True
  | q :: r, b :: H0 => blkA conv ids H (nthB H q) b ∧ heapA conv ids H r H0
  | _, _ => False
def shI : List Nat → Nat → Nat → Nat
  | [], nb, k => nb + k
  | q :: _, _, 0 => q
  | _ :: r, nb, k + 1 => shI r nb k
def sh1 (conv : Bool) (ids : List Nat) (nb : Nat) : AV → AV
  | .ptr k j => .ptr (shI ids nb k) j
  | .eptr k sz i j => .eptr (shI ids nb k) sz i j
  | .sl k sz len => .sl (shI ids nb k) sz len
  | .sub k sz lo len => .sub (shI ids nb k) sz lo len
  | .ro d => bif conv then .un else .ro d
  | .rop d i j => bif conv then .un else .rop d i j
  | .rpc cs j => bif conv then .un else .rpc cs j
  | .agg _ => .un
  | .tup _ => .un
  | .fn f [] => .fn f []
  | .fn _ _ => .un
  | v => v
def shE (conv : Bool) (ids : List Nat) (nb : Nat) (v : AV) : AV :=
  match v with
  | .agg cs => .agg (cs.map (sh1 conv ids nb))
  | v => sh1 conv ids nb v
def shV (conv : Bool) (ids : List Nat) (nb : Nat) (v : AV) : AV :=
  match v with
  | .agg cs => .agg (cs.map (sh1 conv ids nb))
  | .tup cs => .tup (cs.map (shE conv ids nb))
  | .fn f cs => .fn f (cs.map (shE conv ids nb))
  | v => sh1 conv ids nb v
def shB (conv : Bool) (ids : List Nat) (nb : Nat) (b : Blk) : Blk :=
  match b with
  | .cells cs => .cells (cs.map (shV conv ids nb))
  | .data (.nest x) => bif conv then .dead else .data (.nest x)
  | b => b
/-- The large heap behind the call. -/
def mergeB (f : Blk → Blk) : List Nat → List Blk → List Blk → List Blk
  | [], H, J => H ++ J.map f
  | q :: ids, H, b :: J => mergeB f ids (H.set q (f b)) J
  | _ :: _, H, [] => H

section
variable {P : Program} {G : Nat → Option D} {T : TypeId → TD}

theorem isId_mem (ids : List Nat) (k : Nat) : isId ids k = true ↔ k ∈ ids := by
  induction ids with
  | nil => simp [isId]
  | cons q r ih =>
    simp only [isId, Bool.or_eq_true, ih, List.mem_cons]
    constructor
    · rintro (h | h)
      · exact .inl (Nat.eq_of_beq_eq_true h).symm
      · exact .inr h
    · rintro (rfl | h)
      · exact .inl (Nat.beq_refl _)
      · exact .inr h
theorem idI_get : ∀ {ids : List Nat} {k' k : Nat}, idI ids k' k = true → ids[k']? = some k
  | [], _, _, h => by simp [idI] at h
  | q :: r, 0, k, h => by simp only [idI] at h; simp [Nat.eq_of_beq_eq_true h]
  | q :: r, n + 1, k, h => by simp only [idI] at h; simpa using idI_get h
theorem idsOk_get {n : Nat} : ∀ {ids : List Nat}, idsOk n ids = true → (∀ k ∈ ids, k < n) ∧ ∀ i j k : Nat, ids[i]? = some k → ids[j]? = some k → i = j
  | [], _ => ⟨fun k hk => by simp at hk, fun i j k h => by simp at h⟩
  | q :: r, h => by
    simp only [idsOk, Bool.and_eq_true, Bool.not_eq_true', Nat.blt_eq] at h
    obtain ⟨⟨h1, h2⟩, h3⟩ := h
    obtain ⟨h4, h5⟩ := idsOk_get h3
    have h2' : q ∉ r := fun hm => by rw [(isId_mem r q).2 hm] at h2; cases h2
    refine ⟨fun k hk => ?_, fun i j k hi hj => ?_⟩
    · rcases List.mem_cons.1 hk with rfl | hk
      · exact h1
      · exact h4 k hk
    · cases i with
      | zero =>
        cases j with
        | zero => rfl
        | succ j => simp at hi hj; subst hi; exact absurd (List.mem_of_getElem? hj) h2'
      | succ i =>
        cases j with
        | zero => simp at hi hj; subst hj; exact absurd (List.mem_of_getElem? hi) h2'
        | succ j => simp at hi hj; rw [h5 i j k hi hj]
theorem heapA_get {conv : Bool} {ids : List Nat} {H : List Blk} : ∀ {is : List Nat} {H0 : List Blk}, heapA conv ids H is H0 → H0.length = is.length ∧ ∀ (i : Nat) (b : Blk), H0[i]? = some b → ∃ q, is[i]? = some q ∧ blkA conv ids H (nthB H q) b
  | [], [], _ => ⟨rfl, fun i b h => by simp at h⟩
  | q :: r, c :: H0, h => by
    obtain ⟨h1, h2⟩ := heapA_get h.2
    refine ⟨by simp [h1], fun i b hb => ?_⟩
    cases i with
    | zero => simp at hb; subst hb; exact ⟨q, rfl, h.1⟩
    | succ i => simp at hb; simpa using h2 i b hb
  | [], _ :: _, h => h.elim
  | _ :: _, [], h => h.elim
theorem mergeB_get (f : Blk → Blk) : ∀ {ids : List Nat} {H J : List Blk}, (∀ k ∈ ids, k < H.length) → (∀ i j k : Nat, ids[i]? = some k → ids[j]? = some k → i = j) → ids.length ≤ J.length →
    (mergeB f ids H J).length = H.length + (J.length - ids.length) ∧ ∀ (k : Nat) (b : Blk), (mergeB f ids H J)[k]? = some b →
      (∃ (i : Nat) (c : Blk), ids[i]? = some k ∧ J[i]? = some c ∧ b = f c) ∨ (k ∉ ids ∧ k < H.length ∧ H[k]? = some b) ∨ (H.length ≤ k ∧ ∃ c, J[ids.length + (k - H.length)]? = some c ∧ b = f c)
  | [], H, J, _, _, _ => by
    refine ⟨by simp [mergeB], fun k b h => ?_⟩
    simp only [mergeB] at h
    by_cases hk : k < H.length
    · rw [List.getElem?_append_left hk] at h
      exact .inr (.inl ⟨by simp, hk, h⟩)
    · rw [List.getElem?_append_right (by omega), List.getElem?_map, Option.map_eq_some_iff] at h
      obtain ⟨c, h1, h2⟩ := h
      exact .inr (.inr ⟨by omega, c, by simpa using h1, h2.symm⟩)
  | q :: ids, H, c :: J, hlt, hinj, hle => by
    have hq : q ∉ ids := fun hm => by
      obtain ⟨j, hj⟩ := List.getElem?_of_mem hm
      have := hinj 0 (j + 1) q rfl (by simpa using hj)
      omega
    have hinj' : ∀ i j k : Nat, ids[i]? = some k → ids[j]? = some k → i = j := fun i j k h1 h2 => by
      have := hinj (i + 1) (j + 1) k (by simpa using h1) (by simpa using h2)
      omega
    obtain ⟨h1, h2⟩ := mergeB_get f (ids := ids) (H := H.set q (f c)) (J := J) (fun k hk => by simpa using hlt k (List.mem_cons_of_mem _ hk)) hinj' (by simpa using hle)
    refine ⟨by simp only [mergeB]; rw [h1]; simp, fun k b h => ?_⟩
    simp only [mergeB] at h
    rcases h2 k b h with ⟨i, d, h3, h4, h5⟩ | ⟨h3, h4, h5⟩ | ⟨h3, d, h4, h5⟩
    · exact .inl ⟨i + 1, d, by simpa using h3, by simpa using h4, h5⟩
    · by_cases hk : q = k
      · subst hk
        rw [List.getElem?_set_self (by simpa using h4)] at h5
        cases h5
        exact .inl ⟨0, c, rfl, rfl, rfl⟩
      · rw [List.getElem?_set_ne hk] at h5
        exact .inr (.inl ⟨by simp only [List.mem_cons, not_or]; exact ⟨fun e => hk e.symm, h3⟩, by simpa using h4, h5⟩)
    · simp only [List.length_set] at h3 h4
      refine .inr (.inr ⟨h3, d, ?_, h5⟩)
      rw [List.length_cons, show ids.length + 1 + (k - H.length) = ids.length + (k - H.length) + 1 by omega]
      simpa using h4
  | _ :: _, _, [], _, _, hle => by simp at hle
theorem shI_lt : ∀ (ids : List Nat) (nb k q : Nat), ids[k]? = some q → shI ids nb k = q
  | [], _, _, _, h => by simp at h
  | q :: r, nb, 0, _, h => by simp at h; exact h
  | q :: r, nb, k + 1, p, h => by simp only [shI]; exact shI_lt r nb k p (by simpa using h)
theorem shI_ge : ∀ (ids : List Nat) (nb k : Nat), ids.length ≤ k → shI ids nb k = nb + (k - ids.length)
  | [], _, _, _ => by simp [shI]
  | q :: r, nb, 0, h => by simp at h
  | q :: r, nb, k + 1, h => by simp only [shI]; rw [shI_ge r nb k (by simpa using h)]; simp

theorem VR.sh1_ {β β2 : Nat → Option Nat} {n n2 nb : Nat} {S S2 : Nat → Prop} {w : World} {conv : Bool} {ids : List Nat} {v : AV} {x : Value} (h : VR β n S w v x) (hb : ∀ k, k < n → β2 (shI ids nb k) = β k ∧ shI ids nb k < n2) (hS : conv = false → ∀ b, S b → S2 b) : VR β2 n2 S2 w (sh1 conv ids nb v) x := by
  cases h with
  | un x => exact .un x
  | no => exact .no
  | v x h => exact .v x h
  | agg cs vs hl h => exact .un _
  | tup cs vs hl h => exact .un _
  | nilsl => exact .nilsl
  | ptr k j r hk hβ => exact .ptr _ _ _ (hb k hk).2 ((hb k hk).1.trans hβ)
  | eptr k sz i j r hk hβ => exact .eptr _ _ _ _ _ (hb k hk).2 ((hb k hk).1.trans hβ)
  | sl k sz len r cap hk hβ hc hm arr e hh hs => exact .sl _ _ _ r cap (hb k hk).2 ((hb k hk).1.trans hβ) hc hm arr e hh hs
  | sl0 k sz a => exact .sl0 _ _ _
  | sub k sz lo len r cap hk hβ hc hm arr e hh hs => exact .sub _ _ _ _ r cap (hb k hk).2 ((hb k hk).1.trans hβ) hc hm arr e hh hs
  | sub0 k sz lo a => exact .sub0 _ _ _ _
  | ro d x h =>
    cases conv with
    | true => exact .un _
    | false => exact .ro _ _ (h.keep (hS rfl) fun _ _ => rfl)
  | rop d i j b off hSb hd =>
    cases conv with
    | true => exact .un _
    | false => exact .rop _ _ _ _ _ (hS rfl b hSb) (DataAt.keep hSb hd (hS rfl) fun _ _ => rfl)
  | rpc cs j b hSb arr e hh hl ho h =>
    cases conv with
    | true => exact .un _
    | false => exact VR.rpc_fixed (.rpc cs j b hSb arr e hh hl ho h) (hS rfl)
  | gl g => exact .gl g
  | ifc te p => exact .ifc te p
  | fn f cs vs hl h =>
    cases cs with
    | nil => exact .fn _ _ _ hl fun i c hc => by simp at hc
    | cons _ _ => exact .un _
theorem VR.sh_all {β β2 : Nat → Option Nat} {n n2 : Nat} {S S2 : Nat → Prop} {w : World} {f : AV → AV} (one : ∀ v x, VR β n S w v x → VR β2 n2 S2 w (f v) x) {cs : List AV} {vs : Array Value} (hv : ∀ i c, cs[i]? = some c → VR β n S w c (vs.getD i undef)) :
    ∀ i c, (cs.map f)[i]? = some c → VR β2 n2 S2 w c (vs.getD i undef) := fun i c hc => by
  rw [List.getElem?_map, Option.map_eq_some_iff] at hc
  obtain ⟨d, h1, rfl⟩ := hc
  exact one _ _ (hv i d h1)
theorem VR.shE_ {β β2 : Nat → Option Nat} {n n2 nb : Nat} {S S2 : Nat → Prop} {w : World} {conv : Bool} {ids : List Nat} {v : AV} {x : Value} (h : VR β n S w v x) (hb : ∀ k, k < n → β2 (shI ids nb k) = β k ∧ shI ids nb k < n2) (hS : conv = false → ∀ b, S b → S2 b) : VR β2 n2 S2 w (shE conv ids nb v) x := by
  unfold shE
  split
  · obtain ⟨vs, rfl, hl, hv⟩ := h.agg_inv; exact .agg _ vs (by simpa using hl) (VR.sh_all (fun _ _ h => h.sh1_ hb hS) hv)
  · exact h.sh1_ hb hS
theorem VR.shV_ {β β2 : Nat → Option Nat} {n n2 nb : Nat} {S S2 : Nat → Prop} {w : World} {conv : Bool} {ids : List Nat} {v : AV} {x : Value} (h : VR β n S w v x) (hb : ∀ k, k < n → β2 (shI ids nb k) = β k ∧ shI ids nb k < n2) (hS : conv = false → ∀ b, S b → S2 b) : VR β2 n2 S2 w (shV conv ids nb v) x := by
  unfold shV
  split
  · obtain ⟨vs, rfl, hl, hv⟩ := h.agg_inv; exact .agg _ vs (by simpa using hl) (VR.sh_all (fun _ _ h => h.sh1_ hb hS) hv)
  · obtain ⟨vs, rfl, hl, hv⟩ := h.tup_inv; exact .tup _ vs (by simpa using hl) (VR.sh_all (fun _ _ h => h.shE_ hb hS) hv)
  · obtain ⟨vs, rfl, hl, hv⟩ := h.fn_inv; exact .fn _ _ vs (by simpa using hl) (VR.sh_all (fun _ _ h => h.shE_ hb hS) hv)
  · exact h.sh1_ hb hS
theorem BlkR.shB_ {β β2 : Nat → Option Nat} {n n2 nb : Nat} {S S2 : Nat → Prop} {w : World} {conv : Bool} {ids : List Nat} {r : Option Nat} {b : Blk} (h : BlkR β n S w r b) (hb : ∀ k, k < n → β2 (shI ids nb k) = β k ∧ shI ids nb k < n2) (hS : conv = false → ∀ b, S b → S2 b) : BlkR β2 n2 S2 w r (shB conv ids nb b) := by
  cases h with
  | dead => exact .dead _
  | obj r arr e p hh h => exact .obj r arr e p hh h
  | cells r arr e cs hh hl h =>
    exact .cells r arr e _ hh (by simpa using hl) fun i c hc => by
      rw [List.getElem?_map, Option.map_eq_some_iff] at hc
      obtain ⟨d, h1, rfl⟩ := hc
      exact (h i d h1).shV_ hb hS
  | data0 d h =>
    cases d with
    | nest xss =>
      cases conv with
      | true => exact .dead _
      | false => exact .data0 _ h
    | _ => exact .data0 _ h
  | data r arr e d hh hl h =>
    cases d with
    | nest xss =>
      cases conv with
      | true => exact .dead _
      | false => exact .data r arr e _ hh hl fun i hi j hj => (h i hi j hj).keep (hS rfl) fun _ _ => rfl
    | _ => exact .data r arr e _ hh hl h
theorem shB_dead {conv : Bool} {ids : List Nat} {nb : Nat} {b : Blk} (h : shB conv ids nb b ≠ .dead) : b ≠ .dead := fun e => by subst e; exact h rfl

/-- What a call may take for plain data. -/
def wideS (conv : Bool) (ids : List Nat) (H : List Blk) (β : Nat → Option Nat) (S : Nat → Prop) (b : Nat) : Prop :=
  S b ∨ (conv = true ∧ ∃ k c, H[k]? = some c ∧ c ≠ Blk.dead ∧ isId ids k = false ∧ β k = some b)
def smallβ (ids : List Nat) (β : Nat → Option Nat) (i : Nat) : Option Nat := ids[i]?.bind β
theorem VR.am0_ {β : Nat → Option Nat} {S : Nat → Prop} {H : List Blk} {w : World} {conv : Bool} {ids : List Nat} (hr : Rel G β S H w) {a s : AV} {x : Value} (h : VR β H.length S w a x) (hm : am0 conv ids H a s) :
    VR (smallβ ids β) ids.length (wideS conv ids H β S) w s x := by
  have idk : ∀ {k k' : Nat} {r : Nat}, idI ids k' k = true → β k = some r → k' < ids.length ∧ smallβ ids β k' = some r := fun h1 h2 => by
    have h3 := idI_get h1
    refine ⟨?_, by simp [smallβ, h3, h2]⟩
    exact (List.getElem?_eq_some_iff.1 h3).1
  cases s with
  | un => exact .un x
  | no => cases h <;> first | exact .no | exact hm.elim
  | v y => cases h with
    | v x h => have := veq_eq hm; subst this; exact .v _ h
    | _ => exact hm.elim
  | nilsl => cases h <;> first | exact .nilsl | exact hm.elim
  | ptr k' j' => cases h with
    | ptr k j r hk hb => obtain ⟨h1, rfl⟩ := hm; obtain ⟨h2, h3⟩ := idk h1 hb; exact .ptr _ _ _ h2 h3
    | _ => exact hm.elim
  | eptr k' sz' i' j' => cases h with
    | eptr k sz i j r hk hb => obtain ⟨h1, rfl, rfl, rfl⟩ := hm; obtain ⟨h2, h3⟩ := idk h1 hb; exact .eptr _ _ _ _ _ h2 h3
    | _ => exact hm.elim
  | sl k' sz' len' => cases h with
    | nilsl => have : len' = 0 := hm; subst this; exact .sl0 _ _ _
    | sl k sz len r cap hk hb hc hm' arr e hh hs => obtain ⟨h1, rfl, rfl⟩ := hm; obtain ⟨h2, h3⟩ := idk h1 hb; exact .sl _ _ _ r cap h2 h3 hc hm' arr e hh hs
    | sl0 k sz a => obtain ⟨h1, rfl, rfl⟩ := hm; exact .sl0 _ _ _
    | _ => exact hm.elim
  | sub k' sz' lo' len' => cases h with
    | sub k sz lo len r cap hk hb hc hm' arr e hh hs => obtain ⟨h1, rfl, rfl, rfl⟩ := hm; obtain ⟨h2, h3⟩ := idk h1 hb; exact .sub _ _ _ _ r cap h2 h3 hc hm' arr e hh hs
    | sub0 k sz lo a => obtain ⟨h1, rfl, rfl, rfl⟩ := hm; exact .sub0 _ _ _ _
    | _ => exact hm.elim
  | ro d' =>
    have wS : ∀ b, S b → wideS conv ids H β S b := fun _ h => .inl h
    cases h with
    | nilsl => exact .ro _ _ ⟨none, 0, by rw [show d'.len = 0 from hm], by rw [show d'.len = 0 from hm]; exact Nat.le_refl _, Nat.zero_le _, fun hp => by rw [show d'.len = 0 from hm] at hp; omega⟩
    | ro d x h => have : d = d' := hm; subst this; exact .ro _ _ (h.keep wS fun _ _ => rfl)
    | sl k sz len r cap hk hb hc hm' arr e hh hs =>
      obtain ⟨hcv, hid, hd⟩ := hm
      split at hd
      · rename_i d0 hn
        obtain ⟨h1, rfl, rfl⟩ := hd
        obtain rfl := Nat.eq_of_beq_eq_true h1
        have hH := nthB_some hn (by simp)
        have hW : wideS conv ids H β S r := .inr ⟨hcv, k, _, hH, by simp, hid, hb⟩
        refine .ro _ _ ⟨_, cap, rfl, hc, hm', fun hp => ⟨r, 0, rfl, hW, ?_⟩⟩
        have hB := hr.blk k _ hH
        rw [hb] at hB
        cases hB with
        | data _ arr' e' _ hh' hl hcells =>
          intro i hi j hj
          have hlt : i * d0.sz + j < arr'.size := by
            have : (i + 1) * d0.sz ≤ d0.len * d0.sz := Nat.mul_le_mul_right _ hi
            rw [Nat.add_mul] at this
            omega
          exact ⟨_, by rw [Nat.zero_add]; exact cell_row hh' hlt, (hcells i hi j hj).keep wS fun _ _ => rfl⟩
      · rename_i cs hn
        obtain ⟨⟨rfl, rfl⟩, xss, rfl, hlx, hall⟩ := hd
        have hH := nthB_some hn (by simp)
        have hW : wideS conv ids H β S r := .inr ⟨hcv, k, _, hH, by simp, hid, hb⟩
        have hlx' : (D.nest xss).len = cs.length := hlx
        refine .ro _ _ ⟨_, cap, by rw [hlx'], by rw [hlx']; exact hc, hm', fun hp => ⟨r, 0, rfl, hW, ?_⟩⟩
        have hB := hr.blk k _ hH
        rw [hb] at hB
        cases hB with
        | cells _ arr' e' _ hh' hl hcells =>
          intro i hi j hj
          have hj : j = 0 := by simp only [D.sz] at hj; omega
          subst hj
          rw [hlx'] at hi
          obtain ⟨q, hq1, hq2, hq3⟩ := hall i hi
          refine ⟨arr'.getD i undef, ?_, ?_⟩
          · have : 0 + i * (D.nest xss).sz + 0 = i := by simp only [D.sz]; omega
            rw [this]
            exact cell_row hh' (by omega)
          · have hv := hcells i _ hq1
            have hq4 := nthB_some hq3 (by simp)
            show SlInts _ w .i64 (xss.getD i []) _
            generalize arr'.getD i undef = u at hv
            generalize hys : xss.getD i [] = ys at hv hq3 hq4
            generalize hyl : ys.length = n1 at hv
            cases hv with
            | sl _ _ _ r2 cap2 hk2 hb2 hc2 hm2 arr2 e2 hh2 hs2 =>
              refine ⟨_, cap2, by rw [hyl], by rw [hyl]; exact hc2, hm2, fun hp2 => ⟨r2, 0, rfl, .inr ⟨hcv, q, _, hq4, by simp, hq2, hb2⟩, ?_⟩⟩
              have hB2 := hr.blk q _ hq4
              rw [hb2] at hB2
              cases hB2 with
              | data _ arr3 e3 _ hh3 hl3 hc3 =>
                intro m hm3
                have h4 := hc3 m hm3 0 Nat.one_pos
                have hl3' : ys.length * 1 ≤ arr3.size := hl3
                rw [Nat.zero_add, cell_row hh3 (by omega)]
                have h5 : arr3.getD (m * 1 + 0) undef = .int .i64 (ys.getD m 0) := h4
                have h6 : m * 1 + 0 = m := by omega
                rw [h6] at h5
                rw [h5]
            | sl0 _ _ a2 => exact ⟨a2, 0, by rw [hyl], by rw [hyl]; exact Nat.le_refl _, Nat.zero_le _, fun hp2 => by omega⟩
      · exact hd.elim
    | sl0 k sz a =>
      obtain ⟨hcv, hid, hd⟩ := hm
      split at hd
      · rename_i d0 hn
        obtain ⟨h1, h2, rfl⟩ := hd
        exact .ro _ _ ⟨a, 0, by rw [← h2], by rw [← h2]; exact Nat.le_refl _, Nat.zero_le _, fun hp => by omega⟩
      · rename_i cs hn
        obtain ⟨⟨rfl, h2⟩, xss, rfl, hlx, hall⟩ := hd
        have hlx' : (D.nest xss).len = 0 := hlx.trans h2.symm
        exact .ro _ _ ⟨a, 0, by rw [hlx'], by rw [hlx']; exact Nat.le_refl _, Nat.zero_le _, fun hp => by rw [hlx'] at hp; omega⟩
      · exact hd.elim
    | sub k sz lo len r cap hk hb hc hm' arr e hh hs =>
      obtain ⟨hcv, hid, hd⟩ := hm
      split at hd
      · rename_i d0 hn
        obtain ⟨h1, h2, rfl⟩ := hd
        obtain rfl := Nat.eq_of_beq_eq_true h1
        have hH := nthB_some hn (by simp)
        have hW : wideS conv ids H β S r := .inr ⟨hcv, k, _, hH, by simp, hid, hb⟩
        have hsl := D.sub_len d0 lo len h2
        refine .ro _ _ ⟨_, cap, by rw [hsl], by rw [hsl]; exact hc, hm', fun hp => ⟨r, lo * d0.sz, rfl, hW, ?_⟩⟩
        have hB := hr.blk k _ hH
        rw [hb] at hB
        have hD : DataAt (wideS conv ids H β S) w d0 r 0 := by
          cases hB with
          | data _ arr' e' _ hh' hl hcells =>
            intro i hi j hj
            have hlt : i * d0.sz + j < arr'.size := by
              have : (i + 1) * d0.sz ≤ d0.len * d0.sz := Nat.mul_le_mul_right _ hi
              rw [Nat.add_mul] at this
              omega
            exact ⟨_, by rw [Nat.zero_add]; exact cell_row hh' hlt, (hcells i hi j hj).keep wS fun _ _ => rfl⟩
        have := hD.sub h2
        rwa [Nat.zero_add] at this
      · exact hd.elim
    | sub0 k sz lo a =>
      obtain ⟨hcv, hid, hd⟩ := hm
      split at hd
      · rename_i d0 hn
        obtain ⟨h1, h2, rfl⟩ := hd
        have hsl := D.sub_len d0 lo 0 h2
        exact .ro _ _ ⟨a, 0, by rw [hsl], by rw [hsl]; exact Nat.le_refl _, Nat.zero_le _, fun hp => by omega⟩
      · exact hd.elim
    | _ => exact hm.elim
  | rop d' i' j' => cases h with
    | rop d i j b off hS hd => obtain ⟨rfl, rfl, rfl⟩ := hm; exact .rop _ _ _ _ _ (.inl hS) (DataAt.keep hS hd (fun _ h => .inl h) fun _ _ => rfl)
    | _ => exact hm.elim
  | rpc cs' j' =>
    cases a with
    | rpc cs j => obtain ⟨rfl, rfl⟩ := hm; exact h.rpc_fixed fun _ h => .inl h
    | _ => exact hm.elim
  | gl g' => cases h with
    | gl g => have : g = g' := hm; subst this; exact .gl _
    | _ => exact hm.elim
  | ifc => cases h with
    | ifc te p => exact .ifc te p
    | _ => exact hm.elim
  | fn f' cs' => cases h with
    | fn f cs vs hl h =>
      cases cs with
      | nil =>
        cases cs' with
        | nil => have : f = f' := hm; subst this; exact .fn _ _ _ hl fun i c hc => by simp at hc
        | cons _ _ => exact hm.elim
      | cons _ _ => cases cs' <;> exact hm.elim
    | _ => cases cs' <;> exact hm.elim
  | agg cs => cases h <;> exact hm.elim
  | tup cs => cases h <;> exact hm.elim
theorem VR.am1_ {β : Nat → Option Nat} {S : Nat → Prop} {H : List Blk} {w : World} {conv : Bool} {ids : List Nat} (hr : Rel G β S H w) {a s : AV} {x : Value} (h : VR β H.length S w a x) (hm : am1 conv ids H a s) :
    VR (smallβ ids β) ids.length (wideS conv ids H β S) w s x := by
  unfold am1 at hm
  split at hm
  · rename_i k j cs j'
    obtain ⟨hcv, hid, rfl, hd⟩ := hm
    split at hd
    · rename_i ds hn
      obtain ⟨ho, hm⟩ := hd
      have hH := nthB_some hn (by simp)
      obtain ⟨r, hk, hb, rfl⟩ := h.ptr_inv
      have hB := hr.blk k _ hH
      rw [hb] at hB
      obtain ⟨h1, h2⟩ := vmL_get hm
      cases hB with
      | cells _ arr e _ hh hl hcells =>
        exact .rpc cs j r (.inr ⟨hcv, k, _, hH, by simp, hid, hb⟩) arr e hh (h1 ▸ hl) ho fun i c hc => by
          obtain ⟨d, h3, h4⟩ := h2 i c hc
          exact (hcells i d h3).am0_ hr h4
    · exact hd.elim
  · exact h.am0_ hr hm
theorem VR.am_all {β : Nat → Option Nat} {S : Nat → Prop} {H : List Blk} {w : World} {conv : Bool} {ids : List Nat} {m : AV → AV → Prop} (one : ∀ a s x, VR β H.length S w a x → m a s → VR (smallβ ids β) ids.length (wideS conv ids H β S) w s x)
    {cs ds : List AV} {vs : Array Value} (hl : vmL m cs ds) (hv : ∀ i c, cs[i]? = some c → VR β H.length S w c (vs.getD i undef)) : ∀ i c, ds[i]? = some c → VR (smallβ ids β) ids.length (wideS conv ids H β S) w c (vs.getD i undef) := fun i c hc => by
  obtain ⟨d, h1, h2⟩ := (vmL_get hl).2 i c hc
  exact one _ _ _ (hv i d h1) h2
theorem VR.amE_ {β : Nat → Option Nat} {S : Nat → Prop} {H : List Blk} {w : World} {conv : Bool} {ids : List Nat} (hr : Rel G β S H w) {a s : AV} {x : Value} (h : VR β H.length S w a x) (hm : amE conv ids H a s) :
    VR (smallβ ids β) ids.length (wideS conv ids H β S) w s x := by
  unfold amE at hm
  split at hm
  · obtain ⟨vs, rfl, hl, hv⟩ := h.agg_inv; exact .agg _ vs ((vmL_get hm).1 ▸ hl) (VR.am_all (fun _ _ _ h hm => h.am1_ hr hm) hm hv)
  · exact h.am1_ hr hm
theorem VR.amV_ {β : Nat → Option Nat} {S : Nat → Prop} {H : List Blk} {w : World} {conv : Bool} {ids : List Nat} (hr : Rel G β S H w) {a s : AV} {x : Value} (h : VR β H.length S w a x) (hm : amV conv ids H a s) :
    VR (smallβ ids β) ids.length (wideS conv ids H β S) w s x := by
  unfold amV at hm
  split at hm
  · obtain ⟨vs, rfl, hl, hv⟩ := h.agg_inv; exact .agg _ vs ((vmL_get hm).1 ▸ hl) (VR.am_all (fun _ _ _ h hm => h.am1_ hr hm) hm hv)
  · obtain ⟨vs, rfl, hl, hv⟩ := h.tup_inv; exact .tup _ vs ((vmL_get hm).1 ▸ hl) (VR.am_all (fun _ _ _ h hm => h.amE_ hr hm) hm hv)
  · obtain ⟨rfl, hm⟩ := hm; obtain ⟨vs, rfl, hl, hv⟩ := h.fn_inv; exact .fn _ _ vs ((vmL_get hm).1 ▸ hl) (VR.am_all (fun _ _ _ h hm => h.amE_ hr hm) hm hv)
  · exact h.am1_ hr hm
/-- A contract used in a larger heap. -/
theorem CallA.use {f : FuncId} {args dargs : List AV} {H H0 : List Blk} {Q K : AV → List Blk → Prop} (conv : Bool) (ids : List Nat) (h : CallA P G f dargs H0 Q) (hi : idsOk H.length ids = true)
    (ha : vmL (amV conv ids H) args dargs) (hh : heapA conv ids H ids H0) (hk : ∀ v J, Q v J → K (shV conv ids H.length v) (mergeB (shB conv ids H.length) ids H J)) : CallA P G f args H K := by
  refine ⟨h.1, fun β S w vs hr hl hv => ?_⟩
  obtain ⟨hilt, hinj⟩ := idsOk_get hi
  obtain ⟨hlen0, hblk⟩ := heapA_get hh
  obtain ⟨hal, hag⟩ := vmL_get ha
  -- a living block of the small heap stands for a living one
  have src : ∀ (i : Nat) (b : Blk), H0[i]? = some b → b ≠ .dead → ∃ q c, ids[i]? = some q ∧ H[q]? = some c ∧ c ≠ .dead ∧ blkA conv ids H c b ∧ smallβ ids β i = β q := fun i b hb hn => by
    obtain ⟨q, h1, h2⟩ := hblk i b hb
    have hlt := hilt q (List.mem_of_getElem? h1)
    refine ⟨q, H[q], h1, List.getElem?_eq_getElem hlt, ?_, ?_, by simp [smallβ, h1]⟩
    · intro hd
      rw [nthB_eq, List.getD_eq_getElem?_getD, List.getElem?_eq_getElem hlt, Option.getD_some, hd] at h2
      cases b with
      | dead => exact hn rfl
      | _ => exact h2.elim
    · rwa [nthB_eq, List.getD_eq_getElem?_getD, List.getElem?_eq_getElem hlt, Option.getD_some] at h2
  have notIn : ∀ {q i : Nat}, ids[i]? = some q → isId ids q = false → False := fun h1 h2 => by
    rw [(isId_mem ids _).2 (List.mem_of_getElem? h1)] at h2; cases h2
  have wS : ∀ b, S b → wideS conv ids H β S b := fun _ h => .inl h
  have hr0 : Rel G (smallβ ids β) (wideS conv ids H β S) H0 w := {
    blk := fun i b hb => by
      by_cases hd : b = .dead
      · subst hd; exact .dead _
      · obtain ⟨q, c, h1, h2, h3, h4, h5⟩ := src i b hb hd
        have hB := hr.blk q c h2
        rw [h5, hlen0]
        clear h5
        generalize β q = o at hB ⊢
        unfold blkA at h4
        split at h4
        · exact .dead _
        · subst h4
          cases hB with
          | data0 _ h => exact .data0 _ h
          | data r arr e _ hh hl h => exact .data r arr e _ hh hl fun i hi j hj => (h i hi j hj).keep wS fun _ _ => rfl
        · cases hB with
          | cells r arr e cs hh hl h =>
            obtain ⟨g1, g2⟩ := vmL_get h4
            exact .cells r arr e _ hh (g1 ▸ hl) fun i c hc => by
              obtain ⟨d, g3, g4⟩ := g2 i c hc
              exact (h i d g3).amV_ hr g4
        · subst h4
          cases hB with
          | obj r arr e _ hh h => exact .obj r arr e _ hh h
        · exact h4.elim
    sep := fun i i' b b' r hb hb' hn hn' e e' => by
      obtain ⟨q, c, h1, h2, h3, h4, h5⟩ := src i b hb hn
      obtain ⟨q', c', h1', h2', h3', h4', h5'⟩ := src i' b' hb' hn'
      have := hr.sep q q' c c' r h2 h2' h3 h3' (h5 ▸ e) (h5' ▸ e')
      subst this
      exact hinj i i' q h1 h1'
    off := fun i b r hb hn e hs => by
      obtain ⟨q, c, h1, h2, h3, h4, h5⟩ := src i b hb hn
      rcases hs with hs | ⟨_, k, c', g1, g2, g3, g4⟩
      · exact hr.off q c r h2 h3 (h5 ▸ e) hs
      · have := hr.sep q k c c' r h2 g1 h3 g2 (h5 ▸ e) g4
        subst this
        exact notIn h1 g3
    lt := fun r hs => by
      rcases hs with hs | ⟨_, k, c', g1, g2, g3, g4⟩
      · exact hr.lt r hs
      · exact hr.blk_lt g1 g2 g4
    glob := fun g d hg => by
      obtain ⟨h1, h2⟩ := hr.glob g d hg
      exact ⟨.inl h1, GlobAt.keep h1 h2 wS fun _ _ => rfl⟩ }
  have hargs : ∀ i c, dargs[i]? = some c → VR (smallβ ids β) H0.length (wideS conv ids H β S) w c (vs.getD i undef) := fun i c hc => by
    obtain ⟨d, h1, h2⟩ := hag i c hc
    rw [hlen0]
    exact (hv i d h1).amV_ hr h2
  refine (h.2 (smallβ ids β) (wideS conv ids H β S) w vs hr0 (hal ▸ hl) hargs).mono fun e w1 ⟨β1, S1, J, v, x, h1, h2, h3, h4⟩ => ?_
  have hJ : ids.length ≤ J.length := hlen0 ▸ h4.tr.le
  let S2 : Nat → Prop := fun b => S b ∨ (S1 b ∧ ¬ wideS conv ids H β S b)
  have hS1' : conv = false → ∀ b, S1 b → S2 b := fun hc b hb => by
    by_cases hw : wideS conv ids H β S b
    · rcases hw with h | ⟨h, _⟩
      · exact .inl h
      · rw [hc] at h; cases h
    · exact .inr ⟨hb, hw⟩
  let β2 : Nat → Option Nat := fun k => if k < H.length then β k else β1 (ids.length + (k - H.length))
  obtain ⟨hml, hmg⟩ := mergeB_get (shB conv ids H.length) hilt hinj hJ
  have hβ2 : ∀ k, k < J.length → β2 (shI ids H.length k) = β1 k ∧ shI ids H.length k < (mergeB (shB conv ids H.length) ids H J).length := fun k hk => by
    rw [hml]
    by_cases hki : k < ids.length
    · have hq := List.getElem?_eq_getElem hki
      rw [shI_lt ids _ k _ hq]
      have hlt := hilt _ (List.mem_of_getElem? hq)
      refine ⟨?_, by omega⟩
      show (if ids[k] < H.length then _ else _) = _
      rw [if_pos hlt, h4.tr.agree k (by show k < H0.length; omega)]
      simp [ctxOf, smallβ, hq]
    · rw [shI_ge ids _ k (by omega)]
      refine ⟨?_, by omega⟩
      show (if _ then _ else _) = _
      rw [if_neg (by omega)]
      congr 1
      omega
  have htr : Tr H.length β S w (mergeB (shB conv ids H.length) ids H J).length β2 S2 w1 :=
    ⟨fun k hk => if_pos hk, by rw [hml]; omega, fun _ h => .inl h, fun b hb => h4.tr.keep b (.inl hb), h4.tr.phys⟩
  -- what the small world has written of the old one
  have hM : ∀ r, (∃ k b, H0[k]? = some b ∧ b ≠ Blk.dead ∧ smallβ ids β k = some r) → ∃ i q c, ids[i]? = some q ∧ H[q]? = some c ∧ c ≠ Blk.dead ∧ β q = some r := fun r ⟨i, b, g1, g2, g3⟩ => by
    obtain ⟨q, c, k1, k2, k3, k4, k5⟩ := src i b g1 g2
    exact ⟨i, q, c, k1, k2, k3, k5 ▸ g3⟩
  -- the small heap's block behind a block of the merged heap
  have back : ∀ k b, (mergeB (shB conv ids H.length) ids H J)[k]? = some b → b ≠ .dead → (∃ i c, J[i]? = some c ∧ c ≠ .dead ∧ b = shB conv ids H.length c ∧ β2 k = β1 i ∧ k = shI ids H.length i) ∨ (k ∉ ids ∧ k < H.length ∧ H[k]? = some b ∧ β2 k = β k) := fun k b hb hn => by
    rcases hmg k b hb with ⟨i, c, g1, g2, rfl⟩ | ⟨g1, g2, g3⟩ | ⟨g1, c, g2, rfl⟩
    · have hk : k = shI ids H.length i := (shI_lt ids _ i k g1).symm
      exact .inl ⟨i, c, g2, shB_dead hn, rfl, by rw [hk]; exact (hβ2 i (List.getElem?_eq_some_iff.1 g2).1).1, hk⟩
    · exact .inr ⟨g1, g2, g3, if_pos g2⟩
    · have hk : k = shI ids H.length (ids.length + (k - H.length)) := by rw [shI_ge ids _ _ (by omega)]; omega
      exact .inl ⟨_, c, g2, shB_dead hn, rfl, by rw [hk, (hβ2 _ (List.getElem?_eq_some_iff.1 g2).1).1, ← hk], hk⟩
  -- a small block is none of the frame's
  have apart : ∀ i c k b r, J[i]? = some c → c ≠ .dead → β1 i = some r → k ∉ ids → H[k]? = some b → b ≠ .dead → β k = some r → False := fun i c k b r g1 g2 g3 g4 g5 g6 g7 => by
    rcases h4.new i c r g1 g2 g3 with hn | hn
    · have := hr.blk_lt g5 g6 g7
      exact absurd hn (by simp only [ctxOf]; omega)
    · obtain ⟨i', q, c', k1, k2, k3, k4⟩ := hM r hn
      have := hr.sep k q b c' r g5 k2 g6 k3 g7 k4
      subst this
      exact g4 (List.mem_of_getElem? k1)
  have hkeep : ∀ k b r, k ∉ ids → H[k]? = some b → b ≠ .dead → β k = some r → w1.heap[r]? = w.heap[r]? := fun k b r g1 g2 g3 g4 => by
    refine h4.evo.keep r (hr.blk_lt g2 g3 g4) fun hn => ?_
    obtain ⟨i', q, c', k1, k2, k3, k4⟩ := hM r hn
    have := hr.sep k q b c' r g2 k2 g3 k3 g4 k4
    subst this
    exact g1 (List.mem_of_getElem? k1)
  have newS : ∀ b, S2 b → S b ∨ w.heap.size ≤ b ∨ (∃ i q c, ids[i]? = some q ∧ H[q]? = some c ∧ c ≠ Blk.dead ∧ β q = some b) := fun b hb => by
    rcases hb with hb | ⟨hb, hw⟩
    · exact .inl hb
    · rcases h4.fix b hb with g | g | g
      · exact absurd g hw
      · exact .inr (.inl g)
      · exact .inr (.inr (hM b g))
  refine ⟨β2, S2, mergeB (shB conv ids H.length) ids H J, shV conv ids H.length v, x, h1, hk v J h2, h3.shV_ hβ2 hS1', ?_⟩
  exact {
    rel := {
      blk := fun k b hb => by
        by_cases hd : b = .dead
        · subst hd; exact .dead _
        · rcases back k b hb hd with ⟨i, c, g1, g2, rfl, g4, _⟩ | ⟨g1, g2, g3, g4⟩
          · rw [g4]; exact (h4.rel.blk i c g1).shB_ hβ2 hS1'
          · rw [g4]; exact (hr.blk k b g3).tr htr fun q hq _ => hkeep k b q g1 g3 hd hq
      sep := fun k k' b b' r hb hb' hn hn' e e' => by
        rcases back k b hb hn with ⟨i, c, g1, g2, rfl, g4, g5⟩ | ⟨g1, g2, g3, g4⟩
        · rcases back k' b' hb' hn' with ⟨i', c', g1', g2', rfl, g4', g5'⟩ | ⟨g1', g2', g3', g4'⟩
          · have := h4.rel.sep i i' c c' r g1 g1' g2 g2' (g4 ▸ e) (g4' ▸ e')
            subst this
            rw [g5, g5']
          · exact (apart i c k' b' r g1 g2 (g4 ▸ e) g1' g3' hn' (g4' ▸ e')).elim
        · rcases back k' b' hb' hn' with ⟨i', c', g1', g2', rfl, g4', g5'⟩ | ⟨g1', g2', g3', g4'⟩
          · exact (apart i' c' k b r g1' g2' (g4' ▸ e') g1 g3 hn (g4 ▸ e)).elim
          · exact hr.sep k k' b b' r g3 g3' hn hn' (g4 ▸ e) (g4' ▸ e')
      off := fun k b r hb hn e hs => by
        rcases back k b hb hn with ⟨i, c, g1, g2, rfl, g4, g5⟩ | ⟨g1, g2, g3, g4⟩
        · rcases hs with hs | ⟨hs, _⟩
          · exact h4.rel.off i c r g1 g2 (g4 ▸ e) (h4.tr.sub r (.inl hs))
          · exact h4.rel.off i c r g1 g2 (g4 ▸ e) hs
        · rcases newS r hs with hs | hs | ⟨i', q, c', k1, k2, k3, k4⟩
          · exact hr.off k b r g3 hn (g4 ▸ e) hs
          · have := hr.blk_lt g3 hn (g4 ▸ e)
            omega
          · have := hr.sep k q b c' r g3 k2 hn k3 (g4 ▸ e) k4
            subst this
            exact g1 (List.mem_of_getElem? k1)
      lt := fun r hs => by
        rcases hs with hs | ⟨hs, _⟩
        · exact Nat.lt_of_lt_of_le (hr.lt r hs) h4.evo.size
        · exact h4.rel.lt r hs
      glob := fun g d hg => by
        obtain ⟨g1, g2⟩ := hr.glob g d hg
        exact ⟨.inl g1, GlobAt.keep g1 g2 htr.sub htr.keep⟩ }
    evo := ⟨h4.evo.os, h4.evo.tape, h4.evo.output, h4.evo.size, fun b hb hm => h4.evo.keep b hb fun hn => by
      obtain ⟨i', q, c', k1, k2, k3, k4⟩ := hM b hn
      exact hm ⟨q, c', k2, k3, k4⟩⟩
    new := fun k b r hb hn e => by
      rcases back k b hb hn with ⟨i, c, g1, g2, rfl, g4, g5⟩ | ⟨g1, g2, g3, g4⟩
      · rcases h4.new i c r g1 g2 (g4 ▸ e) with hn | hn
        · exact .inl hn
        · obtain ⟨i', q, c', k1, k2, k3, k4⟩ := hM r hn
          exact .inr ⟨q, c', k2, k3, k4⟩
      · exact .inr ⟨k, b, g3, hn, g4 ▸ e⟩
    tr := htr
    fix := fun b hb => by
      rcases newS b hb with g | g | ⟨i', q, c', k1, k2, k3, k4⟩
      · exact .inl g
      · exact .inr (.inl g)
      · exact .inr (.inr ⟨q, c', k2, k3, k4⟩) }
/-- A call's end that gives up what it has made: it can be read only from here on. -/
theorem CallA.frozen {f : FuncId} {args : List AV} {K : AV → List Blk → Prop} (h : CallA P G f args [] fun v H => ∃ v', amV true [] H v v' ∧ K v' []) : CallA P G f args [] K :=
  ⟨h.1, fun β S w vs hr hl hv => (h.2 β S w vs hr hl hv).mono fun e w' ⟨β', S', H', v, x, h1, ⟨v', hm, hK⟩, h3, h4⟩ => by
    have hS : ∀ b, S' b → wideS true [] H' β' S' b := fun _ h => .inl h
    refine ⟨smallβ [] β', wideS true [] H' β' S', [], v', x, h1, hK, h3.amV_ h4.rel hm, ?_⟩
    exact {
      rel := {
        blk := fun k b hk => by simp at hk
        sep := fun k k' b b' r hk => by simp at hk
        off := fun k b r hk => by simp at hk
        lt := fun r hs => by
          rcases hs with hs | ⟨_, k, c, g1, g2, _, g4⟩
          · exact h4.rel.lt r hs
          · exact h4.rel.blk_lt g1 g2 g4
        glob := fun g d hg => by
          obtain ⟨g1, g2⟩ := h4.rel.glob g d hg
          exact ⟨.inl g1, GlobAt.keep g1 g2 hS fun _ _ => rfl⟩ }
      evo := h4.evo
      new := fun k b r hk => by simp at hk
      tr := ⟨fun k hk => absurd hk (Nat.not_lt_zero k), Nat.le_refl _, fun b hb => hS b (h4.tr.sub b hb), h4.tr.keep, h4.tr.phys⟩
      fix := fun b hb => by
        rcases hb with hb | ⟨_, k, c, g1, g2, _, g4⟩
        · exact h4.fix b hb
        · exact .inr (h4.new k c b g1 g2 g4) }⟩
end
end Go.AE
namespace Go.AE

section
variable {P : Program} {ops : Array Oper} {md : Region.Mode}

/-- The worlds that grow out of w. -/
def Cl (w w' : World) : Prop := Evo w w' (fun _ => False)
theorem Cl.refl (w : World) : Cl w w := Evo.refl _ _
theorem Cl.trans {w w1 w2 : World} (h : Cl w w1) (k : Cl w1 w2) : Cl w w2 := Evo.trans h k fun _ _ hf => hf

def wpAnyM (P : Program) (md : Region.Mode) (ops : Array Oper) (hard : Nat → Bool) (Q : Exit → Act → World → Prop) : Nat → Array Bool → Act → World → Prop
  | 0, listed, a, w => Region.ready md ops listed = [] ∧ ∀ w', Cl w w' → Q .normal a w'
  | f + 1, listed, a, w => (Region.ready md ops listed = [] → ∀ w', Cl w w' → Q .normal a w') ∧ ∀ i ∈ Region.ready md ops listed,
    (hard i = true → ∀ w', Cl w w' → wpOp P ops Q i (wpAnyM P md ops hard Q f (listed.setIfInBounds i true)) a w') ∧
    (hard i = false → qOp P ops (Cl w) i (fun a' => wpAnyM P md ops hard Q f (listed.setIfInBounds i true) a' w) a)
theorem wpAny_of_M {hard : Nat → Bool} {Q : Exit → Act → World → Prop} : ∀ (f : Nat) (listed : Array Bool) (a : Act) (w w' : World), Cl w w' → wpAnyM P md ops hard Q f listed a w → wpAny P md ops Q f listed a w'
  | 0, _, _, _, w', hw, h => ⟨h.1, h.2 w' hw⟩
  | f + 1, listed, a, w, w', hw, h => by
    refine ⟨fun h0 => h.1 h0 w' hw, fun i hi => ?_⟩
    obtain ⟨h1, h2⟩ := h.2 i hi
    cases hh : hard i with
    | true => exact wpOp_mono (fun a' w'' h' => wpAny_of_M f _ a' w'' w'' (Cl.refl _) h') (h1 hh w' hw)
    | false => exact wpOp_of_qOp hw (fun a' w'' hw'' h' => wpAny_of_M f _ a' w w'' hw'' h') (h2 hh)

/-- j waits for i, by however many others. -/
def waitsT (md : Region.Mode) (ops : Array Oper) : Nat → Nat → Nat → Bool
  | 0, _, _ => false
  | f + 1, j, i => match ops[j]? with
    | some oj => oj.after.any fun e => Region.binds md e && (e.on == i || waitsT md ops f e.on i)
    | none => false
def Closed (md : Region.Mode) (ops : Array Oper) (listed : Array Bool) : Prop :=
  listed.size = ops.size ∧ ∀ j oj, ops[j]? = some oj → listed.getD j false = true → ∀ e ∈ oj.after, Region.binds md e = true → listed.getD e.on false = true
theorem Closed.set {i : Nat} {listed : Array Bool} (inv : Closed md ops listed) (hi : i ∈ Region.ready md ops listed) : Closed md ops (listed.setIfInBounds i true) := by
  obtain ⟨_, oi, hoi, hall⟩ := mem_ready.1 hi
  refine ⟨by simp [inv.1], fun j oj hj hl e he hb => ?_⟩
  by_cases hij : i = j
  · subst hij
    have : oj = oi := Option.some.inj (hj.symm.trans hoi)
    subst this
    exact getD_set_true (hall e he hb)
  · rw [getD_set_ne false hij] at hl
    exact getD_set_true (inv.2 j oj hj hl e he hb)
theorem Closed.waits {listed : Array Bool} (inv : Closed md ops listed) {i : Nat} : ∀ (f j : Nat), waitsT md ops f j i = true → listed.getD j false = true → listed.getD i false = true
  | 0, j, h, _ => by simp [waitsT] at h
  | f + 1, j, h, hl => by
    simp only [waitsT] at h
    split at h
    · rename_i oj hj
      obtain ⟨e, he, hb⟩ := Array.any_eq_true'.1 h
      simp only [Bool.and_eq_true, Bool.or_eq_true, beq_iff_eq] at hb
      have h1 := inv.2 j oj hj hl e he hb.1
      rcases hb.2 with h2 | h2
      · rw [← h2]; exact h1
      · exact inv.waits f e.on h2 h1
    · cases h
theorem Closed.ready {listed : Array Bool} (inv : Closed md ops listed) {i j f : Nat} (h : waitsT md ops f j i = true) (hj : j ∈ Region.ready md ops listed) : listed.getD i false = true := by
  obtain ⟨_, oj, hoj, hall⟩ := mem_ready.1 hj
  cases f with
  | zero => simp [waitsT] at h
  | succ f =>
    simp only [waitsT, hoj] at h
    obtain ⟨e, he, hb⟩ := Array.any_eq_true'.1 h
    simp only [Bool.and_eq_true, Bool.or_eq_true, beq_iff_eq] at hb
    have h1 := hall e he hb.1
    rcases hb.2 with h2 | h2
    · rw [← h2]; exact h1
    · exact inv.waits f e.on h2 h1

theorem qOp_swap {C : World → Prop} {j : Nat} {oi oj : Oper} {v : Value} (hj : ops[j]? = some oj) (hap : oi.apart ops oj = true) (hsj : ∀ cs b, oj.op ≠ .select cs b) {K : Act → Prop} {Y : Act → Prop} {a : Act}
    (keep : ∀ a, Y a → ∀ u, Y (a.put oj.dst u)) (hy : Y a) (h : qOp P ops C j K (a.put oi.dst v)) : qOp P ops C j (fun a' => Y a' ∧ K (a'.put oi.dst v)) a := by
  obtain ⟨h1, h2, h3⟩ := Oper.apart_spec hap
  unfold qOp at *
  simp only [hj] at *
  rw [wanted_put oj a oi.dst v h1] at h
  split
  · rename_i hw
    simp only [hw, if_true] at h
    obtain ⟨u, hu, hn⟩ := h
    refine ⟨u, fun w hw' => ?_, keep a hy u, by rw [← Act.put_comm a v u h2]; exact hn⟩
    have := hu w hw'
    unfold Oper.quietAt at *
    rwa [execOp_put oj hsj a oi.dst v h1] at this
  · rename_i hw
    simp only [hw] at h
    exact ⟨keep a hy _, by rw [← Act.put_comm a v undef h2]; exact h⟩
theorem yields_in {C : World → Prop} {o : Oper} {v : Value} {a : Act} (h : Yields P ops o v a) : YieldsIn P ops C o v a :=
  h.imp (fun ⟨hw, hv⟩ => ⟨hw, fun w _ => by unfold Oper.quietAt; rw [hv w]; exact ⟨rfl, rfl⟩⟩) id

/-- An operation that looks at nothing may be taken first. -/
theorem wpAnyM_firstP {hard : Nat → Bool} {Q : Exit → Act → World → Prop} {i : Nat} {oi : Oper} {v : Value} (hi : ops[i]? = some oi) (hsel : ∀ (j : Nat) (o : Oper) cs b, ops[j]? = some o → o.op ≠ .select cs b)
    (hQ : ∀ c a w, ¬ Q (.panic c) a w) (hs : hard i = false) :
    ∀ (f : Nat) (listed : Array Bool) (a : Act) (w : World),
      (∀ j oj, ops[j]? = some oj → j ≠ i → listed.getD j true = false → (∀ e ∈ oj.after, Region.binds md e = true → e.on ≠ i) → oi.apart ops oj = true) →
      i ∈ Region.ready md ops listed → Yields P ops oi v a →
      wpAnyM P md ops hard Q f (listed.setIfInBounds i true) (a.put oi.dst v) w → wpAnyM P md ops hard Q (f + 1) listed a w := by
  intro f
  induction f with
  | zero =>
    intro listed a w _ hr hy H
    refine ⟨fun h => (by rw [h] at hr; cases hr), fun j hj => ?_⟩
    by_cases hji : j = i
    · subst hji
      exact ⟨fun h => (by rw [hs] at h; cases h), fun _ => (yields_in hy).qOp hi H⟩
    · have := ready_mono hj hji
      rw [H.1] at this
      cases this
  | succ f ih =>
    intro listed a w hfree hr hy H
    refine ⟨fun h => (by rw [h] at hr; cases hr), fun j hj => ?_⟩
    by_cases hji : j = i
    · subst hji
      exact ⟨fun h => (by rw [hs] at h; cases h), fun _ => (yields_in hy).qOp hi H⟩
    · obtain ⟨H1, H2⟩ := H.2 j (ready_mono hj hji)
      obtain ⟨hjun, oj, hoj, hall⟩ := mem_ready.1 hj
      have hnot : ∀ e ∈ oj.after, Region.binds md e = true → e.on ≠ i := fun e he hb heq => by
        have h1 := hall e he hb
        rw [heq, getD_both (mem_ready.1 hr).1] at h1
        cases h1
      have hap := hfree j oj hoj hji hjun hnot
      have hfree' : ∀ k ok, ops[k]? = some ok → k ≠ i → (listed.setIfInBounds j true).getD k true = false →
          (∀ e ∈ ok.after, Region.binds md e = true → e.on ≠ i) → oi.apart ops ok = true := fun k ok hk hki hun hno => by
        refine hfree k ok hk hki ?_ hno
        by_cases hjk : j = k
        · subst hjk; exact hjun
        · rw [getD_set_ne true hjk] at hun; exact hun
      refine ⟨fun hh w' hw' => ?_, fun hh => ?_⟩
      · have h2 := wpOp_put hoj hap (fun cs b => hsel i oi cs b hi) (fun cs b => hsel j oj cs b hoj) (fun c a w h => absurd h (hQ c _ w)) hy (H1 hh w' hw')
        refine wpOp_mono (fun a' w'' h3 => ih (listed.setIfInBounds j true) a' w'' hfree' (ready_mono hr (Ne.symm hji)) h3.1 ?_) h2
        rw [Array.setIfInBounds_comm _ _ hji]
        exact h3.2
      · obtain ⟨h1, _, h3⟩ := Oper.apart_spec hap
        have h2 := qOp_swap (Y := fun a => Yields P ops oi v a) hoj hap (fun cs b => hsel j oj cs b hoj)
          (fun a hy u => hy.of_same (execOp_put oi (fun cs b => hsel i oi cs b hi) a oj.dst u h3) (wanted_put oi a oj.dst u h3)) hy (H2 hh)
        refine qOp_mono (fun a' h3 => ih (listed.setIfInBounds j true) a' w hfree' (ready_mono hr (Ne.symm hji)) h3.1 ?_) h2
        rw [Array.setIfInBounds_comm _ _ hji]
        exact h3.2
/-- One that only reads may be taken first, if all that write wait for it. -/
theorem wpAnyM_firstR {hard : Nat → Bool} {Q : Exit → Act → World → Prop} {i : Nat} {oi : Oper} {v : Value} (hi : ops[i]? = some oi) (hsel : ∀ (j : Nat) (o : Oper) cs b, ops[j]? = some o → o.op ≠ .select cs b)
    (hs : hard i = false) (w : World) (m : Nat) :
    ∀ (f : Nat) (listed : Array Bool) (a : Act), Closed md ops listed →
      (∀ j oj, ops[j]? = some oj → j ≠ i → listed.getD j true = false → (∀ e ∈ oj.after, Region.binds md e = true → e.on ≠ i) → oi.apart ops oj = true) →
      (∀ j oj, ops[j]? = some oj → listed.getD j true = false → hard j = true → waitsT md ops m j i = true) →
      i ∈ Region.ready md ops listed → YieldsIn P ops (Cl w) oi v a →
      wpAnyM P md ops hard Q f (listed.setIfInBounds i true) (a.put oi.dst v) w → wpAnyM P md ops hard Q (f + 1) listed a w := by
  intro f
  induction f with
  | zero =>
    intro listed a _ _ _ hr hy H
    refine ⟨fun h => (by rw [h] at hr; cases hr), fun j hj => ?_⟩
    by_cases hji : j = i
    · subst hji
      exact ⟨fun h => (by rw [hs] at h; cases h), fun _ => hy.qOp hi H⟩
    · have := ready_mono hj hji
      rw [H.1] at this
      cases this
  | succ f ih =>
    intro listed a inv hfree hwait hr hy H
    refine ⟨fun h => (by rw [h] at hr; cases hr), fun j hj => ?_⟩
    by_cases hji : j = i
    · subst hji
      exact ⟨fun h => (by rw [hs] at h; cases h), fun _ => hy.qOp hi H⟩
    · obtain ⟨H1, H2⟩ := H.2 j (ready_mono hj hji)
      obtain ⟨hjun, oj, hoj, hall⟩ := mem_ready.1 hj
      have hnot : ∀ e ∈ oj.after, Region.binds md e = true → e.on ≠ i := fun e he hb heq => by
        have h1 := hall e he hb
        rw [heq, getD_both (mem_ready.1 hr).1] at h1
        cases h1
      have hap := hfree j oj hoj hji hjun hnot
      have un : ∀ k, (listed.setIfInBounds j true).getD k true = false → listed.getD k true = false := fun k hun => by
        by_cases hjk : j = k
        · subst hjk; exact hjun
        · rw [getD_set_ne true hjk] at hun; exact hun
      refine ⟨fun hh w' hw' => ?_, fun hh => ?_⟩
      · have h1 := inv.ready (hwait j oj hoj hjun hh) hj
        rw [getD_both (mem_ready.1 hr).1] at h1
        cases h1
      · obtain ⟨h1, _, h3⟩ := Oper.apart_spec hap
        have h2 := qOp_swap (Y := fun a => YieldsIn P ops (Cl w) oi v a) hoj hap (fun cs b => hsel j oj cs b hoj)
          (fun a hy u => hy.of_same (execOp_put oi (fun cs b => hsel i oi cs b hi) a oj.dst u h3) (wanted_put oi a oj.dst u h3)) hy (H2 hh)
        refine qOp_mono (fun a' h3 => ih (listed.setIfInBounds j true) a' (inv.set hj) (fun k ok hk hki hun hno => hfree k ok hk hki (un k hun) hno) (fun k ok hk hun hh => hwait k ok hk (un k hun) hh) (ready_mono hr (Ne.symm hji)) h3.1 ?_) h2
        rw [Array.setIfInBounds_comm _ _ hji]
        exact h3.2

/-! ### Operations that only make new memory -/
def growOp (o : Oper) : Bool :=
  match o.op with
  | .alloc _ => true
  | .box _ _ => true
  | _ => false
theorem evo_push (w : World) (o : Obj) : Evo w (w.alloc o) fun _ => False := ⟨rfl, rfl, rfl, by simp, fun b hb _ => by show (w.heap.push o)[b]? = _; rw [Array.getElem?_push, if_neg (Nat.ne_of_lt hb)]⟩
theorem zeroValue_world {t : TypeId} {w w' : World} {z : Value} (h : (zeroValue t).run P w = .ok z w') : w' = w := by
  simp only [zeroValue, typeInfo, Sem.run_bind] at h
  cases hi : P.info? t with
  | none => simp [hi] at h
  | some i =>
    simp [hi] at h
    cases hz : i.zero with
    | none => simp [hz] at h
    | some z => simp [hz] at h; exact h.2.symm
theorem grow_evo {o : Oper} (hg : growOp o = true) {e : Operand → Value} {w w' : World} {n : Next} (h : (execOp e o).run P w = .ok n w') : (∃ u, n = .value u) ∧ Cl w w' := by
  obtain ⟨dst, op, ty, pos, after, guard⟩ := o
  cases op with
  | alloc t =>
    simp only [execOp, Instr.alloc] at h
    cases hz : (zeroValue t).run P w with
    | ok z w1 =>
      obtain rfl := zeroValue_world hz
      simp [hz, newVar, newRow] at h
      obtain ⟨rfl, rfl⟩ := h
      exact ⟨⟨_, rfl⟩, evo_push _ _⟩
    | halt x w1 => simp [hz] at h
  | box t x =>
    simp [execOp, Instr.box, newVar, newRow] at h
    obtain ⟨rfl, rfl⟩ := h
    exact ⟨⟨_, rfl⟩, evo_push _ _⟩
  | _ => simp [growOp] at hg
/-- In every world of the class the operation reads v. -/
def YieldsR (P : Program) (ops : Array Oper) (C : World → Prop) (o : Oper) (v : Value) (a : Act) : Prop :=
  (Region.wanted o (yielded ops a.tmps) = true ∧ ∀ w, C w → (execOp a.eval o).run P w = .ok (.value v) w) ∨
  (Region.wanted o (yielded ops a.tmps) = false ∧ v = undef)
theorem YieldsR.mono {C C' : World → Prop} {o : Oper} {v : Value} {a : Act} (h : YieldsR P ops C o v a) (hc : ∀ w, C' w → C w) : YieldsR P ops C' o v a :=
  h.imp (fun ⟨h1, h2⟩ => ⟨h1, fun w hw => h2 w (hc w hw)⟩) id
theorem YieldsR.into {C : World → Prop} {o : Oper} {v : Value} {a : Act} (h : YieldsR P ops C o v a) : YieldsIn P ops C o v a :=
  h.imp (fun ⟨hw, hv⟩ => ⟨hw, fun w hw' => by unfold Oper.quietAt; rw [hv w hw']; exact ⟨rfl, rfl⟩⟩) id
theorem YieldsR.of_same {C : World → Prop} {o : Oper} {v : Value} {a a' : Act} (hy : YieldsR P ops C o v a) (he : execOp a'.eval o = execOp a.eval o)
    (hw : Region.wanted o (yielded ops a'.tmps) = Region.wanted o (yielded ops a.tmps)) : YieldsR P ops C o v a' := by
  unfold YieldsR at *
  rw [he, hw]
  exact hy
theorem wpOp_put_grow {Q : Exit → Act → World → Prop} {j : Nat} {oi oj : Oper} {v : Value} (hj : ops[j]? = some oj) (hg : growOp oj = true) (hap : oi.apart ops oj = true)
    (hsi : ∀ cs b, oi.op ≠ .select cs b) (hsj : ∀ cs b, oj.op ≠ .select cs b)
    (hQ : ∀ c a w, ¬ Q (.panic c) a w) {K : Act → World → Prop} {a : Act} {w0 w : World} (hw0 : Cl w0 w)
    (hy : YieldsR P ops (Cl w0) oi v a) (h : wpOp P ops Q j K (a.put oi.dst v) w) :
    wpOp P ops Q j (fun a' w' => YieldsR P ops (Cl w') oi v a' ∧ K (a'.put oi.dst v) w') a w := by
  obtain ⟨h1, h2, h3⟩ := Oper.apart_spec hap
  have keep : ∀ (a : Act) (w' : World), YieldsR P ops (Cl w0) oi v a → Cl w0 w' → ∀ u, YieldsR P ops (Cl w') oi v (a.put oj.dst u) := fun a w' hy hc u =>
    (hy.of_same (execOp_put oi hsi a oj.dst u h3) (wanted_put oi a oj.dst u h3)).mono fun w'' hw'' => hc.trans hw''
  unfold wpOp at *
  simp only [hj] at *
  rw [wanted_put oj a oi.dst v h1] at h
  split
  · rename_i hw
    simp only [hw, if_true] at h
    rcases h with h | ⟨hasks, hlets⟩
    case inr => exact .inr ⟨by unfold Oper.asks at *; rw [execOp_put oj hsj a oi.dst v h1] at hasks; exact hasks, hlets⟩
    refine .inl ?_
    unfold Oper.wp at *
    rw [execOp_put oj hsj a oi.dst v h1] at h
    cases hr : (execOp a.eval oj).run P w with
    | ok n w' =>
      rw [hr] at h
      obtain ⟨⟨u, rfl⟩, hc⟩ := grow_evo hg hr
      simp only [Oper.upon] at h ⊢
      exact ⟨keep a w' hy (hw0.trans hc) u, by rw [← Act.put_comm a v u h2]; exact h⟩
    | halt x w' =>
      rw [hr] at h
      cases x <;> simp only [Oper.upon] at h ⊢
      case panic u => exact absurd h (hQ _ _ _)
  · rename_i hw
    simp only [hw] at h
    exact ⟨keep a w hy hw0 _, by rw [← Act.put_comm a v undef h2]; exact h⟩
/-- One that only reads may be taken first, if all that write wait for it; those that only make new memory need not. -/
theorem wpAnyM_firstG {hard : Nat → Bool} {Q : Exit → Act → World → Prop} {i : Nat} {oi : Oper} {v : Value} (hi : ops[i]? = some oi) (hsel : ∀ (j : Nat) (o : Oper) cs b, ops[j]? = some o → o.op ≠ .select cs b)
    (hQ : ∀ c a w, ¬ Q (.panic c) a w) (hs : hard i = false) (m : Nat) :
    ∀ (f : Nat) (listed : Array Bool) (a : Act) (w : World), Closed md ops listed →
      (∀ j oj, ops[j]? = some oj → j ≠ i → listed.getD j true = false → (∀ e ∈ oj.after, Region.binds md e = true → e.on ≠ i) → oi.apart ops oj = true) →
      (∀ j oj, ops[j]? = some oj → listed.getD j true = false → hard j = true → growOp oj = true ∨ waitsT md ops m j i = true) →
      i ∈ Region.ready md ops listed → YieldsR P ops (Cl w) oi v a →
      wpAnyM P md ops hard Q f (listed.setIfInBounds i true) (a.put oi.dst v) w → wpAnyM P md ops hard Q (f + 1) listed a w := by
  intro f
  induction f with
  | zero =>
    intro listed a w _ _ _ hr hy H
    refine ⟨fun h => (by rw [h] at hr; cases hr), fun j hj => ?_⟩
    by_cases hji : j = i
    · subst hji
      exact ⟨fun h => (by rw [hs] at h; cases h), fun _ => hy.into.qOp hi H⟩
    · have := ready_mono hj hji
      rw [H.1] at this
      cases this
  | succ f ih =>
    intro listed a w inv hfree hwait hr hy H
    refine ⟨fun h => (by rw [h] at hr; cases hr), fun j hj => ?_⟩
    by_cases hji : j = i
    · subst hji
      exact ⟨fun h => (by rw [hs] at h; cases h), fun _ => hy.into.qOp hi H⟩
    · obtain ⟨H1, H2⟩ := H.2 j (ready_mono hj hji)
      obtain ⟨hjun, oj, hoj, hall⟩ := mem_ready.1 hj
      have hnot : ∀ e ∈ oj.after, Region.binds md e = true → e.on ≠ i := fun e he hb heq => by
        have h1 := hall e he hb
        rw [heq, getD_both (mem_ready.1 hr).1] at h1
        cases h1
      have hap := hfree j oj hoj hji hjun hnot
      have un : ∀ k, (listed.setIfInBounds j true).getD k true = false → listed.getD k true = false := fun k hun => by
        by_cases hjk : j = k
        · subst hjk; exact hjun
        · rw [getD_set_ne true hjk] at hun; exact hun
      refine ⟨fun hh w' hw' => ?_, fun hh => ?_⟩
      · rcases hwait j oj hoj hjun hh with hg | hwt
        · have h2 := wpOp_put_grow hoj hg hap (fun cs b => hsel i oi cs b hi) (fun cs b => hsel j oj cs b hoj) hQ hw' hy (H1 hh w' hw')
          refine wpOp_mono (fun a' w'' h3 => ih (listed.setIfInBounds j true) a' w'' (inv.set hj) (fun k ok hk hki hun hno => hfree k ok hk hki (un k hun) hno) (fun k ok hk hun hh => hwait k ok hk (un k hun) hh) (ready_mono hr (Ne.symm hji)) h3.1 ?_) h2
          rw [Array.setIfInBounds_comm _ _ hji]
          exact h3.2
        · have h1 := inv.ready hwt hj
          rw [getD_both (mem_ready.1 hr).1] at h1
          cases h1
      · obtain ⟨h1, _, h3⟩ := Oper.apart_spec hap
        have h2 := qOp_swap (Y := fun a => YieldsR P ops (Cl w) oi v a) hoj hap (fun cs b => hsel j oj cs b hoj)
          (fun a hy u => hy.of_same (execOp_put oi (fun cs b => hsel i oi cs b hi) a oj.dst u h3) (wanted_put oi a oj.dst u h3)) hy (H2 hh)
        refine qOp_mono (fun a' h3 => ih (listed.setIfInBounds j true) a' w (inv.set hj) (fun k ok hk hki hun hno => hfree k ok hk hki (un k hun) hno) (fun k ok hk hun hh => hwait k ok hk (un k hun) hh) (ready_mono hr (Ne.symm hji)) h3.1 ?_) h2
        rw [Array.setIfInBounds_comm _ _ hji]
        exact h3.2

/-! ### The walk -/
def wpMix (P : Program) (ops : Array Oper) (hard : Nat → Bool) (Q : Exit → Act → World → Prop) : List Nat → Act → World → Prop
  | [], a, w => ∀ w', Cl w w' → Q .normal a w'
  | k :: r, a, w => match ops[k]? with
    | none => False
    | some o =>
      if hard k = true then ∀ w', Cl w w' → wpOp P ops Q k (wpMix P ops hard Q r) a w'
      else if pureOp o = true ∧ quietOp o = true then ∃ v, Yields P ops o v a ∧ wpMix P ops hard Q r (a.put o.dst v) w
      else ∃ v, YieldsIn P ops (Cl w) o v a ∧ wpMix P ops hard Q r (a.put o.dst v) w
def hardsWait (md : Region.Mode) (ops : Array Oper) (hard : Nat → Bool) (listed : Array Bool) (i : Nat) : Bool :=
  (List.range ops.size).all fun j => listed.getD j true || !hard j || waitsT md ops ops.size j i
/-- All that write and are not listed wait for i. -/
def writesWait (md : Region.Mode) (ops : Array Oper) (hard : Nat → Bool) (listed : Array Bool) (i : Nat) : Bool :=
  (List.range ops.size).all fun j => listed.getD j true || !hard j || (match ops[j]? with | some o => growOp o | none => false) || waitsT md ops ops.size j i
def mixB (md : Region.Mode) (ops : Array Oper) (hard : Nat → Bool) : List Nat → Array Bool → Bool
  | [], listed => (Region.ready md ops listed).isEmpty
  | k :: r, listed => (bif hard k then decide (Region.ready md ops listed = [k])
      else (Region.ready md ops listed).contains k && Region.free md ops listed k && ((match ops[k]? with | some o => pureOp o && quietOp o | none => false) || hardsWait md ops hard listed k)) &&
    mixB md ops hard r (listed.setIfInBounds k true)
theorem wpAnyM_of_mix {hard : Nat → Bool} {Q : Exit → Act → World → Prop} (hsel : Region.noSelect ops = true) (hQ : ∀ c a w, ¬ Q (.panic c) a w) :
    ∀ (l : List Nat) (listed : Array Bool) (a : Act) (w : World), Closed md ops listed → mixB md ops hard l listed = true → wpMix P ops hard Q l a w → wpAnyM P md ops hard Q l.length listed a w
  | [], listed, a, w, _, hB, h => ⟨by simpa [mixB] using hB, h⟩
  | k :: r, listed, a, w, inv, hB, h => by
    simp only [mixB, Bool.and_eq_true] at hB
    obtain ⟨hB1, hB2⟩ := hB
    simp only [wpMix] at h
    cases ho : ops[k]? with
    | none => rw [ho] at h; exact h.elim
    | some o =>
      rw [ho] at h
      simp only at h
      cases hh : hard k with
      | true =>
        rw [hh] at hB1 h
        simp only [cond_true, decide_eq_true_eq, if_true] at hB1 h
        have hin : k ∈ Region.ready md ops listed := by rw [hB1]; simp
        refine ⟨fun h0 => (by rw [hB1] at h0; cases h0), fun j hj => ?_⟩
        rw [hB1] at hj
        have : j = k := by simpa using hj
        subst this
        exact ⟨fun _ w' hw' => wpOp_mono (fun a' w'' h' => wpAnyM_of_mix hsel hQ r _ a' w'' (inv.set hin) hB2 h') (h w' hw'), fun h0 => (by rw [hh] at h0; cases h0)⟩
      | false =>
        rw [hh, ho] at hB1
        simp only [cond_false, Bool.and_eq_true, Bool.or_eq_true] at hB1
        obtain ⟨⟨hr, hf⟩, hp⟩ := hB1
        have hr' : k ∈ Region.ready md ops listed := by simpa using hr
        rw [hh] at h
        rw [if_neg (by simp)] at h
        by_cases hpq : pureOp o = true ∧ quietOp o = true
        · rw [if_pos hpq] at h
          obtain ⟨v, hy, hK⟩ := h
          exact wpAnyM_firstP ho (Region.noSelect_spec hsel) hQ hh r.length listed a w (Region.free_spec ho hf) hr' hy (wpAnyM_of_mix hsel hQ r _ _ w (inv.set hr') hB2 hK)
        · rw [if_neg hpq] at h
          obtain ⟨v, hy, hK⟩ := h
          refine wpAnyM_firstR ho (Region.noSelect_spec hsel) hh w ops.size r.length listed a inv (Region.free_spec ho hf) (fun j oj hj hun hhj => ?_) hr' hy (wpAnyM_of_mix hsel hQ r _ _ w (inv.set hr') hB2 hK)
          rcases hp with hp | hp
          · exact absurd hp hpq
          · have h1 := List.all_eq_true.1 hp j (List.mem_range.2 (Array.getElem?_eq_some_iff.1 hj).1)
            simp only [hun, hhj, Bool.or_eq_true, Bool.not_true, Bool.false_eq_true, or_false, false_or] at h1
            exact h1
def mixOk (ops : Array Oper) (hard : Nat → Bool) (l : List Nat) : Bool :=
  Region.noSelect ops && decide (l.length = ops.size) && mixB .any ops hard l (Array.replicate ops.size false)
theorem wp_region_mix {id : Nat} {hard : Nat → Bool} {Q : Exit → Act → World → Prop} {a : Act} {w : World} {l : List Nat} (hm : P.follows .mixedOrders = true) (hQ : ∀ c a w, ¬ Q (.panic c) a w)
    (hB : mixOk ops hard l = true) (h : wpMix P ops hard Q l a { w with drawn := w.drawn + 1 }) : (Code.region id ops true).wp P Q a w := by
  simp only [mixOk, Bool.and_eq_true, decide_eq_true_eq] at hB
  obtain ⟨⟨h1, h2⟩, h3⟩ := hB
  have := wpAnyM_of_mix (md := .any) h1 hQ l _ a _ ⟨by simp, fun j oj _ hl => (by rw [getD_replicate_false] at hl; cases hl)⟩ h3 h
  rw [h2] at this
  exact wp_region_any hm (wpAny_of_M _ _ _ _ _ (Cl.refl _) this)
end
end Go.AE
namespace Go.AE

section
variable {P : Program} {G : Nat → Option D} {T : TypeId → TD}

/-! ### On into a world that has grown -/
theorem Rel.cl {β : Nat → Option Nat} {S : Nat → Prop} {H : List Blk} {w w' : World} (h : Rel G β S H w) (hc : Cl w w') : Rel G β S H w' := by
  have ht : Tr H.length β S w H.length β S w' := Tr.grow h hc (Nat.le_refl _) fun _ _ => rfl
  exact { blk := fun k b hk => (h.blk k b hk).tr ht fun q _ hq => hc.keep q hq id
          sep := h.sep
          off := h.off
          lt := fun r hr => Nat.lt_of_lt_of_le (h.lt r hr) hc.size
          glob := fun g d hg => ⟨(h.glob g d hg).1, GlobAt.keep (h.glob g d hg).1 (h.glob g d hg).2 ht.sub ht.keep⟩ }
theorem HS.cl {C : Ctx} {β : Nat → Option Nat} {S : Nat → Prop} {H : List Blk} {w w' : World} (h : HS G C β S H w) (hc : Cl w w') : HS G C β S H w' where
  rel := h.rel.cl hc
  evo := h.evo.trans hc fun _ _ hf => hf.elim
  new := h.new
  tr := h.tr.trans (Tr.grow h.rel hc (Nat.le_refl _) fun _ _ => rfl)
  fix := h.fix
theorem FR.cl {β : Nat → Option Nat} {S : Nat → Prop} {H : List Blk} {w w' : World} {fr : List AV} {a : Act} (hr : Rel G β S H w) (h : FR β H.length S w fr a) (hc : Cl w w') : FR β H.length S w' fr a :=
  h.tr (Tr.grow hr hc (Nat.le_refl _) fun _ _ => rfl)

/-! ### Calls that only read -/
def solids (f : AV → Option Value) : List AV → Option (List Value)
  | [] => some []
  | c :: r => match f c with
    | some x => (solids f r).map (x :: ·)
    | none => none
def solid1 (v : AV) : Option Value :=
  match v with
  | .v x => bif scal x then some x else none
  | _ => none
def solidE (v : AV) : Option Value :=
  match v with
  | .v x => bif scal x then some x else none
  | .agg cs => (solids solid1 cs).map fun xs => .agg xs.toArray
  | _ => none
/-- The value that it is, where it is one alone. -/
def solid (v : AV) : Option Value :=
  match v with
  | .v x => bif scal x then some x else none
  | .agg cs => (solids solid1 cs).map fun xs => .agg xs.toArray
  | .tup cs => (solids solidE cs).map fun xs => .tuple xs.toArray
  | _ => none
theorem solids_cons {f : AV → Option Value} {c : AV} {r : List AV} {xs : List Value} (h : solids f (c :: r) = some xs) : ∃ x ys, f c = some x ∧ solids f r = some ys ∧ xs = x :: ys := by
  simp only [solids] at h
  split at h
  · rename_i x hx
    rw [Option.map_eq_some_iff] at h
    obtain ⟨ys, h1, h2⟩ := h
    exact ⟨x, ys, hx, h1, h2.symm⟩
  · cases h
theorem solids_vr {f : AV → Option Value} {β : Nat → Option Nat} {n : Nat} {S : Nat → Prop} {w : World} (one : ∀ c x, f c = some x → VR β n S w c x) : ∀ {cs : List AV} {xs : List Value}, solids f cs = some xs → cs.length = xs.length ∧ ∀ i c, cs[i]? = some c → VR β n S w c (xs.getD i undef) := by
  intro cs
  induction cs with
  | nil => intro xs h; cases h; exact ⟨rfl, fun i c hc => by simp at hc⟩
  | cons c r ih =>
    intro xs h
    obtain ⟨x, ys, hx, h1, rfl⟩ := solids_cons h
    obtain ⟨i1, i2⟩ := ih h1
    refine ⟨by simp [i1], fun i c hc => ?_⟩
    cases i with
    | zero => simp at hc; subst hc; exact one _ _ hx
    | succ i => simp at hc; simpa using i2 i c hc
theorem arr_getD (xs : List Value) (i : Nat) : xs.toArray.getD i undef = xs.getD i undef := by rw [Array.getD_eq_getD_getElem?, List.getD_eq_getElem?_getD]; simp
theorem solid1_vr {β : Nat → Option Nat} {n : Nat} {S : Nat → Prop} {w : World} {v : AV} {x : Value} (h : solid1 v = some x) : VR β n S w v x := by
  unfold solid1 at h
  split at h
  · rename_i y
    cases hs : scal y with
    | true => rw [hs] at h; cases h; exact .v _ hs
    | false => rw [hs] at h; cases h
  · cases h
theorem solidE_vr {β : Nat → Option Nat} {n : Nat} {S : Nat → Prop} {w : World} {v : AV} {x : Value} (h : solidE v = some x) : VR β n S w v x := by
  unfold solidE at h
  split at h
  · rename_i y
    cases hs : scal y with
    | true => rw [hs] at h; cases h; exact .v _ hs
    | false => rw [hs] at h; cases h
  · rw [Option.map_eq_some_iff] at h
    obtain ⟨xs, h1, rfl⟩ := h
    obtain ⟨h2, h3⟩ := solids_vr (β := β) (n := n) (S := S) (w := w) (fun _ _ h => solid1_vr h) h1
    exact .agg _ _ (by simpa using h2) fun i c hc => by rw [arr_getD]; exact h3 i c hc
  · cases h
theorem solid_vr {β : Nat → Option Nat} {n : Nat} {S : Nat → Prop} {w : World} {v : AV} {x : Value} (h : solid v = some x) : VR β n S w v x := by
  unfold solid at h
  split at h
  · rename_i y
    cases hs : scal y with
    | true => rw [hs] at h; cases h; exact .v _ hs
    | false => rw [hs] at h; cases h
  · rw [Option.map_eq_some_iff] at h
    obtain ⟨xs, h1, rfl⟩ := h
    obtain ⟨h2, h3⟩ := solids_vr (β := β) (n := n) (S := S) (w := w) (fun _ _ h => solid1_vr h) h1
    exact .agg _ _ (by simpa using h2) fun i c hc => by rw [arr_getD]; exact h3 i c hc
  · rw [Option.map_eq_some_iff] at h
    obtain ⟨xs, h1, rfl⟩ := h
    obtain ⟨h2, h3⟩ := solids_vr (β := β) (n := n) (S := S) (w := w) (fun _ _ h => solidE_vr h) h1
    exact .tup _ _ (by simpa using h2) fun i c hc => by rw [arr_getD]; exact h3 i c hc
  · cases h
theorem solids_get {f : AV → Option Value} {β : Nat → Option Nat} {n : Nat} {S : Nat → Prop} {w : World} (one : ∀ c x y, f c = some x → VR β n S w c y → y = x) : ∀ {cs : List AV} {xs : List Value} {vs : Array Value}, solids f cs = some xs → cs.length = vs.size → (∀ i c, cs[i]? = some c → VR β n S w c (vs.getD i undef)) → vs.toList = xs := by
  intro cs
  induction cs with
  | nil =>
    intro xs vs h hl hv
    cases h
    simpa using hl.symm
  | cons c r ih =>
    intro xs vs h hl hv
    obtain ⟨x, ys, hx, h1, rfl⟩ := solids_cons h
    have h0 := one _ _ _ hx (hv 0 c rfl)
    obtain ⟨l⟩ := vs
    cases l with
    | nil => simp at hl
    | cons y l =>
      have hy : y = x := by simpa using h0
      subst hy
      have := ih (xs := ys) (vs := l.toArray) h1 (by simpa using hl) fun i c hc => by
        have := hv (i + 1) c (by simpa using hc)
        simpa using this
      simpa using this
theorem solid1_eq {β : Nat → Option Nat} {n : Nat} {S : Nat → Prop} {w : World} {v : AV} {x y : Value} (h : solid1 v = some x) (hv : VR β n S w v y) : y = x := by
  unfold solid1 at h
  split at h
  · rename_i z
    cases hs : scal z with
    | true => rw [hs] at h; cases h; exact hv.v_inv.1
    | false => rw [hs] at h; cases h
  · cases h
theorem solidE_eq {β : Nat → Option Nat} {n : Nat} {S : Nat → Prop} {w : World} {v : AV} {x y : Value} (h : solidE v = some x) (hv : VR β n S w v y) : y = x := by
  unfold solidE at h
  split at h
  · rename_i z
    cases hs : scal z with
    | true => rw [hs] at h; cases h; exact hv.v_inv.1
    | false => rw [hs] at h; cases h
  · rw [Option.map_eq_some_iff] at h
    obtain ⟨xs, h1, rfl⟩ := h
    obtain ⟨vs, rfl, hl, hvs⟩ := hv.agg_inv
    rw [← solids_get (fun _ _ _ h hv => solid1_eq h hv) h1 hl hvs]
  · cases h
theorem solid_eq {β : Nat → Option Nat} {n : Nat} {S : Nat → Prop} {w : World} {v : AV} {x y : Value} (h : solid v = some x) (hv : VR β n S w v y) : y = x := by
  unfold solid at h
  split at h
  · rename_i z
    cases hs : scal z with
    | true => rw [hs] at h; cases h; exact hv.v_inv.1
    | false => rw [hs] at h; cases h
  · rw [Option.map_eq_some_iff] at h
    obtain ⟨xs, h1, rfl⟩ := h
    obtain ⟨vs, rfl, hl, hvs⟩ := hv.agg_inv
    rw [← solids_get (fun _ _ _ h hv => solid1_eq h hv) h1 hl hvs]
  · rw [Option.map_eq_some_iff] at h
    obtain ⟨xs, h1, rfl⟩ := h
    obtain ⟨vs, rfl, hl, hvs⟩ := hv.tup_inv
    rw [← solids_get (fun _ _ _ h hv => solidE_eq h hv) h1 hl hvs]
  · cases h
def CallQ (P : Program) (G : Nat → Option D) (f : FuncId) (args : List AV) (H : List Blk) (K : AV → List Blk → Prop) : Prop :=
  ∃ v x, solid v = some x ∧ Enters P f ∧ (∀ (β : Nat → Option Nat) (S : Nat → Prop) (w : World) (vs : Array Value), Rel G β S H w → args.length = vs.size → (∀ i c, args[i]? = some c → VR β H.length S w c (vs.getD i undef)) →
    Calls P f vs w fun e w' => e = .returned x ∧ Cl w w') ∧ K v H
/-- It hands back r and leaves nothing behind. -/
def Ret (P : Program) (G : Nat → Option D) (f : FuncId) (args : List AV) (r : AV) : Prop := CallA P G f args [] fun v J => v = r ∧ J = []
theorem Ret.quiet {f : FuncId} {args dargs : List AV} {H : List Blk} {r : AV} {x : Value} {K : AV → List Blk → Prop} (h : Ret P G f dargs r) (hx : solid r = some x) (ha : vmL (amV true [] H) args dargs) (hk : K r H) : CallQ P G f args H K := by
  refine ⟨r, x, hx, h.1, fun β S w vs hr hl hv => ?_, hk⟩
  obtain ⟨hal, hag⟩ := vmL_get ha
  have wS : ∀ b, S b → wideS true [] H β S b := fun _ h => .inl h
  have hr0 : Rel G (smallβ [] β) (wideS true [] H β S) [] w := {
    blk := fun i b hb => by simp at hb
    sep := fun i i' b b' r hb => by simp at hb
    off := fun i b r hb => by simp at hb
    lt := fun r hs => by
      rcases hs with hs | ⟨_, k, c', g1, g2, g3, g4⟩
      · exact hr.lt r hs
      · exact hr.blk_lt g1 g2 g4
    glob := fun g d hg => by
      obtain ⟨h1, h2⟩ := hr.glob g d hg
      exact ⟨.inl h1, GlobAt.keep h1 h2 wS fun _ _ => rfl⟩ }
  refine (h.2 (smallβ [] β) (wideS true [] H β S) w vs hr0 (hal ▸ hl) (fun i c hc => ?_)).mono fun e w1 ⟨β1, S1, J, v, y, h1, ⟨h2, h2'⟩, h3, h4⟩ => ?_
  · obtain ⟨d, g1, g2⟩ := hag i c hc
    exact (hv i d g1).amV_ hr g2
  · subst h2
    refine ⟨by rw [h1, solid_eq hx h3], h4.evo.os, h4.evo.tape, h4.evo.output, h4.evo.size, fun b hb _ => h4.evo.keep b hb ?_⟩
    rintro ⟨k, b', g1, _⟩
    simp at g1
theorem Ret.use {f : FuncId} {args dargs : List AV} {H : List Blk} {r : AV} {K : AV → List Blk → Prop} (h : Ret P G f dargs r) (ha : vmL (amV true [] H) args dargs) (hk : K (shV true [] H.length r) H) : CallA P G f args H K :=
  CallA.use true [] h rfl ha trivial fun v J ⟨h1, h2⟩ => by subst h1 h2; simpa [mergeB] using hk

/-! ### One step and the walk -/
def callOp (o : Oper) : Bool :=
  match o.op with
  | .call c => match c.callee with
    | .value _ => true
    | _ => false
  | _ => false
/-- Which operations write: all that are not quiet and are not of the calls qs. -/
def hardOf (ops : Array Oper) (qs : List Nat) (k : Nat) : Bool :=
  match ops[k]? with
  | some o => !(quietOp o || (callOp o && isId qs k))
  | none => true
noncomputable def stepA (T : TypeId → TD) (G : Nat → Option D) (Call : FuncId → List AV → List Blk → (AV → List Blk → Prop) → Prop) (ops : List Oper) (o : Oper) (fr : List AV) (H : List Blk) (K : List AV → List Blk → Prop) : Prop :=
  match o.guard with
  | none => opA T G Call o fr H fun v H' => Go.AE.putA fr o.dst v fun fr' => K fr' H'
  | some (j, want) => match guardA ops fr j with
    | .v (.bool true) => bif want then (opA T G Call o fr H fun v H' => Go.AE.putA fr o.dst v fun fr' => K fr' H') else (Go.AE.putA fr o.dst .no fun fr' => K fr' H)
    | .v (.bool false) => bif want then (Go.AE.putA fr o.dst .no fun fr' => K fr' H) else (opA T G Call o fr H fun v H' => Go.AE.putA fr o.dst v fun fr' => K fr' H')
    | .no => Go.AE.putA fr o.dst .no fun fr' => K fr' H
    | _ => False
noncomputable def atOp (l : List Oper) : Nat → (Oper → Prop) → Prop :=
  List.rec (motive := fun _ => Nat → (Oper → Prop) → Prop) (fun _ _ => False) (fun o _ ih n => Nat.rec (motive := fun _ => (Oper → Prop) → Prop) (fun K => K o) (fun m _ K => ih m K) n) l
theorem atOp_eq (l : List Oper) : ∀ (n : Nat) (K : Oper → Prop), atOp l n K → ∃ o, l[n]? = some o ∧ K o := by
  induction l with
  | nil => intro n K h; exact h.elim
  | cons o r ih =>
    intro n K h
    cases n with
    | zero => exact ⟨o, rfl, h⟩
    | succ n => simpa using ih n K h
noncomputable def mixA (T : TypeId → TD) (G : Nat → Option D) (CallQ Call : FuncId → List AV → List Blk → (AV → List Blk → Prop) → Prop) (ops : List Oper) (qs : List Nat) (l : List Nat) : List AV → List Blk → (List AV → List Blk → Prop) → Prop :=
  List.rec (motive := fun _ => List AV → List Blk → (List AV → List Blk → Prop) → Prop) (fun fr H K => K fr H)
    (fun k _ ih fr H K => atOp ops k fun o => bif callOp o && isId qs k then stepA T G CallQ ops o fr H fun fr' H' => ih fr' H' K else stepA T G Call ops o fr H fun fr' H' => ih fr' H' K) l
theorem mixA_cons (CallQ Call : FuncId → List AV → List Blk → (AV → List Blk → Prop) → Prop) (ops : List Oper) (qs : List Nat) (k : Nat) (r : List Nat) (fr : List AV) (H : List Blk) (K : List AV → List Blk → Prop) :
    mixA T G CallQ Call ops qs (k :: r) fr H K = atOp ops k fun o => bif callOp o && isId qs k then stepA T G CallQ ops o fr H fun fr' H' => mixA T G CallQ Call ops qs r fr' H' K else stepA T G Call ops o fr H fun fr' H' => mixA T G CallQ Call ops qs r fr' H' K := rfl

theorem stepA_hard (hT : TabOK P T) {C : Ctx} {ops : Array Oper} {i : Nat} {o : Oper} (ho : ops[i]? = some o) {fr : List AV} {H : List Blk} {K : List AV → List Blk → Prop} {β : Nat → Option Nat} {S : Nat → Prop} {a : Act} {w : World} {K' : Act → World → Prop} {Q : Exit → Act → World → Prop}
    (h : stepA T G (CallA P G) ops.toList o fr H K) (hf : FR β H.length S w fr a) (hs : HS G C β S H w) (hk : ∀ a w, After G C K a w → K' a w) : wpOp P ops Q i K' a w := by
  have run : (opA T G (CallA P G) o fr H fun v H' => Go.AE.putA fr o.dst v fun fr' => K fr' H') → o.wp P a w K' Q := fun h =>
    opA_sound hT h hf hs fun v H' β' S' x w' hk' hs' ht hv => by
      obtain ⟨fr', h1, h2⟩ := (hf.tr ht).putA hv hk'
      exact hk _ _ ⟨β', S', fr', H', h2, hs', h1⟩
  have skip : (Go.AE.putA fr o.dst .no fun fr' => K fr' H) → K' (a.put o.dst undef) w := fun h => by
    obtain ⟨fr', h1, h2⟩ := hf.putA (x := undef) .no h
    exact hk _ _ ⟨β, S, fr', H, h2, hs, h1⟩
  unfold wpOp
  simp only [ho]
  unfold stepA at h
  split at h
  · rename_i hg
    rw [if_pos (by simp [Region.wanted, hg])]
    exact .inl (run h)
  · rename_i j want hg
    obtain ⟨g1, g2⟩ := guard_vr hf ops j
    have hw : Region.wanted o (yielded ops a.tmps) = (yielded ops a.tmps j == some want) := by simp [Region.wanted, hg]
    split at h
    · rename_i hgu
      rw [hw, g1 true hgu]
      cases want
      · rw [if_neg (by simp)]; exact skip h
      · rw [if_pos (by simp)]; exact .inl (run h)
    · rename_i hgu
      rw [hw, g1 false hgu]
      cases want
      · rw [if_pos (by simp)]; exact .inl (run h)
      · rw [if_neg (by simp)]; exact skip h
    · rename_i hgu
      rw [hw, g2 hgu]
      rw [if_neg (by simp)]
      exact skip h
    · exact h.elim
/-- What a step that does not write yields. -/
def Soft (P : Program) (_G : Nat → Option D) (ops : Array Oper) (o : Oper) (β : Nat → Option Nat) (S : Nat → Prop) (w : World) (a : Act) (K : List AV → List Blk → Prop) (H : List Blk) : Prop :=
  ∃ v fr', (pureOp o = true ∧ quietOp o = true → Yields P ops o v a) ∧ (quietOp o = true → YieldsR P ops (Cl w) o v a) ∧ YieldsIn P ops (Cl w) o v a ∧ K fr' H ∧ FR β H.length S w fr' (a.put o.dst v)
theorem stepA_soft {ops : Array Oper} {o : Oper} {Call : FuncId → List AV → List Blk → (AV → List Blk → Prop) → Prop} {fr : List AV} {H : List Blk} {K : List AV → List Blk → Prop} {β : Nat → Option Nat} {S : Nat → Prop} {a : Act} {w : World}
    (run : ∀ K : AV → List Blk → Prop, opA T G Call o fr H K → ∃ v x, K v H ∧ VR β H.length S w v x ∧ (∀ w', Cl w w' → o.quietAt P a (Cl w) w' x) ∧ (quietOp o = true → ∀ w', Cl w w' → (execOp a.eval o).run P w' = .ok (.value x) w') ∧ (pureOp o = true ∧ quietOp o = true → ∀ w', (execOp a.eval o).run P w' = .ok (.value x) w'))
    (h : stepA T G Call ops.toList o fr H K) (hf : FR β H.length S w fr a) : Soft P G ops o β S w a K H := by
  have run' : Region.wanted o (yielded ops a.tmps) = true → (opA T G Call o fr H fun v H' => Go.AE.putA fr o.dst v fun fr' => K fr' H') → Soft P G ops o β S w a K H := fun hw h => by
    obtain ⟨v, x, h1, h2, h3, h3', h4⟩ := run _ h
    obtain ⟨fr', h5, h6⟩ := hf.putA h2 h1
    exact ⟨x, fr', fun hp => .inl ⟨hw, h4 hp⟩, fun hp => .inl ⟨hw, h3' hp⟩, .inl ⟨hw, h3⟩, h5, h6⟩
  have skip : Region.wanted o (yielded ops a.tmps) = false → (Go.AE.putA fr o.dst .no fun fr' => K fr' H) → Soft P G ops o β S w a K H := fun hw h => by
    obtain ⟨fr', h1, h2⟩ := hf.putA (x := undef) .no h
    exact ⟨undef, fr', fun _ => .inr ⟨hw, rfl⟩, fun _ => .inr ⟨hw, rfl⟩, .inr ⟨hw, rfl⟩, h1, h2⟩
  unfold stepA at h
  split at h
  · rename_i hg
    exact run' (by simp [Region.wanted, hg]) h
  · rename_i j want hg
    obtain ⟨g1, g2⟩ := guard_vr hf ops j
    have hw : Region.wanted o (yielded ops a.tmps) = (yielded ops a.tmps j == some want) := by simp [Region.wanted, hg]
    split at h
    · rename_i hgu
      rw [g1 true hgu] at hw
      cases want
      · exact skip (by rw [hw]; rfl) h
      · exact run' (by rw [hw]; rfl) h
    · rename_i hgu
      rw [g1 false hgu] at hw
      cases want
      · exact run' (by rw [hw]; rfl) h
      · exact skip (by rw [hw]; rfl) h
    · rename_i hgu
      rw [g2 hgu] at hw
      exact skip (by rw [hw]; rfl) h
    · exact h.elim
theorem softQ (hT : TabOK P T) {Call : FuncId → List AV → List Blk → (AV → List Blk → Prop) → Prop} {o : Oper} (hq : quietOp o = true) {fr : List AV} {H : List Blk} {β : Nat → Option Nat} {S : Nat → Prop} {a : Act} {w : World} (hf : FR β H.length S w fr a) (hr : Rel G β S H w) (K : AV → List Blk → Prop)
    (h : opA T G Call o fr H K) : ∃ v x, K v H ∧ VR β H.length S w v x ∧ (∀ w', Cl w w' → o.quietAt P a (Cl w) w' x) ∧ (quietOp o = true → ∀ w', Cl w w' → (execOp a.eval o).run P w' = .ok (.value x) w') ∧ (pureOp o = true ∧ quietOp o = true → ∀ w', (execOp a.eval o).run P w' = .ok (.value x) w') := by
  by_cases hp : pureOp o = true
  · obtain ⟨v, x, h1, h2, h3⟩ := opQ_sound hT hq h hf hr (fun _ => True) fun h0 => (by rw [hp] at h0; cases h0)
    exact ⟨v, x, h1, h2, fun w' _ => by unfold Oper.quietAt; rw [h3 w' trivial]; exact ⟨rfl, rfl⟩, fun _ w' _ => h3 w' trivial, fun _ w' => h3 w' trivial⟩
  · obtain ⟨v, x, h1, h2, h3⟩ := opQ_sound hT hq h hf hr (Cl w) fun _ _ h => h
    exact ⟨v, x, h1, h2, fun w' hw' => by unfold Oper.quietAt; rw [h3 w' hw']; exact ⟨rfl, rfl⟩, fun _ w' hw' => h3 w' hw', fun hp' => absurd hp'.1 hp⟩
theorem softC {o : Oper} (hc : callOp o = true) {fr : List AV} {H : List Blk} {β : Nat → Option Nat} {S : Nat → Prop} {a : Act} {w : World} (hf : FR β H.length S w fr a) (hr : Rel G β S H w) (K : AV → List Blk → Prop)
    (h : opA T G (CallQ P G) o fr H K) : ∃ v x, K v H ∧ VR β H.length S w v x ∧ (∀ w', Cl w w' → o.quietAt P a (Cl w) w' x) ∧ (quietOp o = true → ∀ w', Cl w w' → (execOp a.eval o).run P w' = .ok (.value x) w') ∧ (pureOp o = true ∧ quietOp o = true → ∀ w', (execOp a.eval o).run P w' = .ok (.value x) w') := by
  obtain ⟨dst, op, ty, pos, after, guard⟩ := o
  cases op with
  | call c =>
    obtain ⟨callee, args, argTypes⟩ := c
    cases callee with
    | value f =>
      simp only [opA] at h
      split at h
      · rename_i g caps hg
        rw [avsK_eq, rds_eq] at h
        obtain ⟨v, x, hx, hent, hcall, hk⟩ := h
        have hfv := hf.rd f
        rw [hg] at hfv
        obtain ⟨vs, he, hl, hvs⟩ := hfv.fn_inv
        have hargs : ∀ i c, (args.toList.map (rd fr) ++ caps)[i]? = some c → VR β H.length S w c ((args.map a.eval ++ vs).getD i undef) := fun i c hc => by
          by_cases hi : i < args.size
          · rw [List.getElem?_append_left (by simpa using hi), List.getElem?_map, Option.map_eq_some_iff] at hc
            obtain ⟨y, hy, rfl⟩ := hc
            have : (args.map a.eval ++ vs).getD i undef = a.eval y := by
              rw [Array.getD_eq_getD_getElem?, Array.getElem?_append_left (by simpa using hi)]
              simp at hy
              simp [hy]
            rw [this]
            exact hf.rd y
          · rw [List.getElem?_append_right (by simp; omega)] at hc
            have := hvs _ _ hc
            have e : (args.map a.eval ++ vs).getD i undef = vs.getD (i - args.size) undef := by
              rw [Array.getD_eq_getD_getElem?, Array.getElem?_append_right (by simp; omega), Array.getD_eq_getD_getElem?]
              simp
            rw [e]
            simpa using this
        refine ⟨v, x, hk, ?_, fun w' hw' => ?_, fun hp => by simp [quietOp] at hp, fun hp => by simp [quietOp] at hp⟩
        · exact solid_vr hx
        · have hrun : (execOp a.eval { dst, op := .call { callee := .value f, args, argTypes }, type := ty, pos, after, guard }).run P w' = .ok (.enter g (args.map a.eval ++ vs)) w' := by
            simp [execOp, resolve, Deferred.ofValue, he, invoke, run_callFunc hent]
          unfold Oper.quietAt
          rw [hrun]
          refine ⟨rfl, (hcall β S w' (args.map a.eval ++ vs) (hr.cl hw') (by simp [hl]) fun i c hc => ?_).mono fun e w'' ⟨h1, h2⟩ => ⟨h1, Cl.trans hw' h2⟩⟩
          exact (hargs i c hc).tr (Tr.grow hr hw' (Nat.le_refl _) fun _ _ => rfl)
      · exact h.elim
    | _ => simp [callOp] at hc
  | _ => simp [callOp] at hc
theorem mixA_sound (hT : TabOK P T) {C : Ctx} {ops : Array Oper} {qs : List Nat} {Q : Exit → Act → World → Prop} {K : List AV → List Blk → Prop} (hQ : ∀ a w, After G C K a w → Q .normal a w) :
    ∀ (l : List Nat) (fr : List AV) (H : List Blk) (β : Nat → Option Nat) (S : Nat → Prop) (a : Act) (w : World), mixA T G (CallQ P G) (CallA P G) ops.toList qs l fr H K → FR β H.length S w fr a → HS G C β S H w → wpMix P ops (hardOf ops qs) Q l a w
  | [], fr, H, β, S, a, w, h, hf, hs => fun w' hw' => hQ a w' ⟨β, S, fr, H, hf.cl hs.rel hw', hs.cl hw', h⟩
  | k :: r, fr, H, β, S, a, w, h, hf, hs => by
    rw [mixA_cons] at h
    obtain ⟨o, ho, h⟩ := atOp_eq _ _ _ h
    rw [Array.getElem?_toList] at ho
    simp only [wpMix, ho]
    have fin : Soft P G ops o β S w a (fun fr' H' => mixA T G (CallQ P G) (CallA P G) ops.toList qs r fr' H' K) H → (if pureOp o = true ∧ quietOp o = true then ∃ v, Yields P ops o v a ∧ wpMix P ops (hardOf ops qs) Q r (a.put o.dst v) w
        else ∃ v, YieldsIn P ops (Cl w) o v a ∧ wpMix P ops (hardOf ops qs) Q r (a.put o.dst v) w) := fun ⟨v, fr', h1, _, h2, h3, h4⟩ => by
      have h5 := mixA_sound hT hQ r fr' H β S _ w h3 h4 hs
      split
      · rename_i hp; exact ⟨v, h1 hp, h5⟩
      · exact ⟨v, h2, h5⟩
    cases hq : quietOp o with
    | true =>
      have hh : hardOf ops qs k = false := by simp [hardOf, ho, hq]
      rw [hh, if_neg (by simp)]
      rw [hq] at fin
      cases hc : (callOp o && isId qs k) with
      | true => rw [hc] at h; exact fin (stepA_soft (softQ hT hq hf hs.rel) h hf)
      | false => rw [hc] at h; exact fin (stepA_soft (softQ hT hq hf hs.rel) h hf)
    | false =>
      cases hc : (callOp o && isId qs k) with
      | true =>
        have hh : hardOf ops qs k = false := by simp [hardOf, ho, hc]
        rw [hh, if_neg (by simp)]
        rw [hq] at fin
        rw [hc] at h
        have hc' : callOp o = true := by rw [Bool.and_eq_true] at hc; exact hc.1
        exact fin (stepA_soft (softC hc' hf hs.rel) h hf)
      | false =>
        have hh : hardOf ops qs k = true := by simp [hardOf, ho, hq, hc]
        rw [hh, if_pos rfl]
        rw [hc] at h
        intro w' hw'
        exact stepA_hard hT ho h (hf.cl hs.rel hw') (hs.cl hw') fun a w ⟨β', S', fr', H', h1, h2, h3⟩ => mixA_sound hT hQ r fr' H' β' S' a w h3 h1 h2
theorem draw_rule (hT : TabOK P T) (hm : P.follows .mixedOrders = true) {ops : List Oper} {fr : List AV} {H : List Blk} {K : List AV → List Blk → Prop} (qs l : List Nat) (hB : mixOk ops.toArray (hardOf ops.toArray qs) l = true)
    (h : mixA T G (CallQ P G) (CallA P G) ops qs l fr H K) : DrawA P G ops fr H K := by
  intro id C β S a w hf hs
  have hd : Cl w { w with drawn := w.drawn + 1 } := ⟨rfl, rfl, rfl, Nat.le_refl _, fun _ _ _ => rfl⟩
  refine wp_region_mix hm (fun c a w h => h) hB ?_
  refine mixA_sound hT (K := K) (fun a w ⟨β', S', fr', H', h1, h2, h3⟩ => ⟨β', S', fr', H', h1, h2, h3⟩) l fr H β S a _ (by simpa using h) (hf.cl hs.rel hd) (hs.cl hd)
end
end Go.AE
namespace Go.AE

/-- Which operation comes next. 'first': it may be taken first whatever the draw; 'one', 'both': these are all that may come now. -/
inductive OTree where
  | done
  | first (k : Nat) (t : OTree)
  | one (k : Nat) (t : OTree)
  | both (k : Nat) (t r : OTree)
def keysT : OTree → Nat → Bool
  | .one k _, j => k == j
  | .both k _ r, j => k == j || keysT r j
  | _, _ => false
def depthT : OTree → Nat
  | .done => 0
  | .first _ t => depthT t + 1
  | .one _ t => depthT t + 1
  | .both _ t r => max (depthT t + 1) (depthT r)

section
variable {P : Program} {G : Nat → Option D} {T : TypeId → TD} {ops : Array Oper} {md : Region.Mode}
def okT (md : Region.Mode) (ops : Array Oper) (hard : Nat → Bool) : Bool → OTree → Array Bool → Bool
  | _, .done, listed => (Region.ready md ops listed).isEmpty
  | _, .first k t, listed => !hard k && (Region.ready md ops listed).contains k && Region.free md ops listed k && ((match ops[k]? with | some o => (pureOp o && quietOp o) || (quietOp o && writesWait md ops hard listed k) | none => false) || hardsWait md ops hard listed k) && okT md ops hard true t (listed.setIfInBounds k true)
  | chk, .one k t, listed => (Region.ready md ops listed).contains k && (!chk || (Region.ready md ops listed).all fun j => k == j) && okT md ops hard true t (listed.setIfInBounds k true)
  | chk, .both k t r, listed => (Region.ready md ops listed).contains k && (!chk || (Region.ready md ops listed).all fun j => k == j || keysT r j) && okT md ops hard true t (listed.setIfInBounds k true) && okT md ops hard false r listed
def wpT (P : Program) (ops : Array Oper) (hard : Nat → Bool) (Q : Exit → Act → World → Prop) : OTree → Act → World → Prop
  | .done, a, w => ∀ w', Cl w w' → Q .normal a w'
  | .first k t, a, w => match ops[k]? with
    | none => False
    | some o => if pureOp o = true ∧ quietOp o = true then ∃ v, Yields P ops o v a ∧ wpT P ops hard Q t (a.put o.dst v) w else if quietOp o = true then ∃ v, YieldsR P ops (Cl w) o v a ∧ wpT P ops hard Q t (a.put o.dst v) w else ∃ v, YieldsIn P ops (Cl w) o v a ∧ wpT P ops hard Q t (a.put o.dst v) w
  | .one k t, a, w => match ops[k]? with
    | none => False
    | some o => if hard k = true then ∀ w', Cl w w' → wpOp P ops Q k (wpT P ops hard Q t) a w' else ∃ v, YieldsIn P ops (Cl w) o v a ∧ wpT P ops hard Q t (a.put o.dst v) w
  | .both k t r, a, w => (match ops[k]? with
    | none => False
    | some o => if hard k = true then ∀ w', Cl w w' → wpOp P ops Q k (wpT P ops hard Q t) a w' else ∃ v, YieldsIn P ops (Cl w) o v a ∧ wpT P ops hard Q t (a.put o.dst v) w) ∧ wpT P ops hard Q r a w
def Turn (P : Program) (md : Region.Mode) (ops : Array Oper) (hard : Nat → Bool) (Q : Exit → Act → World → Prop) (f j : Nat) (listed : Array Bool) (a : Act) (w : World) : Prop :=
  (hard j = true → ∀ w', Cl w w' → wpOp P ops Q j (wpAnyM P md ops hard Q f (listed.setIfInBounds j true)) a w') ∧
  (hard j = false → qOp P ops (Cl w) j (fun a' => wpAnyM P md ops hard Q f (listed.setIfInBounds j true) a' w) a)
theorem wpAnyM_of_tree {hard : Nat → Bool} {Q : Exit → Act → World → Prop} (hsel : Region.noSelect ops = true) (hQ : ∀ c a w, ¬ Q (.panic c) a w) :
    ∀ (t : OTree) (chk : Bool) (listed : Array Bool) (a : Act) (w : World), Closed md ops listed → okT md ops hard chk t listed = true → wpT P ops hard Q t a w →
      (chk = true → ∀ f, depthT t ≤ f → wpAnyM P md ops hard Q f listed a w) ∧ ∀ j ∈ Region.ready md ops listed, keysT t j = true → ∀ f, depthT t ≤ f + 1 → Turn P md ops hard Q f j listed a w := by
  -- a branch that is taken now
  have now : ∀ (k : Nat) (t : OTree) (listed : Array Bool) (a : Act) (w : World), (∀ (listed : Array Bool) (a : Act) (w : World), Closed md ops listed → okT md ops hard true t listed = true → wpT P ops hard Q t a w → ∀ f, depthT t ≤ f → wpAnyM P md ops hard Q f listed a w) →
      Closed md ops listed → k ∈ Region.ready md ops listed → okT md ops hard true t (listed.setIfInBounds k true) = true →
      (match ops[k]? with
        | none => False
        | some o => if hard k = true then ∀ w', Cl w w' → wpOp P ops Q k (wpT P ops hard Q t) a w' else ∃ v, YieldsIn P ops (Cl w) o v a ∧ wpT P ops hard Q t (a.put o.dst v) w) → ∀ f, depthT t ≤ f → Turn P md ops hard Q f k listed a w := by
    intro k t listed a w ih inv hin hok h f hf
    cases ho : ops[k]? with
    | none => rw [ho] at h; exact h.elim
    | some o =>
      rw [ho] at h
      refine ⟨fun hh w' hw' => ?_, fun hh => ?_⟩
      · simp only [hh, if_true] at h
        exact wpOp_mono (fun a' w'' h' => ih _ a' w'' (inv.set hin) hok h' f hf) (h w' hw')
      · simp only [hh] at h
        obtain ⟨v, hy, hK⟩ := h
        exact hy.qOp ho (ih _ _ w (inv.set hin) hok hK f hf)
  have top : ∀ (t : OTree) (listed : Array Bool) (a : Act) (w : World), 0 < depthT t → (∀ j ∈ Region.ready md ops listed, keysT t j = true) →
      (∀ j ∈ Region.ready md ops listed, keysT t j = true → ∀ f, depthT t ≤ f + 1 → Turn P md ops hard Q f j listed a w) → (Region.ready md ops listed = [] → ∀ w', Cl w w' → Q .normal a w') → ∀ f, depthT t ≤ f → wpAnyM P md ops hard Q f listed a w := by
    intro t listed a w hpos hall hturn hnil f hf
    cases f with
    | zero => omega
    | succ f => exact ⟨hnil, fun i hi => hturn i hi (hall i hi) f hf⟩
  intro t
  induction t with
  | done =>
    intro chk listed a w inv hok h
    refine ⟨fun _ f _ => ?_, fun j _ hk => by simp [keysT] at hk⟩
    have hr : Region.ready md ops listed = [] := by simpa [okT] using hok
    cases f with
    | zero => exact ⟨hr, h⟩
    | succ f => exact ⟨fun _ => h, fun i hi => by rw [hr] at hi; cases hi⟩
  | first k t ih =>
    intro chk listed a w inv hok h
    refine ⟨fun _ f hf => ?_, fun j _ hk => by simp [keysT] at hk⟩
    simp only [okT, Bool.and_eq_true, Bool.or_eq_true, Bool.not_eq_true'] at hok
    obtain ⟨⟨⟨⟨hh, hr⟩, hfr⟩, hp⟩, hok⟩ := hok
    have hr' : k ∈ Region.ready md ops listed := by simpa using hr
    cases f with
    | zero => simp [depthT] at hf
    | succ f =>
      have hf' : depthT t ≤ f := by simp only [depthT] at hf; omega
      simp only [wpT] at h
      cases ho : ops[k]? with
      | none => rw [ho] at h; exact h.elim
      | some o =>
        rw [ho] at h hp
        simp only at h
        by_cases hpq : pureOp o = true ∧ quietOp o = true
        · rw [if_pos hpq] at h
          obtain ⟨v, hy, hK⟩ := h
          exact wpAnyM_firstP ho (Region.noSelect_spec hsel) hQ hh f listed a w (Region.free_spec ho hfr) hr' hy ((ih true _ _ w (inv.set hr') hok hK).1 rfl f hf')
        · rw [if_neg hpq] at h
          by_cases hqo : quietOp o = true
          · rw [if_pos hqo] at h
            obtain ⟨v, hy, hK⟩ := h
            refine wpAnyM_firstG ho (Region.noSelect_spec hsel) hQ hh ops.size f listed a w inv (Region.free_spec ho hfr) (fun j oj hj hun hhj => ?_) hr' hy ((ih true _ _ w (inv.set hr') hok hK).1 rfl f hf')
            rcases hp with hp | hp
            · rw [Bool.or_eq_true, Bool.and_eq_true, Bool.and_eq_true] at hp
              rcases hp with hp | hp
              · exact absurd hp hpq
              have h1 := List.all_eq_true.1 hp.2 j (List.mem_range.2 (Array.getElem?_eq_some_iff.1 hj).1)
              simp only [hun, hhj, hj, Bool.or_eq_true, Bool.not_true, Bool.false_eq_true, or_false, false_or] at h1
              exact h1
            · have h1 := List.all_eq_true.1 hp j (List.mem_range.2 (Array.getElem?_eq_some_iff.1 hj).1)
              simp only [hun, hhj, Bool.or_eq_true, Bool.not_true, Bool.false_eq_true, or_false, false_or] at h1
              exact .inr h1
          · rw [if_neg hqo] at h
            obtain ⟨v, hy, hK⟩ := h
            refine wpAnyM_firstR ho (Region.noSelect_spec hsel) hh w ops.size f listed a inv (Region.free_spec ho hfr) (fun j oj hj hun hhj => ?_) hr' hy ((ih true _ _ w (inv.set hr') hok hK).1 rfl f hf')
            rcases hp with hp | hp
            · rw [Bool.or_eq_true, Bool.and_eq_true, Bool.and_eq_true] at hp
              rcases hp with hp | hp
              · exact absurd hp hpq
              · exact absurd hp.1 hqo
            · have h1 := List.all_eq_true.1 hp j (List.mem_range.2 (Array.getElem?_eq_some_iff.1 hj).1)
              simp only [hun, hhj, Bool.or_eq_true, Bool.not_true, Bool.false_eq_true, or_false, false_or] at h1
              exact h1
  | one k t ih =>
    intro chk listed a w inv hok h
    simp only [okT, Bool.and_eq_true] at hok
    obtain ⟨⟨hin, hc⟩, hok⟩ := hok
    have hin : k ∈ Region.ready md ops listed := by simpa using hin
    simp only [wpT] at h
    have hturn : ∀ j ∈ Region.ready md ops listed, keysT (.one k t) j = true → ∀ f, depthT (.one k t) ≤ f + 1 → Turn P md ops hard Q f j listed a w := fun j hj hk f hf => by
      have : k = j := by simpa [keysT] using hk
      subst this
      exact now k t listed a w (fun listed a w h1 h2 h3 => (ih true listed a w h1 h2 h3).1 rfl) inv hj hok h f (by simp only [depthT] at hf; omega)
    refine ⟨fun hchk => top _ _ _ _ (by simp [depthT]) (fun j hj => ?_) hturn fun h0 => (by rw [h0] at hin; cases hin), hturn⟩
    rw [hchk] at hc
    have h2 : ∀ x ∈ Region.ready md ops listed, k = x := by simpa using hc
    simpa [keysT] using h2 j hj
  | both k t r ih ihr =>
    intro chk listed a w inv hok h
    simp only [okT, Bool.and_eq_true] at hok
    obtain ⟨⟨⟨hin, hc⟩, hok⟩, hokr⟩ := hok
    have hin : k ∈ Region.ready md ops listed := by simpa using hin
    simp only [wpT] at h
    obtain ⟨h, hr⟩ := h
    have hturn : ∀ j ∈ Region.ready md ops listed, keysT (.both k t r) j = true → ∀ f, depthT (.both k t r) ≤ f + 1 → Turn P md ops hard Q f j listed a w := fun j hj hk f hf => by
      simp only [depthT] at hf
      by_cases hkj : k = j
      · subst hkj
        exact now k t listed a w (fun listed a w h1 h2 h3 => (ih true listed a w h1 h2 h3).1 rfl) inv hj hok h f (by omega)
      · have : keysT r j = true := by
          simp only [keysT, Bool.or_eq_true, beq_iff_eq] at hk
          rcases hk with hk | hk
          · exact absurd hk hkj
          · exact hk
        exact (ihr false listed a w inv hokr hr).2 j hj this f (by omega)
    refine ⟨fun hchk => top _ _ _ _ (by simp only [depthT]; omega) (fun j hj => ?_) hturn fun h0 => (by rw [h0] at hin; cases hin), hturn⟩
    rw [hchk] at hc
    have h2 : ∀ x ∈ Region.ready md ops listed, k = x ∨ keysT r x = true := by simpa using hc
    simpa [keysT] using h2 j hj

/-! ### The walk over a tree -/
noncomputable def treeA (T : TypeId → TD) (G : Nat → Option D) (CallQ Call : FuncId → List AV → List Blk → (AV → List Blk → Prop) → Prop) (ops : List Oper) (qs : List Nat) (t : OTree) : List AV → List Blk → (List AV → List Blk → Prop) → Prop :=
  OTree.rec (motive := fun _ => List AV → List Blk → (List AV → List Blk → Prop) → Prop) (fun fr H K => K fr H)
    (fun k _ ih fr H K => atOp ops k fun o => bif callOp o && isId qs k then stepA T G CallQ ops o fr H fun fr' H' => ih fr' H' K else stepA T G Call ops o fr H fun fr' H' => ih fr' H' K)
    (fun k _ ih fr H K => atOp ops k fun o => bif callOp o && isId qs k then stepA T G CallQ ops o fr H fun fr' H' => ih fr' H' K else stepA T G Call ops o fr H fun fr' H' => ih fr' H' K)
    (fun k _ _ ih ihr fr H K => (atOp ops k fun o => bif callOp o && isId qs k then stepA T G CallQ ops o fr H fun fr' H' => ih fr' H' K else stepA T G Call ops o fr H fun fr' H' => ih fr' H' K) ∧ ihr fr H K) t
/-- One step of it. -/
theorem step_sound (hT : TabOK P T) {C : Ctx} {ops : Array Oper} {qs : List Nat} {Q : Exit → Act → World → Prop} {k : Nat} {K : List AV → List Blk → Prop} {M : Act → World → Prop} {fr : List AV} {H : List Blk} {β : Nat → Option Nat} {S : Nat → Prop} {a : Act} {w : World}
    (next : ∀ fr' H' β' S' a w, K fr' H' → FR β' H'.length S' w fr' a → HS G C β' S' H' w → M a w)
    (h : atOp ops.toList k fun o => bif callOp o && isId qs k then stepA T G (CallQ P G) ops.toList o fr H K else stepA T G (CallA P G) ops.toList o fr H K) (hf : FR β H.length S w fr a) (hs : HS G C β S H w) :
    match ops[k]? with
    | none => False
    | some o => if hardOf ops qs k = true then ∀ w', Cl w w' → wpOp P ops Q k M a w' else
        (pureOp o = true ∧ quietOp o = true → ∃ v, Yields P ops o v a ∧ M (a.put o.dst v) w) ∧ (quietOp o = true → ∃ v, YieldsR P ops (Cl w) o v a ∧ M (a.put o.dst v) w) ∧ ∃ v, YieldsIn P ops (Cl w) o v a ∧ M (a.put o.dst v) w := by
  obtain ⟨o, ho, h⟩ := atOp_eq _ _ _ h
  rw [Array.getElem?_toList] at ho
  rw [ho]
  have fin : Soft P G ops o β S w a K H → (pureOp o = true ∧ quietOp o = true → ∃ v, Yields P ops o v a ∧ M (a.put o.dst v) w) ∧ (quietOp o = true → ∃ v, YieldsR P ops (Cl w) o v a ∧ M (a.put o.dst v) w) ∧ ∃ v, YieldsIn P ops (Cl w) o v a ∧ M (a.put o.dst v) w := fun ⟨v, fr', h1, h1', h2, h3, h4⟩ => by
    have h5 := next fr' H β S _ w h3 h4 hs
    exact ⟨fun hp => ⟨v, h1 hp, h5⟩, fun hp => ⟨v, h1' hp, h5⟩, v, h2, h5⟩
  cases hq : quietOp o with
  | true =>
    have hh : hardOf ops qs k = false := by simp [hardOf, ho, hq]
    simp only [hh, Bool.false_eq_true, if_false]
    cases hc : (callOp o && isId qs k) with
    | true => rw [hc] at h; exact fin (stepA_soft (softQ hT hq hf hs.rel) h hf)
    | false => rw [hc] at h; exact fin (stepA_soft (softQ hT hq hf hs.rel) h hf)
  | false =>
    cases hc : (callOp o && isId qs k) with
    | true =>
      have hh : hardOf ops qs k = false := by simp [hardOf, ho, hc]
      simp only [hh, Bool.false_eq_true, if_false]
      rw [hc] at h
      have hc' : callOp o = true := by rw [Bool.and_eq_true] at hc; exact hc.1
      exact fin (stepA_soft (softC hc' hf hs.rel) h hf)
    | false =>
      have hh : hardOf ops qs k = true := by simp [hardOf, ho, hq, hc]
      simp only [hh, if_true]
      rw [hc] at h
      intro w' hw'
      exact stepA_hard hT ho h (hf.cl hs.rel hw') (hs.cl hw') fun a w ⟨β', S', fr', H', h1, h2, h3⟩ => next fr' H' β' S' a w h3 h1 h2
theorem treeA_sound (hT : TabOK P T) {C : Ctx} {ops : Array Oper} {qs : List Nat} {Q : Exit → Act → World → Prop} {K : List AV → List Blk → Prop} (hQ : ∀ a w, After G C K a w → Q .normal a w) :
    ∀ (t : OTree) (fr : List AV) (H : List Blk) (β : Nat → Option Nat) (S : Nat → Prop) (a : Act) (w : World), (∀ chk listed, okT md ops (hardOf ops qs) chk t listed = true → True) → treeA T G (CallQ P G) (CallA P G) ops.toList qs t fr H K → FR β H.length S w fr a → HS G C β S H w →
      (∃ chk listed, okT md ops (hardOf ops qs) chk t listed = true) → wpT P ops (hardOf ops qs) Q t a w
  | .done, fr, H, β, S, a, w, _, h, hf, hs, _ => fun w' hw' => hQ a w' ⟨β, S, fr, H, hf.cl hs.rel hw', hs.cl hw', h⟩
  | .first k t, fr, H, β, S, a, w, _, h, hf, hs, ⟨chk, listed, hok⟩ => by
    simp only [okT, Bool.and_eq_true, Bool.not_eq_true'] at hok
    have hst := step_sound (Q := Q) (M := wpT P ops (hardOf ops qs) Q t) hT (fun fr' H' β' S' a w hK h1 h2 => treeA_sound hT hQ t fr' H' β' S' a w (fun _ _ _ => trivial) hK h1 h2 ⟨_, _, hok.2⟩) h hf hs
    simp only [wpT]
    cases ho : ops[k]? with
    | none => rw [ho] at hst; exact hst.elim
    | some o =>
      rw [ho] at hst
      simp only [hok.1.1.1.1, Bool.false_eq_true, if_false] at hst
      simp only
      split
      · rename_i hp; exact hst.1 hp
      · split
        · rename_i hp; exact hst.2.1 hp
        · exact hst.2.2
  | .one k t, fr, H, β, S, a, w, _, h, hf, hs, ⟨chk, listed, hok⟩ => by
    simp only [okT, Bool.and_eq_true] at hok
    have hst := step_sound (Q := Q) (M := wpT P ops (hardOf ops qs) Q t) hT (fun fr' H' β' S' a w hK h1 h2 => treeA_sound hT hQ t fr' H' β' S' a w (fun _ _ _ => trivial) hK h1 h2 ⟨_, _, hok.2⟩) h hf hs
    simp only [wpT]
    cases ho : ops[k]? with
    | none => rw [ho] at hst; exact hst.elim
    | some o =>
      rw [ho] at hst
      simp only at hst ⊢
      split
      · rename_i hh; rw [if_pos hh] at hst; exact hst
      · rename_i hh; rw [if_neg hh] at hst; exact hst.2.2
  | .both k t r, fr, H, β, S, a, w, _, h, hf, hs, ⟨chk, listed, hok⟩ => by
    simp only [okT, Bool.and_eq_true] at hok
    obtain ⟨h, hr⟩ := h
    have hst := step_sound (Q := Q) (M := wpT P ops (hardOf ops qs) Q t) hT (fun fr' H' β' S' a w hK h1 h2 => treeA_sound hT hQ t fr' H' β' S' a w (fun _ _ _ => trivial) hK h1 h2 ⟨_, _, hok.1.2⟩) h hf hs
    simp only [wpT]
    refine ⟨?_, treeA_sound hT hQ r fr H β S a w (fun _ _ _ => trivial) hr hf hs ⟨_, _, hok.2⟩⟩
    cases ho : ops[k]? with
    | none => rw [ho] at hst; exact hst.elim
    | some o =>
      rw [ho] at hst
      simp only at hst ⊢
      split
      · rename_i hh; rw [if_pos hh] at hst; exact hst
      · rename_i hh; rw [if_neg hh] at hst; exact hst.2.2
def treeOk (ops : Array Oper) (hard : Nat → Bool) (t : OTree) : Bool := Region.noSelect ops && Nat.ble (depthT t) ops.size && okT .any ops hard true t (Array.replicate ops.size false)
theorem draw_tree (hT : TabOK P T) (hm : P.follows .mixedOrders = true) {ops : List Oper} {fr : List AV} {H : List Blk} {K : List AV → List Blk → Prop} (qs : List Nat) (t : OTree) (hB : treeOk ops.toArray (hardOf ops.toArray qs) t = true)
    (h : treeA T G (CallQ P G) (CallA P G) ops qs t fr H K) : DrawA P G ops fr H K := by
  intro id C β S a w hf hs
  have hd : Cl w { w with drawn := w.drawn + 1 } := ⟨rfl, rfl, rfl, Nat.le_refl _, fun _ _ _ => rfl⟩
  simp only [treeOk, Bool.and_eq_true, Nat.ble_eq] at hB
  obtain ⟨⟨h1, h2⟩, h3⟩ := hB
  have hwp := treeA_sound (md := .any) (ops := ops.toArray) hT (K := K) (Q := Post G C fun e fr' H' => match e with
      | .normal => K fr' H'
      | _ => False) (fun a w ⟨β', S', fr', H', h1, h2, h3⟩ => ⟨β', S', fr', H', h1, h2, h3⟩) t fr H β S a _ (fun _ _ _ => trivial) (by simpa using h) (hf.cl hs.rel hd) (hs.cl hd) ⟨_, _, h3⟩
  have := (wpAnyM_of_tree (md := .any) h1 (fun c a w h => h) t true _ a _ ⟨by simp, fun j oj _ hl => (by rw [getD_replicate_false] at hl; cases hl)⟩ h3 hwp).1 rfl _ h2
  exact wp_region_any hm (wpAny_of_M _ _ _ _ _ (Cl.refl _) this)

/-! ### The tree, reckoned off the edges -/
def onesM (l : List Edge) (m : Nat) : Nat := match l with
  | [] => m
  | e :: r => onesM r (bif Region.binds .any e then m ||| (1 <<< e.on) else m)
def depsM : List Oper → List Nat
  | [] => []
  | o :: r => onesM o.after.toList 0 :: depsM r
def hardM (qs : List Nat) : List Oper → Nat → Nat → Nat
  | [], _, m => m
  | o :: r, k, m => hardM qs r (k + 1) (bif quietOp o || (callOp o && isId qs k) then m else m ||| (1 <<< k))
def pureM : List Oper → Nat → Nat → Nat
  | [], _, m => m
  | o :: r, k, m => pureM r (k + 1) (bif pureOp o && quietOp o then m ||| (1 <<< k) else m)
def quietM : List Oper → Nat → Nat → Nat
  | [], _, m => m
  | o :: r, k, m => quietM r (k + 1) (bif quietOp o then m ||| (1 <<< k) else m)
/-- Those that write into what there is. -/
def writeM (qs : List Nat) : List Oper → Nat → Nat → Nat
  | [], _, m => m
  | o :: r, k, m => writeM qs r (k + 1) (bif quietOp o || growOp o || (callOp o && isId qs k) then m else m ||| (1 <<< k))
/-- The masks of those that wait, by however many others (an edge goes back). -/
def unionM (ts : List Nat) (d : Nat) (k : Nat) (m : Nat) : Nat := match ts with
  | [] => m
  | t :: r => unionM r d (k + 1) (bif Nat.testBit d k then m ||| t else m)
def transM : List Nat → List Nat → List Nat
  | [], ts => ts
  | d :: r, ts => transM r (ts ++ [unionM ts d 0 d])
/-- All hard ones that are not listed wait for k. -/
def allWait (ts : List Nat) (k left : Nat) (i : Nat) : Bool := match ts with
  | [] => true
  | t :: r => (bif Nat.testBit left i then Nat.testBit t k else true) && allWait r k left (i + 1)
def readyM (deps : List Nat) (listed : Nat) (k : Nat) : List Nat := match deps with
  | [] => []
  | d :: r => bif !Nat.testBit listed k && Nat.beq (d &&& listed) d then k :: readyM r listed (k + 1) else readyM r listed (k + 1)
def firstM (ts : List Nat) (hard pure quiet left leftW : Nat) : List Nat → Option Nat
  | [] => none
  | k :: r => bif !Nat.testBit hard k && (Nat.testBit pure k || (Nat.testBit quiet k && allWait ts k leftW 0) || allWait ts k left 0) then some k else firstM ts hard pure quiet left leftW r
def chainM (g : Nat → OTree) : List Nat → OTree
  | [] => .done
  | [k] => .one k (g k)
  | k :: r => .both k (g k) (chainM g r)
def growT (deps ts : List Nat) (hard pure quiet writes full : Nat) : Nat → Nat → OTree
  | 0, _ => .done
  | f + 1, listed => match firstM ts hard pure quiet (hard &&& (full ^^^ listed)) (writes &&& (full ^^^ listed)) (readyM deps listed 0) with
    | some k => .first k (growT deps ts hard pure quiet writes full f (listed ||| (1 <<< k)))
    | none => chainM (fun k => growT deps ts hard pure quiet writes full f (listed ||| (1 <<< k))) (readyM deps listed 0)
def autoT (qs : List Nat) (ops : List Oper) : OTree :=
  let deps := depsM ops
  growT deps (transM deps []) (hardM qs ops 0 0) (pureM ops 0 0) (quietM ops 0 0) (writeM qs ops 0 0) ((1 <<< ops.length) - 1) ops.length 0
noncomputable def allOf (l : List Oper) : Nat → List Nat := List.rec (motive := fun _ => Nat → List Nat) (fun _ => []) (fun _ _ ih n => n :: ih (n + 1)) l
end
end Go.AE
namespace Go.AE

section
variable {P : Program} {G : Nat → Option D} {T : TypeId → TD}

/-- Nothing of the caller's heap stands in it. -/
def self1 : AV → Bool
  | .v _ => true
  | .no => true
  | .un => true
  | .nilsl => true
  | .ro _ => true
  | .rop _ _ _ => true
  | .rpc _ _ => true
  | .gl _ => true
  | .ifc => true
  | .fn _ [] => true
  | _ => false
def selfE (v : AV) : Bool :=
  match v with
  | .agg cs => cs.all self1
  | v => self1 v
def selfV (v : AV) : Bool :=
  match v with
  | .agg cs => cs.all self1
  | .tup cs => cs.all selfE
  | .fn _ cs => cs.all selfE
  | v => self1 v
theorem kindEq_refl (k : IntKind) : kindEq k k = true := by cases k <;> rfl
theorem veq_refl (x : Value) : veq x x := by
  cases x with
  | int k n => exact ⟨kindEq_refl k, rfl⟩
  | bool a => exact (rfl : a = a)
  | string a => exact (rfl : a = a)
  | _ => exact rfl
theorem am1_self {conv : Bool} {ids : List Nat} {H : List Blk} {v : AV} (h : self1 v = true) : am1 conv ids H v v := by
  cases v with
  | un => trivial
  | no => trivial
  | v x => exact veq_refl x
  | nilsl => trivial
  | ro d => exact (rfl : d = d)
  | rop d i j => exact ⟨rfl, rfl, rfl⟩
  | rpc cs j => exact ⟨rfl, rfl⟩
  | gl g => exact (rfl : g = g)
  | ifc => trivial
  | fn f cs =>
    cases cs with
    | nil => exact (rfl : f = f)
    | cons _ _ => simp [self1] at h
  | _ => simp [self1] at h
theorem vmL_self {f : AV → AV → Prop} {p : AV → Bool} (hf : ∀ v, p v = true → f v v) : ∀ {l : List AV}, l.all p = true → vmL f l l
  | [], _ => trivial
  | x :: r, h => by
    simp only [List.all_cons, Bool.and_eq_true] at h
    exact ⟨hf x h.1, vmL_self hf h.2⟩
theorem amE_self {conv : Bool} {ids : List Nat} {H : List Blk} {v : AV} (h : selfE v = true) : amE conv ids H v v := by
  cases v with
  | agg cs => exact vmL_self (p := self1) (fun _ h => am1_self h) h
  | tup cs => simp [selfE, self1] at h
  | un => trivial
  | no => trivial
  | v x => exact am1_self (conv := conv) (ids := ids) (H := H) (v := .v x) h
  | nilsl => exact am1_self (conv := conv) (ids := ids) (H := H) (v := .nilsl) h
  | ro d => exact am1_self (conv := conv) (ids := ids) (H := H) (v := .ro d) h
  | rop d i j => exact am1_self (conv := conv) (ids := ids) (H := H) (v := .rop d i j) h
  | rpc cs j => exact am1_self (conv := conv) (ids := ids) (H := H) (v := .rpc cs j) h
  | gl g => exact am1_self (conv := conv) (ids := ids) (H := H) (v := .gl g) h
  | ifc => exact am1_self (conv := conv) (ids := ids) (H := H) (v := .ifc) h
  | fn f cs => exact am1_self (conv := conv) (ids := ids) (H := H) (v := .fn f cs) h
  | _ => simp [selfE, self1] at h
theorem amV_self {conv : Bool} {ids : List Nat} {H : List Blk} {v : AV} (h : selfV v = true) : amV conv ids H v v := by
  cases v with
  | agg cs => exact vmL_self (p := self1) (fun _ h => am1_self h) h
  | tup cs => exact vmL_self (p := selfE) (fun _ h => amE_self h) h
  | fn f cs => exact ⟨rfl, vmL_self (p := selfE) (fun _ h => amE_self h) h⟩
  | un => trivial
  | no => trivial
  | v x => exact am1_self (conv := conv) (ids := ids) (H := H) (v := .v x) h
  | nilsl => exact am1_self (conv := conv) (ids := ids) (H := H) (v := .nilsl) h
  | ptr k j => exact am1_self (conv := conv) (ids := ids) (H := H) (v := .ptr k j) h
  | eptr k sz i j => exact am1_self (conv := conv) (ids := ids) (H := H) (v := .eptr k sz i j) h
  | sl k sz len => exact am1_self (conv := conv) (ids := ids) (H := H) (v := .sl k sz len) h
  | sub k sz lo len => exact am1_self (conv := conv) (ids := ids) (H := H) (v := .sub k sz lo len) h
  | ro d => exact am1_self (conv := conv) (ids := ids) (H := H) (v := .ro d) h
  | rop d i j => exact am1_self (conv := conv) (ids := ids) (H := H) (v := .rop d i j) h
  | rpc cs j => exact am1_self (conv := conv) (ids := ids) (H := H) (v := .rpc cs j) h
  | gl g => exact am1_self (conv := conv) (ids := ids) (H := H) (v := .gl g) h
  | ifc => exact am1_self (conv := conv) (ids := ids) (H := H) (v := .ifc) h
theorem vm1_self {ne : Nat} {sel : List (Option Nat)} {v : AV} (h : self1 v = true) : vm1 ne sel v v := by
  cases v with
  | un => trivial
  | no => trivial
  | v x => exact veq_refl x
  | nilsl => trivial
  | ro d => exact (rfl : d = d)
  | rop d i j => exact ⟨rfl, rfl, rfl⟩
  | rpc cs j => exact ⟨rfl, rfl⟩
  | gl g => exact (rfl : g = g)
  | ifc => trivial
  | fn f cs =>
    cases cs with
    | nil => exact (rfl : f = f)
    | cons _ _ => simp [self1] at h
  | _ => simp [self1] at h
theorem vmE_self {ne : Nat} {sel : List (Option Nat)} {v : AV} (h : selfE v = true) : vmE ne sel v v := by
  unfold vmE
  split
  · exact vmL_self (p := self1) (fun _ h => vm1_self h) h
  · rename_i h1
    refine vm1_self ?_
    cases v with
    | agg cs => exact absurd rfl (h1 cs cs rfl)
    | _ => exact h
/-- What a function literal has captured. -/
def capsOk (caps : List AV) : Bool := caps.all fun c => selfE c && selfV c
theorem caps_vm {ne : Nat} {sel : List (Option Nat)} {caps : List AV} (h : capsOk caps = true) : vmL (vmE ne sel) caps caps :=
  vmL_self (p := selfE) (fun _ h => vmE_self h) (List.all_eq_true.2 fun c hc => by have := List.all_eq_true.1 h c hc; simp only [Bool.and_eq_true] at this; exact this.1)
theorem caps_self {caps : List AV} (h : capsOk caps = true) : caps.all selfV = true :=
  List.all_eq_true.2 fun c hc => by have := List.all_eq_true.1 h c hc; simp only [Bool.and_eq_true] at this; exact this.2
theorem args_self {conv : Bool} {ids : List Nat} {H : List Blk} {args : List AV} (h : args.all selfV = true) : vmL (amV conv ids H) args args := vmL_self (p := selfV) (fun _ h => amV_self h) h
theorem sh1_self {conv : Bool} {ids : List Nat} {nb : Nat} {x : Value} : sh1 conv ids nb (.v x) = .v x := rfl
theorem map_solid {g : AV → AV} {f : AV → Option Value} (one : ∀ c x, f c = some x → g c = c) : ∀ {cs : List AV} {xs : List Value}, solids f cs = some xs → cs.map g = cs := by
  intro cs
  induction cs with
  | nil => intro xs _; rfl
  | cons c r ih =>
    intro xs h
    obtain ⟨x, ys, hx, h1, _⟩ := solids_cons h
    simp only [List.map_cons, ih h1, one _ _ hx]
theorem sh1_solid {conv : Bool} {ids : List Nat} {nb : Nat} {c : AV} {x : Value} (h : solid1 c = some x) : sh1 conv ids nb c = c := by
  unfold solid1 at h
  split at h
  · rfl
  · cases h
theorem shE_solid {conv : Bool} {ids : List Nat} {nb : Nat} {c : AV} {x : Value} (h : solidE c = some x) : shE conv ids nb c = c := by
  unfold solidE at h
  split at h
  · rfl
  · rw [Option.map_eq_some_iff] at h
    obtain ⟨xs, h1, _⟩ := h
    simp only [shE, map_solid (fun _ _ h => sh1_solid h) h1]
  · cases h
theorem shV_solid {conv : Bool} {ids : List Nat} {nb : Nat} {v : AV} {x : Value} (h : solid v = some x) : shV conv ids nb v = v := by
  unfold solid at h
  split at h
  · rfl
  · rw [Option.map_eq_some_iff] at h
    obtain ⟨xs, h1, _⟩ := h
    simp only [shV, map_solid (fun _ _ h => sh1_solid h) h1]
  · rw [Option.map_eq_some_iff] at h
    obtain ⟨xs, h1, _⟩ := h
    simp only [shV, map_solid (fun _ _ h => shE_solid h) h1]
  · cases h

/-! ### Drawn regions -/
/-- All calls are quiet. -/
theorem draw_quiet (hT : TabOK P T) (hm : P.follows .mixedOrders = true) {ops : List Oper} {fr : List AV} {H : List Blk} {K : List AV → List Blk → Prop} (hB : treeOk ops.toArray (hardOf ops.toArray (allOf ops 0)) (autoT (allOf ops 0) ops) = true)
    (h : treeA T G (CallQ P G) (CallA P G) ops (allOf ops 0) (autoT (allOf ops 0) ops) fr H K) : DrawA P G ops fr H K := draw_tree hT hm _ _ hB h
/-- All calls are hard. -/
theorem draw_hard (hT : TabOK P T) (hm : P.follows .mixedOrders = true) {ops : List Oper} {fr : List AV} {H : List Blk} {K : List AV → List Blk → Prop} (hB : treeOk ops.toArray (hardOf ops.toArray []) (autoT [] ops) = true)
    (h : treeA T G (CallQ P G) (CallA P G) ops [] (autoT [] ops) fr H K) : DrawA P G ops fr H K := draw_tree hT hm _ _ hB h

/-! ### Arithmetic -/
theorem arith_ok {k : IntKind} {m : Int} {K : Value → Prop} (hi : inb k m) (h : K (.int k m)) : arithK k m K := fun n h1 _ => by rw [h1 hi]; exact h
theorem arith_any {k : IntKind} {m : Int} {K : Value → Prop} (h : ∀ n : Int, (inb k m → n = m) → n = k.wrap m → K (.int k n)) : arithK k m K := h
theorem quo_ok {k : IntKind} {a b : Int} {K : Value → Prop} (hi : inb k a) (ha : 0 ≤ a) (hb : 0 < b) (h : K (.int k (a / b))) : quoK k a b K := ⟨by omega, fun n h1 _ => by rw [h1 hi ha hb]; exact h⟩
theorem rem_ok {k : IntKind} {a b : Int} {K : Value → Prop} (ha : 0 ≤ a) (hb : 0 < b) (h : K (.int k (a % b))) : remK k a b K := ⟨by omega, fun n h1 _ => by rw [h1 ha hb]; exact h⟩
theorem quo_any {k : IntKind} {a b : Int} {K : Value → Prop} (hb : b ≠ 0) (h : ∀ n : Int, (inb k a → 0 ≤ a → 0 < b → n = a / b) → n = k.wrap (a.tdiv b) → K (.int k n)) : quoK k a b K := ⟨hb, h⟩
theorem rem_any {k : IntKind} {a b : Int} {K : Value → Prop} (hb : b ≠ 0) (h : ∀ n : Int, (0 ≤ a → 0 < b → n = a % b) → n = a.tmod b → K (.int k n)) : remK k a b K := ⟨hb, h⟩
theorem eq_ok {k : IntKind} {v : Int} {K : Value → Prop} (h : K (.int k v)) : eqK k v K := fun n h1 => by rw [h1]; exact h
theorem mul_in {a b A B : Int} (h1 : 0 ≤ a) (h2 : a ≤ A) (h3 : 0 ≤ b) (h4 : b ≤ B) : 0 ≤ a * b ∧ a * b ≤ A * B := ⟨Int.mul_nonneg h1 h3, Int.mul_le_mul h2 h4 h3 (Int.le_trans h1 h2)⟩

/-! ### Ends -/
theorem bv_true {p : Prop} [Decidable p] (h : p) : AV.v (.bool true) = AV.v (.bool (decide p)) := by rw [decide_eq_true h]
theorem bv_false {p : Prop} [Decidable p] (h : ¬ p) : AV.v (.bool false) = AV.v (.bool (decide p)) := by rw [decide_eq_false h]
theorem bv {a b : Bool} (h : a = b) : AV.v (.bool a) = AV.v (.bool b) := by rw [h]
theorem iv {k : IntKind} {a b : Int} (h : a = b) : AV.v (.int k a) = AV.v (.int k b) := by rw [h]
theorem tup_bi {a b : Bool} {k : IntKind} {c d : Int} (h1 : a = b) (h2 : c = d) : AV.tup [.v (.bool a), .v (.int k c)] = AV.tup [.v (.bool b), .v (.int k d)] := by rw [h1, h2]
theorem tup_ii {k k' : IntKind} {a b c d : Int} (h1 : a = b) (h2 : c = d) : AV.tup [.v (.int k' a), .v (.int k c)] = AV.tup [.v (.int k' b), .v (.int k d)] := by rw [h1, h2]

/-! ### Contracts whose arguments are the caller's own values -/
theorem Ret.go {f : FuncId} {args : List AV} {H : List Blk} {r : AV} {K : AV → List Blk → Prop} (h : Ret P G f args r) (ha : args.all selfV = true) (hr : (solid r).isSome = true) (hk : K r H) : CallA P G f args H K := by
  obtain ⟨x, hx⟩ := Option.isSome_iff_exists.1 hr
  exact h.use (args_self ha) (by rw [shV_solid hx]; exact hk)
theorem Ret.goB {f : FuncId} {args : List AV} {H : List Blk} {b : Bool} {K : AV → List Blk → Prop} (h : Ret P G f args (.v (.bool b))) (ha : args.all selfV = true) (hk : (b = true → K (.v (.bool true)) H) ∧ (b = false → K (.v (.bool false)) H)) : CallA P G f args H K :=
  h.go ha rfl (by cases b; exact hk.2 rfl; exact hk.1 rfl)
theorem Ret.goP {f : FuncId} {args : List AV} {H : List Blk} {p : Prop} [Decidable p] {K : AV → List Blk → Prop} (h : Ret P G f args (.v (.bool (decide p)))) (ha : args.all selfV = true) (hk : (p → K (.v (.bool true)) H) ∧ (¬ p → K (.v (.bool false)) H)) : CallA P G f args H K :=
  h.goB ha ⟨fun e => hk.1 (of_decide_eq_true e), fun e => hk.2 (of_decide_eq_false e)⟩
theorem Ret.goQ {f : FuncId} {args : List AV} {H : List Blk} {r : AV} {K : AV → List Blk → Prop} (h : Ret P G f args r) (ha : args.all selfV = true) (hr : (solid r).isSome = true) (hk : K r H) : CallQ P G f args H K := by
  obtain ⟨x, hx⟩ := Option.isSome_iff_exists.1 hr
  exact h.quiet hx (args_self ha) hk
theorem Ret.goQB {f : FuncId} {args : List AV} {H : List Blk} {b : Bool} {K : AV → List Blk → Prop} (h : Ret P G f args (.v (.bool b))) (ha : args.all selfV = true) (hk : (b = true → K (.v (.bool true)) H) ∧ (b = false → K (.v (.bool false)) H)) : CallQ P G f args H K :=
  h.goQ ha rfl (by cases b; exact hk.2 rfl; exact hk.1 rfl)
theorem Ret.goQP {f : FuncId} {args : List AV} {H : List Blk} {p : Prop} [Decidable p] {K : AV → List Blk → Prop} (h : Ret P G f args (.v (.bool (decide p)))) (ha : args.all selfV = true) (hk : (p → K (.v (.bool true)) H) ∧ (¬ p → K (.v (.bool false)) H)) : CallQ P G f args H K :=
  h.goQB ha ⟨fun e => hk.1 (of_decide_eq_true e), fun e => hk.2 (of_decide_eq_false e)⟩
theorem Ret.useB {f : FuncId} {args dargs : List AV} {H : List Blk} {b : Bool} {K : AV → List Blk → Prop} (h : Ret P G f dargs (.v (.bool b))) (ha : vmL (amV true [] H) args dargs) (hk : (b = true → K (.v (.bool true)) H) ∧ (b = false → K (.v (.bool false)) H)) : CallA P G f args H K :=
  h.use ha (by cases b; exact hk.2 rfl; exact hk.1 rfl)
theorem Ret.useP {f : FuncId} {args dargs : List AV} {H : List Blk} {p : Prop} [Decidable p] {K : AV → List Blk → Prop} (h : Ret P G f dargs (.v (.bool (decide p)))) (ha : vmL (amV true [] H) args dargs) (hk : (p → K (.v (.bool true)) H) ∧ (¬ p → K (.v (.bool false)) H)) : CallA P G f args H K :=
  h.useB ha ⟨fun e => hk.1 (of_decide_eq_true e), fun e => hk.2 (of_decide_eq_false e)⟩
theorem Ret.useQ {f : FuncId} {args dargs : List AV} {H : List Blk} {r : AV} {K : AV → List Blk → Prop} (h : Ret P G f dargs r) (ha : vmL (amV true [] H) args dargs) (hr : (solid r).isSome = true) (hk : K r H) : CallQ P G f args H K := by
  obtain ⟨x, hx⟩ := Option.isSome_iff_exists.1 hr
  exact h.quiet hx ha hk
theorem Ret.useQB {f : FuncId} {args dargs : List AV} {H : List Blk} {b : Bool} {K : AV → List Blk → Prop} (h : Ret P G f dargs (.v (.bool b))) (ha : vmL (amV true [] H) args dargs) (hk : (b = true → K (.v (.bool true)) H) ∧ (b = false → K (.v (.bool false)) H)) : CallQ P G f args H K :=
  h.useQ ha rfl (by cases b; exact hk.2 rfl; exact hk.1 rfl)
theorem Ret.useQP {f : FuncId} {args dargs : List AV} {H : List Blk} {p : Prop} [Decidable p] {K : AV → List Blk → Prop} (h : Ret P G f dargs (.v (.bool (decide p)))) (ha : vmL (amV true [] H) args dargs) (hk : (p → K (.v (.bool true)) H) ∧ (¬ p → K (.v (.bool false)) H)) : CallQ P G f args H K :=
  h.useQB ha ⟨fun e => hk.1 (of_decide_eq_true e), fun e => hk.2 (of_decide_eq_false e)⟩
/-- Proved at its body. -/
theorem ret_of_body (hT : TabOK P T) {f : FuncId} {fn : Func} {args : List AV} {r : AV} (hf : P.funcs[f]? = some fn) (hn : (fn.name == "runtime.NumGoroutine") = false)
    (h : bodyA T G (CallA P G) (LoopA P G) (DrawA P G) fn args [] fun v _ => v = r) (hr : (solid r).isSome = true) : Ret P G f args r := by
  obtain ⟨x, hx⟩ := Option.isSome_iff_exists.1 hr
  have h1 := callA_of_body hT hf hn h
  refine ⟨h1.1, fun β S w vs hr' hl hv => (h1.2 β S w vs hr' hl hv).mono fun e w' ⟨β', S', H', v, y, g1, g2, g3, g4⟩ => ?_⟩
  subst g2
  have hy := solid_eq hx g3
  subst hy
  have hc : Cl w w' := ⟨g4.evo.os, g4.evo.tape, g4.evo.output, g4.evo.size, fun b hb _ => g4.evo.keep b hb fun ⟨k, b', h0, _⟩ => by simp at h0⟩
  exact ⟨β, S, [], v, y, g1, ⟨rfl, rfl⟩, solid_vr hx, (HS.start hr').cl hc⟩
end
end Go.AE
namespace Go.AE

/-- A cell, its block's number written out. -/
def cellK (v : AV) (K : AV → Prop) : Prop :=
  match v with
  | .ptr k j => natK k fun k' => K (.ptr k' j)
  | .eptr k sz i j => natK k fun k' => K (.eptr k' sz i j)
  | .sl k sz len => natK k fun k' => K (.sl k' sz len)
  | .sub k sz lo len => natK k fun k' => K (.sub k' sz lo len)
  | .un => K .un
  | .no => K .no
  | .v x => K (.v x)
  | .agg cs => K (.agg cs)
  | .tup cs => K (.tup cs)
  | .nilsl => K .nilsl
  | .ro d => K (.ro d)
  | .rop d i j => K (.rop d i j)
  | .rpc cs j => K (.rpc cs j)
  | .gl g => K (.gl g)
  | .fn f caps => K (.fn f caps)
  | .ifc => K .ifc
theorem cellK_eq (v : AV) (K : AV → Prop) : cellK v K = K v := by cases v <;> simp [cellK, natK_eq]
noncomputable def cellsK (l : List AV) : (List AV → Prop) → Prop :=
  List.rec (motive := fun _ => (List AV → Prop) → Prop) (fun K => K []) (fun x _ ih K => cellK x fun x' => ih fun r' => K (x' :: r')) l
theorem cellsK_eq (l : List AV) : ∀ K : List AV → Prop, cellsK l K = K l := by
  induction l with
  | nil => intro K; rfl
  | cons x r ih => intro K; show cellK x (fun x' => cellsK r fun r' => K (x' :: r')) = _; rw [cellK_eq, ih]
noncomputable def partK (v : AV) (K : AV → Prop) : Prop :=
  match v with
  | .agg cs => cellsK cs fun l => K (.agg l)
  | v => cellK v K
theorem partK_eq (v : AV) (K : AV → Prop) : partK v K = K v := by cases v <;> simp [partK, cellK_eq, cellsK_eq]
noncomputable def partsK (l : List AV) : (List AV → Prop) → Prop :=
  List.rec (motive := fun _ => (List AV → Prop) → Prop) (fun K => K []) (fun x _ ih K => partK x fun x' => ih fun r' => K (x' :: r')) l
theorem partsK_eq (l : List AV) : ∀ K : List AV → Prop, partsK l K = K l := by
  induction l with
  | nil => intro K; rfl
  | cons x r ih => intro K; show partK x (fun x' => partsK r fun r' => K (x' :: r')) = _; rw [partK_eq, ih]
noncomputable def deepK (v : AV) (K : AV → Prop) : Prop :=
  match v with
  | .agg cs => cellsK cs fun l => K (.agg l)
  | .tup cs => partsK cs fun l => K (.tup l)
  | .fn f cs => partsK cs fun l => K (.fn f l)
  | v => cellK v K
theorem deepK_eq (v : AV) (K : AV → Prop) : deepK v K = K v := by cases v <;> simp [deepK, cellK_eq, cellsK_eq, partsK_eq]
noncomputable def blkK (b : Blk) (K : Blk → Prop) : Prop :=
  match b with
  | .dead => K .dead
  | .obj p => K (.obj p)
  | .cells cs => partsK cs fun l => K (.cells l)
  | .data d => K (.data d)
theorem blkK_eq (b : Blk) (K : Blk → Prop) : blkK b K = K b := by cases b <;> simp [blkK, partsK_eq]
/-- Blocks laid behind a heap. -/
noncomputable def appK (J : List Blk) (f : Blk → Blk) : List Blk → (List Blk → Prop) → Prop :=
  List.rec (motive := fun _ => List Blk → (List Blk → Prop) → Prop) (fun H K => K H) (fun b _ ih H K => blkK (f b) fun b' => snocB H b' fun H' => ih H' K) J
theorem appK_eq (J : List Blk) (f : Blk → Blk) : ∀ (H : List Blk) (K : List Blk → Prop), appK J f H K = K (H ++ J.map f) := by
  induction J with
  | nil => intro H K; show K H = _; simp
  | cons b r ih => intro H K; show blkK (f b) (fun b' => snocB H b' fun H' => appK r f H' K) = _; rw [blkK_eq, snocB_eq, ih]; simp
/-- The first blocks set at some places, the others laid behind. -/
noncomputable def mergeK (ids : List Nat) (f : Blk → Blk) : List Blk → List Blk → (List Blk → Prop) → Prop :=
  List.rec (motive := fun _ => List Blk → List Blk → (List Blk → Prop) → Prop) (fun J H K => appK J f H K)
    (fun q _ ih J H K => List.rec (motive := fun _ => Prop) (K H) (fun b r _ => blkK (f b) fun b' => setB H q b' fun H' => ih r H' K) J) ids
theorem mergeK_eq (f : Blk → Blk) : ∀ (ids : List Nat) (J H : List Blk) (K : List Blk → Prop), mergeK ids f J H K = K (mergeB f ids H J) := by
  intro ids
  induction ids with
  | nil => intro J H K; show appK J f H K = _; rw [appK_eq]; rfl
  | cons q r ih =>
    intro J H K
    cases J with
    | nil => rfl
    | cons b J => show blkK (f b) (fun b' => setB H q b' fun H' => mergeK r f J H' K) = _; rw [blkK_eq, setB_eq, ih]; rfl

section
variable {P : Program} {G : Nat → Option D}
/-- A call that makes new blocks, or changes those of ids. -/
theorem CallA.go {f : FuncId} {args dargs : List AV} {H H0 J0 : List Blk} {r : AV} {K : AV → List Blk → Prop} (ids : List Nat) (h : CallA P G f dargs H0 fun v J => v = r ∧ J = J0) (hi : idsOk H.length ids = true)
    (ha : vmL (amV true ids H) args dargs) (hh : heapA true ids H ids H0) (hk : lenB H 0 fun n => mergeK ids (shB true ids n) J0 H fun H' => deepK (shV true ids n r) fun v => K v H') : CallA P G f args H K :=
  h.use true ids hi ha hh fun v J ⟨h1, h2⟩ => by
    subst h1 h2
    rw [lenB_eq, mergeK_eq, deepK_eq, Nat.zero_add] at hk
    exact hk
/-- The same at a contract that leaves its answer open: there are values, within bounds. -/
theorem CallA.goE {α : Type} {f : FuncId} {args dargs : List AV} {H H0 : List Blk} {r : α → AV} {J0 : α → List Blk} {B : α → Prop} {K : AV → List Blk → Prop} (conv : Bool) (ids : List Nat) (h : CallA P G f dargs H0 fun v J => ∃ p, v = r p ∧ J = J0 p ∧ B p) (hi : idsOk H.length ids = true)
    (ha : vmL (amV conv ids H) args dargs) (hh : heapA conv ids H ids H0) (hk : ∀ p, B p → lenB H 0 fun n => mergeK ids (shB conv ids n) (J0 p) H fun H' => deepK (shV conv ids n (r p)) fun v => K v H') : CallA P G f args H K :=
  h.use conv ids hi ha hh fun v J ⟨p, h1, h2, h3⟩ => by
    subst h1 h2
    have hk := hk p h3
    rw [lenB_eq, mergeK_eq, deepK_eq, Nat.zero_add] at hk
    exact hk
theorem CallA.goE3 {α : Type} {f : FuncId} {args dargs : List AV} {H H0 : List Blk} {r : α → Int → Int → AV} {J0 : α → Int → Int → List Blk} {B : α → Int → Int → Prop} {K : AV → List Blk → Prop} (conv : Bool) (ids : List Nat) (h : CallA P G f dargs H0 fun v J => ∃ (x : α) (a s : Int), v = r x a s ∧ J = J0 x a s ∧ B x a s) (hi : idsOk H.length ids = true)
    (ha : vmL (amV conv ids H) args dargs) (hh : heapA conv ids H ids H0) (hk : ∀ x a s, B x a s → lenB H 0 fun n => mergeK ids (shB conv ids n) (J0 x a s) H fun H' => deepK (shV conv ids n (r x a s)) fun v => K v H') : CallA P G f args H K :=
  h.use conv ids hi ha hh fun v J ⟨x, a, s, h1, h2, h3⟩ => by
    subst h1 h2
    have hk := hk x a s h3
    rw [lenB_eq, mergeK_eq, deepK_eq, Nat.zero_add] at hk
    exact hk
end
end Go.AE
