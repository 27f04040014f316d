/-
  Over the abstract evaluator: a region that draws its order, by one walk in one order; calls that only read and hand back plain values. No conditions.
-/
import Derived.Test.YtkmnmmckgobeeaaAeDraw1
namespace Go.AE

section
variable {P : Program} {G : Nat → Option D} {T : TypeId → TD}

/-! ### On into a world that has grown -/
theorem Rel.cl {β : Nat → Option Nat} {S : Nat → Prop} {H : List Blk} {w w' : World} (h : Rel G β S H w) (hc : Cl w w') : Rel G β S H w' := by
  have ht : Tr H.length β S w H.length β S w' := Tr.grow h hc (Nat.le_refl _) fun _ _ => rfl
  exact { blk := fun k b hk => (h.blk k b hk).tr ht fun q _ hq => hc.keep q hq id
          sep := h.sep
          off := h.off
          lt := fun r hr => Nat.lt_of_lt_of_le (h.lt r hr) hc.size
          glob := fun g d hg => ⟨(h.glob g d hg).1, GlobAt.keep (h.glob g d hg).1 (h.glob g d hg).2 ht.sub ht.keep⟩ }
theorem HS.cl {C : Ctx} {β : Nat → Option Nat} {S : Nat → Prop} {H : List Blk} {w w' : World} (h : HS G C β S H w) (hc : Cl w w') : HS G C β S H w' where
  rel := h.rel.cl hc
  evo := h.evo.trans hc fun _ _ hf => hf.elim
  new := h.new
  tr := h.tr.trans (Tr.grow h.rel hc (Nat.le_refl _) fun _ _ => rfl)
  fix := h.fix
theorem FR.cl {β : Nat → Option Nat} {S : Nat → Prop} {H : List Blk} {w w' : World} {fr : List AV} {a : Act} (hr : Rel G β S H w) (h : FR β H.length S w fr a) (hc : Cl w w') : FR β H.length S w' fr a :=
  h.tr (Tr.grow hr hc (Nat.le_refl _) fun _ _ => rfl)

/-! ### Calls that only read -/
def solids (f : AV → Option Value) : List AV → Option (List Value)
  | [] => some []
  | c :: r => match f c with
    | some x => (solids f r).map (x :: ·)
    | none => none
def solid1 (v : AV) : Option Value :=
  match v with
  | .v x => bif scal x then some x else none
  | _ => none
def solidE (v : AV) : Option Value :=
  match v with
  | .v x => bif scal x then some x else none
  | .agg cs => (solids solid1 cs).map fun xs => .agg xs.toArray
  | _ => none
/-- The value that it is, where it is one alone. -/
def solid (v : AV) : Option Value :=
  match v with
  | .v x => bif scal x then some x else none
  | .agg cs => (solids solid1 cs).map fun xs => .agg xs.toArray
  | .tup cs => (solids solidE cs).map fun xs => .tuple xs.toArray
  | _ => none
theorem solids_cons {f : AV → Option Value} {c : AV} {r : List AV} {xs : List Value} (h : solids f (c :: r) = some xs) : ∃ x ys, f c = some x ∧ solids f r = some ys ∧ xs = x :: ys := by
  simp only [solids] at h
  split at h
  · rename_i x hx
    rw [Option.map_eq_some_iff] at h
    obtain ⟨ys, h1, h2⟩ := h
    exact ⟨x, ys, hx, h1, h2.symm⟩
  · cases h
theorem solids_vr {f : AV → Option Value} {β : Nat → Option Nat} {n : Nat} {S : Nat → Prop} {w : World} (one : ∀ c x, f c = some x → VR β n S w c x) : ∀ {cs : List AV} {xs : List Value}, solids f cs = some xs → cs.length = xs.length ∧ ∀ i c, cs[i]? = some c → VR β n S w c (xs.getD i undef) := by
  intro cs
  induction cs with
  | nil => intro xs h; cases h; exact ⟨rfl, fun i c hc => by simp at hc⟩
  | cons c r ih =>
    intro xs h
    obtain ⟨x, ys, hx, h1, rfl⟩ := solids_cons h
    obtain ⟨i1, i2⟩ := ih h1
    refine ⟨by simp [i1], fun i c hc => ?_⟩
    cases i with
    | zero => simp at hc; subst hc; exact one _ _ hx
    | succ i => simp at hc; simpa using i2 i c hc
theorem arr_getD (xs : List Value) (i : Nat) : xs.toArray.getD i undef = xs.getD i undef := by rw [Array.getD_eq_getD_getElem?, List.getD_eq_getElem?_getD]; simp
theorem solid1_vr {β : Nat → Option Nat} {n : Nat} {S : Nat → Prop} {w : World} {v : AV} {x : Value} (h : solid1 v = some x) : VR β n S w v x := by
  unfold solid1 at h
  split at h
  · rename_i y
    cases hs : scal y with
    | true => rw [hs] at h; cases h; exact .v _ hs
    | false => rw [hs] at h; cases h
  · cases h
theorem solidE_vr {β : Nat → Option Nat} {n : Nat} {S : Nat → Prop} {w : World} {v : AV} {x : Value} (h : solidE v = some x) : VR β n S w v x := by
  unfold solidE at h
  split at h
  · rename_i y
    cases hs : scal y with
    | true => rw [hs] at h; cases h; exact .v _ hs
    | false => rw [hs] at h; cases h
  · rw [Option.map_eq_some_iff] at h
    obtain ⟨xs, h1, rfl⟩ := h
    obtain ⟨h2, h3⟩ := solids_vr (β := β) (n := n) (S := S) (w := w) (fun _ _ h => solid1_vr h) h1
    exact .agg _ _ (by simpa using h2) fun i c hc => by rw [arr_getD]; exact h3 i c hc
  · cases h
theorem solid_vr {β : Nat → Option Nat} {n : Nat} {S : Nat → Prop} {w : World} {v : AV} {x : Value} (h : solid v = some x) : VR β n S w v x := by
  unfold solid at h
  split at h
  · rename_i y
    cases hs : scal y with
    | true => rw [hs] at h; cases h; exact .v _ hs
    | false => rw [hs] at h; cases h
  · rw [Option.map_eq_some_iff] at h
    obtain ⟨xs, h1, rfl⟩ := h
    obtain ⟨h2, h3⟩ := solids_vr (β := β) (n := n) (S := S) (w := w) (fun _ _ h => solid1_vr h) h1
    exact .agg _ _ (by simpa using h2) fun i c hc => by rw [arr_getD]; exact h3 i c hc
  · rw [Option.map_eq_some_iff] at h
    obtain ⟨xs, h1, rfl⟩ := h
    obtain ⟨h2, h3⟩ := solids_vr (β := β) (n := n) (S := S) (w := w) (fun _ _ h => solidE_vr h) h1
    exact .tup _ _ (by simpa using h2) fun i c hc => by rw [arr_getD]; exact h3 i c hc
  · cases h
theorem solids_get {f : AV → Option Value} {β : Nat → Option Nat} {n : Nat} {S : Nat → Prop} {w : World} (one : ∀ c x y, f c = some x → VR β n S w c y → y = x) : ∀ {cs : List AV} {xs : List Value} {vs : Array Value}, solids f cs = some xs → cs.length = vs.size → (∀ i c, cs[i]? = some c → VR β n S w c (vs.getD i undef)) → vs.toList = xs := by
  intro cs
  induction cs with
  | nil =>
    intro xs vs h hl hv
    cases h
    simpa using hl.symm
  | cons c r ih =>
    intro xs vs h hl hv
    obtain ⟨x, ys, hx, h1, rfl⟩ := solids_cons h
    have h0 := one _ _ _ hx (hv 0 c rfl)
    obtain ⟨l⟩ := vs
    cases l with
    | nil => simp at hl
    | cons y l =>
      have hy : y = x := by simpa using h0
      subst hy
      have := ih (xs := ys) (vs := l.toArray) h1 (by simpa using hl) fun i c hc => by
        have := hv (i + 1) c (by simpa using hc)
        simpa using this
      simpa using this
theorem solid1_eq {β : Nat → Option Nat} {n : Nat} {S : Nat → Prop} {w : World} {v : AV} {x y : Value} (h : solid1 v = some x) (hv : VR β n S w v y) : y = x := by
  unfold solid1 at h
  split at h
  · rename_i z
    cases hs : scal z with
    | true => rw [hs] at h; cases h; exact hv.v_inv.1
    | false => rw [hs] at h; cases h
  · cases h
theorem solidE_eq {β : Nat → Option Nat} {n : Nat} {S : Nat → Prop} {w : World} {v : AV} {x y : Value} (h : solidE v = some x) (hv : VR β n S w v y) : y = x := by
  unfold solidE at h
  split at h
  · rename_i z
    cases hs : scal z with
    | true => rw [hs] at h; cases h; exact hv.v_inv.1
    | false => rw [hs] at h; cases h
  · rw [Option.map_eq_some_iff] at h
    obtain ⟨xs, h1, rfl⟩ := h
    obtain ⟨vs, rfl, hl, hvs⟩ := hv.agg_inv
    rw [← solids_get (fun _ _ _ h hv => solid1_eq h hv) h1 hl hvs]
  · cases h
theorem solid_eq {β : Nat → Option Nat} {n : Nat} {S : Nat → Prop} {w : World} {v : AV} {x y : Value} (h : solid v = some x) (hv : VR β n S w v y) : y = x := by
  unfold solid at h
  split at h
  · rename_i z
    cases hs : scal z with
    | true => rw [hs] at h; cases h; exact hv.v_inv.1
    | false => rw [hs] at h; cases h
  · rw [Option.map_eq_some_iff] at h
    obtain ⟨xs, h1, rfl⟩ := h
    obtain ⟨vs, rfl, hl, hvs⟩ := hv.agg_inv
    rw [← solids_get (fun _ _ _ h hv => solid1_eq h hv) h1 hl hvs]
  · rw [Option.map_eq_some_iff] at h
    obtain ⟨xs, h1, rfl⟩ := h
    obtain ⟨vs, rfl, hl, hvs⟩ := hv.tup_inv
    rw [← solids_get (fun _ _ _ h hv => solidE_eq h hv) h1 hl hvs]
  · cases h
def CallQ (P : Program) (G : Nat → Option D) (f : FuncId) (args : List AV) (H : List Blk) (K : AV → List Blk → Prop) : Prop :=
  ∃ v x, solid v = some x ∧ Enters P f ∧ (∀ (β : Nat → Option Nat) (S : Nat → Prop) (w : World) (vs : Array Value), Rel G β S H w → args.length = vs.size → (∀ i c, args[i]? = some c → VR β H.length S w c (vs.getD i undef)) →
    Calls P f vs w fun e w' => e = .returned x ∧ Cl w w') ∧ K v H
/-- It hands back r and leaves nothing behind. -/
def Ret (P : Program) (G : Nat → Option D) (f : FuncId) (args : List AV) (r : AV) : Prop := CallA P G f args [] fun v J => v = r ∧ J = []
theorem Ret.quiet {f : FuncId} {args dargs : List AV} {H : List Blk} {r : AV} {x : Value} {K : AV → List Blk → Prop} (h : Ret P G f dargs r) (hx : solid r = some x) (ha : vmL (amV true [] H) args dargs) (hk : K r H) : CallQ P G f args H K := by
  refine ⟨r, x, hx, h.1, fun β S w vs hr hl hv => ?_, hk⟩
  obtain ⟨hal, hag⟩ := vmL_get ha
  have wS : ∀ b, S b → wideS true [] H β S b := fun _ h => .inl h
  have hr0 : Rel G (smallβ [] β) (wideS true [] H β S) [] w := {
    blk := fun i b hb => by simp at hb
    sep := fun i i' b b' r hb => by simp at hb
    off := fun i b r hb => by simp at hb
    lt := fun r hs => by
      rcases hs with hs | ⟨_, k, c', g1, g2, g3, g4⟩
      · exact hr.lt r hs
      · exact hr.blk_lt g1 g2 g4
    glob := fun g d hg => by
      obtain ⟨h1, h2⟩ := hr.glob g d hg
      exact ⟨.inl h1, GlobAt.keep h1 h2 wS fun _ _ => rfl⟩ }
  refine (h.2 (smallβ [] β) (wideS true [] H β S) w vs hr0 (hal ▸ hl) (fun i c hc => ?_)).mono fun e w1 ⟨β1, S1, J, v, y, h1, ⟨h2, h2'⟩, h3, h4⟩ => ?_
  · obtain ⟨d, g1, g2⟩ := hag i c hc
    exact (hv i d g1).amV_ hr g2
  · subst h2
    refine ⟨by rw [h1, solid_eq hx h3], h4.evo.os, h4.evo.tape, h4.evo.output, h4.evo.size, fun b hb _ => h4.evo.keep b hb ?_⟩
    rintro ⟨k, b', g1, _⟩
    simp at g1
theorem Ret.use {f : FuncId} {args dargs : List AV} {H : List Blk} {r : AV} {K : AV → List Blk → Prop} (h : Ret P G f dargs r) (ha : vmL (amV true [] H) args dargs) (hk : K (shV true [] H.length r) H) : CallA P G f args H K :=
  CallA.use true [] h rfl ha trivial fun v J ⟨h1, h2⟩ => by subst h1 h2; simpa [mergeB] using hk

/-! ### One step and the walk -/
def callOp (o : Oper) : Bool :=
  match o.op with
  | .call c => match c.callee with
    | .value _ => true
    | _ => false
  | _ => false
/-- Which operations write: all that are not quiet and are not of the calls qs. -/
def hardOf (ops : Array Oper) (qs : List Nat) (k : Nat) : Bool :=
  match ops[k]? with
  | some o => !(quietOp o || (callOp o && isId qs k))
  | none => true
noncomputable def stepA (T : TypeId → TD) (G : Nat → Option D) (Call : FuncId → List AV → List Blk → (AV → List Blk → Prop) → Prop) (ops : List Oper) (o : Oper) (fr : List AV) (H : List Blk) (K : List AV → List Blk → Prop) : Prop :=
  match o.guard with
  | none => opA T G Call o fr H fun v H' => Go.AE.putA fr o.dst v fun fr' => K fr' H'
  | some (j, want) => match guardA ops fr j with
    | .v (.bool true) => bif want then (opA T G Call o fr H fun v H' => Go.AE.putA fr o.dst v fun fr' => K fr' H') else (Go.AE.putA fr o.dst .no fun fr' => K fr' H)
    | .v (.bool false) => bif want then (Go.AE.putA fr o.dst .no fun fr' => K fr' H) else (opA T G Call o fr H fun v H' => Go.AE.putA fr o.dst v fun fr' => K fr' H')
    | .no => Go.AE.putA fr o.dst .no fun fr' => K fr' H
    | _ => False
noncomputable def atOp (l : List Oper) : Nat → (Oper → Prop) → Prop :=
  List.rec (motive := fun _ => Nat → (Oper → Prop) → Prop) (fun _ _ => False) (fun o _ ih n => Nat.rec (motive := fun _ => (Oper → Prop) → Prop) (fun K => K o) (fun m _ K => ih m K) n) l
theorem atOp_eq (l : List Oper) : ∀ (n : Nat) (K : Oper → Prop), atOp l n K → ∃ o, l[n]? = some o ∧ K o := by
  induction l with
  | nil => intro n K h; exact h.elim
  | cons o r ih =>
    intro n K h
    cases n with
    | zero => exact ⟨o, rfl, h⟩
    | succ n => simpa using ih n K h
noncomputable def mixA (T : TypeId → TD) (G : Nat → Option D) (CallQ Call : FuncId → List AV → List Blk → (AV → List Blk → Prop) → Prop) (ops : List Oper) (qs : List Nat) (l : List Nat) : List AV → List Blk → (List AV → List Blk → Prop) → Prop :=
  List.rec (motive := fun _ => List AV → List Blk → (List AV → List Blk → Prop) → Prop) (fun fr H K => K fr H)
    (fun k _ ih fr H K => atOp ops k fun o => bif callOp o && isId qs k then stepA T G CallQ ops o fr H fun fr' H' => ih fr' H' K else stepA T G Call ops o fr H fun fr' H' => ih fr' H' K) l
theorem mixA_cons (CallQ Call : FuncId → List AV → List Blk → (AV → List Blk → Prop) → Prop) (ops : List Oper) (qs : List Nat) (k : Nat) (r : List Nat) (fr : List AV) (H : List Blk) (K : List AV → List Blk → Prop) :
    mixA T G CallQ Call ops qs (k :: r) fr H K = atOp ops k fun o => bif callOp o && isId qs k then stepA T G CallQ ops o fr H fun fr' H' => mixA T G CallQ Call ops qs r fr' H' K else stepA T G Call ops o fr H fun fr' H' => mixA T G CallQ Call ops qs r fr' H' K := rfl

theorem stepA_hard (hT : TabOK P T) {C : Ctx} {ops : Array Oper} {i : Nat} {o : Oper} (ho : ops[i]? = some o) {fr : List AV} {H : List Blk} {K : List AV → List Blk → Prop} {β : Nat → Option Nat} {S : Nat → Prop} {a : Act} {w : World} {K' : Act → World → Prop} {Q : Exit → Act → World → Prop}
    (h : stepA T G (CallA P G) ops.toList o fr H K) (hf : FR β H.length S w fr a) (hs : HS G C β S H w) (hk : ∀ a w, After G C K a w → K' a w) : wpOp P ops Q i K' a w := by
  have run : (opA T G (CallA P G) o fr H fun v H' => Go.AE.putA fr o.dst v fun fr' => K fr' H') → o.wp P a w K' Q := fun h =>
    opA_sound hT h hf hs fun v H' β' S' x w' hk' hs' ht hv => by
      obtain ⟨fr', h1, h2⟩ := (hf.tr ht).putA hv hk'
      exact hk _ _ ⟨β', S', fr', H', h2, hs', h1⟩
  have skip : (Go.AE.putA fr o.dst .no fun fr' => K fr' H) → K' (a.put o.dst undef) w := fun h => by
    obtain ⟨fr', h1, h2⟩ := hf.putA (x := undef) .no h
    exact hk _ _ ⟨β, S, fr', H, h2, hs, h1⟩
  unfold wpOp
  simp only [ho]
  unfold stepA at h
  split at h
  · rename_i hg
    rw [if_pos (by simp [Region.wanted, hg])]
    exact .inl (run h)
  · rename_i j want hg
    obtain ⟨g1, g2⟩ := guard_vr hf ops j
    have hw : Region.wanted o (yielded ops a.tmps) = (yielded ops a.tmps j == some want) := by simp [Region.wanted, hg]
    split at h
    · rename_i hgu
      rw [hw, g1 true hgu]
      cases want
      · rw [if_neg (by simp)]; exact skip h
      · rw [if_pos (by simp)]; exact .inl (run h)
    · rename_i hgu
      rw [hw, g1 false hgu]
      cases want
      · rw [if_pos (by simp)]; exact .inl (run h)
      · rw [if_neg (by simp)]; exact skip h
    · rename_i hgu
      rw [hw, g2 hgu]
      rw [if_neg (by simp)]
      exact skip h
    · exact h.elim
/-- What a step that does not write yields. -/
def Soft (P : Program) (_G : Nat → Option D) (ops : Array Oper) (o : Oper) (β : Nat → Option Nat) (S : Nat → Prop) (w : World) (a : Act) (K : List AV → List Blk → Prop) (H : List Blk) : Prop :=
  ∃ v fr', (pureOp o = true ∧ quietOp o = true → Yields P ops o v a) ∧ (quietOp o = true → YieldsR P ops (Cl w) o v a) ∧ YieldsIn P ops (Cl w) o v a ∧ K fr' H ∧ FR β H.length S w fr' (a.put o.dst v)
theorem stepA_soft {ops : Array Oper} {o : Oper} {Call : FuncId → List AV → List Blk → (AV → List Blk → Prop) → Prop} {fr : List AV} {H : List Blk} {K : List AV → List Blk → Prop} {β : Nat → Option Nat} {S : Nat → Prop} {a : Act} {w : World}
    (run : ∀ K : AV → List Blk → Prop, opA T G Call o fr H K → ∃ v x, K v H ∧ VR β H.length S w v x ∧ (∀ w', Cl w w' → o.quietAt P a (Cl w) w' x) ∧ (quietOp o = true → ∀ w', Cl w w' → (execOp a.eval o).run P w' = .ok (.value x) w') ∧ (pureOp o = true ∧ quietOp o = true → ∀ w', (execOp a.eval o).run P w' = .ok (.value x) w'))
    (h : stepA T G Call ops.toList o fr H K) (hf : FR β H.length S w fr a) : Soft P G ops o β S w a K H := by
  have run' : Region.wanted o (yielded ops a.tmps) = true → (opA T G Call o fr H fun v H' => Go.AE.putA fr o.dst v fun fr' => K fr' H') → Soft P G ops o β S w a K H := fun hw h => by
    obtain ⟨v, x, h1, h2, h3, h3', h4⟩ := run _ h
    obtain ⟨fr', h5, h6⟩ := hf.putA h2 h1
    exact ⟨x, fr', fun hp => .inl ⟨hw, h4 hp⟩, fun hp => .inl ⟨hw, h3' hp⟩, .inl ⟨hw, h3⟩, h5, h6⟩
  have skip : Region.wanted o (yielded ops a.tmps) = false → (Go.AE.putA fr o.dst .no fun fr' => K fr' H) → Soft P G ops o β S w a K H := fun hw h => by
    obtain ⟨fr', h1, h2⟩ := hf.putA (x := undef) .no h
    exact ⟨undef, fr', fun _ => .inr ⟨hw, rfl⟩, fun _ => .inr ⟨hw, rfl⟩, .inr ⟨hw, rfl⟩, h1, h2⟩
  unfold stepA at h
  split at h
  · rename_i hg
    exact run' (by simp [Region.wanted, hg]) h
  · rename_i j want hg
    obtain ⟨g1, g2⟩ := guard_vr hf ops j
    have hw : Region.wanted o (yielded ops a.tmps) = (yielded ops a.tmps j == some want) := by simp [Region.wanted, hg]
    split at h
    · rename_i hgu
      rw [g1 true hgu] at hw
      cases want
      · exact skip (by rw [hw]; rfl) h
      · exact run' (by rw [hw]; rfl) h
    · rename_i hgu
      rw [g1 false hgu] at hw
      cases want
      · exact run' (by rw [hw]; rfl) h
      · exact skip (by rw [hw]; rfl) h
    · rename_i hgu
      rw [g2 hgu] at hw
      exact skip (by rw [hw]; rfl) h
    · exact h.elim
theorem softQ (hT : TabOK P T) {Call : FuncId → List AV → List Blk → (AV → List Blk → Prop) → Prop} {o : Oper} (hq : quietOp o = true) {fr : List AV} {H : List Blk} {β : Nat → Option Nat} {S : Nat → Prop} {a : Act} {w : World} (hf : FR β H.length S w fr a) (hr : Rel G β S H w) (K : AV → List Blk → Prop)
    (h : opA T G Call o fr H K) : ∃ v x, K v H ∧ VR β H.length S w v x ∧ (∀ w', Cl w w' → o.quietAt P a (Cl w) w' x) ∧ (quietOp o = true → ∀ w', Cl w w' → (execOp a.eval o).run P w' = .ok (.value x) w') ∧ (pureOp o = true ∧ quietOp o = true → ∀ w', (execOp a.eval o).run P w' = .ok (.value x) w') := by
  by_cases hp : pureOp o = true
  · obtain ⟨v, x, h1, h2, h3⟩ := opQ_sound hT hq h hf hr (fun _ => True) fun h0 => (by rw [hp] at h0; cases h0)
    exact ⟨v, x, h1, h2, fun w' _ => by unfold Oper.quietAt; rw [h3 w' trivial]; exact ⟨rfl, rfl⟩, fun _ w' _ => h3 w' trivial, fun _ w' => h3 w' trivial⟩
  · obtain ⟨v, x, h1, h2, h3⟩ := opQ_sound hT hq h hf hr (Cl w) fun _ _ h => h
    exact ⟨v, x, h1, h2, fun w' hw' => by unfold Oper.quietAt; rw [h3 w' hw']; exact ⟨rfl, rfl⟩, fun _ w' hw' => h3 w' hw', fun hp' => absurd hp'.1 hp⟩
theorem softC {o : Oper} (hc : callOp o = true) {fr : List AV} {H : List Blk} {β : Nat → Option Nat} {S : Nat → Prop} {a : Act} {w : World} (hf : FR β H.length S w fr a) (hr : Rel G β S H w) (K : AV → List Blk → Prop)
    (h : opA T G (CallQ P G) o fr H K) : ∃ v x, K v H ∧ VR β H.length S w v x ∧ (∀ w', Cl w w' → o.quietAt P a (Cl w) w' x) ∧ (quietOp o = true → ∀ w', Cl w w' → (execOp a.eval o).run P w' = .ok (.value x) w') ∧ (pureOp o = true ∧ quietOp o = true → ∀ w', (execOp a.eval o).run P w' = .ok (.value x) w') := by
  obtain ⟨dst, op, ty, pos, after, guard⟩ := o
  cases op with
  | call c =>
    obtain ⟨callee, args, argTypes⟩ := c
    cases callee with
    | value f =>
      simp only [opA] at h
      split at h
      · rename_i g caps hg
        rw [avsK_eq, rds_eq] at h
        obtain ⟨v, x, hx, hent, hcall, hk⟩ := h
        have hfv := hf.rd f
        rw [hg] at hfv
        obtain ⟨vs, he, hl, hvs⟩ := hfv.fn_inv
        have hargs : ∀ i c, (args.toList.map (rd fr) ++ caps)[i]? = some c → VR β H.length S w c ((args.map a.eval ++ vs).getD i undef) := fun i c hc => by
          by_cases hi : i < args.size
          · rw [List.getElem?_append_left (by simpa using hi), List.getElem?_map, Option.map_eq_some_iff] at hc
            obtain ⟨y, hy, rfl⟩ := hc
            have : (args.map a.eval ++ vs).getD i undef = a.eval y := by
              rw [Array.getD_eq_getD_getElem?, Array.getElem?_append_left (by simpa using hi)]
              simp at hy
              simp [hy]
            rw [this]
            exact hf.rd y
          · rw [List.getElem?_append_right (by simp; omega)] at hc
            have := hvs _ _ hc
            have e : (args.map a.eval ++ vs).getD i undef = vs.getD (i - args.size) undef := by
              rw [Array.getD_eq_getD_getElem?, Array.getElem?_append_right (by simp; omega), Array.getD_eq_getD_getElem?]
              simp
            rw [e]
            simpa using this
        refine ⟨v, x, hk, ?_, fun w' hw' => ?_, fun hp => by simp [quietOp] at hp, fun hp => by simp [quietOp] at hp⟩
        · exact solid_vr hx
        · have hrun : (execOp a.eval { dst, op := .call { callee := .value f, args, argTypes }, type := ty, pos, after, guard }).run P w' = .ok (.enter g (args.map a.eval ++ vs)) w' := by
            simp [execOp, resolve, Deferred.ofValue, he, invoke, run_callFunc hent]
          unfold Oper.quietAt
          rw [hrun]
          refine ⟨rfl, (hcall β S w' (args.map a.eval ++ vs) (hr.cl hw') (by simp [hl]) fun i c hc => ?_).mono fun e w'' ⟨h1, h2⟩ => ⟨h1, Cl.trans hw' h2⟩⟩
          exact (hargs i c hc).tr (Tr.grow hr hw' (Nat.le_refl _) fun _ _ => rfl)
      · exact h.elim
    | _ => simp [callOp] at hc
  | _ => simp [callOp] at hc
theorem mixA_sound (hT : TabOK P T) {C : Ctx} {ops : Array Oper} {qs : List Nat} {Q : Exit → Act → World → Prop} {K : List AV → List Blk → Prop} (hQ : ∀ a w, After G C K a w → Q .normal a w) :
    ∀ (l : List Nat) (fr : List AV) (H : List Blk) (β : Nat → Option Nat) (S : Nat → Prop) (a : Act) (w : World), mixA T G (CallQ P G) (CallA P G) ops.toList qs l fr H K → FR β H.length S w fr a → HS G C β S H w → wpMix P ops (hardOf ops qs) Q l a w
  | [], fr, H, β, S, a, w, h, hf, hs => fun w' hw' => hQ a w' ⟨β, S, fr, H, hf.cl hs.rel hw', hs.cl hw', h⟩
  | k :: r, fr, H, β, S, a, w, h, hf, hs => by
    rw [mixA_cons] at h
    obtain ⟨o, ho, h⟩ := atOp_eq _ _ _ h
    rw [Array.getElem?_toList] at ho
    simp only [wpMix, ho]
    have fin : Soft P G ops o β S w a (fun fr' H' => mixA T G (CallQ P G) (CallA P G) ops.toList qs r fr' H' K) H → (if pureOp o = true ∧ quietOp o = true then ∃ v, Yields P ops o v a ∧ wpMix P ops (hardOf ops qs) Q r (a.put o.dst v) w
        else ∃ v, YieldsIn P ops (Cl w) o v a ∧ wpMix P ops (hardOf ops qs) Q r (a.put o.dst v) w) := fun ⟨v, fr', h1, _, h2, h3, h4⟩ => by
      have h5 := mixA_sound hT hQ r fr' H β S _ w h3 h4 hs
      split
      · rename_i hp; exact ⟨v, h1 hp, h5⟩
      · exact ⟨v, h2, h5⟩
    cases hq : quietOp o with
    | true =>
      have hh : hardOf ops qs k = false := by simp [hardOf, ho, hq]
      rw [hh, if_neg (by simp)]
      rw [hq] at fin
      cases hc : (callOp o && isId qs k) with
      | true => rw [hc] at h; exact fin (stepA_soft (softQ hT hq hf hs.rel) h hf)
      | false => rw [hc] at h; exact fin (stepA_soft (softQ hT hq hf hs.rel) h hf)
    | false =>
      cases hc : (callOp o && isId qs k) with
      | true =>
        have hh : hardOf ops qs k = false := by simp [hardOf, ho, hc]
        rw [hh, if_neg (by simp)]
        rw [hq] at fin
        rw [hc] at h
        have hc' : callOp o = true := by rw [Bool.and_eq_true] at hc; exact hc.1
        exact fin (stepA_soft (softC hc' hf hs.rel) h hf)
      | false =>
        have hh : hardOf ops qs k = true := by simp [hardOf, ho, hq, hc]
        rw [hh, if_pos rfl]
        rw [hc] at h
        intro w' hw'
        exact stepA_hard hT ho h (hf.cl hs.rel hw') (hs.cl hw') fun a w ⟨β', S', fr', H', h1, h2, h3⟩ => mixA_sound hT hQ r fr' H' β' S' a w h3 h1 h2
theorem draw_rule (hT : TabOK P T) (hm : P.follows .mixedOrders = true) {ops : List Oper} {fr : List AV} {H : List Blk} {K : List AV → List Blk → Prop} (qs l : List Nat) (hB : mixOk ops.toArray (hardOf ops.toArray qs) l = true)
    (h : mixA T G (CallQ P G) (CallA P G) ops qs l fr H K) : DrawA P G ops fr H K := by
  intro id C β S a w hf hs
  have hd : Cl w { w with drawn := w.drawn + 1 } := ⟨rfl, rfl, rfl, Nat.le_refl _, fun _ _ _ => rfl⟩
  refine wp_region_mix hm (fun c a w h => h) hB ?_
  refine mixA_sound hT (K := K) (fun a w ⟨β', S', fr', H', h1, h2, h3⟩ => ⟨β', S', fr', H', h1, h2, h3⟩) l fr H β S a _ (by simpa using h) (hf.cl hs.rel hd) (hs.cl hd)
end
end Go.AE
