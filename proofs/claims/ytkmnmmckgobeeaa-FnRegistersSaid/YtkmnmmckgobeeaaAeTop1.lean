/-
  Over the abstract evaluator: a body gives a contract; a loop by an invariant; a contract weakened, cleaned of what is no more reached, and used in a larger heap. No conditions.
-/
import Derived.Test.YtkmnmmckgobeeaaAeCode
namespace Go.AE

section
variable {P : Program} {G : Nat → Option D} {T : TypeId → TD}

theorem CallA.mono {f : FuncId} {args : List AV} {H : List Blk} {K K' : AV → List Blk → Prop} (h : CallA P G f args H K) (hk : ∀ v H', K v H' → K' v H') : CallA P G f args H K' :=
  ⟨h.1, fun β S w vs hr hl hv => (h.2 β S w vs hr hl hv).mono fun _ _ ⟨β', S', H', v, x, h1, h2, h3, h4⟩ => ⟨β', S', H', v, x, h1, hk _ _ h2, h3, h4⟩⟩

/-! ### Bodies -/
def resSem (tmps : Array Value) : ResultVar → Sem Value
  | .tmp t => pure (tmps.getD t undef)
  | .cell c t => do loadVar t (← asAddr (tmps.getD c undef))
theorem results_eq (fn : Func) (tmps : Array Value) : results fn tmps = (do let vs ← fn.results.mapM (resSem tmps); pure (if h : vs.size = 1 then vs[0] else .tuple vs)) := by
  unfold results
  congr 1
theorem resA_sound (hT : TabOK P T) {β : Nat → Option Nat} {S : Nat → Prop} {H : List Blk} {w : World} (hr : Rel G β S H w) {fr : List AV} {a : Act} (hf : FR β H.length S w fr a) {r : ResultVar} {K : AV → Prop} (h : resA T H fr r K) :
    ∃ v x, K v ∧ VR β H.length S w v x ∧ (resSem a.tmps r).run P w = .ok x w := by
  cases r with
  | tmp t =>
    simp only [resA, avK_eq] at h
    exact ⟨_, _, h, nth_vr hf.2.1 hf.2.2 t, rfl⟩
  | cell c t =>
    simp only [resA] at h
    obtain ⟨v, u, h1, h2, h3⟩ := loadA_sound hT h hr (nth_vr hf.2.1 hf.2.2 c)
    have h3 := h3 w (Evo.refl _ _)
    refine ⟨v, u, h1, h2, ?_⟩
    simp only [resSem]
    generalize a.tmps.getD c undef = x at h3
    cases x with
    | pointer q =>
      cases q with
      | none => simp [Instr.loadAt, Instr.sureAddr] at h3
      | some q => simpa [Instr.loadAt, Instr.sureAddr, asAddr] using h3
    | _ => simp [Instr.loadAt, Instr.sureAddr] at h3
theorem ressA_sound (hT : TabOK P T) {β : Nat → Option Nat} {S : Nat → Prop} {H : List Blk} {w : World} (hr : Rel G β S H w) {fr : List AV} {a : Act} (hf : FR β H.length S w fr a) :
    ∀ (l : List ResultVar) (K : List AV → Prop), ressA T H fr l K → ∃ vs : List AV, ∃ xs : List Value, K vs ∧ vs.length = xs.length ∧ (∀ i c, vs[i]? = some c → VR β H.length S w c (xs.getD i undef)) ∧
      (l.mapM (resSem a.tmps)).run P w = .ok xs w
  | [], K, h => ⟨[], [], h, rfl, fun i c hc => by simp at hc, by simp⟩
  | r :: rest, K, h => by
    have h' : resA T H fr r (fun v => ressA T H fr rest fun vs => K (v :: vs)) := h
    obtain ⟨v, x, h1, h2, h3⟩ := resA_sound hT hr hf h'
    obtain ⟨vs, xs, h4, h5, h6, h7⟩ := ressA_sound hT hr hf rest _ h1
    refine ⟨v :: vs, x :: xs, h4, by simp [h5], fun i c hc => ?_, ?_⟩
    · cases i with
      | zero => simp at hc; subst hc; exact h2
      | succ i => simp at hc; simpa using h6 i c hc
    · simp only [List.mapM_cons, Sem.run_bind, h3, h7, Result.andThen_ok, Sem.run_pure]
theorem resultsA_sound (hT : TabOK P T) {β : Nat → Option Nat} {S : Nat → Prop} {H : List Blk} {w : World} (hr : Rel G β S H w) {fr : List AV} {a : Act} (hf : FR β H.length S w fr a) {fn : Func} {K : AV → Prop} (h : resultsA T fn H fr K) :
    ∃ v x, K v ∧ VR β H.length S w v x ∧ (results fn a.tmps).run P w = .ok x w := by
  obtain ⟨vs, xs, h1, h2, h3, h4⟩ := ressA_sound hT hr hf _ _ h
  have hrun : (results fn a.tmps).run P w = .ok (if h : xs.toArray.size = 1 then xs.toArray[0] else .tuple xs.toArray) w := by
    rw [results_eq, Sem.run_bind, Array.mapM_eq_mapM_toList, Sem.run_map, h4]
    simp only [Result.andThen_ok, Sem.run_pure]
  split at h1
  · rename_i v
    match xs, h2, h3, hrun with
    | [x], _, h3, hrun => exact ⟨v, x, h1, by simpa using h3 0 v rfl, hrun⟩
  · rename_i hne
    refine ⟨_, .tuple xs.toArray, h1, .tup _ _ (by simpa using h2) fun i c hc => ?_, ?_⟩
    · have : xs.toArray.getD i undef = xs.getD i undef := by rw [Array.getD_eq_getD_getElem?, List.getD_eq_getElem?_getD]; simp
      rw [this]; exact h3 i c hc
    · have hn1 : ¬ xs.toArray.size = 1 := fun h1s => by
        have : vs.length = 1 := by rw [h2]; simpa using h1s
        match vs, this, hne with
        | [v], _, hne => exact hne v rfl
      rw [hrun, dif_neg hn1]
/-- A body gives a contract. -/
theorem callA_of_body (hT : TabOK P T) {f : FuncId} {fn : Func} {args : List AV} {H : List Blk} {K : AV → List Blk → Prop} (hf : P.funcs[f]? = some fn) (hn : (fn.name == "runtime.NumGoroutine") = false)
    (h : bodyA T G (CallA P G) (LoopA P G) (DrawA P G) fn args H K) : CallA P G f args H K := by
  unfold bodyA at h
  split at h
  · rename_i c hb
    rw [avsK_eq] at h
    refine ⟨⟨fn, hf, by rw [hb]; rfl, hn⟩, fun β S w vs hr hl hv => ?_⟩
    refine calls_of_wp hf hb ?_
    have hfr : FR β H.length S w (args ++ List.replicate (fn.ntmps - args.length) .no) { tmps := vs ++ Array.replicate (fn.ntmps - vs.size) undef, defers := [] } := by
      refine ⟨rfl, by simp [hl], fun i v hiv => ?_⟩
      by_cases hi : i < args.length
      · rw [List.getElem?_append_left hi] at hiv
        have := hv i v hiv
        rw [Array.getD_eq_getD_getElem?] at this ⊢
        rwa [Array.getElem?_append_left (by omega)]
      · rw [List.getElem?_append_right (by omega), List.getElem?_replicate] at hiv
        split at hiv
        · cases hiv
          rw [Array.getD_eq_getD_getElem?, Array.getElem?_append_right (by omega), Array.getElem?_replicate]
          split <;> exact .no
        · cases hiv
    refine wp_mono (codeA_sound hT c _ _ _ h (ctxOf β S H w) β S _ w hfr (HS.start hr)) fun e a w' hp => ?_
    have fin : ∀ {β' S' fr' H'}, FR β' H'.length S' w' fr' a → HS G (ctxOf β S H w) β' S' H' w' → resultsA T fn H' fr' (fun v => K v H') →
        a.defers = [] ∧ ∃ v, (results fn a.tmps).run P w' = .ok v w' ∧ ∃ β' S' H' v' x, Ending.returned v = .returned x ∧ K v' H' ∧ VR β' H'.length S' w' v' x ∧ HS G (ctxOf β S H w) β' S' H' w' := by
      intro β' S' fr' H' h1 h2 h3
      obtain ⟨v, x, hk, hvx, hrun⟩ := resultsA_sound hT h2.rel h1 h3
      exact ⟨h1.1, x, hrun, β', S', H', v, x, rfl, hk, hvx, h2⟩
    cases e with
    | normal => obtain ⟨β', S', fr', H', h1, h2, h3⟩ := hp; exact fin h1 h2 h3
    | ret => obtain ⟨β', S', fr', H', h1, h2, h3⟩ := hp; exact fin h1 h2 h3
    | exit i => obtain ⟨β', S', fr', H', h1, h2, h3⟩ := hp; exact h3.elim
    | goto l => exact hp.elim
    | panic ch => exact hp.elim
    | outgrown => exact hp.elim
  · exact h.elim

end
end Go.AE
