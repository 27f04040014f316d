/-
  Contracts of the library, told as calls, in the abstract evaluator's form. No conditions but those in the statements.
-/
import Derived.Test.YtgpgnhadmckmhaaDoorAeNest
set_option linter.unusedVariables false
set_option linter.unusedSimpArgs false
namespace Go.AE
open Go.RowKit Go.WideShapes Go.ChangeShapes
section
variable {P : Program} {G : Nat → Option D}

theorem Cl.of_below {w w' : World} (h : Below w.heap.size w w') : Cl w w' := ⟨h.os, h.tape, h.output, h.size, fun b hb _ => h.block b hb⟩
/-- What is known of a world in which a call begins. -/
structure At (G : Nat → Option D) (S : Nat → Prop) (w : World) : Prop where
  lt : ∀ b, S b → b < w.heap.size
  glob : ∀ g d, G g = some d → S g ∧ GlobAt S w d g
theorem Rel.at {β : Nat → Option Nat} {S : Nat → Prop} {H : List Blk} {w : World} (h : Rel G β S H w) : At G S w := ⟨h.lt, h.glob⟩
theorem plain_args {β : Nat → Option Nat} {n : Nat} {S : Nat → Prop} {w : World} {xs : List Value} {vs : Array Value} (hl : (xs.map AV.v).length = vs.size) (hv : ∀ i c, (xs.map AV.v)[i]? = some c → VR β n S w c (vs.getD i undef)) : vs = xs.toArray := by
  apply Array.ext
  · simpa using hl.symm
  · intro i h1 h2
    have hi : i < xs.length := by simpa using h2
    have := (hv i (.v xs[i]) (by simp [hi])).v_inv.1
    rw [Array.getD_eq_getD_getElem?, Array.getElem?_eq_getElem h1] at this
    simpa using this
/-- A call with plain values that makes nothing that it hands back. -/
theorem ret_of_calls {f : FuncId} {xs : List Value} {r : AV} (he : Enters P f)
    (h : ∀ S w, At G S w → Calls P f xs.toArray w fun e w' => (∃ x, e = .returned x ∧ ∀ β n S' w', VR β n S' w' r x) ∧ Cl w w') : Ret P G f (xs.map .v) r :=
  ⟨he, fun β S w vs hr hl hv => by
    rw [plain_args hl hv]
    exact (h S w hr.at).mono fun e w' ⟨⟨x, h1, h2⟩, hc⟩ => ⟨β, S, [], r, x, h1, ⟨rfl, rfl⟩, h2 _ _ _ _, (HS.start hr).cl hc⟩⟩
theorem ret_of_calls1 {f : FuncId} {xs : List Value} {r : AV} {x : Value} (hx : solid r = some x) (he : Enters P f)
    (h : ∀ S w, At G S w → Calls P f xs.toArray w fun e w' => e = .returned x ∧ Cl w w') : Ret P G f (xs.map .v) r :=
  ret_of_calls he fun S w hw => (h S w hw).mono fun _ _ ⟨h1, h2⟩ => ⟨⟨x, h1, fun _ _ _ _ => solid_vr hx⟩, h2⟩
/-- A call that hands back a new list of strings. -/
theorem call_strs {f : FuncId} {xs : List Value} {ss : List ByteArray} (he : Enters P f) (hm : ss.length ≤ maxLen)
    (h : ∀ S w, At G S w → Calls P f xs.toArray w fun e w' => ∃ t, e = .returned (.slice (some ⟨w.heap.size, 0, none⟩) ss.length ss.length) ∧ w' = w.alloc (.cells (ss.map Value.string).toArray t)) :
    CallA P G f (xs.map .v) [] fun v J => v = .sl 0 1 ss.length ∧ J = [.data (.strs ss)] :=
  ⟨he, fun β S w vs hr hl hv => by
    rw [plain_args hl hv]
    refine (h S w hr.at).mono fun e w' ⟨t, h1, h2⟩ => ?_
    subst h2
    have hh := heap_alloc_new w (.cells (ss.map Value.string).toArray t)
    have hb : BlkR (upd β ([] : List Blk).length (some w.heap.size)) (([] : List Blk).length + 1) S (w.alloc (.cells (ss.map Value.string).toArray t)) (some w.heap.size) (.data (.strs ss)) :=
      .data _ _ t _ hh (by simp [D.len, D.sz]) fun i hi j hj => by
        have hi : i < ss.length := hi
        have hj : j = 0 := by simp only [D.sz] at hj; omega
        subst hj
        simp only [cellR, D.cv, D.sz]
        rw [Array.getD_eq_getD_getElem?, List.getD_eq_getElem?_getD]
        simp [hi]
    have hp := HS.push (HS.start hr) (evo_alloc w (.cells (ss.map Value.string).toArray t)) (q := some w.heap.size) (fun r hr => by cases hr; exact Nat.le_refl _) hb
    exact ⟨_, S, _, _, _, h1, ⟨rfl, rfl⟩, .sl 0 1 ss.length w.heap.size ss.length Nat.one_pos (upd_same _ _ _) (Nat.le_refl _) hm _ t ⟨_, hh⟩ (by simp), hp.1⟩⟩
/-- A call with a list of strings, and a string. -/
theorem ret_of_strs {f : FuncId} {ss : List ByteArray} {y : Value} {r : AV} {x : Value} (hx : solid r = some x) (he : Enters P f)
    (h0 : ss = [] → ∀ w a cap, Calls P f #[.slice a 0 cap, y] w fun e w' => e = .returned x ∧ Cl w w')
    (h1 : ∀ (w : World) (b off cap : Nat), 0 < ss.length → b < w.heap.size → ss.length ≤ cap → (∀ j s, ss[j]? = some s → w.cell? ⟨b, off + j, none⟩ = some (.string s)) → Calls P f #[.slice (some ⟨b, off, none⟩) ss.length cap, y] w fun e w' => e = .returned x ∧ Cl w w') :
    Ret P G f [.ro (.strs ss), .v y] r :=
  ⟨he, fun β S w vs hr hl hv => by
    have e0 : vs = #[vs.getD 0 undef, y] := by
      have h1 := (hv 1 _ rfl).v_inv.1
      have hl : vs.size = 2 := hl.symm
      apply Array.ext
      · simp [hl]
      · intro i g1 g2
        have hi : i < 2 := by simpa using g2
        rcases (show i = 0 ∨ i = 1 by omega) with rfl | rfl
        · rw [Array.getD_eq_getD_getElem?, Array.getElem?_eq_getElem g1]; rfl
        · rw [Array.getD_eq_getD_getElem?, Array.getElem?_eq_getElem g1] at h1
          simpa using h1
    have hd : SlD S w (.strs ss) (vs.getD 0 undef) := by
      cases hv 0 _ rfl with
      | ro _ _ h => exact h
    have fin : Calls P f vs w fun e w' => e = .returned x ∧ Cl w w' := by
      rw [e0]
      obtain ⟨a, cap, g1, g2, g3, g4⟩ := hd
      rw [g1]
      by_cases hp : 0 < ss.length
      · obtain ⟨b, off, rfl, hS, hat⟩ := g4 hp
        refine h1 w b off cap hp (hr.lt b hS) g2 fun j s hj => ?_
        have hlt := (List.getElem?_eq_some_iff.1 hj).1
        obtain ⟨u, k1, k2⟩ := hat j hlt 0 (by simp [D.sz])
        simp only [D.sz, Nat.mul_one, Nat.add_zero] at k1
        rw [k1, k2]
        simp only [D.cv]
        rw [List.getD_eq_getElem?_getD, hj]
        rfl
      · have hnil := List.eq_nil_of_length_eq_zero (show ss.length = 0 by omega)
        subst hnil
        exact h0 rfl w a cap
    exact fin.mono fun e w' ⟨k1, hc⟩ => ⟨β, S, [], r, x, k1, ⟨rfl, rfl⟩, solid_vr hx, (HS.start hr).cl hc⟩⟩
/-- More may be known of the package's variables. -/
theorem CallA.weak {G G' : Nat → Option D} (hG : ∀ g d, G g = some d → G' g = some d) {f : FuncId} {args : List AV} {H : List Blk} {K : AV → List Blk → Prop} (h : CallA P G f args H K) : CallA P G' f args H K :=
  ⟨h.1, fun β S w vs hr hl hv => (h.2 β S w vs ⟨hr.blk, hr.sep, hr.off, hr.lt, fun g d hg => hr.glob g d (hG g d hg)⟩ hl hv).mono fun _ _ ⟨β', S', H', v, x, h1, h2, h3, h4⟩ =>
    ⟨β', S', H', v, x, h1, h2, h3, ⟨h4.rel.blk, h4.rel.sep, h4.rel.off, h4.rel.lt, fun g d hg => ⟨h4.tr.sub _ (hr.glob g d hg).1, GlobAt.keep (hr.glob g d hg).1 (hr.glob g d hg).2 h4.tr.sub h4.tr.keep⟩⟩, h4.evo, h4.new, h4.tr, h4.fix⟩⟩
theorem Ret.weak {G G' : Nat → Option D} (hG : ∀ g d, G g = some d → G' g = some d) {f : FuncId} {args : List AV} {r : AV} (h : Ret P G f args r) : Ret P G' f args r := CallA.weak hG h
/-- What a package's variable holds. -/
theorem At.cell {S : Nat → Prop} {w : World} (h : At G S w) {g : Nat} {p : Value → Bool} (hg : G g = some (.told p 1)) : ∃ u, w.cell? ⟨g, 0, none⟩ = some u ∧ p u = true := by
  obtain ⟨_, h2, _⟩ := h.glob g _ hg
  obtain ⟨u, h3, h4⟩ := h2 0 Nat.one_pos 0 Nat.one_pos
  exact ⟨u, by simpa using h3, h4.1⟩
theorem At.ints {S : Nat → Prop} {w : World} (h : At G S w) {g : Nat} {k : IntKind} {xs : List Int} (hg : G g = some (.ints k xs)) : ∃ e fz, w.heap[g]? = some (.cells (xs.map fun z => Value.int k z).toArray e fz) := by
  obtain ⟨_, h2, cs, e, fz, h3, h4⟩ := h.glob g _ hg
  refine ⟨e, fz, ?_⟩
  rw [h3]
  congr 2
  have h4 : cs.size = xs.length := by simpa [D.len, D.sz] using h4
  apply Array.ext
  · simpa using h4
  · intro i g1 g2
    obtain ⟨u, k1, k2⟩ := h2 i (by show i < xs.length; omega) 0 Nat.one_pos
    simp only [D.sz, Nat.mul_one, Nat.add_zero, Nat.zero_add] at k1
    rw [cell_of_row w g i cs e fz h3, Array.getElem?_eq_getElem g1] at k1
    cases k1
    simp only [cellR, D.cv] at k2
    rw [k2, List.getD_eq_getElem?_getD, List.getElem?_eq_getElem (by omega)]
    simp
end
end Go.AE
