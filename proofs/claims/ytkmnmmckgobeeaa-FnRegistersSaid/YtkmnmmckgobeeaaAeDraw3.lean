/-
  Over the abstract evaluator: a region that draws its order, where no one order serves: a tree of orders; the tree is reckoned off the region's edges. No conditions.
-/
import Derived.Test.YtkmnmmckgobeeaaAeDraw2
namespace Go.AE

/-- Which operation comes next. 'first': it may be taken first whatever the draw; 'one', 'both': these are all that may come now. -/
inductive OTree where
  | done
  | first (k : Nat) (t : OTree)
  | one (k : Nat) (t : OTree)
  | both (k : Nat) (t r : OTree)
def keysT : OTree → Nat → Bool
  | .one k _, j => k == j
  | .both k _ r, j => k == j || keysT r j
  | _, _ => false
def depthT : OTree → Nat
  | .done => 0
  | .first _ t => depthT t + 1
  | .one _ t => depthT t + 1
  | .both _ t r => max (depthT t + 1) (depthT r)

section
variable {P : Program} {G : Nat → Option D} {T : TypeId → TD} {ops : Array Oper} {md : Region.Mode}
def okT (md : Region.Mode) (ops : Array Oper) (hard : Nat → Bool) : Bool → OTree → Array Bool → Bool
  | _, .done, listed => (Region.ready md ops listed).isEmpty
  | _, .first k t, listed => !hard k && (Region.ready md ops listed).contains k && Region.free md ops listed k && ((match ops[k]? with | some o => (pureOp o && quietOp o) || (quietOp o && writesWait md ops hard listed k) | none => false) || hardsWait md ops hard listed k) && okT md ops hard true t (listed.setIfInBounds k true)
  | chk, .one k t, listed => (Region.ready md ops listed).contains k && (!chk || (Region.ready md ops listed).all fun j => k == j) && okT md ops hard true t (listed.setIfInBounds k true)
  | chk, .both k t r, listed => (Region.ready md ops listed).contains k && (!chk || (Region.ready md ops listed).all fun j => k == j || keysT r j) && okT md ops hard true t (listed.setIfInBounds k true) && okT md ops hard false r listed
def wpT (P : Program) (ops : Array Oper) (hard : Nat → Bool) (Q : Exit → Act → World → Prop) : OTree → Act → World → Prop
  | .done, a, w => ∀ w', Cl w w' → Q .normal a w'
  | .first k t, a, w => match ops[k]? with
    | none => False
    | some o => if pureOp o = true ∧ quietOp o = true then ∃ v, Yields P ops o v a ∧ wpT P ops hard Q t (a.put o.dst v) w else if quietOp o = true then ∃ v, YieldsR P ops (Cl w) o v a ∧ wpT P ops hard Q t (a.put o.dst v) w else ∃ v, YieldsIn P ops (Cl w) o v a ∧ wpT P ops hard Q t (a.put o.dst v) w
  | .one k t, a, w => match ops[k]? with
    | none => False
    | some o => if hard k = true then ∀ w', Cl w w' → wpOp P ops Q k (wpT P ops hard Q t) a w' else ∃ v, YieldsIn P ops (Cl w) o v a ∧ wpT P ops hard Q t (a.put o.dst v) w
  | .both k t r, a, w => (match ops[k]? with
    | none => False
    | some o => if hard k = true then ∀ w', Cl w w' → wpOp P ops Q k (wpT P ops hard Q t) a w' else ∃ v, YieldsIn P ops (Cl w) o v a ∧ wpT P ops hard Q t (a.put o.dst v) w) ∧ wpT P ops hard Q r a w
def Turn (P : Program) (md : Region.Mode) (ops : Array Oper) (hard : Nat → Bool) (Q : Exit → Act → World → Prop) (f j : Nat) (listed : Array Bool) (a : Act) (w : World) : Prop :=
  (hard j = true → ∀ w', Cl w w' → wpOp P ops Q j (wpAnyM P md ops hard Q f (listed.setIfInBounds j true)) a w') ∧
  (hard j = false → qOp P ops (Cl w) j (fun a' => wpAnyM P md ops hard Q f (listed.setIfInBounds j true) a' w) a)
theorem wpAnyM_of_tree {hard : Nat → Bool} {Q : Exit → Act → World → Prop} (hsel : Region.noSelect ops = true) (hQ : ∀ c a w, ¬ Q (.panic c) a w) :
    ∀ (t : OTree) (chk : Bool) (listed : Array Bool) (a : Act) (w : World), Closed md ops listed → okT md ops hard chk t listed = true → wpT P ops hard Q t a w →
      (chk = true → ∀ f, depthT t ≤ f → wpAnyM P md ops hard Q f listed a w) ∧ ∀ j ∈ Region.ready md ops listed, keysT t j = true → ∀ f, depthT t ≤ f + 1 → Turn P md ops hard Q f j listed a w := by
  -- a branch that is taken now
  have now : ∀ (k : Nat) (t : OTree) (listed : Array Bool) (a : Act) (w : World), (∀ (listed : Array Bool) (a : Act) (w : World), Closed md ops listed → okT md ops hard true t listed = true → wpT P ops hard Q t a w → ∀ f, depthT t ≤ f → wpAnyM P md ops hard Q f listed a w) →
      Closed md ops listed → k ∈ Region.ready md ops listed → okT md ops hard true t (listed.setIfInBounds k true) = true →
      (match ops[k]? with
        | none => False
        | some o => if hard k = true then ∀ w', Cl w w' → wpOp P ops Q k (wpT P ops hard Q t) a w' else ∃ v, YieldsIn P ops (Cl w) o v a ∧ wpT P ops hard Q t (a.put o.dst v) w) → ∀ f, depthT t ≤ f → Turn P md ops hard Q f k listed a w := by
    intro k t listed a w ih inv hin hok h f hf
    cases ho : ops[k]? with
    | none => rw [ho] at h; exact h.elim
    | some o =>
      rw [ho] at h
      refine ⟨fun hh w' hw' => ?_, fun hh => ?_⟩
      · simp only [hh, if_true] at h
        exact wpOp_mono (fun a' w'' h' => ih _ a' w'' (inv.set hin) hok h' f hf) (h w' hw')
      · simp only [hh] at h
        obtain ⟨v, hy, hK⟩ := h
        exact hy.qOp ho (ih _ _ w (inv.set hin) hok hK f hf)
  have top : ∀ (t : OTree) (listed : Array Bool) (a : Act) (w : World), 0 < depthT t → (∀ j ∈ Region.ready md ops listed, keysT t j = true) →
      (∀ j ∈ Region.ready md ops listed, keysT t j = true → ∀ f, depthT t ≤ f + 1 → Turn P md ops hard Q f j listed a w) → (Region.ready md ops listed = [] → ∀ w', Cl w w' → Q .normal a w') → ∀ f, depthT t ≤ f → wpAnyM P md ops hard Q f listed a w := by
    intro t listed a w hpos hall hturn hnil f hf
    cases f with
    | zero => omega
    | succ f => exact ⟨hnil, fun i hi => hturn i hi (hall i hi) f hf⟩
  intro t
  induction t with
  | done =>
    intro chk listed a w inv hok h
    refine ⟨fun _ f _ => ?_, fun j _ hk => by simp [keysT] at hk⟩
    have hr : Region.ready md ops listed = [] := by simpa [okT] using hok
    cases f with
    | zero => exact ⟨hr, h⟩
    | succ f => exact ⟨fun _ => h, fun i hi => by rw [hr] at hi; cases hi⟩
  | first k t ih =>
    intro chk listed a w inv hok h
    refine ⟨fun _ f hf => ?_, fun j _ hk => by simp [keysT] at hk⟩
    simp only [okT, Bool.and_eq_true, Bool.or_eq_true, Bool.not_eq_true'] at hok
    obtain ⟨⟨⟨⟨hh, hr⟩, hfr⟩, hp⟩, hok⟩ := hok
    have hr' : k ∈ Region.ready md ops listed := by simpa using hr
    cases f with
    | zero => simp [depthT] at hf
    | succ f =>
      have hf' : depthT t ≤ f := by simp only [depthT] at hf; omega
      simp only [wpT] at h
      cases ho : ops[k]? with
      | none => rw [ho] at h; exact h.elim
      | some o =>
        rw [ho] at h hp
        simp only at h
        by_cases hpq : pureOp o = true ∧ quietOp o = true
        · rw [if_pos hpq] at h
          obtain ⟨v, hy, hK⟩ := h
          exact wpAnyM_firstP ho (Region.noSelect_spec hsel) hQ hh f listed a w (Region.free_spec ho hfr) hr' hy ((ih true _ _ w (inv.set hr') hok hK).1 rfl f hf')
        · rw [if_neg hpq] at h
          by_cases hqo : quietOp o = true
          · rw [if_pos hqo] at h
            obtain ⟨v, hy, hK⟩ := h
            refine wpAnyM_firstG ho (Region.noSelect_spec hsel) hQ hh ops.size f listed a w inv (Region.free_spec ho hfr) (fun j oj hj hun hhj => ?_) hr' hy ((ih true _ _ w (inv.set hr') hok hK).1 rfl f hf')
            rcases hp with hp | hp
            · rw [Bool.or_eq_true, Bool.and_eq_true, Bool.and_eq_true] at hp
              rcases hp with hp | hp
              · exact absurd hp hpq
              have h1 := List.all_eq_true.1 hp.2 j (List.mem_range.2 (Array.getElem?_eq_some_iff.1 hj).1)
              simp only [hun, hhj, hj, Bool.or_eq_true, Bool.not_true, Bool.false_eq_true, or_false, false_or] at h1
              exact h1
            · have h1 := List.all_eq_true.1 hp j (List.mem_range.2 (Array.getElem?_eq_some_iff.1 hj).1)
              simp only [hun, hhj, Bool.or_eq_true, Bool.not_true, Bool.false_eq_true, or_false, false_or] at h1
              exact .inr h1
          · rw [if_neg hqo] at h
            obtain ⟨v, hy, hK⟩ := h
            refine wpAnyM_firstR ho (Region.noSelect_spec hsel) hh w ops.size f listed a inv (Region.free_spec ho hfr) (fun j oj hj hun hhj => ?_) hr' hy ((ih true _ _ w (inv.set hr') hok hK).1 rfl f hf')
            rcases hp with hp | hp
            · rw [Bool.or_eq_true, Bool.and_eq_true, Bool.and_eq_true] at hp
              rcases hp with hp | hp
              · exact absurd hp hpq
              · exact absurd hp.1 hqo
            · have h1 := List.all_eq_true.1 hp j (List.mem_range.2 (Array.getElem?_eq_some_iff.1 hj).1)
              simp only [hun, hhj, Bool.or_eq_true, Bool.not_true, Bool.false_eq_true, or_false, false_or] at h1
              exact h1
  | one k t ih =>
    intro chk listed a w inv hok h
    simp only [okT, Bool.and_eq_true] at hok
    obtain ⟨⟨hin, hc⟩, hok⟩ := hok
    have hin : k ∈ Region.ready md ops listed := by simpa using hin
    simp only [wpT] at h
    have hturn : ∀ j ∈ Region.ready md ops listed, keysT (.one k t) j = true → ∀ f, depthT (.one k t) ≤ f + 1 → Turn P md ops hard Q f j listed a w := fun j hj hk f hf => by
      have : k = j := by simpa [keysT] using hk
      subst this
      exact now k t listed a w (fun listed a w h1 h2 h3 => (ih true listed a w h1 h2 h3).1 rfl) inv hj hok h f (by simp only [depthT] at hf; omega)
    refine ⟨fun hchk => top _ _ _ _ (by simp [depthT]) (fun j hj => ?_) hturn fun h0 => (by rw [h0] at hin; cases hin), hturn⟩
    rw [hchk] at hc
    have h2 : ∀ x ∈ Region.ready md ops listed, k = x := by simpa using hc
    simpa [keysT] using h2 j hj
  | both k t r ih ihr =>
    intro chk listed a w inv hok h
    simp only [okT, Bool.and_eq_true] at hok
    obtain ⟨⟨⟨hin, hc⟩, hok⟩, hokr⟩ := hok
    have hin : k ∈ Region.ready md ops listed := by simpa using hin
    simp only [wpT] at h
    obtain ⟨h, hr⟩ := h
    have hturn : ∀ j ∈ Region.ready md ops listed, keysT (.both k t r) j = true → ∀ f, depthT (.both k t r) ≤ f + 1 → Turn P md ops hard Q f j listed a w := fun j hj hk f hf => by
      simp only [depthT] at hf
      by_cases hkj : k = j
      · subst hkj
        exact now k t listed a w (fun listed a w h1 h2 h3 => (ih true listed a w h1 h2 h3).1 rfl) inv hj hok h f (by omega)
      · have : keysT r j = true := by
          simp only [keysT, Bool.or_eq_true, beq_iff_eq] at hk
          rcases hk with hk | hk
          · exact absurd hk hkj
          · exact hk
        exact (ihr false listed a w inv hokr hr).2 j hj this f (by omega)
    refine ⟨fun hchk => top _ _ _ _ (by simp only [depthT]; omega) (fun j hj => ?_) hturn fun h0 => (by rw [h0] at hin; cases hin), hturn⟩
    rw [hchk] at hc
    have h2 : ∀ x ∈ Region.ready md ops listed, k = x ∨ keysT r x = true := by simpa using hc
    simpa [keysT] using h2 j hj

/-! ### The walk over a tree -/
noncomputable def treeA (T : TypeId → TD) (G : Nat → Option D) (CallQ Call : FuncId → List AV → List Blk → (AV → List Blk → Prop) → Prop) (ops : List Oper) (qs : List Nat) (t : OTree) : List AV → List Blk → (List AV → List Blk → Prop) → Prop :=
  OTree.rec (motive := fun _ => List AV → List Blk → (List AV → List Blk → Prop) → Prop) (fun fr H K => K fr H)
    (fun k _ ih fr H K => atOp ops k fun o => bif callOp o && isId qs k then stepA T G CallQ ops o fr H fun fr' H' => ih fr' H' K else stepA T G Call ops o fr H fun fr' H' => ih fr' H' K)
    (fun k _ ih fr H K => atOp ops k fun o => bif callOp o && isId qs k then stepA T G CallQ ops o fr H fun fr' H' => ih fr' H' K else stepA T G Call ops o fr H fun fr' H' => ih fr' H' K)
    (fun k _ _ ih ihr fr H K => (atOp ops k fun o => bif callOp o && isId qs k then stepA T G CallQ ops o fr H fun fr' H' => ih fr' H' K else stepA T G Call ops o fr H fun fr' H' => ih fr' H' K) ∧ ihr fr H K) t
/-- One step of it. -/
theorem step_sound (hT : TabOK P T) {C : Ctx} {ops : Array Oper} {qs : List Nat} {Q : Exit → Act → World → Prop} {k : Nat} {K : List AV → List Blk → Prop} {M : Act → World → Prop} {fr : List AV} {H : List Blk} {β : Nat → Option Nat} {S : Nat → Prop} {a : Act} {w : World}
    (next : ∀ fr' H' β' S' a w, K fr' H' → FR β' H'.length S' w fr' a → HS G C β' S' H' w → M a w)
    (h : atOp ops.toList k fun o => bif callOp o && isId qs k then stepA T G (CallQ P G) ops.toList o fr H K else stepA T G (CallA P G) ops.toList o fr H K) (hf : FR β H.length S w fr a) (hs : HS G C β S H w) :
    match ops[k]? with
    | none => False
    | some o => if hardOf ops qs k = true then ∀ w', Cl w w' → wpOp P ops Q k M a w' else
        (pureOp o = true ∧ quietOp o = true → ∃ v, Yields P ops o v a ∧ M (a.put o.dst v) w) ∧ (quietOp o = true → ∃ v, YieldsR P ops (Cl w) o v a ∧ M (a.put o.dst v) w) ∧ ∃ v, YieldsIn P ops (Cl w) o v a ∧ M (a.put o.dst v) w := by
  obtain ⟨o, ho, h⟩ := atOp_eq _ _ _ h
  rw [Array.getElem?_toList] at ho
  rw [ho]
  have fin : Soft P G ops o β S w a K H → (pureOp o = true ∧ quietOp o = true → ∃ v, Yields P ops o v a ∧ M (a.put o.dst v) w) ∧ (quietOp o = true → ∃ v, YieldsR P ops (Cl w) o v a ∧ M (a.put o.dst v) w) ∧ ∃ v, YieldsIn P ops (Cl w) o v a ∧ M (a.put o.dst v) w := fun ⟨v, fr', h1, h1', h2, h3, h4⟩ => by
    have h5 := next fr' H β S _ w h3 h4 hs
    exact ⟨fun hp => ⟨v, h1 hp, h5⟩, fun hp => ⟨v, h1' hp, h5⟩, v, h2, h5⟩
  cases hq : quietOp o with
  | true =>
    have hh : hardOf ops qs k = false := by simp [hardOf, ho, hq]
    simp only [hh, Bool.false_eq_true, if_false]
    cases hc : (callOp o && isId qs k) with
    | true => rw [hc] at h; exact fin (stepA_soft (softQ hT hq hf hs.rel) h hf)
    | false => rw [hc] at h; exact fin (stepA_soft (softQ hT hq hf hs.rel) h hf)
  | false =>
    cases hc : (callOp o && isId qs k) with
    | true =>
      have hh : hardOf ops qs k = false := by simp [hardOf, ho, hc]
      simp only [hh, Bool.false_eq_true, if_false]
      rw [hc] at h
      have hc' : callOp o = true := by rw [Bool.and_eq_true] at hc; exact hc.1
      exact fin (stepA_soft (softC hc' hf hs.rel) h hf)
    | false =>
      have hh : hardOf ops qs k = true := by simp [hardOf, ho, hq, hc]
      simp only [hh, if_true]
      rw [hc] at h
      intro w' hw'
      exact stepA_hard hT ho h (hf.cl hs.rel hw') (hs.cl hw') fun a w ⟨β', S', fr', H', h1, h2, h3⟩ => next fr' H' β' S' a w h3 h1 h2
theorem treeA_sound (hT : TabOK P T) {C : Ctx} {ops : Array Oper} {qs : List Nat} {Q : Exit → Act → World → Prop} {K : List AV → List Blk → Prop} (hQ : ∀ a w, After G C K a w → Q .normal a w) :
    ∀ (t : OTree) (fr : List AV) (H : List Blk) (β : Nat → Option Nat) (S : Nat → Prop) (a : Act) (w : World), (∀ chk listed, okT md ops (hardOf ops qs) chk t listed = true → True) → treeA T G (CallQ P G) (CallA P G) ops.toList qs t fr H K → FR β H.length S w fr a → HS G C β S H w →
      (∃ chk listed, okT md ops (hardOf ops qs) chk t listed = true) → wpT P ops (hardOf ops qs) Q t a w
  | .done, fr, H, β, S, a, w, _, h, hf, hs, _ => fun w' hw' => hQ a w' ⟨β, S, fr, H, hf.cl hs.rel hw', hs.cl hw', h⟩
  | .first k t, fr, H, β, S, a, w, _, h, hf, hs, ⟨chk, listed, hok⟩ => by
    simp only [okT, Bool.and_eq_true, Bool.not_eq_true'] at hok
    have hst := step_sound (Q := Q) (M := wpT P ops (hardOf ops qs) Q t) hT (fun fr' H' β' S' a w hK h1 h2 => treeA_sound hT hQ t fr' H' β' S' a w (fun _ _ _ => trivial) hK h1 h2 ⟨_, _, hok.2⟩) h hf hs
    simp only [wpT]
    cases ho : ops[k]? with
    | none => rw [ho] at hst; exact hst.elim
    | some o =>
      rw [ho] at hst
      simp only [hok.1.1.1.1, Bool.false_eq_true, if_false] at hst
      simp only
      split
      · rename_i hp; exact hst.1 hp
      · split
        · rename_i hp; exact hst.2.1 hp
        · exact hst.2.2
  | .one k t, fr, H, β, S, a, w, _, h, hf, hs, ⟨chk, listed, hok⟩ => by
    simp only [okT, Bool.and_eq_true] at hok
    have hst := step_sound (Q := Q) (M := wpT P ops (hardOf ops qs) Q t) hT (fun fr' H' β' S' a w hK h1 h2 => treeA_sound hT hQ t fr' H' β' S' a w (fun _ _ _ => trivial) hK h1 h2 ⟨_, _, hok.2⟩) h hf hs
    simp only [wpT]
    cases ho : ops[k]? with
    | none => rw [ho] at hst; exact hst.elim
    | some o =>
      rw [ho] at hst
      simp only at hst ⊢
      split
      · rename_i hh; rw [if_pos hh] at hst; exact hst
      · rename_i hh; rw [if_neg hh] at hst; exact hst.2.2
  | .both k t r, fr, H, β, S, a, w, _, h, hf, hs, ⟨chk, listed, hok⟩ => by
    simp only [okT, Bool.and_eq_true] at hok
    obtain ⟨h, hr⟩ := h
    have hst := step_sound (Q := Q) (M := wpT P ops (hardOf ops qs) Q t) hT (fun fr' H' β' S' a w hK h1 h2 => treeA_sound hT hQ t fr' H' β' S' a w (fun _ _ _ => trivial) hK h1 h2 ⟨_, _, hok.1.2⟩) h hf hs
    simp only [wpT]
    refine ⟨?_, treeA_sound hT hQ r fr H β S a w (fun _ _ _ => trivial) hr hf hs ⟨_, _, hok.2⟩⟩
    cases ho : ops[k]? with
    | none => rw [ho] at hst; exact hst.elim
    | some o =>
      rw [ho] at hst
      simp only at hst ⊢
      split
      · rename_i hh; rw [if_pos hh] at hst; exact hst
      · rename_i hh; rw [if_neg hh] at hst; exact hst.2.2
def treeOk (ops : Array Oper) (hard : Nat → Bool) (t : OTree) : Bool := Region.noSelect ops && Nat.ble (depthT t) ops.size && okT .any ops hard true t (Array.replicate ops.size false)
theorem draw_tree (hT : TabOK P T) (hm : P.follows .mixedOrders = true) {ops : List Oper} {fr : List AV} {H : List Blk} {K : List AV → List Blk → Prop} (qs : List Nat) (t : OTree) (hB : treeOk ops.toArray (hardOf ops.toArray qs) t = true)
    (h : treeA T G (CallQ P G) (CallA P G) ops qs t fr H K) : DrawA P G ops fr H K := by
  intro id C β S a w hf hs
  have hd : Cl w { w with drawn := w.drawn + 1 } := ⟨rfl, rfl, rfl, Nat.le_refl _, fun _ _ _ => rfl⟩
  simp only [treeOk, Bool.and_eq_true, Nat.ble_eq] at hB
  obtain ⟨⟨h1, h2⟩, h3⟩ := hB
  have hwp := treeA_sound (md := .any) (ops := ops.toArray) hT (K := K) (Q := Post G C fun e fr' H' => match e with
      | .normal => K fr' H'
      | _ => False) (fun a w ⟨β', S', fr', H', h1, h2, h3⟩ => ⟨β', S', fr', H', h1, h2, h3⟩) t fr H β S a _ (fun _ _ _ => trivial) (by simpa using h) (hf.cl hs.rel hd) (hs.cl hd) ⟨_, _, h3⟩
  have := (wpAnyM_of_tree (md := .any) h1 (fun c a w h => h) t true _ a _ ⟨by simp, fun j oj _ hl => (by rw [getD_replicate_false] at hl; cases hl)⟩ h3 hwp).1 rfl _ h2
  exact wp_region_any hm (wpAny_of_M _ _ _ _ _ (Cl.refl _) this)

/-! ### The tree, reckoned off the edges -/
def onesM (l : List Edge) (m : Nat) : Nat := match l with
  | [] => m
  | e :: r => onesM r (bif Region.binds .any e then m ||| (1 <<< e.on) else m)
def depsM : List Oper → List Nat
  | [] => []
  | o :: r => onesM o.after.toList 0 :: depsM r
def hardM (qs : List Nat) : List Oper → Nat → Nat → Nat
  | [], _, m => m
  | o :: r, k, m => hardM qs r (k + 1) (bif quietOp o || (callOp o && isId qs k) then m else m ||| (1 <<< k))
def pureM : List Oper → Nat → Nat → Nat
  | [], _, m => m
  | o :: r, k, m => pureM r (k + 1) (bif pureOp o && quietOp o then m ||| (1 <<< k) else m)
def quietM : List Oper → Nat → Nat → Nat
  | [], _, m => m
  | o :: r, k, m => quietM r (k + 1) (bif quietOp o then m ||| (1 <<< k) else m)
/-- Those that write into what there is. -/
def writeM (qs : List Nat) : List Oper → Nat → Nat → Nat
  | [], _, m => m
  | o :: r, k, m => writeM qs r (k + 1) (bif quietOp o || growOp o || (callOp o && isId qs k) then m else m ||| (1 <<< k))
/-- The masks of those that wait, by however many others (an edge goes back). -/
def unionM (ts : List Nat) (d : Nat) (k : Nat) (m : Nat) : Nat := match ts with
  | [] => m
  | t :: r => unionM r d (k + 1) (bif Nat.testBit d k then m ||| t else m)
def transM : List Nat → List Nat → List Nat
  | [], ts => ts
  | d :: r, ts => transM r (ts ++ [unionM ts d 0 d])
/-- All hard ones that are not listed wait for k. -/
def allWait (ts : List Nat) (k left : Nat) (i : Nat) : Bool := match ts with
  | [] => true
  | t :: r => (bif Nat.testBit left i then Nat.testBit t k else true) && allWait r k left (i + 1)
def readyM (deps : List Nat) (listed : Nat) (k : Nat) : List Nat := match deps with
  | [] => []
  | d :: r => bif !Nat.testBit listed k && Nat.beq (d &&& listed) d then k :: readyM r listed (k + 1) else readyM r listed (k + 1)
def firstM (ts : List Nat) (hard pure quiet left leftW : Nat) : List Nat → Option Nat
  | [] => none
  | k :: r => bif !Nat.testBit hard k && (Nat.testBit pure k || (Nat.testBit quiet k && allWait ts k leftW 0) || allWait ts k left 0) then some k else firstM ts hard pure quiet left leftW r
def chainM (g : Nat → OTree) : List Nat → OTree
  | [] => .done
  | [k] => .one k (g k)
  | k :: r => .both k (g k) (chainM g r)
def growT (deps ts : List Nat) (hard pure quiet writes full : Nat) : Nat → Nat → OTree
  | 0, _ => .done
  | f + 1, listed => match firstM ts hard pure quiet (hard &&& (full ^^^ listed)) (writes &&& (full ^^^ listed)) (readyM deps listed 0) with
    | some k => .first k (growT deps ts hard pure quiet writes full f (listed ||| (1 <<< k)))
    | none => chainM (fun k => growT deps ts hard pure quiet writes full f (listed ||| (1 <<< k))) (readyM deps listed 0)
def autoT (qs : List Nat) (ops : List Oper) : OTree :=
  let deps := depsM ops
  growT deps (transM deps []) (hardM qs ops 0 0) (pureM ops 0 0) (quietM ops 0 0) (writeM qs ops 0 0) ((1 <<< ops.length) - 1) ops.length 0
noncomputable def allOf (l : List Oper) : Nat → List Nat := List.rec (motive := fun _ => Nat → List Nat) (fun _ => []) (fun _ _ ih n => n :: ih (n + 1)) l
end
end Go.AE
