/-
  The abstract evaluator is right: an operation, a region, a piece of code, a body, a loop. No conditions.
-/
import Derived.Test.YtkmnmmckgobeeaaAeOps9
namespace Go.AE

section
variable {P : Program} {G : Nat → Option D} {T : TypeId → TD}

theorem wp_val {o : Oper} {a : Act} {w w' : World} {x : Value} {K' : Act → World → Prop} {Q' : Exit → Act → World → Prop} (hrun : (execOp a.eval o).run P w = .ok (.value x) w') (hk : K' (a.put o.dst x) w') : o.wp P a w K' Q' := by
  unfold Oper.wp
  rw [hrun]
  exact hk
theorem wp_skp {o : Oper} {a : Act} {w w' : World} {K' : Act → World → Prop} {Q' : Exit → Act → World → Prop} (hrun : (execOp a.eval o).run P w = .ok .skip w') (hk : K' (a.put o.dst undef) w') : o.wp P a w K' Q' := by
  unfold Oper.wp
  rw [hrun]
  exact hk
theorem rds_eq (fr : List AV) : ∀ l : List Operand, rds fr l = l.map (rd fr)
  | [] => rfl
  | _ :: r => by simp [rds, rds_eq fr r]
theorem run_callFunc {f : FuncId} (h : Enters P f) (args : Array Value) (w : World) : (callFunc f args).run P w = .ok (.enter f args) w := by
  obtain ⟨fn, h1, h2, h3⟩ := h
  have h2' : fn.body ≠ none := fun e => by rw [e] at h2; cases h2
  have h3' : fn.name ≠ "runtime.NumGoroutine" := by simpa using h3
  simp [callFunc, h1, h2', h3']

/-- Operations that leave the world alone. -/
def quietOp (o : Oper) : Bool :=
  match o.op with
  | .move _ | .assign _ | .nilCheck _ | .pick .. | .build .. | .load .. | .binOp .. | .unOp .. | .convert .. | .makeFunc .. | .slice .. | .fieldAddr .. | .field .. | .indexAddr .. | .index .. | .extract .. => true
  | .call c => match c.callee with
    | .builtin .len => true
    | .builtin .max => true
    | .builtin .min => true
    | _ => false
  | _ => false
/-- Of these, those that do not even look at the world. -/
def pureOp (o : Oper) : Bool :=
  match o.op with
  | .load .. => false
  | .convert .. => false
  | _ => true
theorem opQ_sound (hT : TabOK P T) {Call : FuncId → List AV → List Blk → (AV → List Blk → Prop) → Prop} {o : Oper} (hq : quietOp o = true) {fr : List AV} {H : List Blk} {K : AV → List Blk → Prop} (h : opA T G Call o fr H K) {β : Nat → Option Nat} {S : Nat → Prop} {a : Act} {w : World}
    (hf : FR β H.length S w fr a) (hr : Rel G β S H w) (W : World → Prop) (hW : pureOp o = false → ∀ w', W w' → Evo w w' (fun _ => False)) : ∃ v x, K v H ∧ VR β H.length S w v x ∧ ∀ w', W w' → (execOp a.eval o).run P w' = .ok (.value x) w' := by
  obtain ⟨dst, op, ty, pos, after, guard⟩ := o
  unfold opA at h
  split at h
  · rename_i x heq
    rw [avK_eq] at h
    cases heq
    exact ⟨_, _, h, hf.rd x, fun w' _ => rfl⟩
  · rename_i x heq
    rw [avK_eq] at h
    cases heq
    exact ⟨_, _, h, hf.rd x, fun w' _ => rfl⟩
  · rename_i x heq
    cases heq
    have hx := hf.rd x
    split at h
    · rename_i k j hv
      rw [natK_eq] at h
      rw [hv] at hx
      obtain ⟨r, hk, hb, he⟩ := hx.ptr_inv
      exact ⟨_, _, h, hx, fun w' _ => by simp [execOp, he]⟩
    · rename_i k sz i j hv
      rw [natK_eq] at h
      rw [hv] at hx
      obtain ⟨r, hk, hb, he⟩ := hx.eptr_inv
      exact ⟨_, _, h, hx, fun w' _ => by simp [execOp, he]⟩
    · rename_i d i j hv
      rw [natK_eq] at h
      rw [hv] at hx
      obtain ⟨b, off, hS, hd, he⟩ := hx.rop_inv
      exact ⟨_, _, h, hx, fun w' _ => by simp [execOp, he]⟩
    · rename_i cs j hv
      rw [natK_eq] at h
      rw [hv] at hx
      obtain ⟨b, arr, e, hS, hh, hl, ho, hcells, he⟩ := hx.rpc_inv
      exact ⟨_, _, h, hx, fun w' _ => by simp [execOp, he]⟩
    · exact h.elim
  · rename_i c x y heq
    cases heq
    have hc := hf.rd c
    split at h
    · rename_i hv
      rw [avK_eq] at h
      rw [hv] at hc
      exact ⟨_, _, h, hf.rd x, fun w' _ => by simp [execOp, asBool, hc.v_inv.1]⟩
    · rename_i hv
      rw [avK_eq] at h
      rw [hv] at hc
      exact ⟨_, _, h, hf.rd y, fun w' _ => by simp [execOp, asBool, hc.v_inv.1]⟩
    · exact h.elim
  · rename_i heq; cases heq; simp [quietOp] at hq
  · rename_i heq; cases heq; simp [quietOp] at hq
  · rename_i t parts heq
    cases heq
    obtain ⟨v, u, h1, h2, h3⟩ := buildA_sound hT hf.rd h
    refine ⟨v, u, h1, h2, fun w' _ => ?_⟩
    have e : (parts.map fun (p : Nat × Operand) => (p.1, a.eval p.2)) = (parts.toList.map fun p => (p.1, a.eval p.2)).toArray := by apply Array.ext'; simp
    simp only [execOp, Sem.run_bind]
    show ((Instr.build t (parts.map fun p => (p.1, a.eval p.2))).run P w').andThen _ = _
    rw [e, h3 w']
    rfl
  · rename_i heq; cases heq; simp [quietOp] at hq
  · rename_i t x heq
    cases heq
    obtain ⟨v, u, h1, h2, h3⟩ := loadA_sound hT h hr (hf.rd x)
    exact ⟨v, u, h1, h2, fun w' he => by simp [execOp, h3 w' (hW rfl w' he)]⟩
  · rename_i heq; cases heq; simp [quietOp] at hq
  · rename_i op xt x y yt heq
    cases heq
    split at h
    · rename_i hy
      have ey : y = .const .nilIface := by
        unfold isNilC at hy
        split at hy
        · rfl
        · cases hy
      subst ey
      have h1 := hf.rd x
      obtain ⟨r, hr1, hr2, hr3⟩ := ifcA_sound hT h h1 x
      refine ⟨_, r, hr2, .v r hr1, fun w' _ => ?_⟩
      have := hr3 w'
      simp only [execOp]
      rw [show a.eval (.const .nilIface) = .nilIface from rfl, Sem.run_bind, this]
      rfl
    split at h
    · rename_i A B hA hB
      have h1 := hf.rd x
      have h2 := hf.rd y
      rw [hA] at h1
      rw [hB] at h2
      obtain ⟨r, hr1, hr2, hr3⟩ := binA_sound hT xt h x y
      refine ⟨_, r, hr2, .v r hr1, fun w' _ => ?_⟩
      have := hr3 w'
      rw [← h1.v_inv.1, ← h2.v_inv.1] at this
      simp only [execOp]
      rw [Sem.run_bind, this]
      rfl
    · rename_i A B hA hB
      have h1 := hf.rd x
      have h2 := hf.rd y
      rw [hA] at h1
      rw [hB] at h2
      obtain ⟨r, hr1, hr2, hr3⟩ := cellsEqA_sound hT h h1 h2 x y
      refine ⟨_, r, hr2, .v r hr1, fun w' _ => ?_⟩
      simp only [execOp]
      rw [Sem.run_bind, hr3 w']
      rfl
    · rename_i hB
      have h1 := hf.rd x
      have h2 := hf.rd y
      rw [hB] at h2
      obtain ⟨r, hr1, hr2, hr3⟩ := nilA_sound hT h h1 x y
      refine ⟨_, r, hr2, .v r hr1, fun w' _ => ?_⟩
      have := hr3 w'
      rw [← h2.nilsl_inv] at this
      simp only [execOp]
      rw [Sem.run_bind, this]
      rfl
    · exact h.elim
  · rename_i op xt x heq
    cases heq
    split at h
    · rename_i A hA
      have h1 := hf.rd x
      rw [hA] at h1
      obtain ⟨r, hr1, hr2, hr3⟩ := unA_sound (P := P) h
      refine ⟨_, r, hr2, .v r hr1, fun w' _ => ?_⟩
      have := hr3 w'
      rw [← h1.v_inv.1] at this
      simp [execOp, this]
    · exact h.elim
  · rename_i src dt x heq
    cases heq
    rw [req_iff] at h
    obtain ⟨hsok, h⟩ := h
    obtain ⟨v, u, h1, h2, h3⟩ := convA_sound hT hsok h hr (hf.rd x)
    exact ⟨v, u, h1, h2, fun w' he => by simp [execOp, h3 w' (hW rfl w' he)]⟩
  · rename_i g first captured heq
    cases heq
    split at h
    · rename_i hfst
      rw [avsK_eq, rds_eq] at h
      have : first = #[] := by simpa using hfst
      subst this
      refine ⟨_, _, h, .fn g _ (captured.map a.eval) (by simp) fun i c hc => ?_, fun w' _ => by simp [execOp, Instr.makeFunc]⟩
      rw [List.getElem?_map, Option.map_eq_some_iff] at hc
      obtain ⟨y, hy, rfl⟩ := hc
      have : (captured.map a.eval).getD i undef = a.eval y := by rw [Array.getD_eq_getD_getElem?]; simp at hy; simp [hy]
      rw [this]
      exact hf.rd y
    · exact h.elim
  · rename_i heq; cases heq; simp [quietOp] at hq
  · rename_i t x lo hi mx heq
    cases heq
    split at h
    · obtain ⟨v, u, h1, h2, h3⟩ := sliceA_sound (xl := lo.map a.eval) (xh := hi.map a.eval) hT h (hf.rd x)
        (fun b hb => by
          rw [Option.map_eq_some_iff] at hb
          obtain ⟨y, rfl, rfl⟩ := hb
          exact ⟨_, rfl, hf.rd y⟩) (fun hn => by simpa using hn) (fun b hb => by
          rw [Option.map_eq_some_iff] at hb
          obtain ⟨y, rfl, rfl⟩ := hb
          exact ⟨_, rfl, hf.rd y⟩) (fun hn => by simpa using hn)
      exact ⟨v, u, h1, h2, fun w' _ => by simp [execOp, h3 w']⟩
    · exact h.elim
  · rename_i s x f heq
    cases heq
    obtain ⟨v, u, h1, h2, h3⟩ := fieldAddrA_sound hT h (hf.rd x)
    exact ⟨v, u, h1, h2, fun w' _ => by simp [execOp, h3 w']⟩
  · rename_i s x f heq
    cases heq
    obtain ⟨v, u, h1, h2, h3⟩ := fieldA_sound hT h (hf.rd x)
    exact ⟨v, u, h1, h2, fun w' _ => by simp [execOp, h3 w']⟩
  · rename_i t x ix heq
    cases heq
    obtain ⟨v, u, h1, h2, h3⟩ := indexAddrA_sound hT hr h (hf.rd x) (hf.rd ix)
    exact ⟨v, u, h1, h2, fun w' _ => by simp [execOp, h3 w']⟩
  · rename_i t x ix heq
    cases heq
    obtain ⟨v, u, h1, h2, h3⟩ := indexA_sound hT h (hf.rd x) (hf.rd ix)
    exact ⟨v, u, h1, h2, fun w' _ => by simp [execOp, h3 w']⟩
  · rename_i x i heq
    cases heq
    split at h
    · rename_i vs hv
      have h1 := hf.rd x
      rw [hv] at h1
      obtain ⟨us, he, hl, hu⟩ := h1.tup_inv
      simp only [req_iff, Nat.blt_eq, avK_eq, nth_eq] at h
      obtain ⟨hi, h⟩ := h
      refine ⟨_, us.getD i undef, h, hu i _ (by rw [List.getD_eq_getElem?_getD, List.getElem?_eq_getElem hi]; simp), fun w' _ => ?_⟩
      have : us[i]? = some (us.getD i undef) := by rw [Array.getD_eq_getD_getElem?, Array.getElem?_eq_getElem (by omega)]; rfl
      have hc : (Instr.extract (a.eval x) i).run P w' = .ok (us.getD i undef) w' := by
        rw [he]
        simp only [Instr.extract, this]
        rfl
      simp only [execOp, Sem.run_bind, hc]
      rfl
    · exact h.elim
  · rename_i c heq
    cases heq
    obtain ⟨callee, args, argTypes⟩ := c
    simp only at h
    split at h
    · split at h
      · rename_i x t hargs htys
        have e1 : args = #[x] := by apply Array.ext'; simpa using hargs
        have e2 : argTypes = #[t] := by apply Array.ext'; simpa using htys
        subst e1 e2
        obtain ⟨v, u, h1, h2, h3⟩ := lenA_sound (ty := ty) hT h (hf.rd x)
        exact ⟨v, u, h1, h2, fun w' _ => by simp [execOp, resolve, invoke, builtin, h3]⟩
      · exact h.elim
    · simp [quietOp] at hq
    · simp [quietOp] at hq
    · split at h
      · rename_i x y hargs
        have e1 : args = #[x, y] := by apply Array.ext'; simpa using hargs
        subst e1
        obtain ⟨v, u, h1, h2, h3⟩ := maxA_sound (tys := argTypes) (ty := ty) h (hf.rd x) (hf.rd y)
        refine ⟨v, u, h1, h2, fun w' _ => ?_⟩
        simp [execOp, resolve, invoke, builtin]
        rw [h3 w']
        rfl
      · exact h.elim
    · split at h
      · rename_i x y hargs
        have e1 : args = #[x, y] := by apply Array.ext'; simpa using hargs
        subst e1
        obtain ⟨v, u, h1, h2, h3⟩ := minA_sound (tys := argTypes) (ty := ty) h (hf.rd x) (hf.rd y)
        refine ⟨v, u, h1, h2, fun w' _ => ?_⟩
        simp [execOp, resolve, invoke, builtin]
        rw [h3 w']
        rfl
      · exact h.elim
    · simp [quietOp] at hq
    · exact h.elim
  · exact h.elim
/-- A block that is given up. -/
theorem HS.freeze {C : Ctx} {β : Nat → Option Nat} {S : Nat → Prop} {H : List Blk} {w : World} (h : HS G C β S H w) {k r : Nat} {b : Blk} (hk : H[k]? = some b) (hb : b ≠ .dead) (hβ : β k = some r) :
    HS G C β (fun q => S q ∨ q = r) (H.set k .dead) w ∧ Tr H.length β S w (H.set k .dead).length β (fun q => S q ∨ q = r) w := by
  have hlt : r < w.heap.size := h.rel.blk_lt hk hb hβ
  have ht : Tr H.length β S w (H.set k .dead).length β (fun q => S q ∨ q = r) w := ⟨fun _ _ => rfl, by simp, fun _ h => .inl h, fun _ _ => rfl, fun _ arr _ fz h => ⟨arr, fz, h, rfl⟩⟩
  have old : ∀ {k' : Nat} {b' : Blk}, (H.set k .dead)[k']? = some b' → b' ≠ .dead → k' ≠ k ∧ H[k']? = some b' := fun {k' b'} hg hn => by
    by_cases he : k = k'
    · subst he
      rw [List.getElem?_set_self (List.getElem?_eq_some_iff.1 hk).1] at hg
      cases hg
      exact absurd rfl hn
    · rw [List.getElem?_set_ne he] at hg
      exact ⟨fun e => he e.symm, hg⟩
  refine ⟨?_, ht⟩
  exact {
    rel := {
      blk := fun k' b' hg => by
        by_cases hn : b' = .dead
        · subst hn; exact .dead _
        · exact (h.rel.blk k' b' (old hg hn).2).tr ht fun _ _ _ => rfl
      sep := fun k1 k2 b1 b2 q g1 g2 n1 n2 e1 e2 => h.rel.sep k1 k2 b1 b2 q (old g1 n1).2 (old g2 n2).2 n1 n2 e1 e2
      off := fun k' b' q hg hn e hs => by
        rcases hs with hs | rfl
        · exact h.rel.off k' b' q (old hg hn).2 hn e hs
        · exact (old hg hn).1 (h.rel.sep k' k b' b _ (old hg hn).2 hk hn hb e hβ)
      lt := fun q hs => by
        rcases hs with hs | rfl
        · exact h.rel.lt q hs
        · exact hlt
      glob := fun g d hg => by
        obtain ⟨g1, g2⟩ := h.rel.glob g d hg
        exact ⟨.inl g1, GlobAt.keep g1 g2 ht.sub ht.keep⟩ }
    evo := h.evo
    new := fun k' b' q hg hn e => h.new k' b' q (old hg hn).2 hn e
    tr := h.tr.trans ht
    fix := fun q hs => by
      rcases hs with hs | rfl
      · exact h.fix q hs
      · exact .inr (h.new k b _ hk hb hβ) }
theorem frzA_sound {C : Ctx} {β : Nat → Option Nat} {S : Nat → Prop} {H : List Blk} {w : World} {fr : List AV} {a : Act} (hf : FR β H.length S w fr a) (hs : HS G C β S H w) {t : TD} {parts : List (Nat × Operand)} {K : List AV → List Blk → Prop} (h : frzA t parts fr H K) :
    ∃ fr1 H1 S1, FR β H1.length S1 w fr1 a ∧ HS G C β S1 H1 w ∧ Tr H.length β S w H1.length β S1 w ∧ K fr1 H1 := by
  unfold frzA at h
  split at h
  · rename_i d sz bytes i x
    split at h
    · rename_i k sz' len hx
      split at h
      · rename_i ys hb
        rw [req_iff] at h
        obtain ⟨hsz, hlen, h⟩ := h
        rw [setB_eq, setK_eq] at h
        have hsz := Nat.eq_of_beq_eq_true hsz
        have hk := nthB_some hb (by simp)
        have hv := nth_vr hf.2.1 hf.2.2 x
        rw [hx] at hv
        subst hsz hlen
        have hB := hs.rel.blk k _ hk
        cases hr : β k with
        | none =>
          rw [hr] at hB
          cases hB with
          | data0 _ h0 =>
            -- nothing in it
            have h0 : ys.length = 0 := h0
            have ht : Tr H.length β S w (H.set k .dead).length β S w := ⟨fun _ _ => rfl, by simp, fun _ h => h, fun _ _ => rfl, fun _ arr _ fz h => ⟨arr, fz, h, rfl⟩⟩
            have old : ∀ {k' : Nat} {b' : Blk}, (H.set k .dead)[k']? = some b' → b' ≠ .dead → H[k']? = some b' := fun {k' b'} hg hn => by
              by_cases he : k = k'
              · subst he
                rw [List.getElem?_set_self (List.getElem?_eq_some_iff.1 hk).1] at hg
                cases hg
                exact absurd rfl hn
              · rwa [List.getElem?_set_ne he] at hg
            have hs1 : HS G C β S (H.set k .dead) w := {
              rel := {
                blk := fun k' b' hg => by
                  by_cases hn : b' = .dead
                  · subst hn; exact .dead _
                  · exact (hs.rel.blk k' b' (old hg hn)).tr ht fun _ _ _ => rfl
                sep := fun k1 k2 b1 b2 q g1 g2 n1 n2 e1 e2 => hs.rel.sep k1 k2 b1 b2 q (old g1 n1) (old g2 n2) n1 n2 e1 e2
                off := fun k' b' q hg hn e => hs.rel.off k' b' q (old hg hn) hn e
                lt := hs.rel.lt
                glob := hs.rel.glob }
              evo := hs.evo
              new := fun k' b' q hg hn e => hs.new k' b' q (old hg hn) hn e
              tr := hs.tr.trans ht
              fix := hs.fix }
            have hx0 : SlD S w (.ints .i64 ys) (a.tmps.getD x undef) := by
              rw [h0] at hv
              generalize a.tmps.getD x undef = u at hv
              cases hv with
              | sl _ _ _ r cap hk2 hb2 => rw [hr] at hb2; cases hb2
              | sl0 _ _ q => exact ⟨q, 0, by show _ = Value.slice q ys.length 0; rw [h0], by show ys.length ≤ 0; omega, Nat.zero_le _, fun hp => by have hp : 0 < ys.length := hp; omega⟩
            refine ⟨_, _, S, ?_, hs1, ht, h⟩
            refine ⟨hf.1, by simpa using hf.2.1, fun i v hi => ?_⟩
            by_cases he : x = i
            · subst he
              by_cases hlt : x < fr.length
              · rw [List.getElem?_set_self hlt] at hi
                cases hi
                exact .ro _ _ hx0
              · rw [List.getElem?_eq_none (by simpa using hlt)] at hi
                cases hi
            · rw [List.getElem?_set_ne he] at hi
              exact (hf.2.2 i v hi).tr ht
        | some r =>
          obtain ⟨hs1, ht⟩ := hs.freeze hk (by simp) hr
          have hx0 : SlD (fun q => S q ∨ q = r) w (.ints .i64 ys) (a.tmps.getD x undef) := by
            rw [hr] at hB
            cases hB with
            | data _ arr' e' _ hh' hl hcells =>
              have key : DataAt (fun q => S q ∨ q = r) w (.ints .i64 ys) r 0 := by
                intro i hi j hj
                have hj0 : j = 0 := by simp only [D.sz] at hj; omega
                subst hj0
                have hi' : i < ys.length := hi
                have hl' : ys.length * 1 ≤ arr'.size := hl
                refine ⟨_, ?_, (hcells i hi 0 hj).keep (fun _ h => .inl h) fun _ _ => rfl⟩
                have e1 : 0 + i * (D.ints .i64 ys).sz + 0 = i * (D.ints .i64 ys).sz + 0 := by omega
                rw [e1]
                exact cell_row hh' (by simp only [D.sz]; omega)
              generalize hyl : ys.length = n at hv
              generalize a.tmps.getD x undef = u at hv
              cases hv with
              | sl _ _ _ r2 cap hk2 hb2 hc hm arr e hh hs2 =>
                rw [hr] at hb2
                cases hb2
                refine ⟨_, cap, by show _ = Value.slice _ ys.length cap; rw [hyl], by show ys.length ≤ cap; omega, hm, fun _ => ⟨r, 0, rfl, .inr rfl, key⟩⟩
              | sl0 _ _ q => exact ⟨q, 0, by show _ = Value.slice q ys.length 0; rw [hyl], by show ys.length ≤ 0; omega, Nat.zero_le _, fun hp => by have hp : 0 < ys.length := hp; omega⟩
          refine ⟨_, _, _, ?_, hs1, ht, h⟩
          refine ⟨hf.1, by simpa using hf.2.1, fun i v hi => ?_⟩
          by_cases he : x = i
          · subst he
            by_cases hlt : x < fr.length
            · rw [List.getElem?_set_self hlt] at hi
              cases hi
              exact .ro _ _ hx0
            · rw [List.getElem?_eq_none (by simpa using hlt)] at hi
              cases hi
          · rw [List.getElem?_set_ne he] at hi
            exact (hf.2.2 i v hi).tr ht
      · exact h.elim
    · exact ⟨_, _, _, hf, hs, Tr.refl _ _ _ _, h⟩
  · exact ⟨_, _, _, hf, hs, Tr.refl _ _ _ _, h⟩
/-- An operation. -/
theorem opA_sound (hT : TabOK P T) {o : Oper} {fr : List AV} {H : List Blk} {K : AV → List Blk → Prop} (h : opA T G (CallA P G) o fr H K) {C : Ctx} {β : Nat → Option Nat} {S : Nat → Prop} {a : Act} {w : World}
    (hf : FR β H.length S w fr a) (hs : HS G C β S H w) {K' : Act → World → Prop} {Q' : Exit → Act → World → Prop}
    (hk : ∀ v H' β' S' x w', K v H' → HS G C β' S' H' w' → Tr H.length β S w H'.length β' S' w' → VR β' H'.length S' w' v x → K' (a.put o.dst x) w') : o.wp P a w K' Q' := by
  by_cases hq : quietOp o = true
  · obtain ⟨v, x, h1, h2, h3⟩ := opQ_sound hT hq h hf hs.rel (Evo w · fun _ => False) fun _ _ h => h
    exact wp_val (h3 w (Evo.refl _ _)) (hk v H β S x w h1 hs (Tr.refl _ _ _ _) h2)
  obtain ⟨dst, op, ty, pos, after, guard⟩ := o
  unfold opA at h
  split at h
  · rename_i heq; cases heq; exact absurd rfl hq
  · rename_i heq; cases heq; exact absurd rfl hq
  · rename_i heq; cases heq; exact absurd rfl hq
  · rename_i heq; cases heq; exact absurd rfl hq
  · rename_i t heq
    cases heq
    split at h
    · rename_i z htd
      rw [newB_eq] at h
      have hTt := hT t
      rw [htd] at hTt
      have hz : zeroP P t = some (.agg z.toArray) := hTt.2
      have hp := HS.push hs (evo_alloc w (.cells z.toArray t)) (q := some w.heap.size) (b := .obj fun _ arr e => arr = z.toArray ∧ e = t) (fun r hr => by cases hr; exact Nat.le_refl _) (.obj _ z.toArray t _ (heap_alloc_new w _) ⟨rfl, rfl⟩)
      exact wp_val (by simp [execOp, Instr.alloc, run_zeroValue' w hz, newVar, newRow, Value.cells]) (hk _ _ _ _ _ _ h hp.1 hp.2 (.ptr _ _ _ (by simp) (upd_same _ _ _)))
    · split at h
      · rename_i cs hcs
        rw [avsK_eq, newB_eq] at h
        obtain ⟨z, hz, hl, hc⟩ := zeroCellsA_sound (β := β) (H := H) (S := S) (w := w) hT hcs
        obtain ⟨h1, h2, h3⟩ := newCells_sound hs (cs := cs) (arr := z.cells) (e := t) (by omega) hc
        exact wp_val (by simp [execOp, Instr.alloc, run_zeroValue' w hz, newVar, newRow]) (hk _ _ _ _ _ _ h h1 h2 h3)
      · exact h.elim
  · rename_i t x heq
    cases heq
    rw [avsK_eq, newB_eq] at h
    have hc := cellsOf_vr (hf.rd x)
    obtain ⟨h1, h2, h3⟩ := newCells_sound hs (cs := cellsOf (rd fr x)) (arr := (a.eval x).cells) (e := t) hc.1 hc.2.1
    exact wp_val (by simp [execOp, Instr.box, newVar, newRow]) (hk _ _ _ _ _ _ h h1 h2 h3)
  · rename_i heq; cases heq; exact absurd rfl hq
  · rename_i t len parts heq
    cases heq
    obtain ⟨fr1, H1, S1, hf1, hs1, ht1, h⟩ := frzA_sound hf hs h
    obtain ⟨v, H', β', w', u, h1, h2, h3, h4, h5⟩ := buildSliceA_sound hT hs1 hf1.rd h
    refine wp_val ?_ (hk _ _ _ _ _ _ h1 h2 (ht1.trans h3) h4)
    have e : (parts.map fun (p : Nat × Operand) => (p.1, a.eval p.2)) = (parts.toList.map fun p => (p.1, a.eval p.2)).toArray := by apply Array.ext'; simp
    simp only [execOp, Sem.run_bind]
    show ((Instr.buildSlice t len (parts.map fun p => (p.1, a.eval p.2))).run P w).andThen _ = _
    rw [e, h5]
    rfl
  · rename_i heq; cases heq; exact absurd rfl hq
  · rename_i t x y heq
    cases heq
    obtain ⟨H', w', h1, h2, h3, h4⟩ := storeA_sound hT h hs (hf.rd x) (hf.rd y)
    exact wp_skp (by simp [execOp, h4]) (hk _ _ _ _ _ _ h1 h2 h3 .no)
  · rename_i heq; cases heq; exact absurd rfl hq
  · rename_i heq; cases heq; exact absurd rfl hq
  · rename_i heq; cases heq; exact absurd rfl hq
  · rename_i heq; cases heq; exact absurd rfl hq
  · rename_i t l c heq
    cases heq
    obtain ⟨v, H', β', w', u, h1, h2, h3, h4, h5⟩ := makeSliceA_sound hT hs h (hf.rd l) (hf.rd c)
    exact wp_val (by simp [execOp, h5]) (hk _ _ _ _ _ _ h1 h2 h3 h4)
  · rename_i heq; cases heq; exact absurd rfl hq
  · rename_i heq; cases heq; exact absurd rfl hq
  · rename_i heq; cases heq; exact absurd rfl hq
  · rename_i heq; cases heq; exact absurd rfl hq
  · rename_i heq; cases heq; exact absurd rfl hq
  · rename_i heq; cases heq; exact absurd rfl hq
  · rename_i c heq
    cases heq
    obtain ⟨callee, args, argTypes⟩ := c
    simp only at h
    split at h
    · exact absurd rfl hq
    · split at h
      · rename_i s x t t' hargs htys
        have e1 : args = #[s, x] := by apply Array.ext'; simpa using hargs
        have e2 : argTypes = #[t, t'] := by apply Array.ext'; simpa using htys
        subst e1 e2
        rw [req_iff] at h
        obtain ⟨ht, h⟩ := h
        obtain rfl := Nat.eq_of_beq_eq_true ht
        obtain ⟨v, H', β', w', u, h1, h2, h3, h4, h5⟩ := appendA_sound (ty := ty) hT hs h (hf.rd s) (hf.rd x)
        exact wp_val (by simp [execOp, resolve, invoke, builtin, h5]) (hk _ _ _ _ _ _ h1 h2 h3 h4)
      · exact h.elim
    · split at h
      · rename_i x t hargs htys
        have e1 : args = #[x] := by apply Array.ext'; simpa using hargs
        have e2 : argTypes = #[t] := by apply Array.ext'; simpa using htys
        subst e1 e2
        obtain ⟨H', w', h1, h2, h3, h4⟩ := clearA_sound (ty := ty) hT hs h (hf.rd x)
        exact wp_val (x := .tuple #[]) (by simp [execOp, resolve, invoke, builtin, h4]) (hk _ _ _ _ _ _ h1 h2 h3 (.un _))
      · exact h.elim
    · exact absurd rfl hq
    · exact absurd rfl hq
    · rename_i f
      split at h
      · rename_i g caps hg
        rw [avsK_eq, rds_eq] at h
        obtain ⟨hent, hcall⟩ := h
        have hfv := hf.rd f
        rw [hg] at hfv
        obtain ⟨vs, he, hl, hvs⟩ := hfv.fn_inv
        have hrun : (execOp a.eval { dst, op := .call { callee := .value f, args, argTypes }, type := ty, pos, after, guard }).run P w = .ok (.enter g (args.map a.eval ++ vs)) w := by
          simp [execOp, resolve, Deferred.ofValue, he, invoke, run_callFunc hent]
        unfold Oper.wp
        rw [hrun]
        show Calls P g _ w _
        refine (hcall β S w (args.map a.eval ++ vs) hs.rel (by simp [hl]) fun i c hc => ?_).mono ?_
        · have hsz : (args.map a.eval).size = args.size := by simp
          by_cases hi : i < args.size
          · rw [List.getElem?_append_left (by simpa using hi), List.getElem?_map, Option.map_eq_some_iff] at hc
            obtain ⟨y, hy, rfl⟩ := hc
            have : (args.map a.eval ++ vs).getD i undef = a.eval y := by
              rw [Array.getD_eq_getD_getElem?, Array.getElem?_append_left (by simpa using hi)]
              simp at hy
              simp [hy]
            rw [this]
            exact hf.rd y
          · rw [List.getElem?_append_right (by simp; omega)] at hc
            have := hvs _ _ hc
            have e : (args.map a.eval ++ vs).getD i undef = vs.getD (i - args.size) undef := by
              rw [Array.getD_eq_getD_getElem?, Array.getElem?_append_right (by simp; omega), Array.getD_eq_getD_getElem?]
              simp
            rw [e]
            simpa using this
        · rintro e w' ⟨β', S', H', v, x, rfl, hK, hv, hs'⟩
          exact hk v H' β' S' x w' hK (hs.back hs') hs'.tr hv
      · exact h.elim
    · exact h.elim
  · exact h.elim
/-! ### Regions and code -/
theorem guard_vr {n : Nat} {β : Nat → Option Nat} {S : Nat → Prop} {w : World} {fr : List AV} {a : Act} (hf : FR β n S w fr a) (ops : Array Oper) (j : Nat) :
    (∀ b, guardA ops.toList fr j = .v (.bool b) → yielded ops a.tmps j = some b) ∧ (guardA ops.toList fr j = .no → yielded ops a.tmps j = none) := by
  unfold guardA yielded
  rw [Array.getElem?_toList]
  cases ho : ops[j]? with
  | none => exact ⟨fun b h => (by cases h), fun _ => rfl⟩
  | some o =>
    cases hd : o.dst with
    | none => exact ⟨fun b h => (by simp [hd] at h), fun _ => (by simp [hd])⟩
    | some d =>
      simp only [hd, Option.bind_some]
      have hv := nth_vr hf.2.1 hf.2.2 d
      constructor
      · intro b hb
        rw [hb] at hv
        have h1 := hv.v_inv.1
        rw [Array.getD_eq_getD_getElem?] at h1
        cases ht : a.tmps[d]? with
        | none => rw [ht] at h1; cases h1
        | some x => rw [ht] at h1; simp at h1; subst h1; rfl
      · intro hb
        rw [hb] at hv
        have h1 : a.tmps.getD d undef = undef := by
          generalize a.tmps.getD d undef = y at hv
          cases hv; rfl
        rw [Array.getD_eq_getD_getElem?] at h1
        cases ht : a.tmps[d]? with
        | none => rfl
        | some x => rw [ht] at h1; simp at h1; subst h1; rfl
/-- What a region hands on. -/
def After (G : Nat → Option D) (C : Ctx) (K : List AV → List Blk → Prop) (a : Act) (w : World) : Prop := ∃ β S fr H, FR β H.length S w fr a ∧ HS G C β S H w ∧ K fr H
theorem opsA_nil (Call : FuncId → List AV → List Blk → (AV → List Blk → Prop) → Prop) (ops : List Oper) (fr : List AV) (H : List Blk) (K : List AV → List Blk → Prop) : opsA T G Call ops [] fr H K = K fr H := rfl
theorem opsA_cons (Call : FuncId → List AV → List Blk → (AV → List Blk → Prop) → Prop) (ops : List Oper) (o : Oper) (rest : List Oper) (fr : List AV) (H : List Blk) (K : List AV → List Blk → Prop) :
    opsA T G Call ops (o :: rest) fr H K = (match o.guard with
      | none => opA T G Call o fr H fun v H' => Go.AE.putA fr o.dst v fun fr' => opsA T G Call ops rest fr' H' K
      | some (j, want) => match guardA ops fr j with
        | .v (.bool true) => bif want then (opA T G Call o fr H fun v H' => Go.AE.putA fr o.dst v fun fr' => opsA T G Call ops rest fr' H' K) else (Go.AE.putA fr o.dst .no fun fr' => opsA T G Call ops rest fr' H K)
        | .v (.bool false) => bif want then (Go.AE.putA fr o.dst .no fun fr' => opsA T G Call ops rest fr' H K) else (opA T G Call o fr H fun v H' => Go.AE.putA fr o.dst v fun fr' => opsA T G Call ops rest fr' H' K)
        | .no => Go.AE.putA fr o.dst .no fun fr' => opsA T G Call ops rest fr' H K
        | _ => False) := rfl
theorem opsA_sound (hT : TabOK P T) {C : Ctx} (ops : Array Oper) {Q : Exit → Act → World → Prop} {K : List AV → List Blk → Prop} (hQ : ∀ a w, After G C K a w → Q .normal a w) :
    ∀ (l : List Oper) (fr : List AV) (H : List Blk) (β : Nat → Option Nat) (S : Nat → Prop) (a : Act) (w : World), opsA T G (CallA P G) ops.toList l fr H K → FR β H.length S w fr a → HS G C β S H w → wpList P ops Q l a w
  | [], fr, H, β, S, a, w, h, hf, hs => by
    rw [opsA_nil] at h
    exact hQ a w ⟨β, S, fr, H, hf, hs, h⟩
  | o :: rest, fr, H, β, S, a, w, h, hf, hs => by
    rw [opsA_cons] at h
    have run : (opA T G (CallA P G) o fr H fun v H' => Go.AE.putA fr o.dst v fun fr' => opsA T G (CallA P G) ops.toList rest fr' H' K) → o.wp P a w (wpList P ops Q rest) Q := fun h =>
      opA_sound hT h hf hs fun v H' β' S' x w' hk hs' ht hv => by
        obtain ⟨fr', h1, h2⟩ := (hf.tr ht).putA hv hk
        exact opsA_sound hT ops hQ rest fr' H' β' S' _ w' h1 h2 hs'
    have skip : (Go.AE.putA fr o.dst .no fun fr' => opsA T G (CallA P G) ops.toList rest fr' H K) → wpList P ops Q rest (a.put o.dst undef) w := fun h => by
      obtain ⟨fr', h1, h2⟩ := hf.putA (x := undef) .no h
      exact opsA_sound hT ops hQ rest fr' H β S _ w h1 h2 hs
    unfold wpList
    split at h
    · rename_i hg
      rw [if_pos (by simp [Region.wanted, hg])]
      exact .inl (run h)
    · rename_i j want hg
      obtain ⟨g1, g2⟩ := guard_vr hf ops j
      have hw : Region.wanted o (yielded ops a.tmps) = (yielded ops a.tmps j == some want) := by simp [Region.wanted, hg]
      split at h
      · rename_i hgu
        rw [hw, g1 true hgu]
        cases want
        · rw [if_neg (by simp)]; exact skip h
        · rw [if_pos (by simp)]; exact .inl (run h)
      · rename_i hgu
        rw [hw, g1 false hgu]
        cases want
        · rw [if_pos (by simp)]; exact .inl (run h)
        · rw [if_neg (by simp)]; exact skip h
      · rename_i hgu
        rw [hw, g2 hgu]
        rw [if_neg (by simp)]
        exact skip h
      · exact h.elim
theorem Post.mono {C : Ctx} {K K' : Ex → List AV → List Blk → Prop} (h : ∀ e fr H, K e fr H → K' e fr H) {e : Exit} {a : Act} {w : World} (hp : Post G C K e a w) : Post G C K' e a w := by
  cases e <;> first | (obtain ⟨β, S, fr, H, h1, h2, h3⟩ := hp; exact ⟨β, S, fr, H, h1, h2, h _ _ _ h3⟩) | exact hp
theorem codeA_sound (hT : TabOK P T) (c : Code) : ∀ (fr : List AV) (H : List Blk) (K : Ex → List AV → List Blk → Prop), codeA T G (CallA P G) (LoopA P G) (DrawA P G) c fr H K → WpA P G c fr H K := by
  induction c with
  | skip => exact fun fr H K h C β S a w hf hs => wp_skip ⟨β, S, fr, H, hf, hs, h⟩
  | region id ops draw =>
    intro fr H K h C β S a w hf hs
    cases draw with
    | false =>
      have h' : opsA T G (CallA P G) ops.toList ops.toList fr H (K .normal) := h
      exact wp_region_list (opsA_sound hT ops (fun a w ha => ha) ops.toList fr H β S a w h' hf hs)
    | true =>
      have h' : DrawA P G ops.toList fr H (K .normal) := h
      have := h' id C β S a w hf hs
      rw [Array.toArray_toList] at this
      refine wp_mono this fun e a w hp => Post.mono (fun e fr H hk => ?_) hp
      cases e with
      | normal => exact hk
      | exit i => exact hk.elim
      | ret => exact hk.elim
  | seq x y ihx ihy =>
    intro fr H K h C β S a w hf hs
    have h' : codeA T G (CallA P G) (LoopA P G) (DrawA P G) x fr H (fun e fr' H' => match e with
      | .normal => codeA T G (CallA P G) (LoopA P G) (DrawA P G) y fr' H' K
      | .exit i => K (.exit i) fr' H'
      | .ret => K .ret fr' H') := h
    refine wp_seq (wp_mono (ihx fr H _ h' C β S a w hf hs) fun e a w hp => ?_)
    cases e with
    | normal =>
      obtain ⟨β', S', fr', H', h1, h2, h3⟩ := hp
      exact ihy fr' H' K h3 C β' S' a w h1 h2
    | exit i => exact hp
    | ret => exact hp
    | goto l => exact hp.elim
    | panic ch => exact hp.elim
    | outgrown => exact hp.elim
  | cond c x y ihx ihy =>
    intro fr H K h C β S a w hf hs
    have h' : (match rd fr c with
      | .v (.bool true) => codeA T G (CallA P G) (LoopA P G) (DrawA P G) x fr H K
      | .v (.bool false) => codeA T G (CallA P G) (LoopA P G) (DrawA P G) y fr H K
      | _ => False) := h
    have hc := hf.rd c
    split at h'
    · rename_i hv
      rw [hv] at hc
      exact wp_cond_true hc.v_inv.1 (ihx fr H K h' C β S a w hf hs)
    · rename_i hv
      rw [hv] at hc
      exact wp_cond_false hc.v_inv.1 (ihy fr H K h' C β S a w hf hs)
    · exact h'.elim
  | block id c ih =>
    intro fr H K h C β S a w hf hs
    have h' : codeA T G (CallA P G) (LoopA P G) (DrawA P G) c fr H (fun e fr' H' => match e with
      | .exit i => bif Nat.beq i id then K .normal fr' H' else K (.exit i) fr' H'
      | .normal => K .normal fr' H'
      | .ret => K .ret fr' H') := h
    refine wp_block (wp_mono (ih fr H _ h' C β S a w hf hs) fun e a w hp => ?_)
    cases e with
    | normal => exact hp
    | exit i =>
      obtain ⟨β', S', fr', H', h1, h2, h3⟩ := hp
      simp only [Exit.inBlock]
      by_cases hi : i = id
      · subst hi
        rw [if_pos rfl]
        have : Nat.beq i i = true := Nat.beq_refl i
        simp only [this, cond_true] at h3
        exact ⟨β', S', fr', H', h1, h2, h3⟩
      · rw [if_neg hi]
        have : Nat.beq i id = false := by
          cases hb : Nat.beq i id
          · rfl
          · exact absurd (Nat.eq_of_beq_eq_true hb) hi
        simp only [this, cond_false] at h3
        exact ⟨β', S', fr', H', h1, h2, h3⟩
    | ret => exact hp
    | goto l => exact hp.elim
    | panic ch => exact hp.elim
    | outgrown => exact hp.elim
  | loop c _ => exact fun fr H K h => h
  | rangeFunc => exact fun fr H K h => h.elim
  | exit id => exact fun fr H K h C β S a w hf hs => wp_exit ⟨β, S, fr, H, hf, hs, h⟩
  | scope => exact fun fr H K h => h.elim
  | label => exact fun fr H K h => h.elim
  | goto => exact fun fr H K h => h.elim
  | ret => exact fun fr H K h C β S a w hf hs => wp_ret ⟨β, S, fr, H, hf, hs, h⟩
  | refuse => exact fun fr H K h => h.elim
end
end Go.AE
