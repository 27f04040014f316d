/-
  A region that draws its order: operations that look at nothing, operations that only read, and operations that write; one walk in one order serves every order, if the order's Bool holds. No conditions.
-/
import Derived.Test.YtkmnmmckgobeeaaAeTop3
import Derived.Deep.Quiet
import Derived.StillTail
namespace Go.AE

section
variable {P : Program} {ops : Array Oper} {md : Region.Mode}

/-- The worlds that grow out of w. -/
def Cl (w w' : World) : Prop := Evo w w' (fun _ => False)
theorem Cl.refl (w : World) : Cl w w := Evo.refl _ _
theorem Cl.trans {w w1 w2 : World} (h : Cl w w1) (k : Cl w1 w2) : Cl w w2 := Evo.trans h k fun _ _ hf => hf

def wpAnyM (P : Program) (md : Region.Mode) (ops : Array Oper) (hard : Nat → Bool) (Q : Exit → Act → World → Prop) : Nat → Array Bool → Act → World → Prop
  | 0, listed, a, w => Region.ready md ops listed = [] ∧ ∀ w', Cl w w' → Q .normal a w'
  | f + 1, listed, a, w => (Region.ready md ops listed = [] → ∀ w', Cl w w' → Q .normal a w') ∧ ∀ i ∈ Region.ready md ops listed,
    (hard i = true → ∀ w', Cl w w' → wpOp P ops Q i (wpAnyM P md ops hard Q f (listed.setIfInBounds i true)) a w') ∧
    (hard i = false → qOp P ops (Cl w) i (fun a' => wpAnyM P md ops hard Q f (listed.setIfInBounds i true) a' w) a)
theorem wpAny_of_M {hard : Nat → Bool} {Q : Exit → Act → World → Prop} : ∀ (f : Nat) (listed : Array Bool) (a : Act) (w w' : World), Cl w w' → wpAnyM P md ops hard Q f listed a w → wpAny P md ops Q f listed a w'
  | 0, _, _, _, w', hw, h => ⟨h.1, h.2 w' hw⟩
  | f + 1, listed, a, w, w', hw, h => by
    refine ⟨fun h0 => h.1 h0 w' hw, fun i hi => ?_⟩
    obtain ⟨h1, h2⟩ := h.2 i hi
    cases hh : hard i with
    | true => exact wpOp_mono (fun a' w'' h' => wpAny_of_M f _ a' w'' w'' (Cl.refl _) h') (h1 hh w' hw)
    | false => exact wpOp_of_qOp hw (fun a' w'' hw'' h' => wpAny_of_M f _ a' w w'' hw'' h') (h2 hh)

/-- j waits for i, by however many others. -/
def waitsT (md : Region.Mode) (ops : Array Oper) : Nat → Nat → Nat → Bool
  | 0, _, _ => false
  | f + 1, j, i => match ops[j]? with
    | some oj => oj.after.any fun e => Region.binds md e && (e.on == i || waitsT md ops f e.on i)
    | none => false
def Closed (md : Region.Mode) (ops : Array Oper) (listed : Array Bool) : Prop :=
  listed.size = ops.size ∧ ∀ j oj, ops[j]? = some oj → listed.getD j false = true → ∀ e ∈ oj.after, Region.binds md e = true → listed.getD e.on false = true
theorem Closed.set {i : Nat} {listed : Array Bool} (inv : Closed md ops listed) (hi : i ∈ Region.ready md ops listed) : Closed md ops (listed.setIfInBounds i true) := by
  obtain ⟨_, oi, hoi, hall⟩ := mem_ready.1 hi
  refine ⟨by simp [inv.1], fun j oj hj hl e he hb => ?_⟩
  by_cases hij : i = j
  · subst hij
    have : oj = oi := Option.some.inj (hj.symm.trans hoi)
    subst this
    exact getD_set_true (hall e he hb)
  · rw [getD_set_ne false hij] at hl
    exact getD_set_true (inv.2 j oj hj hl e he hb)
theorem Closed.waits {listed : Array Bool} (inv : Closed md ops listed) {i : Nat} : ∀ (f j : Nat), waitsT md ops f j i = true → listed.getD j false = true → listed.getD i false = true
  | 0, j, h, _ => by simp [waitsT] at h
  | f + 1, j, h, hl => by
    simp only [waitsT] at h
    split at h
    · rename_i oj hj
      obtain ⟨e, he, hb⟩ := Array.any_eq_true'.1 h
      simp only [Bool.and_eq_true, Bool.or_eq_true, beq_iff_eq] at hb
      have h1 := inv.2 j oj hj hl e he hb.1
      rcases hb.2 with h2 | h2
      · rw [← h2]; exact h1
      · exact inv.waits f e.on h2 h1
    · cases h
theorem Closed.ready {listed : Array Bool} (inv : Closed md ops listed) {i j f : Nat} (h : waitsT md ops f j i = true) (hj : j ∈ Region.ready md ops listed) : listed.getD i false = true := by
  obtain ⟨_, oj, hoj, hall⟩ := mem_ready.1 hj
  cases f with
  | zero => simp [waitsT] at h
  | succ f =>
    simp only [waitsT, hoj] at h
    obtain ⟨e, he, hb⟩ := Array.any_eq_true'.1 h
    simp only [Bool.and_eq_true, Bool.or_eq_true, beq_iff_eq] at hb
    have h1 := hall e he hb.1
    rcases hb.2 with h2 | h2
    · rw [← h2]; exact h1
    · exact inv.waits f e.on h2 h1

theorem qOp_swap {C : World → Prop} {j : Nat} {oi oj : Oper} {v : Value} (hj : ops[j]? = some oj) (hap : oi.apart ops oj = true) (hsj : ∀ cs b, oj.op ≠ .select cs b) {K : Act → Prop} {Y : Act → Prop} {a : Act}
    (keep : ∀ a, Y a → ∀ u, Y (a.put oj.dst u)) (hy : Y a) (h : qOp P ops C j K (a.put oi.dst v)) : qOp P ops C j (fun a' => Y a' ∧ K (a'.put oi.dst v)) a := by
  obtain ⟨h1, h2, h3⟩ := Oper.apart_spec hap
  unfold qOp at *
  simp only [hj] at *
  rw [wanted_put oj a oi.dst v h1] at h
  split
  · rename_i hw
    simp only [hw, if_true] at h
    obtain ⟨u, hu, hn⟩ := h
    refine ⟨u, fun w hw' => ?_, keep a hy u, by rw [← Act.put_comm a v u h2]; exact hn⟩
    have := hu w hw'
    unfold Oper.quietAt at *
    rwa [execOp_put oj hsj a oi.dst v h1] at this
  · rename_i hw
    simp only [hw] at h
    exact ⟨keep a hy _, by rw [← Act.put_comm a v undef h2]; exact h⟩
theorem yields_in {C : World → Prop} {o : Oper} {v : Value} {a : Act} (h : Yields P ops o v a) : YieldsIn P ops C o v a :=
  h.imp (fun ⟨hw, hv⟩ => ⟨hw, fun w _ => by unfold Oper.quietAt; rw [hv w]; exact ⟨rfl, rfl⟩⟩) id

/-- An operation that looks at nothing may be taken first. -/
theorem wpAnyM_firstP {hard : Nat → Bool} {Q : Exit → Act → World → Prop} {i : Nat} {oi : Oper} {v : Value} (hi : ops[i]? = some oi) (hsel : ∀ (j : Nat) (o : Oper) cs b, ops[j]? = some o → o.op ≠ .select cs b)
    (hQ : ∀ c a w, ¬ Q (.panic c) a w) (hs : hard i = false) :
    ∀ (f : Nat) (listed : Array Bool) (a : Act) (w : World),
      (∀ j oj, ops[j]? = some oj → j ≠ i → listed.getD j true = false → (∀ e ∈ oj.after, Region.binds md e = true → e.on ≠ i) → oi.apart ops oj = true) →
      i ∈ Region.ready md ops listed → Yields P ops oi v a →
      wpAnyM P md ops hard Q f (listed.setIfInBounds i true) (a.put oi.dst v) w → wpAnyM P md ops hard Q (f + 1) listed a w := by
  intro f
  induction f with
  | zero =>
    intro listed a w _ hr hy H
    refine ⟨fun h => (by rw [h] at hr; cases hr), fun j hj => ?_⟩
    by_cases hji : j = i
    · subst hji
      exact ⟨fun h => (by rw [hs] at h; cases h), fun _ => (yields_in hy).qOp hi H⟩
    · have := ready_mono hj hji
      rw [H.1] at this
      cases this
  | succ f ih =>
    intro listed a w hfree hr hy H
    refine ⟨fun h => (by rw [h] at hr; cases hr), fun j hj => ?_⟩
    by_cases hji : j = i
    · subst hji
      exact ⟨fun h => (by rw [hs] at h; cases h), fun _ => (yields_in hy).qOp hi H⟩
    · obtain ⟨H1, H2⟩ := H.2 j (ready_mono hj hji)
      obtain ⟨hjun, oj, hoj, hall⟩ := mem_ready.1 hj
      have hnot : ∀ e ∈ oj.after, Region.binds md e = true → e.on ≠ i := fun e he hb heq => by
        have h1 := hall e he hb
        rw [heq, getD_both (mem_ready.1 hr).1] at h1
        cases h1
      have hap := hfree j oj hoj hji hjun hnot
      have hfree' : ∀ k ok, ops[k]? = some ok → k ≠ i → (listed.setIfInBounds j true).getD k true = false →
          (∀ e ∈ ok.after, Region.binds md e = true → e.on ≠ i) → oi.apart ops ok = true := fun k ok hk hki hun hno => by
        refine hfree k ok hk hki ?_ hno
        by_cases hjk : j = k
        · subst hjk; exact hjun
        · rw [getD_set_ne true hjk] at hun; exact hun
      refine ⟨fun hh w' hw' => ?_, fun hh => ?_⟩
      · have h2 := wpOp_put hoj hap (fun cs b => hsel i oi cs b hi) (fun cs b => hsel j oj cs b hoj) (fun c a w h => absurd h (hQ c _ w)) hy (H1 hh w' hw')
        refine wpOp_mono (fun a' w'' h3 => ih (listed.setIfInBounds j true) a' w'' hfree' (ready_mono hr (Ne.symm hji)) h3.1 ?_) h2
        rw [Array.setIfInBounds_comm _ _ hji]
        exact h3.2
      · obtain ⟨h1, _, h3⟩ := Oper.apart_spec hap
        have h2 := qOp_swap (Y := fun a => Yields P ops oi v a) hoj hap (fun cs b => hsel j oj cs b hoj)
          (fun a hy u => hy.of_same (execOp_put oi (fun cs b => hsel i oi cs b hi) a oj.dst u h3) (wanted_put oi a oj.dst u h3)) hy (H2 hh)
        refine qOp_mono (fun a' h3 => ih (listed.setIfInBounds j true) a' w hfree' (ready_mono hr (Ne.symm hji)) h3.1 ?_) h2
        rw [Array.setIfInBounds_comm _ _ hji]
        exact h3.2
/-- One that only reads may be taken first, if all that write wait for it. -/
theorem wpAnyM_firstR {hard : Nat → Bool} {Q : Exit → Act → World → Prop} {i : Nat} {oi : Oper} {v : Value} (hi : ops[i]? = some oi) (hsel : ∀ (j : Nat) (o : Oper) cs b, ops[j]? = some o → o.op ≠ .select cs b)
    (hs : hard i = false) (w : World) (m : Nat) :
    ∀ (f : Nat) (listed : Array Bool) (a : Act), Closed md ops listed →
      (∀ j oj, ops[j]? = some oj → j ≠ i → listed.getD j true = false → (∀ e ∈ oj.after, Region.binds md e = true → e.on ≠ i) → oi.apart ops oj = true) →
      (∀ j oj, ops[j]? = some oj → listed.getD j true = false → hard j = true → waitsT md ops m j i = true) →
      i ∈ Region.ready md ops listed → YieldsIn P ops (Cl w) oi v a →
      wpAnyM P md ops hard Q f (listed.setIfInBounds i true) (a.put oi.dst v) w → wpAnyM P md ops hard Q (f + 1) listed a w := by
  intro f
  induction f with
  | zero =>
    intro listed a _ _ _ hr hy H
    refine ⟨fun h => (by rw [h] at hr; cases hr), fun j hj => ?_⟩
    by_cases hji : j = i
    · subst hji
      exact ⟨fun h => (by rw [hs] at h; cases h), fun _ => hy.qOp hi H⟩
    · have := ready_mono hj hji
      rw [H.1] at this
      cases this
  | succ f ih =>
    intro listed a inv hfree hwait hr hy H
    refine ⟨fun h => (by rw [h] at hr; cases hr), fun j hj => ?_⟩
    by_cases hji : j = i
    · subst hji
      exact ⟨fun h => (by rw [hs] at h; cases h), fun _ => hy.qOp hi H⟩
    · obtain ⟨H1, H2⟩ := H.2 j (ready_mono hj hji)
      obtain ⟨hjun, oj, hoj, hall⟩ := mem_ready.1 hj
      have hnot : ∀ e ∈ oj.after, Region.binds md e = true → e.on ≠ i := fun e he hb heq => by
        have h1 := hall e he hb
        rw [heq, getD_both (mem_ready.1 hr).1] at h1
        cases h1
      have hap := hfree j oj hoj hji hjun hnot
      have un : ∀ k, (listed.setIfInBounds j true).getD k true = false → listed.getD k true = false := fun k hun => by
        by_cases hjk : j = k
        · subst hjk; exact hjun
        · rw [getD_set_ne true hjk] at hun; exact hun
      refine ⟨fun hh w' hw' => ?_, fun hh => ?_⟩
      · have h1 := inv.ready (hwait j oj hoj hjun hh) hj
        rw [getD_both (mem_ready.1 hr).1] at h1
        cases h1
      · obtain ⟨h1, _, h3⟩ := Oper.apart_spec hap
        have h2 := qOp_swap (Y := fun a => YieldsIn P ops (Cl w) oi v a) hoj hap (fun cs b => hsel j oj cs b hoj)
          (fun a hy u => hy.of_same (execOp_put oi (fun cs b => hsel i oi cs b hi) a oj.dst u h3) (wanted_put oi a oj.dst u h3)) hy (H2 hh)
        refine qOp_mono (fun a' h3 => ih (listed.setIfInBounds j true) a' (inv.set hj) (fun k ok hk hki hun hno => hfree k ok hk hki (un k hun) hno) (fun k ok hk hun hh => hwait k ok hk (un k hun) hh) (ready_mono hr (Ne.symm hji)) h3.1 ?_) h2
        rw [Array.setIfInBounds_comm _ _ hji]
        exact h3.2

/-! ### Operations that only make new memory -/
def growOp (o : Oper) : Bool :=
  match o.op with
  | .alloc _ => true
  | .box _ _ => true
  | _ => false
theorem evo_push (w : World) (o : Obj) : Evo w (w.alloc o) fun _ => False := ⟨rfl, rfl, rfl, by simp, fun b hb _ => by show (w.heap.push o)[b]? = _; rw [Array.getElem?_push, if_neg (Nat.ne_of_lt hb)]⟩
theorem zeroValue_world {t : TypeId} {w w' : World} {z : Value} (h : (zeroValue t).run P w = .ok z w') : w' = w := by
  simp only [zeroValue, typeInfo, Sem.run_bind] at h
  cases hi : P.info? t with
  | none => simp [hi] at h
  | some i =>
    simp [hi] at h
    cases hz : i.zero with
    | none => simp [hz] at h
    | some z => simp [hz] at h; exact h.2.symm
theorem grow_evo {o : Oper} (hg : growOp o = true) {e : Operand → Value} {w w' : World} {n : Next} (h : (execOp e o).run P w = .ok n w') : (∃ u, n = .value u) ∧ Cl w w' := by
  obtain ⟨dst, op, ty, pos, after, guard⟩ := o
  cases op with
  | alloc t =>
    simp only [execOp, Instr.alloc] at h
    cases hz : (zeroValue t).run P w with
    | ok z w1 =>
      obtain rfl := zeroValue_world hz
      simp [hz, newVar, newRow] at h
      obtain ⟨rfl, rfl⟩ := h
      exact ⟨⟨_, rfl⟩, evo_push _ _⟩
    | halt x w1 => simp [hz] at h
  | box t x =>
    simp [execOp, Instr.box, newVar, newRow] at h
    obtain ⟨rfl, rfl⟩ := h
    exact ⟨⟨_, rfl⟩, evo_push _ _⟩
  | _ => simp [growOp] at hg
/-- In every world of the class the operation reads v. -/
def YieldsR (P : Program) (ops : Array Oper) (C : World → Prop) (o : Oper) (v : Value) (a : Act) : Prop :=
  (Region.wanted o (yielded ops a.tmps) = true ∧ ∀ w, C w → (execOp a.eval o).run P w = .ok (.value v) w) ∨
  (Region.wanted o (yielded ops a.tmps) = false ∧ v = undef)
theorem YieldsR.mono {C C' : World → Prop} {o : Oper} {v : Value} {a : Act} (h : YieldsR P ops C o v a) (hc : ∀ w, C' w → C w) : YieldsR P ops C' o v a :=
  h.imp (fun ⟨h1, h2⟩ => ⟨h1, fun w hw => h2 w (hc w hw)⟩) id
theorem YieldsR.into {C : World → Prop} {o : Oper} {v : Value} {a : Act} (h : YieldsR P ops C o v a) : YieldsIn P ops C o v a :=
  h.imp (fun ⟨hw, hv⟩ => ⟨hw, fun w hw' => by unfold Oper.quietAt; rw [hv w hw']; exact ⟨rfl, rfl⟩⟩) id
theorem YieldsR.of_same {C : World → Prop} {o : Oper} {v : Value} {a a' : Act} (hy : YieldsR P ops C o v a) (he : execOp a'.eval o = execOp a.eval o)
    (hw : Region.wanted o (yielded ops a'.tmps) = Region.wanted o (yielded ops a.tmps)) : YieldsR P ops C o v a' := by
  unfold YieldsR at *
  rw [he, hw]
  exact hy
theorem wpOp_put_grow {Q : Exit → Act → World → Prop} {j : Nat} {oi oj : Oper} {v : Value} (hj : ops[j]? = some oj) (hg : growOp oj = true) (hap : oi.apart ops oj = true)
    (hsi : ∀ cs b, oi.op ≠ .select cs b) (hsj : ∀ cs b, oj.op ≠ .select cs b)
    (hQ : ∀ c a w, ¬ Q (.panic c) a w) {K : Act → World → Prop} {a : Act} {w0 w : World} (hw0 : Cl w0 w)
    (hy : YieldsR P ops (Cl w0) oi v a) (h : wpOp P ops Q j K (a.put oi.dst v) w) :
    wpOp P ops Q j (fun a' w' => YieldsR P ops (Cl w') oi v a' ∧ K (a'.put oi.dst v) w') a w := by
  obtain ⟨h1, h2, h3⟩ := Oper.apart_spec hap
  have keep : ∀ (a : Act) (w' : World), YieldsR P ops (Cl w0) oi v a → Cl w0 w' → ∀ u, YieldsR P ops (Cl w') oi v (a.put oj.dst u) := fun a w' hy hc u =>
    (hy.of_same (execOp_put oi hsi a oj.dst u h3) (wanted_put oi a oj.dst u h3)).mono fun w'' hw'' => hc.trans hw''
  unfold wpOp at *
  simp only [hj] at *
  rw [wanted_put oj a oi.dst v h1] at h
  split
  · rename_i hw
    simp only [hw, if_true] at h
    rcases h with h | ⟨hasks, hlets⟩
    case inr => exact .inr ⟨by unfold Oper.asks at *; rw [execOp_put oj hsj a oi.dst v h1] at hasks; exact hasks, hlets⟩
    refine .inl ?_
    unfold Oper.wp at *
    rw [execOp_put oj hsj a oi.dst v h1] at h
    cases hr : (execOp a.eval oj).run P w with
    | ok n w' =>
      rw [hr] at h
      obtain ⟨⟨u, rfl⟩, hc⟩ := grow_evo hg hr
      simp only [Oper.upon] at h ⊢
      exact ⟨keep a w' hy (hw0.trans hc) u, by rw [← Act.put_comm a v u h2]; exact h⟩
    | halt x w' =>
      rw [hr] at h
      cases x <;> simp only [Oper.upon] at h ⊢
      case panic u => exact absurd h (hQ _ _ _)
  · rename_i hw
    simp only [hw] at h
    exact ⟨keep a w hy hw0 _, by rw [← Act.put_comm a v undef h2]; exact h⟩
/-- One that only reads may be taken first, if all that write wait for it; those that only make new memory need not. -/
theorem wpAnyM_firstG {hard : Nat → Bool} {Q : Exit → Act → World → Prop} {i : Nat} {oi : Oper} {v : Value} (hi : ops[i]? = some oi) (hsel : ∀ (j : Nat) (o : Oper) cs b, ops[j]? = some o → o.op ≠ .select cs b)
    (hQ : ∀ c a w, ¬ Q (.panic c) a w) (hs : hard i = false) (m : Nat) :
    ∀ (f : Nat) (listed : Array Bool) (a : Act) (w : World), Closed md ops listed →
      (∀ j oj, ops[j]? = some oj → j ≠ i → listed.getD j true = false → (∀ e ∈ oj.after, Region.binds md e = true → e.on ≠ i) → oi.apart ops oj = true) →
      (∀ j oj, ops[j]? = some oj → listed.getD j true = false → hard j = true → growOp oj = true ∨ waitsT md ops m j i = true) →
      i ∈ Region.ready md ops listed → YieldsR P ops (Cl w) oi v a →
      wpAnyM P md ops hard Q f (listed.setIfInBounds i true) (a.put oi.dst v) w → wpAnyM P md ops hard Q (f + 1) listed a w := by
  intro f
  induction f with
  | zero =>
    intro listed a w _ _ _ hr hy H
    refine ⟨fun h => (by rw [h] at hr; cases hr), fun j hj => ?_⟩
    by_cases hji : j = i
    · subst hji
      exact ⟨fun h => (by rw [hs] at h; cases h), fun _ => hy.into.qOp hi H⟩
    · have := ready_mono hj hji
      rw [H.1] at this
      cases this
  | succ f ih =>
    intro listed a w inv hfree hwait hr hy H
    refine ⟨fun h => (by rw [h] at hr; cases hr), fun j hj => ?_⟩
    by_cases hji : j = i
    · subst hji
      exact ⟨fun h => (by rw [hs] at h; cases h), fun _ => hy.into.qOp hi H⟩
    · obtain ⟨H1, H2⟩ := H.2 j (ready_mono hj hji)
      obtain ⟨hjun, oj, hoj, hall⟩ := mem_ready.1 hj
      have hnot : ∀ e ∈ oj.after, Region.binds md e = true → e.on ≠ i := fun e he hb heq => by
        have h1 := hall e he hb
        rw [heq, getD_both (mem_ready.1 hr).1] at h1
        cases h1
      have hap := hfree j oj hoj hji hjun hnot
      have un : ∀ k, (listed.setIfInBounds j true).getD k true = false → listed.getD k true = false := fun k hun => by
        by_cases hjk : j = k
        · subst hjk; exact hjun
        · rw [getD_set_ne true hjk] at hun; exact hun
      refine ⟨fun hh w' hw' => ?_, fun hh => ?_⟩
      · rcases hwait j oj hoj hjun hh with hg | hwt
        · have h2 := wpOp_put_grow hoj hg hap (fun cs b => hsel i oi cs b hi) (fun cs b => hsel j oj cs b hoj) hQ hw' hy (H1 hh w' hw')
          refine wpOp_mono (fun a' w'' h3 => ih (listed.setIfInBounds j true) a' w'' (inv.set hj) (fun k ok hk hki hun hno => hfree k ok hk hki (un k hun) hno) (fun k ok hk hun hh => hwait k ok hk (un k hun) hh) (ready_mono hr (Ne.symm hji)) h3.1 ?_) h2
          rw [Array.setIfInBounds_comm _ _ hji]
          exact h3.2
        · have h1 := inv.ready hwt hj
          rw [getD_both (mem_ready.1 hr).1] at h1
          cases h1
      · obtain ⟨h1, _, h3⟩ := Oper.apart_spec hap
        have h2 := qOp_swap (Y := fun a => YieldsR P ops (Cl w) oi v a) hoj hap (fun cs b => hsel j oj cs b hoj)
          (fun a hy u => hy.of_same (execOp_put oi (fun cs b => hsel i oi cs b hi) a oj.dst u h3) (wanted_put oi a oj.dst u h3)) hy (H2 hh)
        refine qOp_mono (fun a' h3 => ih (listed.setIfInBounds j true) a' w (inv.set hj) (fun k ok hk hki hun hno => hfree k ok hk hki (un k hun) hno) (fun k ok hk hun hh => hwait k ok hk (un k hun) hh) (ready_mono hr (Ne.symm hji)) h3.1 ?_) h2
        rw [Array.setIfInBounds_comm _ _ hji]
        exact h3.2

/-! ### The walk -/
def wpMix (P : Program) (ops : Array Oper) (hard : Nat → Bool) (Q : Exit → Act → World → Prop) : List Nat → Act → World → Prop
  | [], a, w => ∀ w', Cl w w' → Q .normal a w'
  | k :: r, a, w => match ops[k]? with
    | none => False
    | some o =>
      if hard k = true then ∀ w', Cl w w' → wpOp P ops Q k (wpMix P ops hard Q r) a w'
      else if pureOp o = true ∧ quietOp o = true then ∃ v, Yields P ops o v a ∧ wpMix P ops hard Q r (a.put o.dst v) w
      else ∃ v, YieldsIn P ops (Cl w) o v a ∧ wpMix P ops hard Q r (a.put o.dst v) w
def hardsWait (md : Region.Mode) (ops : Array Oper) (hard : Nat → Bool) (listed : Array Bool) (i : Nat) : Bool :=
  (List.range ops.size).all fun j => listed.getD j true || !hard j || waitsT md ops ops.size j i
/-- All that write and are not listed wait for i. -/
def writesWait (md : Region.Mode) (ops : Array Oper) (hard : Nat → Bool) (listed : Array Bool) (i : Nat) : Bool :=
  (List.range ops.size).all fun j => listed.getD j true || !hard j || (match ops[j]? with | some o => growOp o | none => false) || waitsT md ops ops.size j i
def mixB (md : Region.Mode) (ops : Array Oper) (hard : Nat → Bool) : List Nat → Array Bool → Bool
  | [], listed => (Region.ready md ops listed).isEmpty
  | k :: r, listed => (bif hard k then decide (Region.ready md ops listed = [k])
      else (Region.ready md ops listed).contains k && Region.free md ops listed k && ((match ops[k]? with | some o => pureOp o && quietOp o | none => false) || hardsWait md ops hard listed k)) &&
    mixB md ops hard r (listed.setIfInBounds k true)
theorem wpAnyM_of_mix {hard : Nat → Bool} {Q : Exit → Act → World → Prop} (hsel : Region.noSelect ops = true) (hQ : ∀ c a w, ¬ Q (.panic c) a w) :
    ∀ (l : List Nat) (listed : Array Bool) (a : Act) (w : World), Closed md ops listed → mixB md ops hard l listed = true → wpMix P ops hard Q l a w → wpAnyM P md ops hard Q l.length listed a w
  | [], listed, a, w, _, hB, h => ⟨by simpa [mixB] using hB, h⟩
  | k :: r, listed, a, w, inv, hB, h => by
    simp only [mixB, Bool.and_eq_true] at hB
    obtain ⟨hB1, hB2⟩ := hB
    simp only [wpMix] at h
    cases ho : ops[k]? with
    | none => rw [ho] at h; exact h.elim
    | some o =>
      rw [ho] at h
      simp only at h
      cases hh : hard k with
      | true =>
        rw [hh] at hB1 h
        simp only [cond_true, decide_eq_true_eq, if_true] at hB1 h
        have hin : k ∈ Region.ready md ops listed := by rw [hB1]; simp
        refine ⟨fun h0 => (by rw [hB1] at h0; cases h0), fun j hj => ?_⟩
        rw [hB1] at hj
        have : j = k := by simpa using hj
        subst this
        exact ⟨fun _ w' hw' => wpOp_mono (fun a' w'' h' => wpAnyM_of_mix hsel hQ r _ a' w'' (inv.set hin) hB2 h') (h w' hw'), fun h0 => (by rw [hh] at h0; cases h0)⟩
      | false =>
        rw [hh, ho] at hB1
        simp only [cond_false, Bool.and_eq_true, Bool.or_eq_true] at hB1
        obtain ⟨⟨hr, hf⟩, hp⟩ := hB1
        have hr' : k ∈ Region.ready md ops listed := by simpa using hr
        rw [hh] at h
        rw [if_neg (by simp)] at h
        by_cases hpq : pureOp o = true ∧ quietOp o = true
        · rw [if_pos hpq] at h
          obtain ⟨v, hy, hK⟩ := h
          exact wpAnyM_firstP ho (Region.noSelect_spec hsel) hQ hh r.length listed a w (Region.free_spec ho hf) hr' hy (wpAnyM_of_mix hsel hQ r _ _ w (inv.set hr') hB2 hK)
        · rw [if_neg hpq] at h
          obtain ⟨v, hy, hK⟩ := h
          refine wpAnyM_firstR ho (Region.noSelect_spec hsel) hh w ops.size r.length listed a inv (Region.free_spec ho hf) (fun j oj hj hun hhj => ?_) hr' hy (wpAnyM_of_mix hsel hQ r _ _ w (inv.set hr') hB2 hK)
          rcases hp with hp | hp
          · exact absurd hp hpq
          · have h1 := List.all_eq_true.1 hp j (List.mem_range.2 (Array.getElem?_eq_some_iff.1 hj).1)
            simp only [hun, hhj, Bool.or_eq_true, Bool.not_true, Bool.false_eq_true, or_false, false_or] at h1
            exact h1
def mixOk (ops : Array Oper) (hard : Nat → Bool) (l : List Nat) : Bool :=
  Region.noSelect ops && decide (l.length = ops.size) && mixB .any ops hard l (Array.replicate ops.size false)
theorem wp_region_mix {id : Nat} {hard : Nat → Bool} {Q : Exit → Act → World → Prop} {a : Act} {w : World} {l : List Nat} (hm : P.follows .mixedOrders = true) (hQ : ∀ c a w, ¬ Q (.panic c) a w)
    (hB : mixOk ops hard l = true) (h : wpMix P ops hard Q l a { w with drawn := w.drawn + 1 }) : (Code.region id ops true).wp P Q a w := by
  simp only [mixOk, Bool.and_eq_true, decide_eq_true_eq] at hB
  obtain ⟨⟨h1, h2⟩, h3⟩ := hB
  have := wpAnyM_of_mix (md := .any) h1 hQ l _ a _ ⟨by simp, fun j oj _ hl => (by rw [getD_replicate_false] at hl; cases hl)⟩ h3 h
  rw [h2] at this
  exact wp_region_any hm (wpAny_of_M _ _ _ _ _ (Cl.refl _) this)
end
end Go.AE
