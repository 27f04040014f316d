/-
  What the model's operations come to, in the forms that the abstract evaluator's proof wants: closed facts on types as equations, each run as an equation. No conditions.
-/
import Derived.Test.YtkmnmmckgobeeaaAeDefs
import Derived.Deep.Quiet
import Derived.Laws.StructEq
import Derived.Laws.OwnMore
namespace Go.AE

/-! ### Types -/
def descAgg : TypeDesc → Bool
  | .struct _ | .array _ _ => true
  | _ => false
def aggOf (P : Program) (t : TypeId) : Option Bool := (P.underlying t).map descAgg
def sizeP (P : Program) (t : TypeId) : Option Nat := (P.info? t).map (·.size)
def zeroP (P : Program) (t : TypeId) : Option Value := (P.info? t).bind (·.zero)
def sliceP (P : Program) (t : TypeId) : Option (Nat × Nat × Option Value) :=
  match P.underlying t with
  | some (.slice e) => (P.info? e).map fun i => (i.size, i.bytes, i.zero)
  | _ => none
def structP (P : Program) (t : TypeId) : Option (List (Nat × Nat × Bool)) :=
  match P.underlying t with
  | some (.struct fs) => if fs.toList.all (fun f => (aggOf P f.type).isSome) = true then some (fs.toList.map fun f => (f.offset, (sizeP P f.type).getD 0, (aggOf P f.type).getD false)) else none
  | _ => none
def arrayP (P : Program) (t : TypeId) : Option (Nat × Nat) :=
  match P.underlying t with
  | some (.array n e) => (P.info? e).map fun i => (n, i.size)
  | _ => none
def zrow : D → Value
  | .ints k _ => .int k 0
  | .recs sz _ => .agg (List.replicate sz (Value.int .i64 0)).toArray
  | .bools _ => .bool false
  | .strs _ => .string ByteArray.empty
  | .nest _ => .slice none 0 0
  | .told _ _ => .pointer none
def elemP (P : Program) (t : TypeId) : Option TypeDesc :=
  match P.underlying t with
  | some (.slice e) => P.underlying e
  | _ => none
def elemT (P : Program) (t : TypeId) (d : D) : Prop :=
  match d with
  | .ints k _ => elemP P t = some (.int k)
  | _ => True
theorem imp_of {p q : Prop} (h : q) : p → q := fun _ => h
/-- Fields that lie one behind the other, from o to n, each as ok tells of its type and size. -/
def fieldsDeep (ok : TypeId → Nat → Bool) (P : Program) : List Field → Nat → Nat → Bool
  | [], o, n => Nat.beq o n
  | f :: fs, o, n => decide (f.name ≠ "_") && Nat.beq f.offset o && (match sizeP P f.type with
    | some s => ok f.type s && fieldsDeep ok P fs (o + s) n
    | none => false)
/-- An int64, or a struct of such and of such structs, of n cells. -/
def eqDeep (P : Program) : Nat → TypeId → Nat → Bool
  | 0, _, _ => false
  | k + 1, t, n => match P.underlying t with
    | some (.int .i64) => Nat.beq n 1
    | some (.struct fs) => !P.stoodInHeld t && fieldsDeep (eqDeep P k) P fs.toList 0 n
    | _ => false
/-- A struct of n int64, some of them within structs, which can be compared field by field. -/
def eqIntsP (P : Program) (t : TypeId) (n : Nat) : Bool :=
  eqDeep P 6 t n && (match P.underlying t with
  | some (.struct _) => true
  | _ => false) && !P.eqGuardType P.depth t
/-- What the seat's table says of a type holds of the program. -/
def TOk (P : Program) (t : TypeId) (td : TD) : Prop :=
  (td.ok = true → aggOf P t = some td.agg ∧ sizeP P t = some td.size) ∧
  match td with
  | .int k => P.underlying t = some (.int k) ∧ zeroP P t = some (.int k 0)
  | .bool => P.underlying t = some .bool ∧ zeroP P t = some (.bool false)
  | .str => P.underlying t = some .string ∧ zeroP P t = some (.string ByteArray.empty)
  | .slice d sz bytes => sliceP P t = some (sz, bytes, some (zrow d)) ∧ d.sz = sz ∧ 0 < sz ∧ 0 < bytes ∧ zeroP P t = some (.slice none 0 0) ∧ elemT P t d
  | .struct c offs zero => structP P t = some offs ∧ zeroP P t = some (.agg zero.toArray) ∧ (zerosI c zero = true → eqIntsP P t c = true)
  | .array n sz => arrayP P t = some (n, sz)
  | .iface => (∃ ms, P.underlying t = some (.interface ms)) ∧ zeroP P t = some .nilIface
  | .obj zero => zeroP P t = some (.agg zero.toArray)
  | _ => True
def TabOK (P : Program) (T : TypeId → TD) : Prop := ∀ t, TOk P t (T t)

section
variable {P : Program} (w : World)
theorem run_typeInfo' {t : TypeId} {i : TypeInfo} (h : P.info? t = some i) : (typeInfo t).run P w = .ok i w := by simp [typeInfo, h]
theorem run_sizeOf' {t : TypeId} {n : Nat} (h : sizeP P t = some n) : (sizeOf t).run P w = .ok n w := by
  unfold sizeP at h
  cases hi : P.info? t with
  | none => simp [hi] at h
  | some i => simp [hi] at h; simp [sizeOf, run_typeInfo' w hi, h]
theorem run_zeroValue' {t : TypeId} {z : Value} (h : zeroP P t = some z) : (zeroValue t).run P w = .ok z w := by
  unfold zeroP at h
  cases hi : P.info? t with
  | none => simp [hi] at h
  | some i => simp [hi] at h; simp [zeroValue, run_typeInfo' w hi, h]
theorem run_isAgg' {t : TypeId} {b : Bool} (h : aggOf P t = some b) : (isAgg t).run P w = .ok b w := by
  unfold aggOf at h
  cases hd : P.underlying t with
  | none => simp [hd] at h
  | some d =>
    simp [hd] at h
    subst h
    simp only [isAgg, Sem.run_bind, run_underlying hd, Result.andThen]
    cases d <;> rfl

theorem run_loadVar1 {t : TypeId} {a : Addr} {u : Value} (h : aggOf P t = some false) (hc : w.cell? a = some u) : (loadVar t a).run P w = .ok u w := by
  simp [loadVar, run_isAgg' w h, hc]
theorem run_loadVarN {t : TypeId} {a : Addr} {n : Nat} {vs : List Value} (h : aggOf P t = some true) (hn : sizeP P t = some n) (hl : vs.length = n)
    (hc : ∀ j v, vs[j]? = some v → w.cell? (a.add j) = some v) : (loadVar t a).run P w = .ok (.agg vs.toArray) w := by
  subst hl
  simp [loadVar, run_isAgg' w h, run_sizeOf' w hn, run_loadCells_list w a vs hc]
theorem run_storeVar {t : TypeId} {g o : Nat} {v : Value} {n : Nat} {cur : Array Value} {e : TypeId} (hn : sizeP P t = some n) (hv : v.cells.size = n)
    (hg : w.heap[g]? = some (.cells cur e (0, 0))) (hl : o + n ≤ cur.size) (h1 : ∀ u ∈ v.cells.toList, u.oneCell' = true) :
    (storeVar t ⟨g, o, none⟩ v).run P w = .ok () (w.setRow g (cur.toList.take o ++ v.cells.toList ++ cur.toList.drop (o + n)).toArray) := by
  have hs := run_storeCells_at P g o e v.cells.toList 0 cur w hg (by simp [hv]; omega) h1
  simp only [Nat.add_zero, Array.length_toList, hv] at hs
  simp [storeVar, run_sizeOf' w hn, hv, hs]
theorem run_part1 {t : TypeId} {cs : Array Value} {off : Nat} {u : Value} (h : aggOf P t = some false) (hc : cs[off]? = some u) : (part t cs off).run P w = .ok u w := by
  simp [part, run_isAgg' w h, hc]
theorem run_partN {t : TypeId} {cs : Array Value} {off n : Nat} (h : aggOf P t = some true) (hn : sizeP P t = some n) : (part t cs off).run P w = .ok (.agg (cs.extract off (off + n))) w := by
  simp [part, run_isAgg' w h, run_sizeOf' w hn]
end
end Go.AE
