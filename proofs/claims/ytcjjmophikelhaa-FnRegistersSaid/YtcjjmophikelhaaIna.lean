/-
  A copy between slices of any size of element, told by rows. No conditions but those in the statements.
-/
import Derived.Test.YtcjjmophikelhaaAeLib
import Derived.Laws.CopyRow
import Derived.Lib.AppendZeros
import Derived.Lib.AppendZerosOnto
import Derived.Lib.Overlaps
import Derived.Laws.IdiomCopy
import Derived.Shelf.RegionOpenPlain
import Derived.Lib.Walk
import Derived.WalkKit
import Derived.Laws.Externs
set_option linter.unusedVariables false
set_option linter.unusedSimpArgs false
namespace Go.Proofs.Ytcjjmophikelhaa
open Go.AE Go.Lib Go.RowKit

theorem run_copy_rows {P : Program} (w : World) (dT sT ty elem : TypeId) (k g o dLen dCap : Nat) (a : Addr) (sLen sCap : Nat) (cur : Array Value) (t : TypeId) (cs : List Value) (m : Nat)
    (hu : P.underlying dT = some (.slice elem)) (hs : (P.info? elem).map (·.size) = some k)
    (hg : w.heap[g]? = some (.cells cur t (0, 0))) (hm : Nat.min sLen dLen = m) (hn : cs.length = m * k)
    (hsrc : ∀ j v, cs[j]? = some v → w.cell? (a.add j) = some v) (hfit : o + cs.length ≤ cur.size) (h1 : ∀ v ∈ cs, v.oneCell' = true) :
    (Builtin.copy_ #[dT, sT] ty #[.slice (some ⟨g, o, none⟩) dLen dCap, .slice (some a) sLen sCap]).run P w =
      .ok (goInt m) (w.setRow g (cur.toList.take o ++ cs ++ cur.toList.drop (o + cs.length)).toArray) := by
  have hl := run_firstCells_some (P := P) w k m a sLen sCap cs hn hsrc
  have hst := run_storeCells_at P g o t cs 0 cur w hg (by simpa using hfit) h1
  cases hq : P.info? elem with
  | none => simp [hq] at hs
  | some i =>
    have hi : i.size = k := by simpa [hq] using hs
    simp [Builtin.copy_, run_underlying hu, Builtin.lenOf, sizeOf, typeInfo, hq, hi, hm, hl, hst]
/-- What a row holds once a part of it has been shifted up, and a part laid in its place. -/
theorem shift_row (l xs vs : List Value) (p q n : Nat) (hn : n + q ≤ l.length) (hx : xs = (l.take n).drop p) (hp : p ≤ n) (hv : vs.length = q) :
    let l1 := l.take (p + q) ++ xs ++ l.drop (p + q + xs.length)
    (l1.take p ++ vs ++ l1.drop (p + vs.length)).take (n + q) = l.take p ++ vs ++ (l.take n).drop p := by
  intro l1
  subst hx
  have hxl : ((l.take n).drop p).length = n - p := by simp; omega
  have e1 : l1.take p = l.take p := by
    show (l.take (p + q) ++ (l.take n).drop p ++ l.drop (p + q + ((l.take n).drop p).length)).take p = _
    rw [List.append_assoc, List.take_append_of_le_length (by simp; omega), List.take_take]
    congr 1; omega
  have e2 : l1.drop (p + vs.length) = (l.take n).drop p ++ l.drop (p + q + ((l.take n).drop p).length) := by
    show (l.take (p + q) ++ (l.take n).drop p ++ l.drop (p + q + ((l.take n).drop p).length)).drop (p + vs.length) = _
    rw [List.append_assoc]
    have : p + vs.length = (l.take (p + q)).length := by simp; omega
    rw [this, List.drop_left]
  rw [e1, e2, ← List.append_assoc]
  have : n + q = (l.take p ++ vs ++ (l.take n).drop p).length := by simp; omega
  rw [this, List.take_left]
/-- What a new row holds once the two parts have been laid behind its first. -/
theorem grow_row (l xs vs : List Value) (p q n : Nat) (hn : n + q ≤ l.length) (hp : p ≤ n) (hx : xs.length = n - p) (hv : vs.length = q) :
    let l1 := l.take p ++ vs ++ l.drop (p + vs.length)
    (l1.take (p + q) ++ xs ++ l1.drop (p + q + xs.length)).take (n + q) = l.take p ++ vs ++ xs := by
  intro l1
  have e1 : l1.take (p + q) = l.take p ++ vs := by
    show (l.take p ++ vs ++ l.drop (p + vs.length)).take (p + q) = _
    have : p + q = (l.take p ++ vs).length := by simp; omega
    rw [this, List.take_left]
  rw [e1]
  have : n + q = (l.take p ++ vs ++ xs).length := by simp; omega
  rw [this, List.take_left]
end Go.Proofs.Ytcjjmophikelhaa
