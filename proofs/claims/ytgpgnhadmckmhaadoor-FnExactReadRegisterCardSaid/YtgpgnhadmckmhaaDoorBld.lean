/-
  A strings.Builder of the program's own: what its methods do to memory. No conditions but those in the statements.
-/
import Derived.Test.YtgpgnhadmckmhaaDoorSta
import Derived.Lib.Builder
import Derived.Lib.AppendStr
import Derived.Lib.UnsafeStr
import Derived.Lib.AppendZeros
import Derived.Lib.Walk
import Derived.Laws.Externs
set_option linter.unusedVariables false
set_option linter.unusedSimpArgs false
namespace Go.Proofs.YtgpgnhadmckmhaaDoor
open Go.AE Go.Lib Go.RowKit

theorem setCell_row {w : World} {r : Nat} {arr : Array Value} {e : TypeId} {fz : Nat × Nat} (h : w.heap[r]? = some (.cells arr e fz)) (i : Nat) (v : Value) : w.setCell ⟨r, i, none⟩ v = w.setRow r (arr.setIfInBounds i v) := by
  unfold World.setCell World.setRow
  congr 1
  apply Array.ext
  · simp
  · intro k h1 h2
    rw [Array.getElem_modify, Array.getElem_modify]
    by_cases hk : r = k
    · subst hk
      rw [if_pos rfl, if_pos rfl]
      have hlt : r < w.heap.size := (Array.getElem?_eq_some_iff.1 h).1
      have hv : w.heap[r] = .cells arr e fz := (Array.getElem?_eq_some_iff.1 h).2
      rw [hv]
      rfl
    · rw [if_neg hk, if_neg hk]
theorem infoB : ∃ j, Tryd.prog.info? 83 = some j ∧ j.size = 2 := by
  have h : (Tryd.prog.info? 83).map (·.size) = some 2 := by kernel_rfl
  rw [Option.map_eq_some_iff] at h
  exact h
set_option maxHeartbeats 1000000 in
set_option maxRecDepth 100000 in
theorem copyCheck_used (r : Nat) (v : Value) (w : World) (hb : w.heap[r]? = some (.cells #[.pointer (some ⟨r, 0, none⟩), v] 83 (0, 0))) :
    Calls Tryd.prog 79 #[.pointer (some ⟨r, 0, none⟩)] w fun e w' => e = .returned (.tuple #[]) ∧ w' = w := by
  have h0 : w.cell? ⟨r, 0, none⟩ = some (.pointer (some ⟨r, 0, none⟩)) := by simp [World.cell?, hb]
  obtain ⟨j, hj, _⟩ := infoB
  go_enter Tryd.func79, Tryd.ntmps79
  go_wp2
  rw [Lib.run_neq_ptr_same w _ Tryd.underlying80 hj]
  go_wp2
  go_end0
  exact ⟨rfl, rfl⟩
set_option maxHeartbeats 1000000 in
set_option maxRecDepth 100000 in
theorem copyCheck_fresh (r : Nat) (v : Value) (w : World) (hb : w.heap[r]? = some (.cells #[.pointer none, v] 83 (0, 0))) :
    Calls Tryd.prog 79 #[.pointer (some ⟨r, 0, none⟩)] w fun e w' => e = .returned (.tuple #[]) ∧ w' = w.setCell ⟨r, 0, none⟩ (.pointer (some ⟨r, 0, none⟩)) := by
  have h0 : w.cell? ⟨r, 0, none⟩ = some (.pointer none) := by simp [World.cell?, hb]
  have hsh : w.shape? r = some (83, 2) := by simp [World.shape?, hb]
  have hfz : w.frozen? ⟨r, 0, none⟩ = false := Lib.frozen_of_heap hb 0
  have hb1 : (w.setCell ⟨r, 0, none⟩ (.pointer (some ⟨r, 0, none⟩))).heap[r]? = some (.cells #[.pointer (some ⟨r, 0, none⟩), v] 83 (0, 0)) := by
    rw [setCell_row hb]; exact setRow_heap w r _ _ _ _ hb
  have h1 : (w.setCell ⟨r, 0, none⟩ (.pointer (some ⟨r, 0, none⟩))).cell? ⟨r, 0, none⟩ = some (.pointer (some ⟨r, 0, none⟩)) := by simp [World.cell?, hb1]
  obtain ⟨j, hj, hjs⟩ := infoB
  go_enter Tryd.func79, Tryd.ntmps79
  go_wp2
  rw [Lib.run_to_unsafe w ⟨r, 0, none⟩ Tryd.underlying80 Tryd.underlying115 hj (by rw [hjs]; decide) hsh (Nat.zero_lt_succ 1)]
  simp only [Result.andThen]
  rw [Oper.upon_value]
  go_wp2
  rw [run_callFunc_extern Tryd.func91 (by kernel_rfl) (by kernel_rfl) (by kernel_rfl) (e := Extern.AbiNoEscape.same) (by kernel_rfl)]
  rw [Lib.run_noEscape]
  simp only [Result.andThen]
  rw [Oper.upon_value]
  go_wp2
  rw [Lib.run_from_unsafe w ⟨r, 0, none⟩ Tryd.underlying115 Tryd.underlying80 hj hsh (by kernel_rfl)]
  simp only [Result.andThen]
  rw [Oper.upon_value]
  go_wp2
  go_end0
  exact ⟨rfl, rfl⟩
/-- A write, where it is known what the append comes to. -/
theorem writeString_at (r : Nat) (p : Value) (av av' : Option Addr) (nv cv nv' cv' : Nat) (s : ByteArray) (w w0 w1 : World) (hb0 : w0.heap[r]? = some (.cells #[p, .slice av nv cv] 83 (0, 0)))
    (hcc : Calls Tryd.prog 79 #[.pointer (some ⟨r, 0, none⟩)] w fun e w' => e = .returned (.tuple #[]) ∧ w' = w0)
    (hap : ∀ ty, (Builtin.append_ #[81, 9] ty #[.slice av nv cv, .string s]).run Tryd.prog w0 = .ok (.slice av' nv' cv') w1)
    (hb1 : w1.heap[r]? = some (.cells #[p, .slice av nv cv] 83 (0, 0))) :
    Calls Tryd.prog 55 #[.pointer (some ⟨r, 0, none⟩), .string s] w fun e w' => e = .returned (.tuple #[.int .i64 s.size, .nilIface]) ∧ w' = w1.setCell ⟨r, 1, none⟩ (.slice av' nv' cv') := by
  have c1 : w0.cell? ⟨r, 1, none⟩ = some (.slice av nv cv) := by simp [World.cell?, hb0]
  have d1 : w1.cell? ⟨r, 1, none⟩ = some (.slice av nv cv) := by simp [World.cell?, hb1]
  have hfz : w1.frozen? ⟨r, 1, none⟩ = false := Lib.frozen_of_heap hb1 1
  go_enter Tryd.func55, Tryd.ntmps55
  go_wp2_with (go_at_call 79; refine hcc.mono ?_)
  rintro e wx ⟨rfl, rfl⟩
  go_wp2_with (at_builtin; refine Lib.wpList_append_run _ rfl _ _ _ _ rfl _ _ rfl rfl _ _ (hap _) ?_)
  go_ret2
  exact ⟨rfl, rfl⟩
end Go.Proofs.YtgpgnhadmckmhaaDoor
