/-
  slices.Insert of one member, where there is no room: what it does to memory. No conditions but those in the statements.
-/
import Derived.Test.YtcjjmophikelhaaInb
set_option linter.unusedVariables false
set_option linter.unusedSimpArgs false
namespace Go.Proofs.Ytcjjmophikelhaa
open Go.AE Go.Lib Go.RowKit

set_option maxHeartbeats 4000000 in
set_option maxRecDepth 100000 in
theorem insert_grow (b n c i vb vc : Nat) (cur varr : Array Value) (eT eV : TypeId) (w : World) (hi : i < n) (hnc : n ≤ c) (hroom : c < n + 1) (hn : n ≤ 1048576) (hh : w.heap[b]? = some (.cells cur eT (0, 0))) (hs : c * 5 ≤ cur.size)
    (hv : w.heap[vb]? = some (.cells varr eV (0, 0))) (hvs : 5 ≤ varr.size) (h1c : ∀ u ∈ cur.toList.take (n * 5), u.oneCell' = true) (h1v : ∀ u ∈ varr.toList.take 5, u.oneCell' = true) :
    Calls Try.prog 40 #[.slice (some ⟨b, 0, none⟩) n c, .int .i64 i, .slice (some ⟨vb, 0, none⟩) 1 vc] w fun e w' =>
      ∃ (row : Array Value) (c' : Nat), e = .returned (.slice (some ⟨w.heap.size, 0, none⟩) (n + 1) c') ∧ Cl w w' ∧ w'.heap[w.heap.size]? = some (.cells row 47 (0, 0)) ∧ n + 1 ≤ c' ∧ c' ≤ maxLen ∧ c' * 5 ≤ row.size ∧
        row.toList.take ((n + 1) * 5) = cur.toList.take (i * 5) ++ varr.toList.take 5 ++ (cur.toList.take (n * 5)).drop (i * 5) := by
  obtain ⟨j, hj, hjs, hjb, hjz⟩ := infoM
  have hsz : (Try.prog.info? 47).map (·.size) = some 5 := by rw [hj]; simp [hjs]
  have hu := Try.underlying24
  have hz2 : ¬ ((i : Int) = (n : Int)) := by omega
  have hz3 : (c : Int) < (n : Int) + 1 := by omega
  have hbw : b < w.heap.size := (Array.getElem?_eq_some_iff.1 hh).1
  have hvw : vb < w.heap.size := (Array.getElem?_eq_some_iff.1 hv).1
  have hw1 : IntKind.i64.wrap ((i : Int) + 1) = (i : Int) + 1 := by rw [IntKind.wrap_i64]; omega
  have hw2 : IntKind.i64.wrap ((n : Int) + 1) = (n : Int) + 1 := by rw [IntKind.wrap_i64]; omega
  have hw3 : IntKind.i64.wrap ((n : Int) + 1 - (i : Int)) = (n : Int) + 1 - (i : Int) := by rw [IntKind.wrap_i64]; omega
  have hkk : (n : Int) + 1 - (i : Int) = ((n + 1 - i : Nat) : Int) := by omega
  have hik : i + (n + 1 - i) = n + 1 := by omega
  obtain ⟨xs, hxs⟩ : ∃ xs, xs = (cur.toList.take (n * 5)).drop (i * 5) := ⟨_, rfl⟩
  have hxl : xs.length = (n - i) * 5 := by rw [hxs]; simp only [List.length_drop, List.length_take, Array.length_toList]; omega
  obtain ⟨vs, hvs'⟩ : ∃ vs, vs = varr.toList.take 5 := ⟨_, rfl⟩
  have hvl : vs.length = 1 * 5 := by rw [hvs']; simp only [List.length_take, Array.length_toList]; omega
  obtain ⟨olds, hol⟩ : ∃ olds, olds = cur.toList.take (i * 5) := ⟨_, rfl⟩
  have hll : olds.length = i * 5 := by rw [hol]; simp only [List.length_take, Array.length_toList]; omega
  have hold : (Builtin.firstCells j.size i (.slice (some ⟨b, 0, none⟩) i c)).run Try.prog w.drew = .ok olds.toArray w.drew := by
    rw [hjs]
    refine run_firstCells_some w.drew 5 i ⟨b, 0, none⟩ i c olds hll fun j v hj => ?_
    rw [hol, List.getElem?_take] at hj
    split at hj
    · rw [Addr.add_lit, Lib.cell_of_heap (show w.drew.heap[b]? = _ from hh)]
      simpa using hj
    · cases hj
  obtain ⟨ROW, hROW⟩ : ∃ ROW : Array Value, ROW = olds.toArray ++ Builtin.zeroCells (Value.agg #[.int .i64 0, .int .i64 0, .int .i64 0, .int .i64 0, .int .i64 0]).cells (n + 1 - i) ++ Builtin.zeroCells (Value.agg #[.int .i64 0, .int .i64 0, .int .i64 0, .int .i64 0, .int .i64 0]).cells (grownCap w (n + 1) c 47 - (n + 1)) := ⟨_, rfl⟩
  have hrz : ∀ ty, (Builtin.append_ #[24, 3] ty #[.slice (some ⟨b, 0, none⟩) i c, .int .i64 ((n : Int) + 1 - (i : Int))]).run Try.prog w =
      .ok (.slice (some ⟨w.heap.size, 0, none⟩) (n + 1) (grownCap w (n + 1) c 47)) (w.drew.alloc (.cells ROW 47)) := fun ty => by
    have h := Lib.run_append_grow_zeros w 24 3 ty 47 j _ .i64 .i64 hu Try.underlying3 hj hjz (some ⟨b, 0, none⟩) i c olds hold (n + 1 - i) (by omega) (by omega) (by omega) (by omega) (by rw [hjb]; omega) (by rw [hjb, hik]; exact growslice_fits hroom (by omega))
    rw [hik, ← hROW] at h
    rw [hkk]
    exact h
  have hge := grownCap_ge w (n + 1) c 47
  have hG63 := grownCap_le_maxLen w (n + 1) c 47 (by unfold maxLen; omega)
  have hzc : (Value.agg #[.int .i64 0, .int .i64 0, .int .i64 0, .int .i64 0, .int .i64 0]).cells.size = 5 := rfl
  have hRs : ROW.size = grownCap w (n + 1) c 47 * 5 := by
    rw [hROW, Array.size_append, Array.size_append, size_zeroCells, size_zeroCells, hzc, List.size_toArray, hll]
    omega
  have hRt : ROW.toList.take (i * 5) = olds := by
    rw [hROW, Array.toList_append, Array.toList_append, List.append_assoc]
    show (olds ++ _).take (i * 5) = olds
    rw [← hll]
    exact List.take_left
  obtain ⟨G, hG⟩ : ∃ G, G = grownCap w (n + 1) c 47 := ⟨_, rfl⟩
  rw [← hG] at hrz hge hG63 hRs
  unfold maxLen at hG63
  obtain ⟨rowA, hrowA⟩ : ∃ rowA, rowA = (ROW.toList.take (i * 5) ++ vs ++ ROW.toList.drop (i * 5 + vs.length)).toArray := ⟨_, rfl⟩
  have hrA : rowA.size = ROW.size := by rw [hrowA]; simp only [List.size_toArray, List.length_append, List.length_take, List.length_drop, Array.length_toList, hvl]; omega
  obtain ⟨rowB, hrowB⟩ : ∃ rowB, rowB = (rowA.toList.take ((i + 1) * 5) ++ xs ++ rowA.toList.drop ((i + 1) * 5 + xs.length)).toArray := ⟨_, rfl⟩
  have hrB : rowB.size = ROW.size := by rw [hrowB]; simp only [List.size_toArray, List.length_append, List.length_take, List.length_drop, Array.length_toList, hxl]; omega
  have hnew : ∀ W : World, W.heap = (w.drew.alloc (.cells ROW 47)).heap → W.heap[w.heap.size]? = some (.cells ROW 47 (0, 0)) ∧ W.heap[b]? = some (.cells cur eT (0, 0)) ∧ W.heap[vb]? = some (.cells varr eV (0, 0)) := fun W hW => by
    rw [hW]
    exact ⟨heap_alloc_new w.drew _, (Lib.alloc_old w.drew _ b hbw).trans hh, (Lib.alloc_old w.drew _ vb hvw).trans hv⟩
  have hcp1 : ∀ W : World, W.heap = (w.drew.alloc (.cells ROW 47)).heap → ∀ ty dc, (Builtin.copy_ #[24, 24] ty #[.slice (some ⟨w.heap.size, i * 5, none⟩) (n + 1 - i) dc, .slice (some ⟨vb, 0, none⟩) 1 vc]).run Try.prog W = .ok (goInt 1) (W.setRow w.heap.size rowA) := fun W hW ty dc => by
    obtain ⟨g1, g2, g3⟩ := hnew W hW
    rw [hrowA]
    refine run_copy_rows W _ 24 ty 47 5 w.heap.size (i * 5) (n + 1 - i) dc ⟨vb, 0, none⟩ 1 vc ROW 47 vs 1 hu hsz g1 (by simp only [Nat.min_def]; split <;> omega) hvl (fun j v hj => ?_) (by omega) (fun v hm => h1v v (by rwa [hvs'] at hm))
    rw [hvs', List.getElem?_take] at hj
    split at hj
    · rw [Addr.add_lit, Lib.cell_of_heap g3]
      simpa using hj
    · cases hj
  have hcp2 : ∀ W : World, W.heap = ((w.drew.alloc (.cells ROW 47)).setRow w.heap.size rowA).heap → ∀ ty dc sc, (Builtin.copy_ #[24, 24] ty #[.slice (some ⟨w.heap.size, (i + 1) * 5, none⟩) (n - i) dc, .slice (some ⟨b, i * 5, none⟩) (n - i) sc]).run Try.prog W = .ok (goInt ((n - i : Nat) : Int)) (W.setRow w.heap.size rowB) := fun W hW ty dc sc => by
    obtain ⟨g1, g2, g3⟩ := hnew (w.drew.alloc (.cells ROW 47)) rfl
    have k1 : W.heap[w.heap.size]? = some (.cells rowA 47 (0, 0)) := by rw [hW]; exact setRow_heap _ _ _ _ _ _ g1
    have k2 : W.heap[b]? = some (.cells cur eT (0, 0)) := by rw [hW]; exact (setRow_other _ _ b rowA (by omega)).trans g2
    rw [hrowB]
    refine run_copy_rows W _ 24 ty 47 5 w.heap.size ((i + 1) * 5) (n - i) dc ⟨b, i * 5, none⟩ (n - i) sc rowA 47 xs (n - i) hu hsz k1 (by simp only [Nat.min_def]; split <;> omega) hxl (fun j v hj => ?_) (by omega) (fun v hm => h1c v (by rw [hxs] at hm; exact List.mem_of_mem_drop hm))
    rw [hxs, List.getElem?_drop, List.getElem?_take] at hj
    split at hj
    · rw [Addr.add_lit, Lib.cell_of_heap k2]
      simpa using hj
    · cases hj
  have hfin : rowB.toList.take ((n + 1) * 5) = cur.toList.take (i * 5) ++ vs ++ xs := by
    have h := grow_row ROW.toList xs vs (i * 5) 5 (n * 5) (by rw [Array.length_toList]; omega) (by omega) (by rw [hxl]; omega) hvl
    rw [hrowB, hrowA, show (i + 1) * 5 = i * 5 + 5 by omega, show (n + 1) * 5 = n * 5 + 5 by omega]
    rw [hRt, hol] at h ⊢
    exact h
  have hb1 : (0 : Int) ≤ (i : Int) + 1 := by omega
  have hin : i ≤ n := by omega
  have htn : ((i : Int) + 1).toNat = i + 1 := by omega
  have hb2 : ¬ (G = i + 1) := by omega
  have hb3 : (i : Int) ≤ (n : Int) + 1 := by omega
  have hb4 : ¬ (G = i) := by omega
  have hb5 : ¬ (c = i) := by omega
  have mixed := mixed
  rw [← hvs', ← hxs]
  clear hRt hROW hrowA hrowB hvs' hxs hol hold hkk hik hzc hG
  go_enter Try.func40, Try.ntmps40
  go_wp2_with (at_builtin; refine Lib.wpList_append_run _ rfl _ _ _ _ rfl _ _ rfl rfl _ _ (hrz _) ?_)
  rw [hcp1 _ (by rfl)]
  simp only [Result.andThen]
  rw [Oper.upon_value]
  go_wp2
  go_region_law_o (refine step_copy_run rfl _ _ 24 24 rfl (.slice (some ⟨w.heap.size, (i + 1) * 5, none⟩) (n - i) (G - (i + 1))) (.slice (some ⟨b, i * 5, none⟩) (n - i) (c - i)) (by simp [Act.eval, Act.put]) (by simp [Act.eval, Act.put]) (hcp2 _ (by rfl) _ _ _) ?_)
  go_wp2
  go_ret
  obtain ⟨g1, _, _⟩ := hnew (w.alloc (.cells ROW 47)).drew rfl
  have g2 : ((w.alloc (.cells ROW 47)).drew.setRow w.heap.size rowA).drew.heap[w.heap.size]? = some (.cells rowA 47 (0, 0)) := setRow_heap _ _ _ _ _ _ g1
  refine ⟨rowB, G, rfl, ⟨rfl, rfl, rfl, ?_, fun q hq _ => ?_⟩, setRow_heap _ _ _ _ _ _ g2, hge, hG63, by omega, hfin⟩
  · simp only [World.setRow, World.alloc, World.drew, Array.size_modify, Array.size_push]; exact Nat.le_succ _
  · exact (setRow_other _ _ q rowB (by omega)).trans ((setRow_other _ _ q rowA (by omega)).trans (Lib.alloc_old w.drew _ q hq))
end Go.Proofs.Ytcjjmophikelhaa
