/-
  slices.Insert of one member, where there is room or not: what it does to memory. No conditions but those in the statements.
-/
import Derived.Test.YtcjjmophikelhaaIna
import Derived.Test.YtcjjmophikelhaaTy
set_option linter.unusedVariables false
set_option linter.unusedSimpArgs false
namespace Go.Proofs.Ytcjjmophikelhaa
open Go.AE Go.Lib Go.RowKit

theorem step_copy_run {P : Program} {ops : Array Oper} {o : Oper} {a : Act} {w : World} {K : Act → World → Prop} {Q : Exit → Act → World → Prop} {E : Prop}
    (hg : o.guard = none) (d x : Operand) (dT sT : TypeId) (hop : o.op = Op.call { callee := Callee.builtin Builtin.copy, args := #[d, x], argTypes := #[dT, sT] })
    (v u : Value) (hd : a.eval d = v) (hx : a.eval x = u) {v' : Value} {w' : World} (hr : (Builtin.copy_ #[dT, sT] o.type #[v, u]).run P w = .ok v' w') (hK : K (a.put o.dst v') w') :
    if Region.wanted o (yielded ops a.tmps) = true then Oper.wp P o a w K Q else E := by
  have hw : Region.wanted o (yielded ops a.tmps) = true := by simp [Region.wanted, hg]
  rw [if_pos hw]
  unfold Oper.wp
  simp [execOp, hop, resolve, invoke, builtin, hd, hx, hr, Result.andThen]
  exact hK
theorem wpList_copy_run {P : Program} (w : World) {ops : Array Oper} {rest : List Oper} {o : Oper} {a : Act} {Q : Exit → Act → World → Prop} (hgd : o.guard = none) (d s : Operand) (t t' : TypeId)
    (ho : o.op = .call { callee := .builtin .copy, args := #[d, s], argTypes := #[t, t'] }) (v u : Value) (hd : a.eval d = v) (hs : a.eval s = u) {v' : Value} {w' : World}
    (hr : (Builtin.copy_ #[t, t'] o.type #[v, u]).run P w = .ok v' w') (h : wpList P ops Q rest (a.put o.dst v') w') : wpList P ops Q (o :: rest) a w :=
  wpList_plain hgd fun _ hK => by
    unfold Oper.wp execOp
    simp only [ho, resolve, invoke, builtin, Sem.run_bind, Sem.run_pure, Result.andThen_ok, List.map_toArray, List.map_cons, List.map_nil, hd, hs, hr]
    exact hK _ _ h
theorem infoM : ∃ i, Try.prog.info? 47 = some i ∧ i.size = 5 ∧ i.bytes = 40 ∧ i.zero = some (.agg #[.int .i64 0, .int .i64 0, .int .i64 0, .int .i64 0, .int .i64 0]) := by
  have h : (Try.prog.info? 47).map (fun i => (i.size, i.bytes)) = some (5, 40) := by kernel_rfl
  have h2 : (Try.prog.info? 47).bind (·.zero) = some (.agg #[.int .i64 0, .int .i64 0, .int .i64 0, .int .i64 0, .int .i64 0]) := by kernel_rfl
  rw [Option.map_eq_some_iff] at h
  obtain ⟨i, hi, he⟩ := h
  rw [hi] at h2
  simp only [Prod.mk.injEq] at he
  exact ⟨i, hi, he.1, he.2, h2⟩
set_option maxHeartbeats 4000000 in
set_option maxRecDepth 100000 in
theorem insert_shift (b n c i vb vc : Nat) (cur varr : Array Value) (eT eV : TypeId) (w : World) (hi : i < n) (hroom : n + 1 ≤ c) (hc : c ≤ maxLen) (hvb : vb ≠ b) (hh : w.heap[b]? = some (.cells cur eT (0, 0))) (hs : c * 5 ≤ cur.size)
    (hv : w.heap[vb]? = some (.cells varr eV (0, 0))) (hvs : 5 ≤ varr.size) (h1c : ∀ u ∈ cur.toList.take (n * 5), u.oneCell' = true) (h1v : ∀ u ∈ varr.toList.take 5, u.oneCell' = true) :
    Calls Try.prog 40 #[.slice (some ⟨b, 0, none⟩) n c, .int .i64 i, .slice (some ⟨vb, 0, none⟩) 1 vc] w fun e w' =>
      ∃ row : Array Value, e = .returned (.slice (some ⟨b, 0, none⟩) (n + 1) c) ∧ w' = w.drew.setRow b row ∧ row.size = cur.size ∧
        row.toList.take ((n + 1) * 5) = cur.toList.take (i * 5) ++ varr.toList.take 5 ++ (cur.toList.take (n * 5)).drop (i * 5) := by
  obtain ⟨j, hj, hjs, _, _⟩ := infoM
  have hsz : (Try.prog.info? 47).map (·.size) = some 5 := by rw [hj]; simp [hjs]
  have hu := Try.underlying24
  unfold maxLen at hc
  have hz2 : ¬ ((i : Int) = (n : Int)) := by omega
  have hov : ∀ lb cb, (callFunc 55 #[.slice (some ⟨vb, 0, none⟩) 1 vc, .slice (some ⟨b, (i + 1) * 5, none⟩) lb cb]).run Try.prog w = .ok (.value (.bool false)) w := fun lb cb => by
    rw [run_callFunc_extern Try.func55 (by kernel_rfl) (by kernel_rfl) (by kernel_rfl) (e := Extern.SlicesOverlaps.overlaps #[24, 24] #[4]) (by kernel_rfl),
      Lib.run_overlaps_apart w 24 4 47 hu 5 (fun w => by simp [sizeOf, typeInfo, hj, hjs]) ⟨vb, 0, none⟩ ⟨b, (i + 1) * 5, none⟩ 1 vc lb cb hvb eV eT varr.size cur.size
        (by simp [World.shape?, hv]) (by simp [World.shape?, hh]) (by omega) (Lib.frozen_of_heap hv _) (Lib.frozen_of_heap hv _)]
    rfl
  obtain ⟨xs, hxs⟩ : ∃ xs, xs = (cur.toList.take (n * 5)).drop (i * 5) := ⟨_, rfl⟩
  have hxl : xs.length = (n - i) * 5 := by rw [hxs]; simp only [List.length_drop, List.length_take, Array.length_toList]; omega
  obtain ⟨vs, hvs'⟩ : ∃ vs, vs = varr.toList.take 5 := ⟨_, rfl⟩
  have hvl : vs.length = 1 * 5 := by rw [hvs']; simp only [List.length_take, Array.length_toList]; omega
  obtain ⟨row1, hrow1⟩ : ∃ row1, row1 = (cur.toList.take ((i + 1) * 5) ++ xs ++ cur.toList.drop ((i + 1) * 5 + xs.length)).toArray := ⟨_, rfl⟩
  have hr1 : row1.size = cur.size := by rw [hrow1]; simp only [List.size_toArray, List.length_append, List.length_take, List.length_drop, Array.length_toList, hxl]; omega
  obtain ⟨row2, hrow2⟩ : ∃ row2, row2 = (row1.toList.take (i * 5) ++ vs ++ row1.toList.drop (i * 5 + vs.length)).toArray := ⟨_, rfl⟩
  have hr2 : row2.size = cur.size := by rw [hrow2]; simp only [List.size_toArray, List.length_append, List.length_take, List.length_drop, Array.length_toList, hvl]; omega
  have hcp1 : ∀ ty dc sc, (Builtin.copy_ #[24, 24] ty #[.slice (some ⟨b, (i + 1) * 5, none⟩) (n - i) dc, .slice (some ⟨b, i * 5, none⟩) (n + 1 - i) sc]).run Try.prog w.drew = .ok (goInt ((n - i : Nat) : Int)) (w.drew.setRow b row1) := fun ty dc sc => by
    rw [hrow1]
    refine run_copy_rows w.drew _ 24 ty 47 5 b ((i + 1) * 5) (n - i) dc ⟨b, i * 5, none⟩ (n + 1 - i) sc cur eT xs (n - i) hu hsz hh (by simp only [Nat.min_def]; split <;> omega) hxl (fun j v hj => ?_) (by omega) (fun v hm => h1c v (by rw [hxs] at hm; exact List.mem_of_mem_drop hm))
    rw [hxs, List.getElem?_drop, List.getElem?_take] at hj
    split at hj
    · rw [Addr.add_lit, Lib.cell_of_heap (show w.drew.heap[b]? = _ from hh)]
      simpa using hj
    · cases hj
  have hcp2 : ∀ W : World, W.heap = (w.drew.setRow b row1).heap → ∀ ty dc, (Builtin.copy_ #[24, 24] ty #[.slice (some ⟨b, i * 5, none⟩) (n + 1 - i) dc, .slice (some ⟨vb, 0, none⟩) 1 vc]).run Try.prog W = .ok (goInt 1) (W.setRow b row2) := fun W hW ty dc => by
    rw [hrow2]
    have hb : W.heap[b]? = some (.cells row1 eT (0, 0)) := by rw [hW]; exact setRow_heap w.drew b _ _ _ _ hh
    have hvv : W.heap[vb]? = some (.cells varr eV (0, 0)) := by rw [hW]; exact (setRow_other w.drew b vb row1 hvb).trans hv
    refine run_copy_rows W _ 24 ty 47 5 b (i * 5) (n + 1 - i) dc ⟨vb, 0, none⟩ 1 vc row1 eT vs 1 hu hsz hb (by simp only [Nat.min_def]; split <;> omega) hvl (fun j v hj => ?_) (by omega) (fun v hm => h1v v (by rwa [hvs'] at hm))
    rw [hvs', List.getElem?_take] at hj
    split at hj
    · rw [Addr.add_lit, Lib.cell_of_heap hvv]
      simpa using hj
    · cases hj
  have hw1 : IntKind.i64.wrap ((i : Int) + 1) = (i : Int) + 1 := by rw [IntKind.wrap_i64]; omega
  have hw2 : IntKind.i64.wrap ((n : Int) + 1) = (n : Int) + 1 := by rw [IntKind.wrap_i64]; omega
  have hb1 : (0 : Int) ≤ (i : Int) + 1 := by omega
  have hin : i ≤ n := by omega
  have htn : ((i : Int) + 1).toNat = i + 1 := by omega
  have htm : ((n : Int) + 1).toNat = n + 1 := by omega
  have hb2 : ¬ (c = i + 1) := by omega
  have hb3 : (i : Int) ≤ (n : Int) + 1 := by omega
  have hb4 : ¬ (c = i) := by omega
  have hshift : row2.toList.take ((n + 1) * 5) = cur.toList.take (i * 5) ++ vs ++ xs := by
    have h := shift_row cur.toList xs vs (i * 5) 5 (n * 5) (by rw [Array.length_toList]; omega) hxs (by omega) hvl
    rw [hrow2, hrow1, show (i + 1) * 5 = i * 5 + 5 by omega, show (n + 1) * 5 = n * 5 + 5 by omega]
    rw [hxs] at h ⊢
    exact h
  rw [← hvs', ← hxs]
  have mixed := mixed
  clear hrow1 hrow2 hvs' hxs
  go_enter Try.func40, Try.ntmps40
  go_wp2_with (simp only [hov])
  go_region_law_o (refine step_copy_run rfl _ _ 24 24 rfl _ _ (by simp [Act.eval, Act.put]) (by simp [Act.eval, Act.put]) (hcp1 _ _ _) ?_)
  go_wp2_with (at_builtin; refine wpList_copy_run _ rfl _ _ 24 24 rfl _ _ rfl rfl (hcp2 _ rfl _ _) ?_)
  go_ret
  exact ⟨row2, rfl, setRow_setRow _ _ _ _, hr2, hshift⟩
end Go.Proofs.Ytcjjmophikelhaa
