/-
  A strings.Builder of the program's own: what its methods do to memory. A strings.Builder of the program's own: the contracts of its methods. No conditions but those in the statements.
-/
import Derived.Test.YtgpgnhadmckmhaaGreatDoorSta
import Derived.Lib.Builder
import Derived.Lib.AppendStr
import Derived.Lib.UnsafeStr
import Derived.Lib.AppendZeros
import Derived.Lib.Walk
import Derived.Laws.Externs
set_option linter.unusedVariables false
set_option linter.unusedSimpArgs false
namespace Go.Proofs.YtgpgnhadmckmhaaGreatDoor
open Go.AE Go.Lib Go.RowKit

theorem setCell_row {w : World} {r : Nat} {arr : Array Value} {e : TypeId} {fz : Nat × Nat} (h : w.heap[r]? = some (.cells arr e fz)) (i : Nat) (v : Value) : w.setCell ⟨r, i, none⟩ v = w.setRow r (arr.setIfInBounds i v) := by
  unfold World.setCell World.setRow
  congr 1
  apply Array.ext
  · simp
  · intro k h1 h2
    rw [Array.getElem_modify, Array.getElem_modify]
    by_cases hk : r = k
    · subst hk
      rw [if_pos rfl, if_pos rfl]
      have hlt : r < w.heap.size := (Array.getElem?_eq_some_iff.1 h).1
      have hv : w.heap[r] = .cells arr e fz := (Array.getElem?_eq_some_iff.1 h).2
      rw [hv]
      rfl
    · rw [if_neg hk, if_neg hk]
theorem infoB : ∃ j, Tryz.prog.info? 104 = some j ∧ j.size = 2 := by
  have h : (Tryz.prog.info? 104).map (·.size) = some 2 := by kernel_rfl
  rw [Option.map_eq_some_iff] at h
  exact h
set_option maxHeartbeats 1000000 in
set_option maxRecDepth 100000 in
theorem copyCheck_used (r : Nat) (v : Value) (w : World) (hb : w.heap[r]? = some (.cells #[.pointer (some ⟨r, 0, none⟩), v] 104 (0, 0))) :
    Calls Tryz.prog 107 #[.pointer (some ⟨r, 0, none⟩)] w fun e w' => e = .returned (.tuple #[]) ∧ w' = w := by
  have h0 : w.cell? ⟨r, 0, none⟩ = some (.pointer (some ⟨r, 0, none⟩)) := by simp [World.cell?, hb]
  obtain ⟨j, hj, _⟩ := infoB
  go_enter Tryz.func107, Tryz.ntmps107
  go_wp2
  rw [Lib.run_neq_ptr_same w _ Tryz.underlying102 hj]
  go_wp2
  go_end0
  exact ⟨rfl, rfl⟩
set_option maxHeartbeats 1000000 in
set_option maxRecDepth 100000 in
theorem copyCheck_fresh (r : Nat) (v : Value) (w : World) (hb : w.heap[r]? = some (.cells #[.pointer none, v] 104 (0, 0))) :
    Calls Tryz.prog 107 #[.pointer (some ⟨r, 0, none⟩)] w fun e w' => e = .returned (.tuple #[]) ∧ w' = w.setCell ⟨r, 0, none⟩ (.pointer (some ⟨r, 0, none⟩)) := by
  have h0 : w.cell? ⟨r, 0, none⟩ = some (.pointer none) := by simp [World.cell?, hb]
  have hsh : w.shape? r = some (104, 2) := by simp [World.shape?, hb]
  have hfz : w.frozen? ⟨r, 0, none⟩ = false := Lib.frozen_of_heap hb 0
  have hb1 : (w.setCell ⟨r, 0, none⟩ (.pointer (some ⟨r, 0, none⟩))).heap[r]? = some (.cells #[.pointer (some ⟨r, 0, none⟩), v] 104 (0, 0)) := by
    rw [setCell_row hb]; exact setRow_heap w r _ _ _ _ hb
  have h1 : (w.setCell ⟨r, 0, none⟩ (.pointer (some ⟨r, 0, none⟩))).cell? ⟨r, 0, none⟩ = some (.pointer (some ⟨r, 0, none⟩)) := by simp [World.cell?, hb1]
  obtain ⟨j, hj, hjs⟩ := infoB
  go_enter Tryz.func107, Tryz.ntmps107
  go_wp2
  rw [Lib.run_to_unsafe w ⟨r, 0, none⟩ Tryz.underlying102 Tryz.underlying128 hj (by rw [hjs]; decide) hsh (Nat.zero_lt_succ 1)]
  simp only [Result.andThen]
  rw [Oper.upon_value]
  go_wp2
  rw [run_callFunc_extern Tryz.func118 (by kernel_rfl) (by kernel_rfl) (by kernel_rfl) (e := Extern.AbiNoEscape.same) (by kernel_rfl)]
  rw [Lib.run_noEscape]
  simp only [Result.andThen]
  rw [Oper.upon_value]
  go_wp2
  rw [Lib.run_from_unsafe w ⟨r, 0, none⟩ Tryz.underlying128 Tryz.underlying102 hj hsh (by kernel_rfl)]
  simp only [Result.andThen]
  rw [Oper.upon_value]
  go_wp2
  go_end0
  exact ⟨rfl, rfl⟩
/-- A write, where it is known what the append comes to. -/
theorem writeString_at (r : Nat) (p : Value) (av av' : Option Addr) (nv cv nv' cv' : Nat) (s : ByteArray) (w w0 w1 : World) (hb0 : w0.heap[r]? = some (.cells #[p, .slice av nv cv] 104 (0, 0)))
    (hcc : Calls Tryz.prog 107 #[.pointer (some ⟨r, 0, none⟩)] w fun e w' => e = .returned (.tuple #[]) ∧ w' = w0)
    (hap : ∀ ty, (Builtin.append_ #[22, 9] ty #[.slice av nv cv, .string s]).run Tryz.prog w0 = .ok (.slice av' nv' cv') w1)
    (hb1 : w1.heap[r]? = some (.cells #[p, .slice av nv cv] 104 (0, 0))) :
    Calls Tryz.prog 88 #[.pointer (some ⟨r, 0, none⟩), .string s] w fun e w' => e = .returned (.tuple #[.int .i64 s.size, .nilIface]) ∧ w' = w1.setCell ⟨r, 1, none⟩ (.slice av' nv' cv') := by
  have c1 : w0.cell? ⟨r, 1, none⟩ = some (.slice av nv cv) := by simp [World.cell?, hb0]
  have d1 : w1.cell? ⟨r, 1, none⟩ = some (.slice av nv cv) := by simp [World.cell?, hb1]
  have hfz : w1.frozen? ⟨r, 1, none⟩ = false := Lib.frozen_of_heap hb1 1
  go_enter Tryz.func88, Tryz.ntmps88
  go_wp2_with (go_at_call 107; refine hcc.mono ?_)
  rintro e wx ⟨rfl, rfl⟩
  go_wp2_with (at_builtin; refine Lib.wpList_append_run _ rfl _ _ _ _ rfl _ _ rfl rfl _ _ (hap _) ?_)
  go_ret2
  exact ⟨rfl, rfl⟩
end Go.Proofs.YtgpgnhadmckmhaaGreatDoor
namespace Go.Proofs.YtgpgnhadmckmhaaGreatDoor
open Go.AE Go.Lib Go.RowKit

/-- A block that has died, and turned since. -/
theorem HS.frz {G : Nat → Option D} {C : Ctx} {β : Nat → Option Nat} {S : Nat → Prop} {H : List Blk} {w w' : World} (h : HS G C β S H w) {k r : Nat} {b : Blk} (hk : H[k]? = some b) (hb : b ≠ .dead) (hr : β k = some r)
    {arr arr' : Array Value} {e : TypeId} {fz fz' : Nat × Nat} (hh : w.heap[r]? = some (.cells arr e fz)) (hs : arr'.size = arr.size) (hh' : w'.heap[r]? = some (.cells arr' e fz'))
    (ho : w'.os = w.os) (ht : w'.tape = w.tape) (hu : w'.output = w.output) (hz : w'.heap.size = w.heap.size) (hne : ∀ q, q ≠ r → w'.heap[q]? = w.heap[q]?) :
    HS G C β S (H.set k .dead) w' := by
  have h1 := h.kill k
  have hget : ∀ k' b1, (H.set k Blk.dead)[k']? = some b1 → b1 ≠ .dead → k' ≠ k ∧ H[k']? = some b1 := fun k' b1 hk' hn => by
    by_cases he : k = k'
    · subst he
      rw [List.getElem?_set_self (lt_of_get hk)] at hk'
      cases hk'; exact absurd rfl hn
    · rw [List.getElem?_set_ne he] at hk'; exact ⟨fun e => he e.symm, hk'⟩
  have htr : Tr H.length β S w (H.set k Blk.dead).length β S w' :=
    ⟨fun _ _ => rfl, by simp, fun _ h => h, fun q hq => hne q (fun e => h.rel.off k b r hk hb hr (e ▸ hq)), fun q arr1 e1 z hq => by
      by_cases hqr : q = r
      · subst hqr
        rw [hh] at hq
        cases hq
        exact ⟨arr', _, hh', hs⟩
      · exact ⟨arr1, z, (hne q hqr).trans hq, rfl⟩⟩
  have hevo : Evo w w' (fun q => q = r) := ⟨ho, ht, hu, by omega, fun q _ hq => hne q hq⟩
  refine ⟨⟨?_, h1.rel.sep, h1.rel.off, fun q hq => by rw [hz]; exact h.rel.lt q hq, ?_⟩, ?_, h1.new, h.tr.trans htr, h.fix⟩
  · intro k' b1 hk'
    by_cases hd : b1 = .dead
    · subst hd; exact .dead _
    · obtain ⟨hkk, hk1⟩ := hget k' b1 hk' hd
      refine (h.rel.blk k' b1 hk1).tr htr fun q hq _ => hne q fun e => hkk ?_
      subst e
      exact h.rel.sep k' k b1 b _ hk1 hk hd hb hq hr
  · intro g d hgd
    obtain ⟨h1, h2⟩ := h.rel.glob g d hgd
    exact ⟨h1, GlobAt.keep h1 h2 htr.sub htr.keep⟩
  · refine h.evo.trans hevo fun q hq hqr => ?_
    subst hqr
    rcases h.new k b q hk hb hr with h1 | h1
    · omega
    · exact h1
/-- A fresh one. -/
abbrev bldF : Blk := .obj fun _ arr e => arr = ([.pointer none, .slice none 0 0] : List Value).toArray ∧ e = 104
/-- One that holds n bytes, in block g. -/
def bldP (g c n : Nat) (r : Nat) (arr : Array Value) (e : TypeId) : Prop := arr = #[.pointer (some ⟨r, 0, none⟩), .slice (some ⟨g, 0, none⟩) n c] ∧ e = 104
def rowP_ (g c : Nat) (l : List UInt8) (r : Nat) (arr : Array Value) (e : TypeId) : Prop := r = g ∧ e = 5 ∧ l.length ≤ c ∧ c ≤ maxLen ∧ arr.size = c ∧ arr.toList.take l.length = byteCells l
abbrev bldU (g c n : Nat) : Blk := .obj (bldP g c n)
abbrev bldR (g c : Nat) (l : List UInt8) : Blk := .obj (rowP_ g c l)
theorem infoU8 : ∃ i, Tryz.prog.info? 5 = some i ∧ i.size = 1 ∧ i.bytes = 1 ∧ i.zero = some (.int .u8 0) := by
  have h : (Tryz.prog.info? 5).map (fun i => (i.size, i.bytes)) = some (1, 1) := by kernel_rfl
  have h2 : (Tryz.prog.info? 5).bind (·.zero) = some (.int .u8 0) := by kernel_rfl
  rw [Option.map_eq_some_iff] at h
  obtain ⟨i, hi, he⟩ := h
  rw [hi] at h2
  simp only [Prod.mk.injEq] at he
  exact ⟨i, hi, he.1, he.2, h2⟩
theorem bld_args {β : Nat → Option Nat} {n : Nat} {S : Nat → Prop} {w : World} {s : ByteArray} {vs : Array Value} (hl : ([.ptr 0 0, .v (.string s)] : List AV).length = vs.size) (hv : ∀ i c, ([.ptr 0 0, .v (.string s)] : List AV)[i]? = some c → VR β n S w c (vs.getD i undef)) :
    ∃ r, β 0 = some r ∧ vs = #[.pointer (some ⟨r, 0, none⟩), .string s] := by
  obtain ⟨r, _, hb, e0⟩ := (hv 0 _ rfl).ptr_inv
  have e1 := (hv 1 _ rfl).v_inv.1
  have hl : vs.size = 2 := hl.symm
  refine ⟨r, hb, ?_⟩
  apply Array.ext
  · simp [hl]
  · intro i g1 g2
    have hi : i < 2 := by simpa using g2
    rcases (show i = 0 ∨ i = 1 by omega) with rfl | rfl
    · rw [Array.getD_eq_getD_getElem?, Array.getElem?_eq_getElem g1] at e0; simpa using e0
    · rw [Array.getD_eq_getD_getElem?, Array.getElem?_eq_getElem g1] at e1; simpa using e1
theorem obj_inv {β : Nat → Option Nat} {n : Nat} {S : Nat → Prop} {w : World} {o : Option Nat} {p : Nat → Array Value → TypeId → Prop} (h : BlkR β n S w o (.obj p)) : ∃ r arr e, o = some r ∧ w.heap[r]? = some (.cells arr e (0, 0)) ∧ p r arr e := by
  cases h with
  | obj r arr e _ hh h => exact ⟨r, arr, e, rfl, hh, h⟩
abbrev wsV (n : Nat) : AV := .tup [I (n : Int), .v .nilIface]
theorem wsV_vr {β : Nat → Option Nat} {m : Nat} {S : Nat → Prop} {w : World} (n : Nat) : VR β m S w (wsV n) (.tuple #[.int .i64 n, .nilIface]) :=
  .tup _ _ rfl fun i c hc => by
    match i, hc with
    | 0, hc => cases hc; exact .v _ rfl
    | 1, hc => cases hc; exact .v _ rfl
theorem byteCells_B (s : List UInt8) : strCells (B s) = byteCells s := rfl
theorem take_new {l s : List UInt8} {zs : List Value} {n : Nat} (hn : n = (l ++ s).length) : (byteCells l ++ byteCells s ++ zs).take n = byteCells (l ++ s) := by
  rw [← byteCells_append, hn, ← byteCells_length (l ++ s)]
  exact List.take_left
set_option maxRecDepth 100000 in
theorem writeString_new (s : List UInt8) (hs : 0 < s.length) (hn : s.length ≤ 1099511627776) : CallA Tryz.prog G 88 [.ptr 0 0, Sv s] [bldF]
    (fun v J => ∃ (x : Nat × Nat) (a b : Int), v = wsV s.length ∧ J = [bldU x.1 x.2 s.length, bldR x.1 x.2 s] ∧ (a = 0 ∧ b = 0)) :=
  ⟨⟨_, Tryz.func88, by kernel_rfl, by kernel_rfl⟩, fun β S w vs hr hl hv => by
    obtain ⟨r, hβ, rfl⟩ := bld_args hl hv
    obtain ⟨r', arr, e, ho, hh, rfl, rfl⟩ := obj_inv (hr.blk 0 _ rfl)
    rw [hβ] at ho; cases ho
    obtain ⟨i, hi, hz, hy, hzz⟩ := infoU8
    have hcc := copyCheck_fresh r _ w hh
    rw [setCell_row hh] at hcc
    have h1 := (HS.start hr).write (k := 0) (b' := .obj fun r arr e => arr = #[.pointer (some ⟨r, 0, none⟩), .slice none 0 0] ∧ e = 104) rfl (by simp) hβ hh (arr' := #[.pointer (some ⟨r, 0, none⟩), .slice none 0 0]) rfl
      (.obj _ _ _ _ (setRow_heap w r _ _ _ _ hh) ⟨rfl, rfl⟩)
    have hh0 : (w.setRow r #[.pointer (some ⟨r, 0, none⟩), .slice none 0 0]).heap[r]? = some (.cells #[.pointer (some ⟨r, 0, none⟩), .slice none 0 0] 104 (0, 0)) := setRow_heap w r _ _ _ _ hh
    have hap := fun ty => run_append_nil_string (P := Tryz.prog) (w.setRow r #[.pointer (some ⟨r, 0, none⟩), .slice none 0 0]) 22 9 ty 5 i _ Tryz.underlying22 Tryz.underlying9 hi hzz (B s) hs (by rw [B_size]; omega) (by rw [B_size, hy]; omega)
    simp only [B_size] at hap
    obtain ⟨w0, hw0⟩ : ∃ w0, w0 = w.setRow r #[.pointer (some ⟨r, 0, none⟩), .slice none 0 0] := ⟨_, rfl⟩
    rw [show ([Value.pointer none, .slice none 0 0] : List Value).toArray.setIfInBounds 0 (.pointer (some ⟨r, 0, none⟩)) = #[.pointer (some ⟨r, 0, none⟩), .slice none 0 0] from rfl, ← hw0] at hcc
    rw [← hw0] at h1 hh0 hap
    have hge := grownCap_ge w0 s.length 0 5
    have hcm := grownCap_le_maxLen w0 s.length 0 5 (by unfold maxLen; omega)
    obtain ⟨row, hrow⟩ : ∃ row, row = (B s).data.map (fun b => Value.int .u8 b.toNat) ++ Builtin.zeroCells (Value.int .u8 0).cells (grownCap w0 s.length 0 5 - s.length) := ⟨_, rfl⟩
    have hrs : row.size = grownCap w0 s.length 0 5 := by
      rw [hrow, Array.size_append, size_zeroCells, show (Value.int .u8 0).cells.size = 1 from rfl]
      simp
      omega
    have hrt : row.toList.take s.length = byteCells s := by
      rw [hrow]
      have : ((B s).data.map (fun b => Value.int .u8 b.toNat)).toList = byteCells s := by simp [byteCells]
      rw [Array.toList_append, this]
      conv => lhs; arg 1; rw [← byteCells_length s]
      exact List.take_left
    have h2 := h1.1.push (evo_drew_alloc w0 (.cells row 5)) (q := some w0.heap.size) (b := bldR w0.heap.size (grownCap w0 s.length 0 5) s) (fun r hr => by cases hr; exact Nat.le_refl _)
      (.obj _ row _ _ (heap_alloc_new w0.drew _) ⟨rfl, rfl, hge, hcm, hrs, hrt⟩)
    have hlt : r < w0.heap.size := (Array.getElem?_eq_some_iff.1 hh0).1
    have hh1 : (w0.drew.alloc (.cells row 5)).heap[r]? = some (.cells #[.pointer (some ⟨r, 0, none⟩), .slice none 0 0] 104 (0, 0)) := (Lib.alloc_old w0.drew _ r hlt).trans hh0
    have h3 := h2.1.write (k := 0) (b' := bldU w0.heap.size (grownCap w0 s.length 0 5) s.length) rfl (by simp) (by rw [upd_lt _ _ (by simp)]; exact hβ) hh1 (arr' := #[.pointer (some ⟨r, 0, none⟩), .slice (some ⟨w0.heap.size, 0, none⟩) s.length (grownCap w0 s.length 0 5)]) rfl
      (.obj _ _ _ _ (setRow_heap _ r _ _ _ _ hh1) ⟨rfl, rfl⟩)
    refine (writeString_at r _ none _ 0 0 _ _ (B s) w w0 _ hh0 hcc hap (by rw [← hrow]; exact hh1)).mono fun e w' ⟨he, hw'⟩ => ?_
    rw [← hrow, setCell_row hh1] at hw'
    subst hw'
    exact ⟨_, S, _, _, _, he, ⟨(w0.heap.size, grownCap w0 s.length 0 5), 0, 0, rfl, rfl, rfl, rfl⟩, wsV_vr _, h3.1⟩⟩
set_option maxRecDepth 100000 in
theorem writeString_more (g c : Nat) (l s : List UInt8) (hn : l.length + s.length ≤ 1099511627776) : CallA Tryz.prog G 88 [.ptr 0 0, Sv s] [bldU g c l.length, bldR g c l]
    (fun v J => ∃ (x : Nat × Nat) (a b : Int), v = wsV s.length ∧ J = [bldU x.1 x.2 (l ++ s).length, .dead, bldR x.1 x.2 (l ++ s)] ∧ (a = 0 ∧ b = 0)) :=
  ⟨⟨_, Tryz.func88, by kernel_rfl, by kernel_rfl⟩, fun β S w vs hr hl hv => by
    obtain ⟨r, hβ, rfl⟩ := bld_args hl hv
    obtain ⟨r', arr, e, ho, hh, rfl, rfl⟩ := obj_inv (hr.blk 0 _ rfl)
    rw [hβ] at ho; cases ho
    obtain ⟨g', cur, e, hγ, hg, rfl, rfl, hlc, hcm, hcs, hct⟩ := obj_inv (hr.blk 1 _ rfl)
    obtain ⟨i, hi, hz, hy, hzz⟩ := infoU8
    have hrg : r ≠ g' := fun e => absurd (hr.sep 0 1 _ _ r rfl rfl (by simp) (by simp) hβ (e ▸ hγ)) (by decide)
    have hcc := copyCheck_used r _ w hh
    have hls : (l ++ s).length = l.length + s.length := List.length_append
    by_cases hroom : l.length + s.length ≤ c
    · have hap := fun ty => run_append_room_string (P := Tryz.prog) (w := w) 22 9 ty 5 i Tryz.underlying22 Tryz.underlying9 hi hz g' l.length c cur hg (B s) (by rw [B_size]; exact hroom) (by rw [B_size]; omega)
      simp only [B_size] at hap
      obtain ⟨row, hrow⟩ : ∃ row, row = (cur.toList.take l.length ++ strCells (B s) ++ cur.toList.drop (l.length + s.length)).toArray := ⟨_, rfl⟩
      have hrs : row.size = cur.size := by
        rw [hrow]
        simp only [List.size_toArray, List.length_append, List.length_take, List.length_drop, Array.length_toList, strCells_length, B_size]
        omega
      have hrt : row.toList.take (l ++ s).length = byteCells (l ++ s) := by
        rw [hrow, hct, byteCells_B]
        exact take_new rfl
      have hg1 : (w.setRow g' row).heap[g']? = some (.cells row 5 (0, 0)) := setRow_heap w g' _ _ _ _ hg
      have h1 := (HS.start hr).write (k := 1) (b' := bldR g' c (l ++ s)) rfl (by simp) hγ hg hrs (.obj _ row _ _ hg1 ⟨rfl, rfl, by omega, hcm, hrs.trans hcs, hrt⟩)
      have hh1 : (w.setRow g' row).heap[r]? = some (.cells #[.pointer (some ⟨r, 0, none⟩), .slice (some ⟨g', 0, none⟩) l.length c] 104 (0, 0)) := (setRow_other w g' r row hrg).trans hh
      have h2 := h1.1.write (k := 0) (b' := bldU g' c (l ++ s).length) rfl (by simp) hβ hh1 (arr' := #[.pointer (some ⟨r, 0, none⟩), .slice (some ⟨g', 0, none⟩) (l ++ s).length c]) rfl
        (.obj _ _ _ _ (setRow_heap _ r _ _ _ _ hh1) ⟨rfl, rfl⟩)
      have h3 := h2.1.move (k := 1) (b := bldR g' c (l ++ s)) rfl (by simp)
      refine (writeString_at r _ _ _ _ _ _ _ (B s) w w _ hh hcc hap (by rw [← hrow]; exact hh1)).mono fun e w' ⟨he, hw'⟩ => ?_
      rw [← hrow, setCell_row hh1, ← hls] at hw'
      subst hw'
      exact ⟨_, S, _, _, _, he, ⟨(g', c), 0, 0, rfl, rfl, rfl, rfl⟩, wsV_vr _, h3.1⟩
    · have holds : ∀ j u, (byteCells l)[j]? = some u → w.cell? ((⟨g', 0, none⟩ : Addr).add j) = some u := fun j u hj => by
        rw [← hct, List.getElem?_take] at hj
        split at hj
        · rw [Addr.add_lit, Nat.zero_add]
          simp [World.cell?, hg] at hj ⊢
          exact hj
        · cases hj
      have hap := fun ty => run_append_grow_string (P := Tryz.prog) (w := w) 22 9 ty 5 i _ Tryz.underlying22 Tryz.underlying9 hi hzz ⟨g', 0, none⟩ l.length c (byteCells l) (by rw [hz, byteCells_length, Nat.mul_one]) holds (B s) (by rw [B_size]; omega) (by rw [B_size]; omega) (by rw [B_size, hy]; exact growslice_fits (by omega) (by omega))
      simp only [B_size] at hap
      have hge := grownCap_ge w (l.length + s.length) c 5
      have hcm' := grownCap_le_maxLen w (l.length + s.length) c 5 (by unfold maxLen; omega)
      obtain ⟨c', hc'⟩ : ∃ c', c' = grownCap w (l.length + s.length) c 5 := ⟨_, rfl⟩
      rw [← hc'] at hge hcm' hap
      obtain ⟨row, hrow⟩ : ∃ row, row = (byteCells l).toArray ++ (strCells (B s)).toArray ++ Builtin.zeroCells (Value.int .u8 0).cells (c' - (l.length + s.length)) := ⟨_, rfl⟩
      have hrs : row.size = c' := by
        rw [hrow]
        simp only [Array.size_append, size_zeroCells, List.size_toArray, byteCells_length, strCells_length, B_size, show (Value.int .u8 0).cells.size = 1 from rfl]
        omega
      have hrt : row.toList.take (l ++ s).length = byteCells (l ++ s) := by
        rw [hrow, Array.toList_append, Array.toList_append, byteCells_B]
        exact take_new rfl
      have h1 := (HS.start hr).kill 1
      have h2 := h1.push (evo_drew_alloc w (.cells row 5)) (q := some w.heap.size) (b := bldR w.heap.size c' (l ++ s)) (fun r hr => by cases hr; exact Nat.le_refl _)
        (.obj _ row _ _ (heap_alloc_new w.drew _) ⟨rfl, rfl, by omega, hcm', hrs, hrt⟩)
      have hlt : r < w.heap.size := (Array.getElem?_eq_some_iff.1 hh).1
      have hh1 : (w.drew.alloc (.cells row 5)).heap[r]? = some (.cells #[.pointer (some ⟨r, 0, none⟩), .slice (some ⟨g', 0, none⟩) l.length c] 104 (0, 0)) := (Lib.alloc_old w.drew _ r hlt).trans hh
      have h3 := h2.1.write (k := 0) (b' := bldU w.heap.size c' (l ++ s).length) rfl (by simp) (by rw [upd_lt _ _ (by simp)]; exact hβ) hh1 (arr' := #[.pointer (some ⟨r, 0, none⟩), .slice (some ⟨w.heap.size, 0, none⟩) (l ++ s).length c']) rfl
        (.obj _ _ _ _ (setRow_heap _ r _ _ _ _ hh1) ⟨rfl, rfl⟩)
      refine (writeString_at r _ _ _ _ _ _ _ (B s) w w _ hh hcc hap (by rw [← hrow]; exact hh1)).mono fun e w' ⟨he, hw'⟩ => ?_
      rw [← hrow, setCell_row hh1, ← hls] at hw'
      subst hw'
      exact ⟨_, S, _, _, _, he, ⟨(w.heap.size, c'), 0, 0, rfl, rfl, rfl, rfl⟩, wsV_vr _, h3.1⟩⟩
theorem string_at_nil (r : Nat) (p : Value) (w : World) (hb : w.heap[r]? = some (.cells #[p, .slice none 0 0] 104 (0, 0))) :
    Calls Tryz.prog 90 #[.pointer (some ⟨r, 0, none⟩)] w fun e w' => e = .returned (.string ⟨#[]⟩) ∧ w' = w.drew := by
  have hUS : ∀ W q, (Builtin.unsafeString_ #[122, 3] 9 #[.pointer q, .int .i64 0]).run Tryz.prog W = .ok (.string .empty) W := fun W q => Lib.run_unsafeString_none W _ _ _ q
  have c1 : w.drew.cell? ⟨r, 1, none⟩ = some (.slice none 0 0) := by
    have : w.drew.heap[r]? = some (.cells #[p, .slice none 0 0] 104 (0, 0)) := hb
    rw [Lib.cell_of_heap this]; rfl
  have hSD : (Builtin.unsafeSliceData_ #[22] 122 #[.slice none 0 0]).run Tryz.prog w.drew = .ok (.pointer none) w.drew := rfl
  go_enter Tryz.func90, Tryz.ntmps90
  go_wp2
  go_region
  all_goals (go_wp2; go_ret; exact ⟨rfl, rfl⟩)
theorem string_at_row (r g cap : Nat) (p : Value) (l : List UInt8) (cur : Array Value) (w : World) (h0 : l ≠ []) (hb : w.heap[r]? = some (.cells #[p, .slice (some ⟨g, 0, none⟩) l.length cap] 104 (0, 0)))
    (hg : w.heap[g]? = some (.cells cur 5 (0, 0))) (hc : l.length ≤ cap) (hcm : cap ≤ maxLen) (hs : cur.size = cap) (ht : cur.toList.take l.length = byteCells l) :
    Calls Tryz.prog 90 #[.pointer (some ⟨r, 0, none⟩)] w fun e w' => e = .returned (.string ⟨l.toArray⟩) ∧ w' = w.drew.freeze ⟨g, 0, none⟩ l.length := by
  have hl0 : l.length ≠ 0 := by simpa using h0
  have c1 : w.drew.cell? ⟨r, 1, none⟩ = some (.slice (some ⟨g, 0, none⟩) l.length cap) := by
    have : w.drew.heap[r]? = some (.cells #[p, .slice (some ⟨g, 0, none⟩) l.length cap] 104 (0, 0)) := hb
    rw [Lib.cell_of_heap this]; rfl
  have hSD : (Builtin.unsafeSliceData_ #[22] 122 #[.slice (some ⟨g, 0, none⟩) l.length cap]).run Tryz.prog w.drew = .ok (.pointer (some ⟨g, 0, none⟩)) w.drew :=
    Lib.run_unsafeSliceData_row _ _ _ _ _ _ (by omega)
  have hUS : (Builtin.unsafeString_ #[122, 3] 9 #[.pointer (some ⟨g, 0, none⟩), .int .i64 l.length]).run Tryz.prog w.drew = .ok (.string ⟨l.toArray⟩) (w.drew.freeze ⟨g, 0, none⟩ l.length) := by
    refine Lib.run_unsafeString_row w.drew 122 3 9 5 Tryz.underlying122 (by kernel_rfl) g cur.size (by have hg' : w.drew.heap[g]? = some (.cells cur 5 (0, 0)) := hg; simp [World.shape?, hg']) l h0 (by omega) (by unfold maxLen at hcm; omega) ?_
    intro j x hx
    have hlt : j < l.length := (List.getElem?_eq_some_iff.1 hx).1
    have h1 : (byteCells l)[j]? = some (.int .u8 x.toNat) := by simp [Lib.byteCells, hx]
    rw [← ht, List.getElem?_take, if_pos hlt, Array.getElem?_toList] at h1
    have hg' : w.drew.heap[g]? = some (.cells cur 5 (0, 0)) := hg
    rw [Addr.add_lit, Nat.zero_add]
    simp only [World.cell?, hg']
    simpa using h1
  go_enter Tryz.func90, Tryz.ntmps90
  go_wp2
  go_region
  all_goals (go_wp2; go_ret; exact ⟨rfl, rfl⟩)
theorem bld_arg1 {β : Nat → Option Nat} {n : Nat} {S : Nat → Prop} {w : World} {vs : Array Value} (hl : ([.ptr 0 0] : List AV).length = vs.size) (hv : ∀ i c, ([.ptr 0 0] : List AV)[i]? = some c → VR β n S w c (vs.getD i undef)) :
    ∃ r, β 0 = some r ∧ vs = #[.pointer (some ⟨r, 0, none⟩)] := by
  obtain ⟨r, _, hb, e0⟩ := (hv 0 _ rfl).ptr_inv
  have hl : vs.size = 1 := hl.symm
  refine ⟨r, hb, ?_⟩
  apply Array.ext
  · simp [hl]
  · intro i g1 g2
    obtain rfl : i = 0 := by have : i < 1 := by simpa using g2
                             omega
    rw [Array.getD_eq_getD_getElem?, Array.getElem?_eq_getElem g1] at e0; simpa using e0
set_option maxRecDepth 100000 in
theorem string_new : CallA Tryz.prog G 90 [.ptr 0 0] [bldF] (fun v J => v = Sv [] ∧ J = [bldF]) :=
  ⟨⟨_, Tryz.func90, by kernel_rfl, by kernel_rfl⟩, fun β S w vs hr hl hv => by
    obtain ⟨r, hβ, rfl⟩ := bld_arg1 hl hv
    obtain ⟨r', arr, e, ho, hh, rfl, rfl⟩ := obj_inv (hr.blk 0 _ rfl)
    rw [hβ] at ho; cases ho
    exact (string_at_nil r _ w hh).mono fun e w' ⟨he, hw'⟩ => ⟨β, S, _, _, _, he, ⟨rfl, rfl⟩, .v _ rfl, (HS.start hr).cl (hw' ▸ Cl.of_below (Below.drew (Below.refl _ w)))⟩⟩
set_option maxRecDepth 100000 in
theorem string_more (g c : Nat) (l : List UInt8) (h0 : l ≠ []) : CallA Tryz.prog G 90 [.ptr 0 0] [bldU g c l.length, bldR g c l] (fun v J => v = Sv l ∧ J = [bldU g c l.length, .dead]) :=
  ⟨⟨_, Tryz.func90, by kernel_rfl, by kernel_rfl⟩, fun β S w vs hr hl hv => by
    obtain ⟨r, hβ, rfl⟩ := bld_arg1 hl hv
    obtain ⟨r', arr, e, ho, hh, rfl, rfl⟩ := obj_inv (hr.blk 0 _ rfl)
    rw [hβ] at ho; cases ho
    obtain ⟨g', cur, e, hγ, hg, rfl, rfl, hlc, hcm, hcs, hct⟩ := obj_inv (hr.blk 1 _ rfl)
    have hl0 : l.length ≠ 0 := by simpa using h0
    refine (string_at_row r g' c _ l cur w h0 hh hg hlc hcm hcs hct).mono fun e w' ⟨he, hw'⟩ => ?_
    have hlt : g' < w.heap.size := (Array.getElem?_eq_some_iff.1 hg).1
    have hgv : w.heap[g'] = .cells cur 5 (0, 0) := (Array.getElem?_eq_some_iff.1 hg).2
    have hwz : w'.heap.size = w.heap.size := by rw [hw']; simp only [World.freeze, if_neg hl0, Array.size_modify]; rfl
    have hwo : ∀ q, q ≠ g' → w'.heap[q]? = w.heap[q]? := fun q hq => by
      rw [hw']
      simp only [World.freeze, if_neg hl0]
      rw [Array.getElem?_modify, if_neg (fun e => hq e.symm)]
      rfl
    have hwg : ∃ fz, w'.heap[g']? = some (.cells cur 5 fz) := by
      refine ⟨(0, 0 + l.length), ?_⟩
      rw [hw']
      simp only [World.freeze, if_neg hl0]
      rw [Array.getElem?_modify, if_pos rfl, show w.drew.heap[g']? = some (.cells cur 5 (0, 0)) from hg]
      rfl
    obtain ⟨fz, hwg⟩ := hwg
    have h1 := HS.frz (HS.start hr) (k := 1) rfl (by simp) hγ hg rfl hwg (by rw [hw']; simp only [World.freeze, if_neg hl0]; rfl) (by rw [hw']; simp only [World.freeze, if_neg hl0]; rfl) (by rw [hw']; simp only [World.freeze, if_neg hl0]; rfl) hwz hwo
    exact ⟨β, S, _, _, _, he, ⟨rfl, rfl⟩, .v _ rfl, h1⟩⟩
end Go.Proofs.YtgpgnhadmckmhaaGreatDoor
