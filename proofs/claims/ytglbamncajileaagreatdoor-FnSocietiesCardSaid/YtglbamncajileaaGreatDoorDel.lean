/-
  slices.Grow of the nil slice: the kit's contract, laid at this program and brought in. slices.Concat of lists of integers: what the function returns. slices.Delete of one holding: what the function does. No conditions but those in the statements.
-/
import Derived.Shelf.Spec.SlicesGrow
import Derived.Test.YtglbamncajileaaGreatDoorAeC
import Derived.Test.YtglbamncajileaaGreatDoorIn
import Derived.Laws.CopyRow
import Derived.Lib.SliceRun
import Derived.Deep.RegionLaw
import Derived.Shelf.RegionOpenPlain
import Derived.Lib.Walk
import Derived.WalkKit
set_option linter.unusedVariables false
set_option linter.unusedSimpArgs false
set_option maxRecDepth 100000
set_option maxHeartbeats 4000000
namespace Go.Proofs
open Go.Shelf
def Tryz.laysG_ren : Go.Shelf.Ren := ⟨fun | 4 => 262 | n => n, fun | 22 => 31 | 25 => 2 | n => n, fun n => n⟩
theorem Tryz.laysG : Lays8.n4 Tryz.prog Tryz.laysG_ren := {
 mixed := by kernel_rfl
 f4 := ⟨Tryz.f262.name, by kernel_rfl, Tryz.func262.trans (congrArg some (by kernel_rfl))⟩
 t0 := Tryz.underlying0
 a0 := Tryz.isAgg0
 z0 := Tryz.sizeOf0
 v0 := Tryz.zeroValue0
 t3 := Tryz.underlying3
 a3 := Tryz.isAgg3
 z3 := Tryz.sizeOf3
 v3 := Tryz.zeroValue3
 t4 := Tryz.underlying4
 a4 := Tryz.isAgg4
 z4 := Tryz.sizeOf4
 v4 := Tryz.zeroValue4
 t9 := Tryz.underlying9
 a9 := Tryz.isAgg9
 z9 := Tryz.sizeOf9
 v9 := Tryz.zeroValue9
 t20 := Tryz.underlying20
 a20 := Tryz.isAgg20
 z20 := Tryz.sizeOf20
 v20 := Tryz.zeroValue20
 t22 := Tryz.underlying31
 a22 := Tryz.isAgg31
 z22 := Tryz.sizeOf31
 v22 := Tryz.zeroValue31 }
end Go.Proofs
namespace Go.Proofs.YtglbamncajileaaGreatDoor
open Go.AE Go.Lib Go.RowKit
theorem infoI : ∃ i, Tryz.prog.info? (Tryz.laysG_ren.t 25) = some i ∧ i.size = 1 ∧ i.bytes = 8 ∧ i.zero = some (.int .i64 0) := by
 have h : (Tryz.prog.info? (Tryz.laysG_ren.t 25)).map (fun i => (i.size, i.bytes)) = some (1, 8) := by kernel_rfl
 have h2 : (Tryz.prog.info? (Tryz.laysG_ren.t 25)).bind (·.zero) = some (.int .i64 0) := by kernel_rfl
 rw [Option.map_eq_some_iff] at h
 obtain ⟨i, hi, he⟩ := h
 rw [hi] at h2
 simp only [Prod.mk.injEq] at he
 exact ⟨i, hi, he.1, he.2, h2⟩
theorem grow_call (n : Nat) (h0 : 0 < n) (hn : n ≤ 1000) : Ca 262 [.nilsl, I n] [] (fun v J => v = .sl 0 1 0 ∧ J = [Di []]) :=
 ⟨⟨_, Tryz.func262, by kernel_rfl, by kernel_rfl⟩, fun β S w vs hr hl hv => by
   have e0 : vs = #[.slice none 0 0, .int .i64 n] := by
     have h1 := (hv 1 _ rfl).v_inv.1
     have hl : vs.size = 2 := hl.symm
     have h2 : vs.getD 0 undef = .slice none 0 0 := by
       have hx := hv 0 _ rfl
       generalize vs.getD 0 undef = u at hx
       cases hx with
       | nilsl => rfl
     apply Array.ext
     · simp [hl]
     · intro i g1 g2
       have hi : i < 2 := by simpa using g2
       rcases (show i = 0 ∨ i = 1 by omega) with rfl | rfl
       · rw [Array.getD_eq_getD_getElem?, Array.getElem?_eq_getElem g1] at h2
         simpa using h2
       · rw [Array.getD_eq_getD_getElem?, Array.getElem?_eq_getElem g1] at h1
         simpa using h1
   rw [e0]
   obtain ⟨i0, hi0, hs0, hb0, hz0⟩ := infoI
   have hC := grownCap_ge w (0 + n) 0 (Tryz.laysG_ren.t 25)
   have hC2 := grownCap_le_maxLen w (0 + n) 0 (Tryz.laysG_ren.t 25) (by unfold maxLen; omega)
   refine (Any8.slices_Grow_grow Tryz.laysG i0 (.int .i64 0) hi0 hz0 (by omega) none 0 0 n [] w (Nat.le_refl _) (by omega) (by rw [hb0]; omega) (by omega) (by simp) (fun _ => rfl) (fun a ha => by cases ha)).mono fun e w' ⟨h1, h2⟩ => ?_
   generalize grownCap w (0 + n) 0 (Tryz.laysG_ren.t 25) = C at h1 h2 hC hC2
   have hsz : (([] : List Value).toArray ++ Builtin.zeroCells (Value.int .i64 0).cells (0 + n - 0) ++ Builtin.zeroCells (Value.int .i64 0).cells (C - (0 + n))).size = C := by
     rw [Array.size_append, Array.size_append, size_zeroCells, size_zeroCells]
     show 0 + (0 + n - 0) * 1 + (C - (0 + n)) * 1 = C
     omega
   generalize ([] : List Value).toArray ++ Builtin.zeroCells (Value.int .i64 0).cells (0 + n - 0) ++ Builtin.zeroCells (Value.int .i64 0).cells (C - (0 + n)) = cs at h2 hsz
   subst h2
   have hh := heap_alloc_new w.drew (.cells cs (Tryz.laysG_ren.t 25))
   have hb : BlkR (upd β ([] : List Blk).length (some w.heap.size)) (([] : List Blk).length + 1) S (w.drew.alloc (.cells cs (Tryz.laysG_ren.t 25))) (some w.heap.size) (Di []) :=
     .data _ _ _ _ hh (by simp [D.len, D.sz]) fun i hi j hj => absurd hi (Nat.not_lt_zero i)
   have hp := HS.push (HS.start hr) (evo_drew_alloc w (.cells cs (Tryz.laysG_ren.t 25))) (q := some w.heap.size) (fun r hr => by cases hr; exact Nat.le_refl _) hb
   exact ⟨_, S, _, _, _, h1, ⟨rfl, rfl⟩, .sl 0 1 0 w.heap.size C Nat.one_pos (upd_same _ _ _) (Nat.zero_le _) hC2 _ _ ⟨_, hh⟩ (by rw [hsz]; omega), hp.1⟩⟩
end Go.Proofs.YtglbamncajileaaGreatDoor
namespace Go.Proofs.YtglbamncajileaaGreatDoor
open Go.AE
attribute [local irreducible] CallA LoopA DrawA CallQ arithK quoK remK eqK
theorem cat_snoc {xss : List (List Int)} {i : Nat} (h : i < xss.length) : (xss.take i).flatten ++ xss.getD i [] = (xss.take (i + 1)).flatten := by
 rw [take_snoc [] h, List.flatten_append]; simp
theorem cat_len {xss : List (List Int)} {i : Nat} (h : i < xss.length) : ((xss.take (i + 1)).flatten).length = ((xss.take i).flatten).length + (xss.getD i []).length := by
 rw [← cat_snoc h, List.length_append]
theorem cat_le {xss : List (List Int)} (i : Nat) : ((xss.take i).flatten).length ≤ xss.flatten.length := by
 conv => rhs; rw [← List.take_append_drop i xss]
 rw [List.flatten_append, List.length_append]
 omega
theorem concat_call (xss : List (List Int)) (h0 : 0 < xss.flatten.length) (h1 : xss.flatten.length ≤ 1000) (h2 : xss.length ≤ 10) :
   Ca 194 [.ro (.nest xss)] [] (fun v J => v = .sl 0 1 xss.flatten.length ∧ J = [Di xss.flatten]) := by
 refine cZ Tryz.func194 ?_
 repeat' (conv => whnf); first | (intro h; try exact nZ) | apply And.intro | refine sZ ?_ | fail
 all_goals try exact rZ
 (conv => whnf)
 refine loop_rule hT (fun i : Nat => i ≤ xss.length) 36 0 [0, 3, 9, 10, 11] (fun i => [.ro (.nest xss), I ((xss.take i).flatten).length, .ro (.nest xss), I xss.length, I i]) (fun _ => []) (fun i => xss.length - i) (0) (by exact Nat.le_refl 0) ?_ ?_ ?_
 · exact Nat.zero_le _
 · (exact endH1 [])
 · intro i hi
   have hle := cat_le (xss := xss) i
   by_cases hlt : i < xss.length
   · have hl := cat_len hlt
     have hle1 := cat_le (xss := xss) (i + 1)
     have hl2 : ((xss.take (i + 1)).flatten).length = ((xss.take i).flatten).length + (xss.getD ((i : Int)).toNat []).length := hl
     repeat' (conv => whnf); first | (intro h; try exact nZ) | apply And.intro | refine sZ ?_ | fail
     all_goals try exact rZ
     all_goals ((conv => whnf); first | (refine ⟨i + 1, by omega, ?_, by omega⟩; (exact endH1 [])))
   · obtain rfl : i = xss.length := by omega
     have hta : xss.take xss.length = xss := take_all (Nat.le_refl _)
     rw [hta]
     have hg := grow_call xss.flatten.length h0 h1
     repeat' (conv => whnf); first | (intro h; try exact nZ) | apply And.intro | refine sZ ?_ | refine CallA.gM [] (hg) ?_ | fail
     all_goals try exact rZ
     (conv => whnf)
     refine loop_rule hT (fun i : Nat => i ≤ xss.length) 36 1 [6, 25, 26, 27] (fun i => [.sl 1 1 ((xss.take i).flatten).length, .ro (.nest xss), I xss.length, I i]) (fun i => [.dead, Di ((xss.take i).flatten)]) (fun i => xss.length - i) (0) (Nat.le_of_ble_eq_true rfl) ?_ ?_ ?_
     · exact Nat.zero_le _
     · (exact endH1 [some 0])
     · intro i hi
       have hle := cat_le (xss := xss) i
       by_cases hlt : i < xss.length
       · have hl2 : ((xss.take (i + 1)).flatten).length = ((xss.take i).flatten).length + (xss.getD ((i : Int)).toNat []).length := cat_len hlt
         have hsn : (xss.take i).flatten ++ xss.getD ((i : Int)).toNat [] = (xss.take (i + 1)).flatten := cat_snoc hlt
         have hle1 := cat_le (xss := xss) (i + 1)
         have hsl : ((xss.take i).flatten ++ xss.getD ((i : Int)).toNat []).length = ((xss.take (i + 1)).flatten).length := by rw [hsn]
         repeat' (conv => whnf); first | (intro h; try exact nZ) | apply And.intro | refine sZ ?_ | fail
         all_goals first | exact rZ | (show (_ : Nat) ≤ _; simp; omega) | skip
         all_goals ((conv => whnf); first | (refine ⟨i + 1, by omega, ?_, by omega⟩; (refine ⟨rfl, [some 2], ?_, ?_⟩; (repeat' first | apply And.intro | exact xZ | first | exact hsl | exact congrArg (D.ints .i64) hsn | fail); done)))
       · obtain rfl : i = xss.length := by omega
         rw [take_all (Nat.le_refl _)]
         repeat' (conv => whnf); first | (intro h; try exact nZ) | apply And.intro | refine sZ ?_ | fail
         all_goals try exact rZ
         all_goals (conv => whnf); exact endE1 [some 1] (.sl 0 1 xss.flatten.length) [Di xss.flatten]
end Go.Proofs.YtglbamncajileaaGreatDoor
namespace Go.Proofs.YtglbamncajileaaGreatDoor
open Go.AE Go.Lib Go.RowKit
theorem setCells_row {P : Program} (w : World) (b o : Nat) (vs : List Value) (cur : Array Value) (e : TypeId) (hh : w.heap[b]? = some (.cells cur e (0, 0))) (hfit : o + vs.length ≤ cur.size) (h1 : ∀ v ∈ vs, v.oneCell' = true) :
   w.setCells b o vs = w.setRow b (cur.toList.take o ++ vs ++ cur.toList.drop (o + vs.length)).toArray := by
 have ha := run_storeCells_cells (P := P) b o vs 0 w (fun j hj => by
   rw [Lib.cell_of_heap hh]
   simp only [Nat.add_zero]
   rw [Array.getElem?_eq_getElem (by omega)]; rfl) (fun j hj => Lib.frozen_of_heap hh _) h1
 have hb := run_storeCells_at P b o e vs 0 cur w hh (by simpa using hfit) h1
 simp only [Nat.add_zero] at ha hb
 have := ha.symm.trans hb
 injection this
def cells7 (r : List Int) : List Value := (List.range 7).map fun j => Value.int .i64 (r.getD j 0)
def flat : List (List Int) → List Value
 | [] => []
 | r :: xss => cells7 r ++ flat xss
theorem cells7_len (r : List Int) : (cells7 r).length = 7 := by simp [cells7]
theorem flat_len : ∀ xss, (flat xss).length = xss.length * 7
 | [] => rfl
 | r :: xss => by rw [flat, List.length_append, cells7_len, flat_len xss, List.length_cons]; omega
theorem flat_append : ∀ xss yss, flat (xss ++ yss) = flat xss ++ flat yss
 | [], _ => rfl
 | r :: xss, yss => by rw [List.cons_append, flat, flat, flat_append xss yss, List.append_assoc]
theorem flat_get : ∀ (xss : List (List Int)) (i j : Nat), i < xss.length → j < 7 → (flat xss)[i * 7 + j]? = some (.int .i64 ((xss.getD i []).getD j 0))
 | [], i, _, h, _ => absurd h (Nat.not_lt_zero i)
 | r :: xss, 0, j, _, hj => by
   rw [flat, List.getElem?_append_left (by rw [cells7_len]; omega)]
   simp [cells7, hj]
 | r :: xss, i + 1, j, h, hj => by
   rw [flat, List.getElem?_append_right (by rw [cells7_len]; omega), cells7_len, show (i + 1) * 7 + j - 7 = i * 7 + j by omega, flat_get xss i j (Nat.lt_of_succ_lt_succ h) hj]
   rfl
theorem flat_of {xss : List (List Int)} {arr : Array Value} (hl : xss.length * 7 ≤ arr.size) (h : ∀ i, i < xss.length → ∀ j, j < 7 → arr.getD (i * 7 + j) undef = .int .i64 ((xss.getD i []).getD j 0)) : arr.toList.take (xss.length * 7) = flat xss := by
 apply List.ext_getElem?
 intro p
 by_cases hp : p < xss.length * 7
 · have hi : p / 7 < xss.length := by omega
   have hj : p % 7 < 7 := Nat.mod_lt _ (by decide)
   have he : p / 7 * 7 + p % 7 = p := by omega
   have h1 := h _ hi _ hj
   have h2 := flat_get xss _ _ hi hj
   rw [he] at h1 h2
   rw [h2, List.getElem?_take, if_pos hp, ← h1, Array.getElem?_toList, Array.getD_eq_getD_getElem?, Array.getElem?_eq_getElem (by omega)]
   rfl
 · rw [List.getElem?_eq_none (by simp; omega), List.getElem?_eq_none (by rw [flat_len]; omega)]
theorem flat_to {xss : List (List Int)} {arr : Array Value} (h : arr.toList.take (xss.length * 7) = flat xss) (i : Nat) (hi : i < xss.length) (j : Nat) (hj : j < 7) : arr.getD (i * 7 + j) undef = .int .i64 ((xss.getD i []).getD j 0) := by
 have h2 := flat_get xss i j hi hj
 rw [← h, List.getElem?_take, if_pos (by omega), Array.getElem?_toList] at h2
 rw [Array.getD_eq_getD_getElem?, h2]
 rfl
theorem cells7_one : ∀ {r : List Int} {u : Value}, u ∈ cells7 r → u.oneCell' = true := fun h => by
 simp only [cells7, List.mem_map] at h
 obtain ⟨j, _, rfl⟩ := h
 rfl
theorem flat_one : ∀ {xss : List (List Int)} {u : Value}, u ∈ flat xss → u.oneCell' = true
 | [], _, h => by cases h
 | r :: xss, u, h => by
   rw [flat] at h
   rcases List.mem_append.1 h with h | h
   · exact cells7_one h
   · exact flat_one h
theorem infoH : ∃ i, Tryz.prog.info? 75 = some i ∧ i.size = 7 ∧ i.bytes = 56 := by
 have h : (Tryz.prog.info? 75).map (fun i => (i.size, i.bytes)) = some (7, 56) := by kernel_rfl
 rw [Option.map_eq_some_iff] at h
 obtain ⟨i, hi, he⟩ := h
 simp only [Prod.mk.injEq] at he
 exact ⟨i, hi, he.1, he.2⟩
abbrev zH : Value := .agg #[.int .i64 0, .int .i64 0, .int .i64 0, .int .i64 0, .int .i64 0, .int .i64 0, .int .i64 0]
theorem zeroH : zeroP Tryz.prog 75 = some zH := by kernel_rfl
theorem run_clear_row (w : World) (b o c ty : Nat) (cur : Array Value) (e : TypeId) (hh : w.heap[b]? = some (.cells cur e (0, 0))) (hfit : o + 7 ≤ cur.size) :
   (Builtin.clear_ #[36] ty #[.slice (some ⟨b, o, none⟩) 1 c]).run Tryz.prog w = .ok (.tuple #[]) (w.setRow b (cur.toList.take o ++ List.replicate 7 (Value.int .i64 0) ++ cur.toList.drop (o + 7)).toArray) := by
 have hst := run_storeCells_at Tryz.prog b o e (List.replicate 7 (Value.int .i64 0)) 0 cur w hh (by simpa using hfit) (fun v hv => by rw [List.eq_of_mem_replicate hv]; rfl)
 simp only [Nat.add_zero, List.length_replicate] at hst
 have hz := run_zeroValue' w zeroH
 have hzc : (Builtin.zeroCells zH.cells 1).toList = List.replicate 7 (Value.int .i64 0) := by
   rw [show zH.cells = Array.replicate 7 (Value.int .i64 0) from rfl]
   apply List.ext_getElem
   · simp [Builtin.zeroCells]
   · intro i h1 h2
     have : i % 7 < 7 := Nat.mod_lt _ (by decide)
     rw [List.getElem_replicate]
     simp [Builtin.zeroCells, Array.getElem!_eq_getD, Array.getD, this]
 generalize List.replicate 7 (Value.int .i64 0) = zs at hst hzc ⊢
 simp [Builtin.clear_, run_underlying Tryz.underlying36, hz, hzc, hst]
theorem delete_run (b n c i j : Nat) (hji : j = i + 1) (cur : Array Value) (eT : TypeId) (w : World) (hi : i < n) (hnc : n ≤ c) (hc : c ≤ maxLen) (hh : w.heap[b]? = some (.cells cur eT (0, 0))) (hs : c * 7 ≤ cur.size) (h1c : ∀ u ∈ cur.toList.take (n * 7), u.oneCell' = true) :
   Calls Tryz.prog 137 #[.slice (some ⟨b, 0, none⟩) n c, .int .i64 i, .int .i64 j] w fun e w' =>
     ∃ row : Array Value, e = .returned (.slice (some ⟨b, 0, none⟩) (n - 1) c) ∧ w' = w.drew.setRow b row ∧ row.size = cur.size ∧ row.toList.take ((n - 1) * 7) = cur.toList.take (i * 7) ++ (cur.toList.take (n * 7)).drop (j * 7) := by
 obtain ⟨i0, hi0, hz1, _⟩ := infoH
 have hu := Tryz.underlying36
 unfold maxLen at hc
 obtain ⟨news, hnews⟩ : ∃ news, news = (cur.toList.take (n * 7)).drop (j * 7) := ⟨_, rfl⟩
 have hlen : news.length = (n - j) * 7 := by rw [hnews]; simp only [List.length_drop, List.length_take, Array.length_toList]; omega
 obtain ⟨A, hA, hsrc⟩ : ∃ A : Addr, (if c = j then some (⟨b, 0, none⟩ : Addr) else some ⟨b, j * 7, none⟩) = some A ∧ ∀ t u, news[t]? = some u → w.drew.cell? (A.add t) = some u := by
   by_cases h : c = j
   · refine ⟨⟨b, 0, none⟩, by simp [h], fun t u hu => ?_⟩
     have h0 : news.length = 0 := by rw [hlen]; omega
     rw [List.length_eq_zero_iff.1 h0] at hu
     simp at hu
   · refine ⟨⟨b, j * 7, none⟩, by simp [h], fun t u hu => ?_⟩
     rw [hnews, List.getElem?_drop, List.getElem?_take] at hu
     split at hu
     · rw [Addr.add_lit, Lib.cell_of_heap (show w.drew.heap[b]? = _ from hh)]
       simpa using hu
     · cases hu
 have s2 : ∀ u ∈ news, u.oneCell' = true := fun u hu => h1c u (by rw [hnews] at hu; exact List.mem_of_mem_drop hu)
 have s3 : ∀ t, t < news.length → (w.drew.cell? ⟨b, 0 + i * 7 + t, none⟩).isSome = true ∧ w.drew.frozen? ⟨b, 0 + i * 7 + t, none⟩ = false := fun t ht => by
   rw [hlen] at ht
   refine ⟨?_, Lib.frozen_of_heap (show w.drew.heap[b]? = _ from hh) _⟩
   rw [Lib.cell_of_heap (show w.drew.heap[b]? = _ from hh)]
   rw [Array.getElem?_eq_getElem (by omega)]; rfl
 obtain ⟨row1, hrow1⟩ : ∃ row1, row1 = (cur.toList.take (i * 7) ++ news ++ cur.toList.drop (i * 7 + news.length)).toArray := ⟨_, rfl⟩
 have hW1 : w.drew.setCells b (0 + i * 7) news = w.drew.setRow b row1 := by
   rw [Nat.zero_add, hrow1]
   exact setCells_row (P := Tryz.prog) w.drew b (i * 7) news cur eT hh (by omega) s2
 have hr1 : row1.size = cur.size := by rw [hrow1]; simp only [List.size_toArray, List.length_append, List.length_take, List.length_drop, Array.length_toList, hlen]; omega
 have hh1 : (w.drew.setRow b row1).heap[b]? = some (.cells row1 eT (0, 0)) := setRow_heap w.drew b _ _ _ _ hh
 obtain ⟨row2, hrow2⟩ : ∃ row2, row2 = (row1.toList.take ((n - 1) * 7) ++ List.replicate 7 (Value.int .i64 0) ++ row1.toList.drop ((n - 1) * 7 + 7)).toArray := ⟨_, rfl⟩
 have hr2 : row2.size = cur.size := by rw [hrow2, ← hr1]; simp only [List.size_toArray, List.length_append, List.length_take, List.length_drop, Array.length_toList, List.length_replicate]; omega
 have hcl : ∀ ty, (Builtin.clear_ #[36] ty #[.slice (some ⟨b, (i + (n - j)) * 7, none⟩) (n - (i + (n - j))) (c - (i + (n - j)))]).run Tryz.prog (w.drew.setRow b row1) = .ok (.tuple #[]) ((w.drew.setRow b row1).setRow b row2) := fun ty => by
   rw [show i + (n - j) = n - 1 by omega, show n - (n - 1) = 1 by omega, hrow2]
   exact run_clear_row _ b ((n - 1) * 7) _ ty row1 eT hh1 (by omega)
 have hfin : row2.toList.take ((n - 1) * 7) = cur.toList.take (i * 7) ++ news := by
   have e1 : (n - 1) * 7 = (cur.toList.take (i * 7) ++ news).length := by rw [List.length_append, hlen, List.length_take, Array.length_toList]; omega
   have e2 : row1.toList.take ((n - 1) * 7) = cur.toList.take (i * 7) ++ news := by rw [hrow1, e1, List.append_assoc, ← List.append_assoc]; exact List.take_left ..
   rw [hrow2]
   rw [List.append_assoc, List.take_append_of_le_length (by rw [e2, ← e1]; exact Nat.le_refl _), List.take_take, Nat.min_self, e2]
 have hic : i ≤ c := by omega
 have hjc : j ≤ c := by omega
 rw [← hnews]
 have hij : i < j := by omega
 have hn1 : Hid (i + (n - j) = n - 1) := by show i + (n - j) = n - 1; omega
 have hfits : i + (n - j) ≤ c := by omega
 have hle1 : i + (n - j) ≤ n := by omega
 have hjn : j ≤ n := by omega
 clear hji
 have mixed := mixed
 clear hrow1 hrow2 hh1 hr1 h1c hnews
 go_enter Tryz.func137, Tryz.ntmps137
 go_wp2_with fail
 go_region_law_o (refine step_append_room rfl (.tmp 22) (.tmp 25) 36 rfl 75 i0 7 hu hi0 hz1 b 0 i c (by simp [Act.eval, Act.put]) A (n - j) (c - j) news (by simp [Act.eval, Act.put]) hlen hsrc s2 hfits s3 ?_; rw [hW1])
 go_wp2
 go_ret
 refine ⟨row2, by rw [← hn1.out]; rfl, setRow_setRow _ _ _ _, hr2, hfin⟩
abbrev Dh7 (hs : List (List Int)) : Blk := .data (.recs 7 hs)
theorem data_inv7 {β : Nat → Option Nat} {n : Nat} {S : Nat → Prop} {w : World} {r : Nat} {xss : List (List Int)} (h : BlkR β n S w (some r) (Dh7 xss)) :
   ∃ arr e, w.heap[r]? = some (.cells arr e (0, 0)) ∧ xss.length * 7 ≤ arr.size ∧ arr.toList.take (xss.length * 7) = flat xss := by
 cases h with
 | data r arr e d hh hl h => exact ⟨arr, e, hh, hl, flat_of hl h⟩
theorem flat_erase (xss : List (List Int)) (i : Nat) (hi : i < xss.length) : flat (xss.eraseIdx i) = (flat xss).take (i * 7) ++ (flat xss).drop ((i + 1) * 7) := by
 have h1 : flat xss = flat (xss.take i) ++ flat (xss.drop i) := by rw [← flat_append, List.take_append_drop]
 have h2 : (flat (xss.take i)).length = i * 7 := by rw [flat_len, List.length_take, Nat.min_eq_left (by omega)]
 have h3 : flat xss = flat (xss.take (i + 1)) ++ flat (xss.drop (i + 1)) := by rw [← flat_append, List.take_append_drop]
 have h4 : (flat (xss.take (i + 1))).length = (i + 1) * 7 := by rw [flat_len, List.length_take, Nat.min_eq_left (by omega)]
 rw [List.eraseIdx_eq_take_drop_succ, flat_append]
 congr 1
 · rw [h1, ← h2, List.take_left]
 · conv => rhs; rw [h3, ← h4, List.drop_left]
theorem delete_call (xss : List (List Int)) (i : Nat) (hi : i < xss.length) : Ca 137 [.sl 0 7 xss.length, I i, I ((i : Int) + 1)] [Dh7 xss]
   (fun v J => v = .sl 0 7 (xss.length - 1) ∧ J = [Dh7 (xss.eraseIdx i)]) :=
 ⟨⟨_, Tryz.func137, by kernel_rfl, by kernel_rfl⟩, fun β S w vs hr hl hv => by
   rcases (hv 0 _ rfl).sl_inv with ⟨h1, _⟩ | ⟨r, c, arr', e', _, hβ, hc, hm, ⟨fz', hh'⟩, hcs, e0⟩
   · omega
   have e1 := (hv 1 _ rfl).v_inv.1
   have e2 := (hv 2 _ rfl).v_inv.1
   have hl : vs.size = 3 := hl.symm
   have ev : vs = #[.slice (some ⟨r, 0, none⟩) xss.length c, .int .i64 i, .int .i64 ((i + 1 : Nat) : Int)] := by
     apply Array.ext
     · simp [hl]
     · intro k g1 g2
       have hk : k < 3 := by simpa using g2
       rcases (show k = 0 ∨ k = 1 ∨ k = 2 by omega) with rfl | rfl | rfl
       · rw [Array.getD_eq_getD_getElem?, Array.getElem?_eq_getElem g1] at e0; simpa using e0
       · rw [Array.getD_eq_getD_getElem?, Array.getElem?_eq_getElem g1] at e1; simpa using e1
       · rw [Array.getD_eq_getD_getElem?, Array.getElem?_eq_getElem g1] at e2; simpa using e2
   rw [ev]
   have hb := hr.blk 0 _ rfl
   rw [hβ] at hb
   obtain ⟨arr, e, hh, hs, hf⟩ := data_inv7 hb
   have hcs : c * 7 ≤ arr.size := by rw [hh] at hh'; cases hh'; exact hcs
   have hnl : (xss.eraseIdx i).length = xss.length - 1 := by rw [List.length_eraseIdx, if_pos hi]
   have hrow : ∀ a : Array Value, a.toList.take ((xss.length - 1) * 7) = arr.toList.take (i * 7) ++ (arr.toList.take (xss.length * 7)).drop ((i + 1) * 7) → a.toList.take ((xss.eraseIdx i).length * 7) = flat (xss.eraseIdx i) := fun a ha => by
     have hti : arr.toList.take (i * 7) = (flat xss).take (i * 7) := by rw [← hf, List.take_take, Nat.min_eq_left (by omega)]
     rw [hnl, ha, flat_erase xss i hi, hti, hf]
   have h1c : ∀ u ∈ arr.toList.take (xss.length * 7), u.oneCell' = true := fun u hu => flat_one (hf ▸ hu)
   refine (delete_run r xss.length c i (i + 1) rfl arr e w hi hc hm hh hcs h1c).mono fun ex w' ⟨a, he, hw', hsz, hta⟩ => ?_
   have hd : w.drew.heap[r]? = some (.cells arr e (0, 0)) := hh
   have hself : (w.drew.setRow r a).heap[r]? = some (.cells a e (0, 0)) := setRow_heap w.drew r _ _ _ _ hd
   have h0 := (HS.start hr).cl (Cl.of_below (Below.drew (Below.refl _ w)))
   have h1 := h0.write (k := 0) (b' := Dh7 (xss.eraseIdx i)) rfl (by simp) hβ hd hsz
     (.data r a e _ hself (by show (xss.eraseIdx i).length * 7 ≤ a.size; rw [hnl]; omega) (fun i' hi' j hj => flat_to (hrow a hta) i' hi' j hj))
   subst hw'
   exact ⟨_, S, _, _, _, he, ⟨rfl, rfl⟩, .sl 0 7 _ r c (by simp) hβ (by omega) hm a e ⟨_, hself⟩ (by omega), h1.1⟩⟩
end Go.Proofs.YtglbamncajileaaGreatDoor
