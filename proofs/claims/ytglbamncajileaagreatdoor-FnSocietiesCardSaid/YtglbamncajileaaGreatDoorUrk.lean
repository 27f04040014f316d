/-
  The first society, by the program and by the reference. Lines of the console, run one after the other by the reference. Lines of the console, run one after the other by the program. No conditions but those in the statements.
-/
import Derived.Test.YtglbamncajileaaGreatDoorUch
import Derived.Test.YtglbamncajileaaGreatDoorUrs
set_option linter.unusedVariables false
set_option linter.unusedSimpArgs false
set_option maxRecDepth 100000
set_option maxHeartbeats 8000000
namespace Go.Proofs.YtglbamncajileaaGreatDoor
open Go.AE Go.Lib
section
attribute [local irreducible] CallA LoopA DrawA CallQ arithK quoK remK eqK
def F0 : Fu := { f := 60, xs := [100, 90, 72, 45, 18, 0], lo := 0, n := 6, r := 30, hs := [], d := 0 }
theorem F0_ok : F0.ok := by
 refine ⟨by decide, by decide, ?_, ?_, fun h hh => by cases hh⟩
 · refine ⟨⟨⟨?_, fun i hi => ?_⟩, ?_⟩, by decide, fun h hh => by cases hh⟩
   · unfold hdT
     decide
   · have hi : i < 5 := hi
     unfold stT
     rcases i with _ | _ | _ | _ | _ | i
     · decide
     · decide
     · decide
     · decide
     · decide
     · omega
   · show okR 30
     unfold okR
     omega
 · show okD 0
   unfold okD
   omega
theorem implNew_call : Ca 25 [] [] (fun v J => v = F0.val 0 1 ∧ J = [Di F0.xs, Dh F0.hs]) := by
 refine cZ Tryz.func25 ?_
 repeat' (conv => whnf); first | (intro h; try exact nZ) | apply And.intro | refine sZ ?_ | fail
 all_goals try exact rZ
 all_goals (conv => whnf); exact endE1 [some 1, none] (F0.val 0 1) [Di F0.xs, Dh F0.hs]
theorem specNew_own : Ca 55 [] [] (fun v J => v = F0.val 0 1 ∧ J = [Di F0.xs, Dh F0.hs]) := by
 refine cZ Tryz.func55 ?_
 repeat' (conv => whnf); first | (intro h; try exact nZ) | apply And.intro | refine sZ ?_ | fail
 all_goals try exact rZ
 all_goals (conv => whnf); exact endE1 [some 1, none] (F0.val 0 1) [Di F0.xs, Dh F0.hs]
theorem specNew_call : Ca 55 [] [] (fun v J => v = F0.ro ∧ J = []) :=
 CallA.frozen (specNew_own.mono fun v J ⟨h1, h2⟩ => by
   subst h1 h2
   exact ⟨F0.ro, ⟨(by first | exact rfl | exact ⟨rfl, rfl⟩), ⟨rfl, rfl, rfl, (by decide), rfl⟩, (by first | exact rfl | exact ⟨rfl, rfl⟩), ⟨rfl, rfl, rfl, rfl, rfl⟩, (by first | exact rfl | exact ⟨rfl, rfl⟩), trivial⟩, rfl, rfl⟩)
end
section
attribute [local irreducible] CallA LoopA DrawA CallQ arithK quoK remK eqK
structure Nx where
 nf : Fu → List UInt8 → Fu × List UInt8
 ok : ∀ F l, F.ok → l.length ≤ 1048576 → (nf F l).1.ok ∧ (nf F l).2.length ≤ 100000 ∧ RunI F (nf F l).1 l (nf F l).2 ∧ RunS F (nf F l).1 l (nf F l).2
 no : ∀ F l, F.ok → l.length ≤ 1048576 → ¬ cmdS l → nf F l = (F, errT 6)
def stN (N : Nx) (ls : List (List UInt8)) : Nat → Fu
 | 0 => F0
 | i + 1 => (N.nf (stN N ls i) (ls.getD i [])).1
def ouN (N : Nx) (ls : List (List UInt8)) (i : Nat) : List (List UInt8) := (List.range i).map fun j => (N.nf (stN N ls j) (ls.getD j [])).2
theorem stN_next (N : Nx) (ls : List (List UInt8)) (i : Nat) : stN N ls (i + 1) = (N.nf (stN N ls i) (ls.getD i [])).1 := rfl
theorem ouN_zero (N : Nx) (ls : List (List UInt8)) : ouN N ls 0 = [] := rfl
theorem ouN_next (N : Nx) (ls : List (List UInt8)) (i : Nat) : ouN N ls (i + 1) = ouN N ls i ++ [(N.nf (stN N ls i) (ls.getD i [])).2] := by
 unfold ouN
 rw [List.range_succ, List.map_append]; rfl
theorem ouN_len (N : Nx) (ls : List (List UInt8)) (i : Nat) : (ouN N ls i).length = i := by simp [ouN]
theorem stN_ok (N : Nx) {ls : List (List UInt8)} (hl : ∀ l ∈ ls, l.length ≤ 1048576) : ∀ i, i ≤ ls.length → (stN N ls i).ok
 | 0, _ => F0_ok
 | i + 1, hi => (N.ok _ _ (stN_ok N hl i (by omega)) (hl _ (getD_mem (d := ([] : List UInt8)) (show i < ls.length by omega)))).1
attribute [local irreducible] stN ouN
theorem specAll_call (N : Nx) (ls : List (List UInt8)) (hn : ls.length ≤ 1048576) (hl : ∀ l ∈ ls, l.length ≤ 1048576) :
   Ca 31 [Rstr ls] [] (fun v J => v = .tup [(stN N ls ls.length).ro, .sl 0 1 ls.length] ∧ J = [Dstr (ouN N ls ls.length)]) := by
 refine cZ Tryz.func31 ?_
 have hml : (ls.map B).length = ls.length := List.length_map _
 have hnew := specNew_call
 repeat' (conv => whnf); first | (intro h; try exact nZ) | apply And.intro | refine sZ ?_ | refine gZ [] (hnew) ?_ | fail
 all_goals try exact rZ
 (conv => whnf)
 refine loop_rule hT (fun i : Nat => i ≤ ls.length) 33 3 [0, 2, 4, 5, 6] (fun i => [Rstr ls, .ptr 0 0, .ptr 1 0, .sl 3 1 i, I i]) (fun i => [.cells [I 0, .nilsl, I 0, .nilsl, I 0], .cells [I (stN N ls i).f, Ri (stN N ls i).ls, I (stN N ls i).r, Rh (stN N ls i).hs, I (stN N ls i).d], .dead, Dstr (ouN N ls i)]) (fun i => ls.length - i) (0) (Nat.le_of_ble_eq_true rfl) ?_ ?_ ?_
 · exact Nat.zero_le _
 · have hs0 : stN N ls 0 = F0 := by unfold stN; rfl
   have ho0 := ouN_zero N ls
   rw [hs0, ho0]
   first | (exact endH1 [some 2])
 · intro i h1
   have hol : ((ouN N ls i).map B).length = i := by rw [List.length_map, ouN_len]
   by_cases hi : i < ls.length
   · have hok := stN_ok N hl i h1
     obtain ⟨g1, g2, -, g4⟩ := N.ok _ (ls.getD i []) hok (hl _ (getD_mem hi))
     have hs1 := stN_next N ls i
     have hs2 := ouN_next N ls i
     unfold RunS at g4
     obtain ⟨F, hF⟩ : ∃ F, F = stN N ls i := ⟨_, rfl⟩
     obtain ⟨p, hp⟩ : ∃ p, p = N.nf (stN N ls i) (ls.getD i []) := ⟨_, rfl⟩
     rw [← hp] at g1 g2 g4 hs1 hs2
     rw [← hF] at g4 ⊢
     rw [show Sv (ls.getD i []) = .v (.string ((ls.map B).getD ((i : Int)).toNat ByteArray.empty)) from (congrArg (fun b => AV.v (.string b)) (strs_getD ls i)).symm] at g4
     have hsn : (ouN N ls i).map B ++ [B p.2] = (ouN N ls (i + 1)).map B := by rw [hs2, List.map_append]; rfl
     have hll : ((ouN N ls i).map B ++ [B p.2]).length = i + 1 := by rw [List.length_append, hol]; rfl
     repeat' (conv => whnf); first | (intro h; try exact nZ) | apply And.intro | refine sZ ?_ | refine gZ [] (g4) ?_ | fail
     all_goals first | exact rZ | exact hol.symm | (rw [hol]; show (i + 1) * 16 ≤ _; omega) | (show _ < (ls.map B).length; omega) | (show (_ : Int) < ((ls.map B).length : Int); omega) | (show (_ : Nat) ≤ _; simp; omega) | skip
     all_goals ((conv => whnf); first | (refine ⟨i + 1, by omega, ?_, by omega⟩; rw [hs1]; first | (refine ⟨rfl, [some 6], ?_, ?_⟩; (repeat' first | apply And.intro | exact xZ | first | exact hll | exact congrArg D.strs hsn | fail); done) | (refine ⟨rfl, [some 5], ?_, ?_⟩; (repeat' first | apply And.intro | exact xZ | first | exact hll | exact congrArg D.strs hsn | fail); done)))
   · obtain rfl : i = ls.length := by omega
     repeat' (conv => whnf); first | (intro h; try exact nZ) | apply And.intro | refine sZ ?_ | fail
     all_goals first | exact rZ | (show ¬ (_ : Int) < ((ls.map B).length : Int); omega) | (exfalso; simp at *; done) | skip
     all_goals (conv => whnf); exact endE1 [some 3] (.tup [(stN N ls ls.length).ro, .sl 0 1 ls.length]) [Dstr (ouN N ls ls.length)]
end
section
attribute [local irreducible] CallA LoopA DrawA CallQ arithK quoK remK eqK
attribute [local irreducible] stN ouN
abbrev TxtOut (N : Nx) (ls : List (List UInt8)) (x : List UInt8) : Prop := Ca 33 [Sv x] [] (fun v J => v = .tup [(stN N ls ls.length).val 0 1, .sl 2 1 ls.length, I 0] ∧ J = [Di (stN N ls ls.length).xs, Dh (stN N ls ls.length).hs, Dstr (ouN N ls ls.length)])
theorem implText_b (N : Nx) (x : List UInt8) (hx : x.length ≤ 3000) (ws ls : List (List UInt8)) (hws : sp 10 x = ws) (h0 : ws ≠ []) (hlast : ws.getD (ws.length - 1) [] ≠ []) (he : ls = ws) (h50 : ls.length ≤ 50) (hl : ∀ l ∈ ls, l.length ≤ 1048576) : TxtOut N ls x := by
 refine cZ Tryz.func33 ?_
 have hsz := B_size x
 have hspl := split_call x 10 (by omega)
 rw [hws] at hspl
 have hml : (ws.map B).length = ws.length := List.length_map _
 have hpos := List.length_pos_iff.2 h0
 have hlb : ¬ (ws.map B).getD (((ws.map B).length : Int) - 1).toNat ByteArray.empty = ⟨#[]⟩ := fun e => by
   rw [show (((ws.map B).length : Int) - 1).toNat = ws.length - 1 by omega, strs_getD] at e
   exact hlast ((B_inj (b := [])).1 e)
 have hget : ∀ i, i < ls.length → Sv (ls.getD i []) = .v (.string ((ws.map B).getD ((i : Int)).toNat ByteArray.empty)) := fun i _ => by
   rw [he]; exact (congrArg (fun b => AV.v (.string b)) (strs_getD ws i)).symm
 have hlw : ls.length = ws.length := by rw [he]
 have hnew := implNew_call
 repeat' (conv => whnf); first | (intro h; try exact nZ) | apply And.intro | refine sZ ?_ | refine CallA.gM [] (hspl) ?_ | refine CallA.gM [] (hnew) ?_ | fail
 all_goals try exact rZ
 all_goals
   (conv => whnf)
   refine loop_rule hT (fun i : Nat => i ≤ ls.length) 57 6 [2, 6, 7, 37, 38, 39] (fun i => [.ptr 0 0, .ptr 5 0, .sl 8 1 i, .sl 1 1 (ws.map B).length, I ls.length, I i]) (fun i => [.cells [I 0, .nilsl, I 0, .nilsl, I 0], Dstr ws, .dead, .dead, .dead, .cells ((stN N ls i).cells 6 7), Di (stN N ls i).xs, Dh (stN N ls i).hs, Dstr (ouN N ls i)]) (fun i => ls.length - i) (0) (Nat.le_of_ble_eq_true rfl) ?_ ?_ ?_
   · exact Nat.zero_le _
   · have hs0 : stN N ls 0 = F0 := by unfold stN; rfl
     have ho0 := ouN_zero N ls
     rw [hs0, ho0]
     first | (exact endH1 [some 2, some 3, some 4])
   · intro i h1
     have hol : ((ouN N ls i).map B).length = i := by rw [List.length_map, ouN_len]
     by_cases hi : i < ls.length
     · have hok := stN_ok N hl i h1
       have hfit := hok.fit
       obtain ⟨g1, g2, g3, -⟩ := N.ok _ (ls.getD i []) hok (hl _ (getD_mem hi))
       have hs1 := stN_next N ls i
       have hs2 := ouN_next N ls i
       unfold RunI at g3
       have hgi := hget i hi
       obtain ⟨F, hF⟩ : ∃ F, F = stN N ls i := ⟨_, rfl⟩
       obtain ⟨p, hp⟩ : ∃ p, p = N.nf (stN N ls i) (ls.getD i []) := ⟨_, rfl⟩
       rw [← hp] at g1 g2 g3 hs1 hs2
       rw [← hF] at g3 hfit ⊢
       rw [hgi] at g3
       have hsn : (ouN N ls i).map B ++ [B p.2] = (ouN N ls (i + 1)).map B := by rw [hs2, List.map_append]; rfl
       have hll : ((ouN N ls i).map B ++ [B p.2]).length = i + 1 := by rw [List.length_append, hol]; rfl
       repeat' (conv => whnf); first | (intro h; try exact nZ) | apply And.intro | refine sZ ?_ | (refine CallA.gM [6, 7] (g3) ?_) | fail
       all_goals first | exact rZ | exact hol.symm | (rw [hol]; show (i + 1) * 16 ≤ _; omega) | (show _ < (ws.map B).length; omega) | (show (_ : Int) < ((ws.map B).length : Int); omega) | (show (_ : Nat) ≤ _; simp; omega) | skip
       all_goals ((conv => whnf); first | (refine ⟨i + 1, by omega, ?_, by omega⟩; rw [hs1]; first | (refine ⟨rfl, [some 9, some 10, some 13], ?_, ?_⟩; (repeat' first | apply And.intro | exact xZ | first | exact hll | exact congrArg D.strs hsn | fail); done) | (refine ⟨rfl, [some 9, some 10, some 12], ?_, ?_⟩; (repeat' first | apply And.intro | exact xZ | first | exact hll | exact congrArg D.strs hsn | fail); done)))
     · obtain rfl : i = ls.length := by omega
       repeat' (conv => whnf); first | (intro h; try exact nZ) | apply And.intro | refine sZ ?_ | fail
       all_goals first | exact rZ | (exfalso; simp at *; done) | skip
       all_goals (conv => whnf); exact endE1 [some 6, some 7, some 8] (.tup [(stN N ls ls.length).val 0 1, .sl 2 1 ls.length, I 0]) [Di (stN N ls ls.length).xs, Dh (stN N ls ls.length).hs, Dstr (ouN N ls ls.length)]
theorem implText_a (N : Nx) (x : List UInt8) (hx : x.length ≤ 3000) (ws ls : List (List UInt8)) (hws : sp 10 x = ws) (h0 : ws ≠ []) (hlast : ws.getD (ws.length - 1) [] = []) (he : ls = ws.take (ws.length - 1)) (h50 : ls.length ≤ 50) (hl : ∀ l ∈ ls, l.length ≤ 1048576) : TxtOut N ls x := by
 refine cZ Tryz.func33 ?_
 have hsz := B_size x
 have hspl := split_call x 10 (by omega)
 rw [hws] at hspl
 have hml : (ws.map B).length = ws.length := List.length_map _
 have hpos := List.length_pos_iff.2 h0
 have hlb : (ws.map B).getD (((ws.map B).length : Int) - 1).toNat ByteArray.empty = ⟨#[]⟩ := by
   rw [show (((ws.map B).length : Int) - 1).toNat = ws.length - 1 by omega, strs_getD, hlast]
 have hlw : ls.length = ws.length - 1 := by rw [he, List.length_take]; omega
 have hget : ∀ i, i < ls.length → Sv (ls.getD i []) = .v (.string ((ws.map B).getD (0 + ((i : Int)).toNat) ByteArray.empty)) := fun i hi => by
   have e : ls.getD i [] = ws.getD i [] := by rw [he, List.getD_eq_getElem?_getD, List.getElem?_take_of_lt (by omega), List.getD_eq_getElem?_getD]
   rw [e, Nat.zero_add]; exact (congrArg (fun b => AV.v (.string b)) (strs_getD ws i)).symm
 have hnew := implNew_call
 repeat' (conv => whnf); first | (intro h; try exact nZ) | apply And.intro | refine sZ ?_ | refine CallA.gM [] (hspl) ?_ | refine CallA.gM [] (hnew) ?_ | fail
 all_goals try exact rZ
 all_goals
   (conv => whnf)
   refine loop_rule hT (fun i : Nat => i ≤ ls.length) 57 6 [2, 6, 7, 37, 38, 39] (fun i => [.ptr 0 0, .ptr 5 0, .sl 8 1 i, .sub 1 1 0 ls.length, I ls.length, I i]) (fun i => [.cells [I 0, .nilsl, I 0, .nilsl, I 0], Dstr ws, .dead, .dead, .dead, .cells ((stN N ls i).cells 6 7), Di (stN N ls i).xs, Dh (stN N ls i).hs, Dstr (ouN N ls i)]) (fun i => ls.length - i) (0) (Nat.le_of_ble_eq_true rfl) ?_ ?_ ?_
   · exact Nat.zero_le _
   · have hs0 : stN N ls 0 = F0 := by unfold stN; rfl
     have ho0 := ouN_zero N ls
     rw [hs0, ho0]
     first | (exact endH1 [some 2, some 3, some 4])
   · intro i h1
     have hol : ((ouN N ls i).map B).length = i := by rw [List.length_map, ouN_len]
     by_cases hi : i < ls.length
     · have hok := stN_ok N hl i h1
       have hfit := hok.fit
       obtain ⟨g1, g2, g3, -⟩ := N.ok _ (ls.getD i []) hok (hl _ (getD_mem hi))
       have hs1 := stN_next N ls i
       have hs2 := ouN_next N ls i
       unfold RunI at g3
       have hgi := hget i hi
       obtain ⟨F, hF⟩ : ∃ F, F = stN N ls i := ⟨_, rfl⟩
       obtain ⟨p, hp⟩ : ∃ p, p = N.nf (stN N ls i) (ls.getD i []) := ⟨_, rfl⟩
       rw [← hp] at g1 g2 g3 hs1 hs2
       rw [← hF] at g3 hfit ⊢
       rw [hgi] at g3
       have hsn : (ouN N ls i).map B ++ [B p.2] = (ouN N ls (i + 1)).map B := by rw [hs2, List.map_append]; rfl
       have hll : ((ouN N ls i).map B ++ [B p.2]).length = i + 1 := by rw [List.length_append, hol]; rfl
       repeat' (conv => whnf); first | (intro h; try exact nZ) | apply And.intro | refine sZ ?_ | (refine CallA.gM [6, 7] (g3) ?_) | fail
       all_goals first | exact rZ | exact hol.symm | (rw [hol]; show (i + 1) * 16 ≤ _; omega) | (show _ < (ws.map B).length; omega) | (show (_ : Int) < ((ws.map B).length : Int); omega) | (show (_ : Nat) ≤ _; simp; omega) | skip
       all_goals ((conv => whnf); first | (refine ⟨i + 1, by omega, ?_, by omega⟩; rw [hs1]; first | (refine ⟨rfl, [some 9, some 10, some 13], ?_, ?_⟩; (repeat' first | apply And.intro | exact xZ | first | exact hll | exact congrArg D.strs hsn | fail); done) | (refine ⟨rfl, [some 9, some 10, some 12], ?_, ?_⟩; (repeat' first | apply And.intro | exact xZ | first | exact hll | exact congrArg D.strs hsn | fail); done)))
     · obtain rfl : i = ls.length := by omega
       repeat' (conv => whnf); first | (intro h; try exact nZ) | apply And.intro | refine sZ ?_ | fail
       all_goals first | exact rZ | (exfalso; simp at *; done) | skip
       all_goals (conv => whnf); exact endE1 [some 6, some 7, some 8] (.tup [(stN N ls ls.length).val 0 1, .sl 2 1 ls.length, I 0]) [Di (stN N ls ls.length).xs, Dh (stN N ls ls.length).hs, Dstr (ouN N ls ls.length)]
end
end Go.Proofs.YtglbamncajileaaGreatDoor
