/-
  Policies and life tables as texts: written and read by the program and by the reference. No conditions but those in the statements.
-/
import Derived.Test.YtglbamncajileaaGreatDoorSc
import Derived.Test.YtglbamncajileaaGreatDoorStp
import Derived.Test.YtglbamncajileaaGreatDoorCma
set_option linter.unusedVariables false
set_option linter.unusedSimpArgs false
set_option maxRecDepth 100000
set_option maxHeartbeats 2000000
namespace Go.Proofs.YtglbamncajileaaGreatDoor
open Go.AE Go.Lib
attribute [local irreducible] CallA LoopA DrawA CallQ arithK quoK remK eqK
abbrev mon5 (xs : List Int) : Prop := allR xs (-1000000000000) 1000000000000
def ptx (xs : List Int) : List UInt8 := if mon5 xs then rt xs else []
theorem mon_okI {xs : List Int} (h : mon5 xs) : ∀ x ∈ xs, okI x := fun x hx => by
 have := h x hx
 unfold okI
 omega
theorem rt_le {xs : List Int} (h : xs.length = 5) (hm : mon5 xs) : (rt xs).length ≤ 145 := by
 have := jn_len (s := [44]) (mon_okI hm) (by decide) xs.length (Nat.le_refl _)
 rw [jn_all, h] at this
 exact this
theorem implPText_ret (k a y s l : Int) : Rt 195 [Po k a y s l] (Sv (ptx [k, a, y, s, l])) := by
 refine bZ Tryz.func195 ?_
 have h0 := allIn_ret [k, a, y, s, l] (-1000000000000) 1000000000000 (by simp)
 unfold ptx
 by_cases hm : mon5 [k, a, y, s, l]
 · rw [if_pos hm]
   rw [decide_eq_true hm] at h0
   have hj := joined_ret [k, a, y, s, l] (by simp) (mon_okI hm)
   have hl := rt_le (xs := [k, a, y, s, l]) rfl hm
   have hlj : (join ([k, a, y, s, l].map itoa) [32]).length ≤ 145 := by
     have := jn_len (s := [32]) (mon_okI hm) (by decide) 5 (Nat.le_refl _)
     rwa [show (5 : Nat) = [k, a, y, s, l].length from rfl, jn_all] at this
   have hr := replaceAll_ret (join ([k, a, y, s, l].map itoa) [32]) 32 44 (by omega)
   rw [comma_blank] at hr
   repeat' (conv => whnf); first | (intro h; try exact nZ) | apply And.intro | refine sZ ?_ | refine Ret.uB (h0) ?_ | refine Ret.uA (hj) ?_ | (refine Ret.go (hr) rfl rfl ?_) | fail
   all_goals first | exact rZ
 · rw [if_neg hm]
   rw [decide_eq_false hm] at h0
   repeat' (conv => whnf); first | (intro h; try exact nZ) | apply And.intro | refine sZ ?_ | refine Ret.uB (h0) ?_ | fail
   all_goals first | exact rZ
theorem specPText_ret (k a y s l : Int) : Rt 90 [Po k a y s l] (Sv (ptx [k, a, y, s, l])) := by
 refine bZ Tryz.func90 ?_
 have h0 := l01Within_ret [k, a, y, s, l] 5 (-1000000000000) 1000000000000 (by simp)
 unfold ptx
 by_cases hm : mon5 [k, a, y, s, l]
 · rw [if_pos hm]
   rw [decide_eq_true ⟨hm, by simp⟩] at h0
   have hj := l01Join_ret [k, a, y, s, l] [44] (by simp) (mon_okI hm) (by decide)
   repeat' (conv => whnf); first | (intro h; try exact nZ) | apply And.intro | refine sZ ?_ | refine Ret.uB (h0) ?_ | refine Ret.uA (hj) ?_ | fail
   all_goals first | exact rZ
 · rw [if_neg hm]
   rw [decide_eq_false fun h => hm h.1] at h0
   repeat' (conv => whnf); first | (intro h; try exact nZ) | apply And.intro | refine sZ ?_ | refine Ret.uB (h0) ?_ | fail
   all_goals first | exact rZ
structure PAcc (s : List UInt8) (xs : List Int) : Prop where
 len : xs.length = 5
 mon : mon5 xs
 eq : s = rt xs
theorem PAcc.ne {s : List UInt8} {xs : List Int} (h : PAcc s xs) : xs ≠ [] := fun e => by have := h.len; rw [e] at this; cases this
theorem PAcc.sp {s : List UInt8} {xs : List Int} (h : PAcc s xs) : Go.AE.sp 44 s = xs.map itoa := by rw [h.eq]; exact sp_rt h.ne
theorem PAcc.uniq {s : List UInt8} {x y : List Int} (h : PAcc s x) (k : PAcc s y) : x = y := map_itoa_inj (by rw [← h.sp, ← k.sp])
theorem mon_sm {xs : List Int} (h : mon5 xs) : ∀ x ∈ xs, sm x := fun x hx => by
 have := h x hx
 unfold sm
 omega
abbrev WPo (xs : List Int) : AV := Po (xs.getD 0 0) (xs.getD 1 0) (xs.getD 2 0) (xs.getD 3 0) (xs.getD 4 0)
theorem len5 {xs : List Int} (h : xs.length = 5) : [xs.getD 0 0, xs.getD 1 0, xs.getD 2 0, xs.getD 3 0, xs.getD 4 0] = xs := by
 obtain _ | ⟨a, _ | ⟨b, _ | ⟨c, _ | ⟨d, _ | ⟨e, _ | ⟨g, r⟩⟩⟩⟩⟩⟩ := xs
 all_goals first | rfl | simp at h
theorem rt_ne {xs : List Int} (h : xs.length = 5) : rt xs ≠ [] := fun e => by
 have hne : xs ≠ [] := fun q => by rw [q] at h; cases h
 have h1 := sp_rt hne
 rw [e] at h1
 have h2 : (Go.AE.sp 44 ([] : List UInt8)).length = 1 := by rw [sp_len]; simp
 rw [h1, List.length_map, h] at h2
 cases h2
attribute [local irreducible] numX allN sgnB sgnN
theorem specRP_ret (s : List UInt8) (hn : s.length ≤ 1048576) (xs : List Int) (ok : Bool) (h : (PAcc s xs ∧ ok = true) ∨ ((∀ ys, ¬ PAcc s ys) ∧ xs = [0, 0, 0, 0, 0] ∧ ok = false)) : Rt 113 [Sv s] (.tup [WPo xs, Bo ok]) := by
 refine bZ Tryz.func113 ?_
 have hsc := l01Split_call s 44 hn
 have hps := sp_short (c := 44) hn
 have hpl := sp_many (c := 44) (l := s)
 have hnum := l01Numbers_call (sp 44 s) (by omega) fun w hw => hps w hw
 by_cases ha : allN (sp 44 s)
 · rw [decide_eq_true ha] at hnum
   obtain ⟨zs, z1, z2, z3⟩ := allN_inv ha
   rw [z3] at hnum
   by_cases h5 : zs.length = 5
   · have hpt := specPText_ret (zs.getD 0 0) (zs.getD 1 0) (zs.getD 2 0) (zs.getD 3 0) (zs.getD 4 0)
     rw [len5 h5] at hpt
     have hs : s = rt zs := by unfold rt; rw [← z2, join_sp]
     unfold ptx at hpt
     by_cases hm : mon5 zs
     · rw [if_pos hm] at hpt
       have hne : B (rt zs) ≠ ⟨#[]⟩ := fun e => rt_ne h5 (B_inj.1 e)
       have hA : PAcc s zs := ⟨h5, hm, hs⟩
       rcases h with ⟨h, rfl⟩ | ⟨h, _⟩
       · obtain rfl := h.uniq hA
         repeat' (conv => whnf); first | (intro h; try exact nZ) | apply And.intro | refine sZ ?_ | refine CallA.gM [] (hsc) ?_ | refine CallA.gM [] (hnum) ?_ | refine Ret.uA (hpt) ?_ | fail
         all_goals first | exact rZ
       · exact absurd hA (h zs)
     · rw [if_neg hm] at hpt
       rcases h with ⟨h, rfl⟩ | ⟨h, rfl, rfl⟩
       · have := map_itoa_inj (h.sp.symm.trans z2)
         subst this
         exact absurd h.mon hm
       · repeat' (conv => whnf); first | (intro h; try exact nZ) | apply And.intro | refine sZ ?_ | refine CallA.gM [] (hsc) ?_ | refine CallA.gM [] (hnum) ?_ | refine Ret.uA (hpt) ?_ | fail
         all_goals first | exact rZ
   · rcases h with ⟨h, rfl⟩ | ⟨h, rfl, rfl⟩
     · have := map_itoa_inj (h.sp.symm.trans z2)
       subst this
       exact absurd h.len h5
     · repeat' (conv => whnf); first | (intro h; try exact nZ) | apply And.intro | refine sZ ?_ | refine CallA.gM [] (hsc) ?_ | refine CallA.gM [] (hnum) ?_ | fail
       all_goals first | exact rZ
 · rw [decide_eq_false ha] at hnum
   rcases h with ⟨h, rfl⟩ | ⟨h, rfl, rfl⟩
   · exact absurd (h.sp ▸ (allN_itoa (mon_sm h.mon)).1) ha
   · repeat' (conv => whnf); first | (intro h; try exact nZ) | apply And.intro | refine sZ ?_ | refine CallA.gM [] (hsc) ?_ | refine CallA.gM [] (hnum) ?_ | fail
     all_goals first | exact rZ
theorem tbl_in {f : Int} {ls : List Int} (h : okT f ls) : (0 ≤ f ∧ f ≤ 100) ∧ ∀ x ∈ ls, 0 ≤ x ∧ x ≤ 1000000 := by
 have h0 := h.1
 unfold hdT at h0
 refine ⟨h0.2.1, fun x hx => ?_⟩
 obtain ⟨i, hi, rfl⟩ := List.getElem_of_mem hx
 have hb := lv_bd h (f + i)
 unfold lv at hb
 rw [if_pos (by omega), show (f + (i : Int) - f).toNat = i by omega, getD_lt hi] at hb
 exact hb
abbrev tlN (ns : List Int) : List Int := (ns.drop (Int.toNat 1)).take (ns.length - Int.toNat 1)
theorem tlN_len {ns : List Int} : (tlN ns).length = ns.length - 1 := by simp [tlN]
theorem tlN_cons {ns : List Int} (h : 2 ≤ ns.length) : ns = ns.getD 0 0 :: tlN ns := by
 obtain _ | ⟨a, r⟩ := ns
 · simp at h
 · simp [tlN]
theorem tbl_nums {ns : List Int} (h : 2 ≤ ns.length) (ho : okT (ns.getD 0 0) (tlN ns)) : ∀ x ∈ ns, 0 ≤ x := fun x hx => by
 have hi := tbl_in ho
 rw [tlN_cons h] at hx
 rcases List.mem_cons.1 hx with rfl | hx
 · exact hi.1.1
 · exact (hi.2 x hx).1
abbrev jb (ns : List Int) : List UInt8 := join (ns.map itoa) [32]
theorem jb_le {ns : List Int} (h : ns.length ≤ 1000) (hs : ∀ x ∈ ns, sm x) : (jb ns).length ≤ 29000 := by
 have := jn_len (s := [32]) (xs := ns) (fun x hx => by have := hs x hx; unfold sm at this; unfold okI; omega) (by decide) ns.length (Nat.le_refl _)
 rw [jn_all] at this
 show (join (ns.map itoa) [32]).length ≤ _
 omega
theorem jb_sp {ns : List Int} (h : 2 ≤ ns.length) : Go.AE.sp 32 (jb ns) = ns.map itoa := sp_ints (by decide) (by decide) fun e => by rw [e] at h; simp at h
attribute [local irreducible] okT
theorem implRT_yes (ns : List Int) (h2 : 2 ≤ ns.length) (hm : ns.length ≤ 1000) (hs : ∀ x ∈ ns, sm x) (ho : okT (ns.getD 0 0) (tlN ns)) :
   Ca 132 [Sv (jb ns)] [] (fun v J => v = .tup [.agg [I (ns.getD 0 0), .sub 0 1 1 (ns.length - 1)], Bo true] ∧ J = [Di ns]) := by
 refine cZ Tryz.func132 ?_
 have hl := jb_le hm hs
 have hfit : Int.toNat 1 + (ns.length - Int.toNat 1) ≤ (D.ints .i64 ns).len := by show 1 + (ns.length - 1) ≤ ns.length; omega
 have hsp := jb_sp h2
 have hr := readJoined_call (jb ns) (by omega) (sp_short (by omega)) (by rw [hsp, List.length_map]; omega)
 have hN : isNums (ns.map itoa) ns := ⟨fun x hx => ⟨tbl_nums h2 ho x hx, by have := hs x hx; unfold sm at this; omega⟩, rfl⟩
 obtain ⟨e1, e2⟩ := rd_yes hN
 rw [hsp, e1, e2] at hr
 have ht := implTable_ret (ns.getD 0 0) (tlN ns) (by rw [tlN_len]; omega)
 rw [decide_eq_true ho] at ht
 repeat' (conv => whnf); first | (intro h; try exact nZ) | apply And.intro | refine sZ ?_ | refine CallA.gM [] (hr) ?_ | refine Ret.uB (ht) ?_ | fail
 all_goals try exact rZ
 all_goals ((conv => whnf); first | (exact endE1 [some 1] (.tup [.agg [I (ns.getD 0 0), .sub 0 1 1 (ns.length - 1)], Bo true]) [Di ns]) | (exact endE1 [some 0] (.tup [.agg [I (ns.getD 0 0), .sub 0 1 1 (ns.length - 1)], Bo true]) [Di ns]))
theorem implRT_no (ns : List Int) (h2 : 2 ≤ ns.length) (hm : ns.length ≤ 1000) (hs : ∀ x ∈ ns, sm x) (ho : ¬ okT (ns.getD 0 0) (tlN ns)) :
   Ca 132 [Sv (jb ns)] [] (fun v J => v = .tup [.agg [I 0, .nilsl], Bo false] ∧ J = []) := by
 refine cZ Tryz.func132 ?_
 have hl := jb_le hm hs
 have hfit : Int.toNat 1 + (ns.length - Int.toNat 1) ≤ (D.ints .i64 ns).len := by show 1 + (ns.length - 1) ≤ ns.length; omega
 have hsp := jb_sp h2
 have hr := readJoined_call (jb ns) (by omega) (sp_short (by omega)) (by rw [hsp, List.length_map]; omega)
 rw [hsp] at hr
 by_cases hN : ∀ x ∈ ns, 0 ≤ x
 · have hN : isNums (ns.map itoa) ns := ⟨fun x hx => ⟨hN x hx, by have := hs x hx; unfold sm at this; omega⟩, rfl⟩
   obtain ⟨e1, e2⟩ := rd_yes hN
   rw [e1, e2] at hr
   have ht := implTable_ret (ns.getD 0 0) (tlN ns) (by rw [tlN_len]; omega)
   rw [decide_eq_false ho] at ht
   repeat' (conv => whnf); first | (intro h; try exact nZ) | apply And.intro | refine sZ ?_ | refine CallA.gM [] (hr) ?_ | refine Ret.uB (ht) ?_ | fail
   all_goals try exact rZ
   all_goals (conv => whnf); exact endE1 [] (.tup [.agg [I 0, .nilsl], Bo false]) []
 · obtain ⟨e1, e2⟩ := rd_no (ws := ns.map itoa) fun xs hx => hN fun x hx2 => by
     have := map_itoa_inj hx.2
     subst this
     exact (hx.1 x hx2).1
   rw [e1, e2] at hr
   repeat' (conv => whnf); first | (intro h; try exact nZ) | apply And.intro | refine sZ ?_ | refine CallA.gM [] (hr) ?_ | fail
   all_goals try exact rZ
   all_goals (conv => whnf); exact endE1 [] (.tup [.agg [I 0, .nilsl], Bo false]) []
theorem specRT_call (ns : List Int) (h2 : 2 ≤ ns.length) (hm : ns.length ≤ 1000) (hs : ∀ x ∈ ns, sm x) (ho : okT (ns.getD 0 0) (tlN ns)) :
   Ca 111 [Sv (jb ns)] [] (fun v J => v = .tup [.agg [I (ns.getD 0 0), .sub 0 1 1 (ns.length - 1)], Bo true] ∧ J = [Di ns]) := by
 refine cZ Tryz.func111 ?_
 have hl := jb_le hm hs
 have hfit : Int.toNat 1 + (ns.length - Int.toNat 1) ≤ (D.ints .i64 ns).len := by show 1 + (ns.length - 1) ≤ ns.length; omega
 have hsp := jb_sp h2
 have hsc := l01Split_call (jb ns) 32 (by omega)
 have hml : (ns.map itoa).length = ns.length := List.length_map _
 have hsh := sp_short (c := 32) (l := jb ns) (n := 1048576) (by omega)
 rw [hsp] at hsc hsh
 have hnum := l01Numbers_call (ns.map itoa) (by omega) hsh
 obtain ⟨a1, a2⟩ := allN_itoa hs
 rw [a2, decide_eq_true a1] at hnum
 have ht := specTable_ret (ns.getD 0 0) (tlN ns) (by rw [tlN_len]; omega)
 rw [decide_eq_true ho] at ht
 repeat' (conv => whnf); first | (intro h; try exact nZ) | apply And.intro | refine sZ ?_ | refine CallA.gM [] (hsc) ?_ | refine CallA.gM [] (hnum) ?_ | refine Ret.uB (ht) ?_ | fail
 all_goals try exact rZ
 all_goals ((conv => whnf); first | (exact endE1 [some 1] (.tup [.agg [I (ns.getD 0 0), .sub 0 1 1 (ns.length - 1)], Bo true]) [Di ns]) | (exact endE1 [some 2] (.tup [.agg [I (ns.getD 0 0), .sub 0 1 1 (ns.length - 1)], Bo true]) [Di ns]))
theorem specRT_yes (ns : List Int) (h2 : 2 ≤ ns.length) (hm : ns.length ≤ 1000) (hs : ∀ x ∈ ns, sm x) (ho : okT (ns.getD 0 0) (tlN ns)) :
   Ca 111 [Sv (jb ns)] [] (fun v J => v = .tup [Tb (ns.getD 0 0) (tlN ns), Bo true] ∧ J = []) :=
 CallA.frozen ((specRT_call ns h2 hm hs ho).mono fun v J ⟨h1, h2'⟩ => by
   subst h1 h2'
   exact ⟨.tup [Tb (ns.getD 0 0) (tlN ns), Bo true], ⟨⟨(by first | exact rfl | exact ⟨rfl, rfl⟩), ⟨rfl, rfl, rfl, (by show 1 + (ns.length - 1) ≤ ns.length; omega), rfl⟩, trivial⟩, amE_self rfl, trivial⟩, rfl, rfl⟩)
theorem specRT_no (ns : List Int) (h2 : 2 ≤ ns.length) (hm : ns.length ≤ 1000) (hs : ∀ x ∈ ns, sm x) (ho : ¬ okT (ns.getD 0 0) (tlN ns)) :
   Ca 111 [Sv (jb ns)] [] (fun v J => v = .tup [.agg [I 0, .nilsl], Bo false] ∧ J = []) := by
 refine cZ Tryz.func111 ?_
 have hl := jb_le hm hs
 have hfit : Int.toNat 1 + (ns.length - Int.toNat 1) ≤ (D.ints .i64 ns).len := by show 1 + (ns.length - 1) ≤ ns.length; omega
 have hsp := jb_sp h2
 have hsc := l01Split_call (jb ns) 32 (by omega)
 have hml : (ns.map itoa).length = ns.length := List.length_map _
 have hsh := sp_short (c := 32) (l := jb ns) (n := 1048576) (by omega)
 rw [hsp] at hsc hsh
 have hnum := l01Numbers_call (ns.map itoa) (by omega) hsh
 obtain ⟨a1, a2⟩ := allN_itoa hs
 rw [a2, decide_eq_true a1] at hnum
 have ht := specTable_ret (ns.getD 0 0) (tlN ns) (by rw [tlN_len]; omega)
 rw [decide_eq_false ho] at ht
 repeat' (conv => whnf); first | (intro h; try exact nZ) | apply And.intro | refine sZ ?_ | refine CallA.gM [] (hsc) ?_ | refine CallA.gM [] (hnum) ?_ | refine Ret.uB (ht) ?_ | fail
 all_goals try exact rZ
 all_goals (conv => whnf); exact endE1 [] (.tup [.agg [I 0, .nilsl], Bo false]) []
end Go.Proofs.YtglbamncajileaaGreatDoor
