/-
  Policies read by the program: what the function returns. What commands that change the holdings need. No conditions but those in the statements.
-/
import Derived.Test.YtglbamncajileaaGreatDoorDel
import Derived.Test.YtglbamncajileaaGreatDoorUtx
import Derived.Test.YtglbamncajileaaGreatDoorUch
set_option linter.unusedVariables false
set_option linter.unusedSimpArgs false
set_option maxRecDepth 100000
set_option maxHeartbeats 4000000
namespace Go.Proofs.YtglbamncajileaaGreatDoor
open Go.AE Go.Lib
section
attribute [local irreducible] CallA LoopA DrawA CallQ arithK quoK remK eqK
structure RdP (ws : List (List UInt8)) (i : Nat) (xs : List Int) : Prop where
 le : i ≤ ws.length
 len : xs.length = i
 five : i ≤ 5
 at_ : ∀ j, j < i → parseIntB 64 (ws.getD j []) = .ok (xs.getD j 0)
theorem RdP.next {ws : List (List UInt8)} {i : Nat} {xs : List Int} (h : RdP ws i xs) (hi : i < ws.length) (h5 : i ≠ 5) {v : Int} (hv : parseIntB 64 (ws.getD i []) = .ok v) : RdP ws (i + 1) (xs ++ [v]) :=
 ⟨hi, by rw [List.length_append, h.len]; rfl, by have := h.five; omega, fun j hj => by
   have hl := h.len
   by_cases e : j < i
   · rw [h.at_ j e, List.getD_eq_getElem?_getD, List.getD_eq_getElem?_getD, List.getElem?_append_left (by omega)]
   · obtain rfl : j = i := by omega
     rw [hv, List.getD_eq_getElem?_getD, List.getElem?_append_right (by omega), hl]
     simp⟩
theorem PAcc.parse {s : List UInt8} {zs : List Int} (h : PAcc s zs) {j : Nat} (hj : j < (Go.AE.sp 44 s).length) : parseIntB 64 ((Go.AE.sp 44 s).getD j []) = .ok (zs.getD j 0) ∧ j < 5 := by
 rw [h.sp] at hj ⊢
 rw [List.length_map, h.len] at hj
 have hz : j < zs.length := by rw [h.len]; exact hj
 refine ⟨?_, hj⟩
 rw [List.getD_eq_getElem?_getD, List.getElem?_map, List.getD_eq_getElem?_getD, List.getElem?_eq_getElem hz]
 have := h.mon _ (List.getElem_mem hz)
 exact parse_itoa (by omega) (by omega)
theorem PAcc.rd {s : List UInt8} {zs xs : List Int} (h : PAcc s zs) (k : RdP (Go.AE.sp 44 s) (Go.AE.sp 44 s).length xs) : xs = zs := by
 have hl : (Go.AE.sp 44 s).length = 5 := by rw [h.sp, List.length_map, h.len]
 refine List.ext_getElem (by rw [k.len, hl, h.len]) fun j h1 h2 => ?_
 have e := (k.at_ j (by rw [← k.len]; exact h1)).symm.trans (h.parse (j := j) (by rw [← k.len]; exact h1)).1
 injection e with e
 rw [getD_lt h1, getD_lt h2] at e
 exact e
def pad5 (xs : List Int) : List Int := xs ++ List.replicate (5 - xs.length) 0
theorem pad5_len {xs : List Int} (h : xs.length ≤ 5) : (pad5 xs).length = 5 := by simp [pad5]; omega
theorem pad5_eq {xs : List Int} (h : xs.length ≤ 5) : [(pad5 xs).getD 0 0, (pad5 xs).getD 1 0, (pad5 xs).getD 2 0, (pad5 xs).getD 3 0, (pad5 xs).getD 4 0] = pad5 xs := len5 (pad5_len h)
theorem rp_end {s : List UInt8} {xs : List Int} (k : RdP (Go.AE.sp 44 s) (Go.AE.sp 44 s).length xs) : (B (ptx (pad5 xs)) = B s → PAcc s (pad5 xs)) ∧ (B (ptx (pad5 xs)) ≠ B s → ∀ ys, ¬ PAcc s ys) := by
 have h5 : xs.length ≤ 5 := by rw [k.len]; exact k.five
 refine ⟨fun e => ?_, fun e ys hy => ?_⟩
 · have e := B_inj.1 e
   unfold ptx at e
   by_cases hm : mon5 (pad5 xs)
   · rw [if_pos hm] at e
     exact ⟨pad5_len h5, hm, e.symm⟩
   · rw [if_neg hm] at e
     have h1 := k.at_ 0 (by have := sp_ne 44 s; exact List.length_pos_iff.2 this)
     rw [← e] at h1
     have : parseIntB 64 ((Go.AE.sp 44 ([] : List UInt8)).getD 0 []) ≠ .ok (xs.getD 0 0) := by
       rw [show Go.AE.sp 44 ([] : List UInt8) = [[]] from by rw [sp_miss (by simp)]]
       intro q
       cases q
     exact absurd h1 this
 · have hx := hy.rd k
   have hl : xs.length = 5 := by rw [hx, hy.len]
   have hp : pad5 xs = ys := by unfold pad5; rw [hl, hx]; simp
   refine e ?_
   rw [hp]
   unfold ptx
   rw [if_pos hy.mon, hy.eq]
attribute [local irreducible] ptx pad5
theorem implRP_ret (s : List UInt8) (hn : s.length ≤ 1048576) (zs : List Int) (ok : Bool) (hA : (PAcc s zs ∧ ok = true) ∨ ((∀ ys, ¬ PAcc s ys) ∧ zs = [0, 0, 0, 0, 0] ∧ ok = false)) : Rt 134 [Sv s] (.tup [WPo zs, Bo ok]) := by
 refine bZ Tryz.func134 ?_
 have hsc := split_call s 44 (by omega)
 have hps := sp_short (c := 44) hn
 have hpl := sp_many (c := 44) (l := s)
 obtain ⟨ws, hwe⟩ : ∃ ws, ws = Go.AE.sp 44 s := ⟨_, rfl⟩
 have hrp := fun (xs : List Int) (k : RdP (Go.AE.sp 44 s) (Go.AE.sp 44 s).length xs) => rp_end k
 have hpp := fun (zs : List Int) (h : PAcc s zs) (j : Nat) (hj : j < (Go.AE.sp 44 s).length) => h.parse hj
 rw [← hwe] at hsc hps hpl hrp hpp
 have hml : (ws.map B).length = ws.length := List.length_map _
 have hno : ∀ {i : Nat}, i < ws.length → (i = 5 ∨ ∀ v, parseIntB 64 (ws.getD i []) ≠ .ok v) → zs = [0, 0, 0, 0, 0] ∧ ok = false := fun {i} hi hh => by
   rcases hA with ⟨h, _⟩ | ⟨_, h⟩
   · obtain ⟨p1, p2⟩ := hpp zs h i hi
     rcases hh with rfl | hh
     · omega
     · exact absurd p1 (hh _)
   · exact h
 repeat' (conv => whnf); first | (intro h; try exact nZ) | apply And.intro | refine sZ ?_ | refine CallA.gM [] (hsc) ?_ | fail
 all_goals try exact rZ
 (conv => whnf)
 refine loop_rule hT (fun q : Nat × List Int => RdP ws q.1 q.2) 65 3 [0, 2, 4, 12, 13, 14] (fun q => [Sv s, .ptr 0 0, .sl 3 1 q.2.length, .sl 2 1 (ws.map B).length, I (ws.map B).length, I q.1]) (fun q => [.cells [I 0, I 0, I 0, I 0, I 0], .dead, .data (.strs (ws.map B)), .data (.ints .i64 q.2)]) (fun q => ws.length - q.1) ((0, [])) (Nat.le_of_ble_eq_true rfl) ?_ ?_ ?_
 · exact ⟨Nat.zero_le _, rfl, Nat.zero_le _, fun j hj => absurd hj (Nat.not_lt_zero j)⟩
 · first | (exact endH1 [some 1])
 · rintro ⟨i, xs⟩ hR
   dsimp only at hR ⊢
   have hle := hR.le
   have hxl := hR.len
   have h5 := hR.five
   by_cases hi : i < ws.length
   · have hwl := hps _ (getD_mem (d := ([] : List UInt8)) hi)
     have hsg : Sv (ws.getD i []) = .v (.string ((ws.map B).getD ((i : Int)).toNat ByteArray.empty)) := (congrArg (fun b => AV.v (.string b)) (strs_getD ws i)).symm
     by_cases hv : ∃ v, parseIntB 64 (ws.getD i []) = .ok v
     · obtain ⟨v, hv⟩ := hv
       have hp := parse_ok (ws.getD i []) (by omega) v hv
       rw [hsg] at hp
       by_cases h5i : i = 5
       · obtain ⟨rfl, rfl⟩ := hno hi (.inl h5i)
         repeat' (conv => whnf); first | (intro h; try exact nZ) | apply And.intro | refine sZ ?_ | (refine Ret.go (hp) rfl rfl ?_) | fail
         all_goals first | exact rZ | (show (_ : Int) < ((ws.map B).length : Int); omega)
       · have hnx := hR.next hi h5i hv
         repeat' (conv => whnf); first | (intro h; try exact nZ) | apply And.intro | refine sZ ?_ | (refine Ret.go (hp) rfl rfl ?_) | fail
         all_goals first | exact rZ | (show (_ : Int) < ((ws.map B).length : Int); omega) | (show (_ : Nat) ≤ _; simp; omega) | skip
         all_goals ((conv => whnf); first | (refine ⟨(i + 1, xs ++ [v]), hnx, ?_, by dsimp only; omega⟩; first | (refine ⟨rfl, [some 5], ?_, ?_⟩; (repeat' first | apply And.intro | exact xZ | ((try dsimp only); exact rfl) | fail); done) | (refine ⟨rfl, [some 4], ?_, ?_⟩; (repeat' first | apply And.intro | exact xZ | ((try dsimp only); exact rfl) | fail); done)))
     · have hp := parse_bad (ws.getD i []) (by omega) fun v hh => hv ⟨v, hh⟩
       rw [hsg] at hp
       obtain ⟨rfl, rfl⟩ := hno hi (.inr fun v hh => hv ⟨v, hh⟩)
       repeat' (conv => whnf); first | (intro h; try exact nZ) | apply And.intro | refine sZ ?_ | refine Ret.uA (hp) ?_ | fail
       all_goals first | exact rZ | (show (_ : Int) < ((ws.map B).length : Int); omega)
   · obtain rfl : i = ws.length := by omega
     obtain ⟨r1, r2⟩ := hrp xs hR
     have hfl : [xs, List.replicate ((5 : Int) - xs.length).toNat 0].flatten = pad5 xs := by
       unfold pad5
       rw [show ((5 : Int) - xs.length).toNat = 5 - xs.length by omega]
       simp
     have hpl5 := pad5_len (xs := xs) (by omega)
     have hrep : ((5 : Int) - xs.length).toNat = (List.replicate ((5 : Int) - xs.length).toNat (0 : Int)).length := (List.length_replicate ..).symm
     have hc := concat_call [xs, List.replicate ((5 : Int) - xs.length).toNat 0] (by rw [hfl, hpl5]; decide) (by rw [hfl, hpl5]; decide) (by show 2 ≤ 10; decide)
     rw [hfl, hpl5] at hc
     have hpt := implPText_ret ((pad5 xs).getD 0 0) ((pad5 xs).getD 1 0) ((pad5 xs).getD 2 0) ((pad5 xs).getD 3 0) ((pad5 xs).getD 4 0)
     rw [pad5_eq (by omega)] at hpt
     by_cases he : B (ptx (pad5 xs)) = B s
     · have hP := r1 he
       obtain ⟨rfl, rfl⟩ : zs = pad5 xs ∧ ok = true := by
         rcases hA with ⟨h, h'⟩ | ⟨h, _⟩
         · exact ⟨h.uniq hP, h'⟩
         · exact absurd hP (h _)
       repeat' (conv => whnf); first | (intro h; try exact nZ) | apply And.intro | refine sZ ?_ | refine CallA.gM [] (hc) ?_ | refine Ret.uA (hpt) ?_ | fail
       all_goals first | exact rZ | exact hrep
     · have hP := r2 he
       obtain ⟨rfl, rfl⟩ : zs = [0, 0, 0, 0, 0] ∧ ok = false := by
         rcases hA with ⟨h, h'⟩ | ⟨_, h⟩
         · exact absurd h (hP _)
         · exact h
       repeat' (conv => whnf); first | (intro h; try exact nZ) | apply And.intro | refine sZ ?_ | refine CallA.gM [] (hc) ?_ | refine Ret.uA (hpt) ?_ | fail
       all_goals first | exact rZ | exact hrep
end
section
attribute [local irreducible] CallA LoopA DrawA CallQ arithK quoK remK eqK
attribute [local irreducible] okF okT
theorem cloneH_call (hs : List (List Int)) (hn : hs.length ≤ 1048576) : Ca 135 [Rh hs] [] (fun v J => v = .sl 0 7 hs.length ∧ J = [Dh hs]) := by
 refine cZ Tryz.func135 ?_
 repeat' (conv => whnf); first | (intro h; try exact nZ) | apply And.intro | refine dZ ?_ | refine sZ ?_ | fail
 all_goals first | exact rZ | (show (_ : Nat) ≤ _; simp; omega) | skip
 all_goals ((conv => whnf); first
   | (obtain rfl := List.eq_nil_of_length_eq_zero h; (exact endE1 [none] (.sl 0 7 0) [Dh []]))
   | (exact endE1 [some 1] (.sl 0 7 hs.length) [Dh hs])
  )
theorem lenH_ret (hs : List (List Int)) : Rt 136 [Rh hs] (I hs.length) := by
 refine bZ Tryz.func136 ?_
 repeat' (conv => whnf); first | (intro h; try exact nZ) | apply And.intro | refine dZ ?_ | refine sZ ?_ | fail
 all_goals first | exact rZ
abbrev Fu.own (F : Fu) (k : Nat) : AV := .agg [I F.f, Ri F.ls, I F.r, .sl k 7 F.hs.length, I F.d]
theorem valid_own (F : Fu) (hF : F.lax) (h : okF F.f F.ls F.r F.hs ∧ okD F.d) : Ca 116 [F.own 0] [Dh F.hs] (fun v J => v = .tup [F.own 0, I 0] ∧ J = [Dh F.hs]) := by
 refine cZ Tryz.func116 ?_
 have hs := specSoc_ret F.f F.ls F.r F.hs F.d hF.nb hF.hb
 rw [decide_eq_true h] at hs
 repeat' (conv => whnf); first | (intro h; try exact nZ) | apply And.intro | refine sZ ?_ | refine Ret.uB (hs) ?_ | fail
 all_goals try exact rZ
 all_goals (conv => whnf); exact endE1 [] (.tup [F.own 0, I 0]) [Dh F.hs]
theorem valid_ownN (F : Fu) (hF : F.lax) (h : ¬ (okF F.f F.ls F.r F.hs ∧ okD F.d)) : Ca 116 [F.own 0] [Dh F.hs] (fun v J => v = .tup [SocZ, I 1] ∧ J = [.dead]) := by
 refine cZ Tryz.func116 ?_
 have hs := specSoc_ret F.f F.ls F.r F.hs F.d hF.nb hF.hb
 rw [decide_eq_false h] at hs
 repeat' (conv => whnf); first | (intro h; try exact nZ) | apply And.intro | refine sZ ?_ | refine Ret.uB (hs) ?_ | fail
 all_goals try exact rZ
 all_goals (conv => whnf); exact endE1 [] (.tup [SocZ, I 1]) [.dead]
theorem own_frozen {F F' : Fu} {b w : ByteArray} {ns : List Int} {t : List UInt8} (h : Ca 84 [F.ro, .v (.string b), .v (.string w), Ri ns] [] (fun v J => v = .tup [F'.own 0, Sv t, I 0] ∧ J = [Dh F'.hs])) : SChg F b w ns F'.ro t 0 :=
 CallA.frozen (h.mono fun v J ⟨h1, h2⟩ => by
   subst h1 h2
   exact ⟨.tup [F'.ro, Sv t, I 0], ⟨⟨⟨rfl, rfl⟩, rfl, ⟨rfl, rfl⟩, ⟨rfl, rfl, rfl, rfl, rfl⟩, ⟨rfl, rfl⟩, trivial⟩, amE_self rfl, amE_self rfl, trivial⟩, rfl, rfl⟩)
end
end Go.Proofs.YtglbamncajileaaGreatDoor
