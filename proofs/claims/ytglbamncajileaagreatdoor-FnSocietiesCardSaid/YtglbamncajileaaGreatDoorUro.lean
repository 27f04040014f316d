/-
  A text's lines; the run of a text by the reference. A text run by the program and by the reference: the outputs, and the society behind it. The society behind a text, by the program and by the reference. No conditions but those in the statements.
-/
import Derived.Test.YtglbamncajileaaGreatDoorUrk
set_option linter.unusedVariables false
set_option linter.unusedSimpArgs false
set_option maxRecDepth 100000
set_option maxHeartbeats 2000000
namespace Go.Proofs.YtglbamncajileaaGreatDoor
open Go.AE Go.Lib
section
attribute [local irreducible] CallA LoopA DrawA CallQ arithK quoK remK eqK
def lnS (x : List UInt8) : List (List UInt8) := if (sp 10 x).getD ((sp 10 x).length - 1) [] = [] then (sp 10 x).take ((sp 10 x).length - 1) else sp 10 x
def fitS (x : List UInt8) : Prop := x.length ≤ 3000 ∧ (lnS x).length ≤ 50
instance (x : List UInt8) : Decidable (fitS x) := by unfold fitS; infer_instance
theorem lnS_short {x : List UInt8} (hx : x.length ≤ 1048576) : ∀ l ∈ lnS x, l.length ≤ 1048576 := fun l hl => by
 have hs := sp_short (c := 10) hx
 unfold lnS at hl
 split at hl
 · exact hs l (List.mem_of_mem_take hl)
 · exact hs l hl
attribute [local irreducible] stN ouN
theorem specLines_ro (x : List UInt8) (hx : x.length ≤ 1048576) : Ca 32 [Sv x] [] (fun v J => v = Rstr (lnS x) ∧ J = []) := by
 have hspl := l01Split_call x 10 hx
 obtain ⟨ws, hws⟩ : ∃ ws, ws = sp 10 x := ⟨_, rfl⟩
 have h0 : ws ≠ [] := by rw [hws]; exact sp_ne 10 x
 have hpos := List.length_pos_iff.2 h0
 have hml : (ws.map B).length = ws.length := List.length_map _
 have hmany : ws.length ≤ x.length + 1 := by rw [hws]; exact sp_many
 rw [← hws] at hspl
 by_cases hlast : ws.getD (ws.length - 1) [] = []
 · have hlb : (ws.map B).getD (((ws.map B).length : Int) - 1).toNat ByteArray.empty = ⟨#[]⟩ := by
     rw [show (((ws.map B).length : Int) - 1).toNat = ws.length - 1 by omega, strs_getD, hlast]
   have e : lnS x = ws.take (ws.length - 1) := by unfold lnS; rw [← hws, if_pos hlast]
   have hown : Ca 32 [Sv x] [] (fun v J => v = .sub 0 1 0 (ws.length - 1) ∧ J = [Dstr ws]) := by
     refine cZ Tryz.func32 ?_
     repeat' (conv => whnf); first | (intro h; try exact nZ) | apply And.intro | refine sZ ?_ | refine CallA.gM [] (hspl) ?_ | fail
     all_goals try exact rZ
     all_goals (conv => whnf); exact endE1 [some 0] (.sub 0 1 0 (ws.length - 1)) [Dstr ws]
   rw [e]
   exact CallA.frozen (hown.mono fun v J ⟨h1, h2⟩ => by
     subst h1 h2
     refine ⟨Rstr (ws.take (ws.length - 1)), ⟨rfl, ?_, rfl, (by show 0 + (ws.length - 1) ≤ (ws.map B).length; omega), ?_⟩, rfl, rfl⟩
     all_goals first | rfl | (show _ = _; simp; done) | (show D.strs (((ws.map B).drop 0).take (ws.length - 1)) = _; rw [List.drop_zero, List.map_take]))
 · have hlb : ¬ (ws.map B).getD (((ws.map B).length : Int) - 1).toNat ByteArray.empty = ⟨#[]⟩ := fun e => by
     rw [show (((ws.map B).length : Int) - 1).toNat = ws.length - 1 by omega, strs_getD] at e
     exact hlast ((B_inj (b := [])).1 e)
   have e : lnS x = ws := by unfold lnS; rw [← hws, if_neg hlast]
   have hown : Ca 32 [Sv x] [] (fun v J => v = .sl 0 1 (ws.map B).length ∧ J = [Dstr ws]) := by
     refine cZ Tryz.func32 ?_
     repeat' (conv => whnf); first | (intro h; try exact nZ) | apply And.intro | refine sZ ?_ | refine CallA.gM [] (hspl) ?_ | fail
     all_goals try exact rZ
     all_goals (conv => whnf); exact endE1 [some 0] (.sl 0 1 (ws.map B).length) [Dstr ws]
   rw [e]
   exact CallA.frozen (hown.mono fun v J ⟨h1, h2⟩ => by
     subst h1 h2
     exact ⟨Rstr ws, ⟨rfl, rfl, rfl, rfl, rfl⟩, rfl, rfl⟩)
theorem specFits_ret (x : List UInt8) (hx : x.length ≤ 1048576) : Rt 30 [Sv x] (Bo (decide (fitS x))) := by
 refine bZ Tryz.func30 ?_
 have hsz := B_size x
 have hln := specLines_ro x hx
 have hml : ((lnS x).map B).length = (lnS x).length := List.length_map _
 by_cases hf : fitS x
 · rw [decide_eq_true hf]
   have h1 := hf.1
   have h2 := hf.2
   repeat' (conv => whnf); first | (intro h; try exact nZ) | apply And.intro | refine sZ ?_ | refine gZ [] (hln) ?_ | fail
   all_goals first | exact rZ | (exfalso; omega)
 · rw [decide_eq_false hf]
   by_cases h3 : x.length ≤ 3000
   · have h4 : ¬ (lnS x).length ≤ 50 := fun e => hf ⟨h3, e⟩
     repeat' (conv => whnf); first | (intro h; try exact nZ) | apply And.intro | refine sZ ?_ | refine gZ [] (hln) ?_ | fail
     all_goals first | exact rZ | (exfalso; omega)
   · repeat' (conv => whnf); first | (intro h; try exact nZ) | apply And.intro | refine sZ ?_ | refine gZ [] (hln) ?_ | fail
     all_goals first | exact rZ | (exfalso; omega)
end
section
attribute [local irreducible] CallA LoopA DrawA CallQ arithK quoK remK eqK
attribute [local irreducible] stN ouN lnS
theorem text_ok (N : Nx) (x : List UInt8) (hf : fitS x) : TxtOut N (lnS x) x := by
 have hx := hf.1
 have hl := lnS_short (x := x) (by omega)
 have h50 := hf.2
 by_cases hlast : (sp 10 x).getD ((sp 10 x).length - 1) [] = []
 · exact implText_a N x hx _ _ rfl (sp_ne 10 x) hlast (by unfold lnS; rw [if_pos hlast]) h50 hl
 · exact implText_b N x hx _ _ rfl (sp_ne 10 x) hlast (by unfold lnS; rw [if_neg hlast]) h50 hl
theorem text_bad (x : List UInt8) (hx : x.length ≤ 1048576) (hf : ¬ fitS x) : Ca 33 [Sv x] [] (fun v J => v = .tup [SocZ, .nilsl, I 3] ∧ J = []) := by
 refine cZ Tryz.func33 ?_
 have hsz := B_size x
 have hspl := split_call x 10 (by omega)
 obtain ⟨ws, hws⟩ : ∃ ws, ws = sp 10 x := ⟨_, rfl⟩
 have h0 : ws ≠ [] := by rw [hws]; exact sp_ne 10 x
 have hpos := List.length_pos_iff.2 h0
 have hml : (ws.map B).length = ws.length := List.length_map _
 have hmany : ws.length ≤ x.length + 1 := by rw [hws]; exact sp_many
 rw [← hws] at hspl
 by_cases hlast : ws.getD (ws.length - 1) [] = []
 · have hlb : (ws.map B).getD (((ws.map B).length : Int) - 1).toNat ByteArray.empty = ⟨#[]⟩ := by
     rw [show (((ws.map B).length : Int) - 1).toNat = ws.length - 1 by omega, strs_getD, hlast]
   have e : (lnS x).length = ws.length - 1 := by unfold lnS; rw [← hws, if_pos hlast, List.length_take]; omega
   have hno : ¬ (x.length ≤ 3000 ∧ ws.length - 1 ≤ 50) := fun h => hf ⟨h.1, by omega⟩
   repeat' (conv => whnf); first | (intro h; try exact nZ) | apply And.intro | refine sZ ?_ | refine CallA.gM [] (hspl) ?_ | fail
   all_goals first | exact rZ | (exfalso; omega) | skip
   all_goals (conv => whnf); exact endE1 [] (.tup [SocZ, .nilsl, I 3]) []
 · have hlb : ¬ (ws.map B).getD (((ws.map B).length : Int) - 1).toNat ByteArray.empty = ⟨#[]⟩ := fun e => by
     rw [show (((ws.map B).length : Int) - 1).toNat = ws.length - 1 by omega, strs_getD] at e
     exact hlast ((B_inj (b := [])).1 e)
   have e : (lnS x).length = ws.length := by unfold lnS; rw [← hws, if_neg hlast]
   have hno : ¬ (x.length ≤ 3000 ∧ ws.length ≤ 50) := fun h => hf ⟨h.1, by omega⟩
   repeat' (conv => whnf); first | (intro h; try exact nZ) | apply And.intro | refine sZ ?_ | refine CallA.gM [] (hspl) ?_ | fail
   all_goals first | exact rZ | (exfalso; omega) | skip
   all_goals (conv => whnf); exact endE1 [] (.tup [SocZ, .nilsl, I 3]) []
theorem implRS_ok (N : Nx) (x : List UInt8) (hf : fitS x) : Ca 8 [Sv x] [] (fun v J => v = .tup [.sl 0 1 (lnS x).length, I 0] ∧ J = [Dstr (ouN N (lnS x) (lnS x).length)]) := by
 refine cZ Tryz.func8 ?_
 have ht := text_ok N x hf
 repeat' (conv => whnf); first | (intro h; try exact nZ) | apply And.intro | refine sZ ?_ | refine CallA.gM [] (ht) ?_ | fail
 all_goals try exact rZ
 all_goals (conv => whnf); exact endE1 [some 2] (.tup [.sl 0 1 (lnS x).length, I 0]) [Dstr (ouN N (lnS x) (lnS x).length)]
theorem implRS_bad (x : List UInt8) (hx : x.length ≤ 1048576) (hf : ¬ fitS x) : Ca 8 [Sv x] [] (fun v J => v = .tup [.nilsl, I 3] ∧ J = []) := by
 refine cZ Tryz.func8 ?_
 have ht := text_bad x hx hf
 repeat' (conv => whnf); first | (intro h; try exact nZ) | apply And.intro | refine sZ ?_ | refine CallA.gM [] (ht) ?_ | fail
 all_goals try exact rZ
 all_goals (conv => whnf); exact endE1 [] (.tup [.nilsl, I 3]) []
theorem specRS_ok (N : Nx) (x : List UInt8) (hf : fitS x) : Ca 7 [Sv x] [] (fun v J => v = .tup [.sl 0 1 (lnS x).length, I 0] ∧ J = [Dstr (ouN N (lnS x) (lnS x).length)]) := by
 refine cZ Tryz.func7 ?_
 have hx := hf.1
 have h50 := hf.2
 have hft := specFits_ret x (by omega)
 rw [decide_eq_true hf] at hft
 have hln := specLines_ro x (by omega)
 have hal := specAll_call N (lnS x) (by omega) (lnS_short (by omega))
 repeat' (conv => whnf); first | (intro h; try exact nZ) | apply And.intro | refine sZ ?_ | refine Ret.uA (hft) ?_ | refine gZ [] (hln) ?_ | refine gZ [] (hal) ?_ | fail
 all_goals try exact rZ
 all_goals (conv => whnf); exact endE1 [some 0] (.tup [.sl 0 1 (lnS x).length, I 0]) [Dstr (ouN N (lnS x) (lnS x).length)]
theorem specRS_bad (x : List UInt8) (hx : x.length ≤ 1048576) (hf : ¬ fitS x) : Ca 7 [Sv x] [] (fun v J => v = .tup [.nilsl, I 3] ∧ J = []) := by
 refine cZ Tryz.func7 ?_
 have hft := specFits_ret x (by omega)
 rw [decide_eq_false hf] at hft
 repeat' (conv => whnf); first | (intro h; try exact nZ) | apply And.intro | refine sZ ?_ | refine Ret.uA (hft) ?_ | fail
 all_goals try exact rZ
 all_goals (conv => whnf); exact endE1 [] (.tup [.nilsl, I 3]) []
end
section
attribute [local irreducible] CallA LoopA DrawA CallQ arithK quoK remK eqK
attribute [local irreducible] stN ouN lnS
def enN (N : Nx) (x : List UInt8) : Fu := stN N (lnS x) (lnS x).length
theorem enN_ok (N : Nx) (x : List UInt8) (hf : fitS x) : (enN N x).ok := by
 have hx := hf.1
 unfold enN
 exact stN_ok N (lnS_short (by omega)) _ (Nat.le_refl _)
theorem implSA_ok (N : Nx) (x : List UInt8) (hf : fitS x) : Ca 19 [Sv x] [] (fun v J => v = .tup [(enN N x).val 0 1, I 0] ∧ J = [Di (enN N x).xs, Dh (enN N x).hs]) := by
 refine cZ Tryz.func19 ?_
 have ht := text_ok N x hf
 unfold TxtOut at ht
 rw [show stN N (lnS x) (lnS x).length = enN N x from rfl] at ht
 repeat' (conv => whnf); first | (intro h; try exact nZ) | apply And.intro | refine sZ ?_ | refine CallA.gM [] (ht) ?_ | fail
 all_goals try exact rZ
 all_goals (conv => whnf); exact endE1 [some 1, some 2] (.tup [(enN N x).val 0 1, I 0]) [Di (enN N x).xs, Dh (enN N x).hs]
theorem implSA_bad (x : List UInt8) (hx : x.length ≤ 1048576) (hf : ¬ fitS x) : Ca 19 [Sv x] [] (fun v J => v = .tup [SocZ, I 3] ∧ J = []) := by
 refine cZ Tryz.func19 ?_
 have ht := text_bad x hx hf
 repeat' (conv => whnf); first | (intro h; try exact nZ) | apply And.intro | refine sZ ?_ | refine CallA.gM [] (ht) ?_ | fail
 all_goals try exact rZ
 all_goals (conv => whnf); exact endE1 [] (.tup [SocZ, I 3]) []
theorem specSA_ok (N : Nx) (x : List UInt8) (hf : fitS x) : Ca 18 [Sv x] [] (fun v J => v = .tup [(enN N x).ro, I 0] ∧ J = []) := by
 refine cZ Tryz.func18 ?_
 have hx := hf.1
 have h50 := hf.2
 have hft := specFits_ret x (by omega)
 rw [decide_eq_true hf] at hft
 have hln := specLines_ro x (by omega)
 have hal := specAll_call N (lnS x) (by omega) (lnS_short (by omega))
 rw [show stN N (lnS x) (lnS x).length = enN N x from rfl] at hal
 repeat' (conv => whnf); first | (intro h; try exact nZ) | apply And.intro | refine sZ ?_ | refine Ret.uA (hft) ?_ | refine gZ [] (hln) ?_ | refine gZ [] (hal) ?_ | fail
 all_goals try exact rZ
 all_goals (conv => whnf); exact endE1 [] (.tup [(enN N x).ro, I 0]) []
theorem specSA_bad (x : List UInt8) (hx : x.length ≤ 1048576) (hf : ¬ fitS x) : Ca 18 [Sv x] [] (fun v J => v = .tup [SocZ, I 3] ∧ J = []) := by
 refine cZ Tryz.func18 ?_
 have hft := specFits_ret x (by omega)
 rw [decide_eq_false hf] at hft
 repeat' (conv => whnf); first | (intro h; try exact nZ) | apply And.intro | refine sZ ?_ | refine Ret.uA (hft) ?_ | fail
 all_goals try exact rZ
 all_goals (conv => whnf); exact endE1 [] (.tup [SocZ, I 3]) []
end
end Go.Proofs.YtglbamncajileaaGreatDoor
