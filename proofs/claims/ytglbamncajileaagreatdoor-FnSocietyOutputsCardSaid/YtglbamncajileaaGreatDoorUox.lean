/-
  A text with a further line; whether a line is a command; texts that are alike. The law on outputs. No conditions but those in the statements.
-/
import Derived.Test.YtglbamncajileaaGreatDoorUro
import Derived.Test.YtglbamncajileaaGreatDoorUrd
import Derived.Test.YtglbamncajileaaGreatDoorUxc
import Derived.Test.YtglbamncajileaaGreatDoorDmg
import Derived.Test.YtglbamncajileaaGreatDoorUrz
set_option linter.unusedVariables false
set_option linter.unusedSimpArgs false
set_option maxRecDepth 100000
set_option maxHeartbeats 8000000
namespace Go.Proofs.YtglbamncajileaaGreatDoor
open Go.AE Go.Lib
section
attribute [local irreducible] CallA LoopA DrawA CallQ arithK quoK remK eqK
theorem sp_app (c : UInt8) : ∀ (a b : List UInt8), sp c (a ++ c :: b) = sp c a ++ sp c b
 | [], b => by simp [sp]
 | x :: r, b => by
   have ih := sp_app c r b
   simp only [List.cons_append, sp]
   by_cases hx : x = c
   · rw [if_pos hx, if_pos hx, ih]; rfl
   · rw [if_neg hx, if_neg hx, ih]
     cases h : sp c r with
     | nil => exact absurd h (sp_ne c r)
     | cons w ws => rfl
abbrev fly : List UInt8 := [102, 108, 121]
theorem lnS_fly {x : List UInt8} (h : x = [] ∨ x.getD (x.length - 1) 0 = 10) : lnS (x ++ [102, 108, 121, 10]) = lnS x ++ [fly] := by
 have hf : sp 10 [102, 108, 121, 10] = [fly, []] := by decide
 rcases h with rfl | h
 · unfold lnS
   rw [List.nil_append, hf]
   rfl
 · by_cases h0 : x = []
   · subst h0
     unfold lnS
     rw [List.nil_append, hf]
     rfl
   · have hx : x = x.take (x.length - 1) ++ [10] := by
       have hp := List.length_pos_iff.2 h0
       have h1 : x = x.take (x.length - 1) ++ x.drop (x.length - 1) := (List.take_append_drop _ _).symm
       have h2 : x.drop (x.length - 1) = [10] := by
         rw [List.drop_eq_getElem_cons (by omega), List.drop_of_length_le (by omega)]
         rw [List.getD_eq_getElem?_getD, List.getElem?_eq_getElem (by omega)] at h
         exact congrArg (fun z => [z]) h
       rw [h2] at h1
       exact h1
     obtain ⟨y, hy⟩ : ∃ y, y = x.take (x.length - 1) := ⟨_, rfl⟩
     rw [← hy] at hx
     subst hx
     have e1 : sp 10 (y ++ [10]) = sp 10 y ++ [[]] := by rw [show [(10 : UInt8)] = 10 :: [] from rfl, sp_app]; rfl
     have e2 : sp 10 (y ++ [10] ++ [102, 108, 121, 10]) = (sp 10 y ++ [fly]) ++ [[]] := by
       rw [List.append_assoc, show [(10 : UInt8)] ++ [102, 108, 121, 10] = 10 :: [102, 108, 121, 10] from rfl, sp_app, hf, List.append_assoc]; rfl
     have cut : ∀ l : List (List UInt8), (if (l ++ [[]]).getD ((l ++ [[]]).length - 1) [] = [] then (l ++ [[]]).take ((l ++ [[]]).length - 1) else l ++ [[]]) = l := fun l => by
       have hl : (l ++ [([] : List UInt8)]).length - 1 = l.length := by simp
       rw [hl, if_pos (by rw [List.getD_eq_getElem?_getD, List.getElem?_append_right (Nat.le_refl _), Nat.sub_self]; rfl), List.take_left]
     unfold lnS
     rw [e1, e2, cut, cut]
theorem stN_app (N : Nx) (ls ms : List (List UInt8)) : ∀ i, i ≤ ls.length → stN N (ls ++ ms) i = stN N ls i
 | 0, _ => rfl
 | i + 1, h => by
   rw [stN_next, stN_next, stN_app N ls ms i (by omega), List.getD_eq_getElem?_getD, List.getElem?_append_left (by omega), ← List.getD_eq_getElem?_getD]
theorem ouN_app (N : Nx) (ls ms : List (List UInt8)) : ∀ i, i ≤ ls.length → ouN N (ls ++ ms) i = ouN N ls i
 | 0, _ => rfl
 | i + 1, h => by
   rw [ouN_next, ouN_next, ouN_app N ls ms i (by omega), stN_app N ls ms i (by omega), List.getD_eq_getElem?_getD, List.getElem?_append_left (by omega), ← List.getD_eq_getElem?_getD]
theorem fly_no : ¬ cmdS fly := fun ⟨w0, vs, h1, h2⟩ => by
 have h3 : sp 32 fly = [fly] := by decide
 rw [h3] at h1
 obtain ⟨rfl, rfl⟩ := List.cons.inj h1
 have hk : kd (B fly) = (0, 0, 0) := kd_none (by decide) (by decide) (by decide) (by decide) (by decide) (by decide) (by decide) (by decide) (by decide) (by decide) (by decide) (by decide) (by decide) (by decide) (by decide) (by decide)
 rcases (kd_cases hk).1 h2 with ⟨e, -⟩ | ⟨e, -⟩ <;> exact absurd e (by decide)
theorem ouN_fly (N : Nx) (ls : List (List UInt8)) (hl : ∀ l ∈ ls, l.length ≤ 1048576) : ouN N (ls ++ [fly]) (ls ++ [fly]).length = ouN N ls ls.length ++ [errT 6] := by
 have hn : (ls ++ [fly]).length = ls.length + 1 := by simp
 have hg : (ls ++ [fly]).getD ls.length [] = fly := by rw [List.getD_eq_getElem?_getD, List.getElem?_append_right (Nat.le_refl _), Nat.sub_self]; rfl
 rw [hn, ouN_next, ouN_app N ls [fly] _ (Nat.le_refl _), stN_app N ls [fly] _ (Nat.le_refl _), hg, N.no _ _ (stN_ok N hl _ (Nat.le_refl _)) (by decide) fly_no]
attribute [local irreducible] cmdP
theorem specIs_ret (l : List UInt8) (hn : l.length ≤ 1048576) (w0 : List UInt8) (vs : List (List UInt8)) (hws : sp 32 l = w0 :: vs) : Rt 17 [Sv l] (Bo (decide (cmdP (B w0) vs))) := by
 refine bZ Tryz.func17 ?_
 have hp := parse_call l hn w0 vs hws
 repeat' (conv => whnf); first | (intro h; try exact nZ) | apply And.intro | refine sZ ?_ | (refine CallA.gE [] (hp) ?_; rintro x a s ⟨h1, h2⟩; (try conv => whnf)) | fail
 all_goals first | exact rZ
theorem implIs_ret (l : List UInt8) (hn : l.length ≤ 1048576) (w0 : List UInt8) (vs : List (List UInt8)) (hws : sp 32 l = w0 :: vs) : Rt 16 [Sv l] (Bo (decide (cmdP (B w0) vs))) := by
 refine bZ Tryz.func16 ?_
 have hp := readC_call l hn w0 vs hws
 repeat' (conv => whnf); first | (intro h; try exact nZ) | apply And.intro | refine sZ ?_ | (refine CallA.gE [] (hp) ?_; rintro x a s ⟨h1, h2⟩; (try conv => whnf)) | fail
 all_goals first | exact rZ
theorem is_both (l : List UInt8) (hn : l.length ≤ 1048576) : ∃ b : Bool, Rt 16 [Sv l] (Bo b) ∧ Rt 17 [Sv l] (Bo b) := by
 obtain ⟨w0, vs, hws⟩ := sp_cons l
 exact ⟨_, implIs_ret l hn w0 vs hws, specIs_ret l hn w0 vs hws⟩
theorem likeTx_ret (ws : List (List UInt8)) (hn : ws.length ≤ 1048576) : Rt 15 [Rstr ws, Rstr ws] (Bo true) := by
 refine bZ Tryz.func15 ?_
 have hml : (ws.map B).length = ws.length := List.length_map _
 repeat' (conv => whnf); first | (intro h; try exact nZ) | apply And.intro | refine sZ ?_ | fail
 all_goals try exact rZ
 (conv => whnf)
 refine loop_rule hT (fun i : Nat => i ≤ ws.length) 26 0 [0, 1, 5] (fun i => [Rstr ws, Rstr ws, I i]) (fun _ => []) (fun i => ws.length - i) (0) (Nat.le_of_ble_eq_true rfl) ?_ ?_ ?_
 · exact Nat.zero_le _
 · first | (exact endH1 [])
 · intro i h1
   by_cases hi : i < ws.length
   · repeat' (conv => whnf); first | (intro h; try exact nZ) | apply And.intro | refine sZ ?_ | fail
     all_goals first | exact rZ | (show _ < (ws.map B).length; omega) | (show (_ : Int) < ((ws.map B).length : Int); omega) | skip
     all_goals ((conv => whnf); first | (refine ⟨i + 1, by omega, ?_, by omega⟩; (exact endH1 [])))
   · obtain rfl : i = ws.length := by omega
     repeat' (conv => whnf); first | (intro h; try exact nZ) | apply And.intro | refine sZ ?_ | fail
     all_goals first | exact rZ
end
section
attribute [local irreducible] CallA LoopA DrawA CallQ arithK quoK remK eqK
attribute [local irreducible] stN ouN lnS cmdP
abbrev RunsTo (v : ByteArray) (O : List (List UInt8)) : Prop := Ca 8 [.v (.string v)] [] (fun v J => v = .tup [.sl 0 1 O.length, I 0] ∧ J = [Dstr O])
abbrev SRunsTo (v : ByteArray) (O : List (List UInt8)) : Prop := Ca 7 [.v (.string v)] [] (fun v J => v = .tup [.sl 0 1 O.length, I 0] ∧ J = [Dstr O])
noncomputable def ouX (x : List UInt8) : List (List UInt8) := ouN nx (lnS x) (lnS x).length
theorem ouX_len (x : List UInt8) : (ouX x).length = (lnS x).length := ouN_len _ _ _
theorem runs_ok (x : List UInt8) (hf : fitS x) : RunsTo (B x) (ouX x) ∧ SRunsTo (B x) (ouX x) := by
 have h1 := implRS_ok nx x hf
 have h2 := specRS_ok nx x hf
 unfold RunsTo SRunsTo
 rw [ouX_len]
 exact ⟨h1, h2⟩
theorem ouX_fly {x : List UInt8} (h : x = [] ∨ x.getD (x.length - 1) 0 = 10) (hx : x.length ≤ 4000) : ouX (x ++ [102, 108, 121, 10]) = ouX x ++ [errT 6] := by
 unfold ouX
 rw [lnS_fly h, ouN_fly nx (lnS x) (lnS_short (by omega))]
attribute [local irreducible] ouX
structure Two (x : List UInt8) (O : List (List UInt8)) : Prop where
 len : O.length ≤ 50
 i : RunsTo (B x) O
 s : SRunsTo (B x) O
theorem two_ok (x : List UInt8) (hf : fitS x) : Two x (ouX x) := by
 have h := hf.2
 rw [← ouX_len] at h
 exact ⟨h, (runs_ok x hf).1, (runs_ok x hf).2⟩
theorem lawSO_ret (code : List Int) (hn : code.length ≤ 9223372036854775807) (hb : bytesOk code) : Rt 4 [Rb code] (Bo true) := by
 refine bZ Tryz.func4 ?_
 have hbig := big_ret code
 by_cases hb0 : (4096 : Int) < code.length
 · rw [decide_eq_true hb0] at hbig
   repeat' (conv => whnf); first | (intro h; try exact nZ) | apply And.intro | refine sZ ?_ | refine Ret.uA (hbig) ?_ | fail
   all_goals first | exact rZ
 rw [decide_eq_false hb0] at hbig
 have hd := drawRS_call code (by omega) hb
 have hl := drawIC_call code (by omega) hb
 repeat' (conv => whnf); first | (intro h; try exact nZ) | apply And.intro | refine sZ ?_ | refine Ret.uA (hbig) ?_ | (refine CallA.gE [] (hd) ?_; rintro x a s hx; (try conv => whnf)) | fail
 all_goals try exact rZ
 obtain ⟨x, rfl⟩ := B_ex x
 rw [B_size] at hx
 have hsz := B_size x
 by_cases hf : fitS x
 · obtain ⟨O, hO⟩ : ∃ O, O = ouX x := ⟨_, rfl⟩
   obtain ⟨h50, hi, hs⟩ := two_ok x hf
   rw [← hO] at h50 hi hs
   have hml : O.length = (D.strs (O.map B)).len := (List.length_map _).symm
   have he := likeTx_ret O (by omega)
   by_cases hx0 : x = [] ∨ x.getD (x.length - 1) 0 = 10
   · have hcat : B x ++ ⟨#[102, 108, 121, 10]⟩ = B (x ++ [102, 108, 121, 10]) := B_app x [102, 108, 121, 10]
     have hz4 : (⟨#[102, 108, 121, 10]⟩ : ByteArray).size = 4 := rfl
     have hcs : (B x ++ ⟨#[102, 108, 121, 10]⟩).size = x.length + 4 := by rw [hcat, B_size]; simp
     by_cases hf2 : fitS (x ++ [102, 108, 121, 10])
     · obtain ⟨P, hP⟩ : ∃ P, P = O ++ [errT 6] := ⟨_, rfl⟩
       obtain ⟨-, hi2, -⟩ := two_ok _ hf2
       rw [ouX_fly hx0 hx, ← hO, ← hP, ← hcat] at hi2
       have hpl : P.length = O.length + 1 := by rw [hP]; simp
       have hpn : (P.map B).length = P.length := List.length_map _
       have hpm : P.length = (D.strs (P.map B)).len := (List.length_map _).symm
       have hget : (P.map B).getD ((O.length : Int)).toNat ByteArray.empty = ⟨#[101, 114, 114, 111, 114, 32, 54]⟩ := by
         have h6 : errT 6 = [101, 114, 114, 111, 114, 32, 54] := by
           have : itoa 6 = [54] := by unfold itoa; rw [if_neg (by decide), show ((6 : Int)).toNat = 6 from rfl, decDigits_one (by decide)]; rfl
           show _ ++ itoa 6 = _
           rw [this]; rfl
         rw [show ((O.length : Int)).toNat = O.length from rfl, strs_getD, hP, List.getD_eq_getElem?_getD, List.getElem?_append_right (Nat.le_refl _), Nat.sub_self, h6]
         rfl
       have hsub : D.strs (((P.map B).drop 0).take O.length) = D.strs (O.map B) := by
         rw [List.drop_zero, hP, List.map_append, List.take_left' (List.length_map _)]
       repeat' (conv => whnf); first | (intro h; try exact nZ) | apply And.intro | refine sZ ?_ | refine CallA.gM [] (hi2) ?_ | refine CallA.gM [] (hi) ?_ | refine CallA.gM [] (hs) ?_ | refine Ret.uA (he) ?_ | (refine CallA.gE [] (hl) ?_; rintro y a s hy; (try conv => whnf); obtain ⟨y, rfl⟩ := B_ex y; rw [B_size] at hy; obtain ⟨b, hb1, hb2⟩ := is_both y (by omega)) | refine Ret.uA (hb1) ?_ | refine Ret.uA (hb2) ?_ | fail
       all_goals first | exact rZ
     · have hi2 := implRS_bad _ (by simp; omega) hf2
       rw [show Sv (x ++ [102, 108, 121, 10]) = .v (.string (B x ++ ⟨#[102, 108, 121, 10]⟩)) by rw [hcat]] at hi2
       repeat' (conv => whnf); first | (intro h; try exact nZ) | apply And.intro | refine sZ ?_ | refine CallA.gM [] (hi2) ?_ | refine CallA.gM [] (hi) ?_ | refine CallA.gM [] (hs) ?_ | refine Ret.uA (he) ?_ | (refine CallA.gE [] (hl) ?_; rintro y a s hy; (try conv => whnf); obtain ⟨y, rfl⟩ := B_ex y; rw [B_size] at hy; obtain ⟨b, hb1, hb2⟩ := is_both y (by omega)) | refine Ret.uA (hb1) ?_ | refine Ret.uA (hb2) ?_ | fail
       all_goals first | exact rZ
   · have hx1 : 0 < x.length := List.length_pos_iff.2 fun e => hx0 (.inl e)
     have hx2 : byteAt (B x) (((B x).size : Int) - 1).toNat ≠ 10 := fun e => hx0 (.inr (by
       rw [byteAt_B, hsz, show ((x.length : Int) - 1).toNat = x.length - 1 by omega] at e
       exact UInt8.toNat_inj.1 (by show _ = 10; omega)))
     repeat' (conv => whnf); first | (intro h; try exact nZ) | apply And.intro | refine sZ ?_ | refine CallA.gM [] (hi) ?_ | refine CallA.gM [] (hs) ?_ | refine Ret.uA (he) ?_ | (refine CallA.gE [] (hl) ?_; rintro y a s hy; (try conv => whnf); obtain ⟨y, rfl⟩ := B_ex y; rw [B_size] at hy; obtain ⟨b, hb1, hb2⟩ := is_both y (by omega)) | refine Ret.uA (hb1) ?_ | refine Ret.uA (hb2) ?_ | fail
     all_goals first | exact rZ
 · have hi := implRS_bad x (by omega) hf
   have hs := specRS_bad x (by omega) hf
   have he := likeTx_ret [] (by decide)
   repeat' (conv => whnf); first | (intro h; try exact nZ) | apply And.intro | refine sZ ?_ | refine CallA.gM [] (hi) ?_ | refine CallA.gM [] (hs) ?_ | refine Ret.uA (he) ?_ | (refine CallA.gE [] (hl) ?_; rintro y a s hy; (try conv => whnf); obtain ⟨y, rfl⟩ := B_ex y; rw [B_size] at hy; obtain ⟨b, hb1, hb2⟩ := is_both y (by omega)) | refine Ret.uA (hb1) ?_ | refine Ret.uA (hb2) ?_ | fail
   all_goals first | exact rZ
end
end Go.Proofs.YtglbamncajileaaGreatDoor
