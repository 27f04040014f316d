/-
  Numerals and statutes read by the program: what the functions return. Commands of the console: the shapes and the numbers that the program reads. No conditions but those in the statements.
-/
import Derived.Test.YtglbamncajileaaGreatDoorAcc
import Derived.Lib.ParseIntBTie
import Derived.Test.YtglbamncajileaaGreatDoorStp
set_option linter.unusedVariables false
set_option linter.unusedSimpArgs false
set_option maxRecDepth 100000
set_option maxHeartbeats 1000000
namespace Go.Proofs.YtglbamncajileaaGreatDoor
open Go.AE Go.Lib
section
attribute [local irreducible] CallA LoopA DrawA CallQ arithK quoK remK eqK
theorem i64_of_parse {l : List UInt8} {v : Int} (h : parseIntB 64 l = .ok v) : -9223372036854775808 ≤ v ∧ v ≤ 9223372036854775807 := by
 have h1 := parseIntB_bounds h
 have e : ((2 ^ (64 - 1) : Nat) : Int) = 9223372036854775808 := rfl
 omega
theorem readDecimal_yes (n : Int) (h0 : 0 ≤ n) (h1 : n ≤ 9223372036854775807) : Ret Tryz.prog G2 258 [Sv (itoa n)] (.tup [I n, Bo true]) := by
 refine bZ Tryz.func258 ?_
 have hp := parse_ok (itoa n) (by have := itoa_length_le n (by omega) (by omega); omega) n (parse_itoa (by omega) h1)
 have hd := (decimal_ret n (by omega)).weak G_G2
 repeat' (conv => whnf); first | (intro h; try exact nZ) | apply And.intro | refine sZ ?_ | (refine Ret.go (hp) rfl rfl ?_) | (refine Ret.go (hd) rfl rfl ?_) | fail
 all_goals first | exact rZ
theorem readDecimal_no (l : List UInt8) (hl : l.length ≤ 1048576) (h : ∀ n : Int, 0 ≤ n → n ≤ 9223372036854775807 → l ≠ itoa n) : Ret Tryz.prog G2 258 [Sv l] (.tup [I 0, Bo false]) := by
 refine bZ Tryz.func258 ?_
 by_cases hv : ∃ v, parseIntB 64 l = .ok v
 · obtain ⟨v, hv⟩ := hv
   have hp := parse_ok l (by omega) v hv
   have hr := i64_of_parse hv
   have hd := (decimal_ret v hr).weak G_G2
   have hne : 0 ≤ v → B (itoa v) ≠ B l := fun h0 e => h v h0 hr.2 (B_inj.1 e).symm
   by_cases h0 : v < 0
   · repeat' (conv => whnf); first | (intro h; try exact nZ) | apply And.intro | refine sZ ?_ | (refine Ret.go (hp) rfl rfl ?_) | (refine Ret.go (hd) rfl rfl ?_) | fail
     all_goals first | exact rZ
   · have hne := hne (by omega)
     repeat' (conv => whnf); first | (intro h; try exact nZ) | apply And.intro | refine sZ ?_ | (refine Ret.go (hp) rfl rfl ?_) | (refine Ret.go (hd) rfl rfl ?_) | fail
     all_goals first | exact rZ
 · have hp := parse_bad l (by omega) fun v hh => hv ⟨v, hh⟩
   repeat' (conv => whnf); first | (intro h; try exact nZ) | apply And.intro | refine sZ ?_ | refine Ret.uA (hp) ?_ | fail
   all_goals first | exact rZ
def rg (n : Int) : Prop := 0 ≤ n ∧ n ≤ 9223372036854775807
def isNums (ws : List (List UInt8)) (xs : List Int) : Prop := (∀ x ∈ xs, rg x) ∧ ws = xs.map itoa
theorem isNums.uniq {ws : List (List UInt8)} {xs ys : List Int} (h : isNums ws xs) (k : isNums ws ys) : xs = ys := map_itoa_inj (h.2.symm.trans k.2)
open Classical in
noncomputable def rdX (ws : List (List UInt8)) : List Int := if h : ∃ xs, isNums ws xs then h.choose else []
open Classical in
noncomputable def rdT (ws : List (List UInt8)) : Bool := if ∃ xs, isNums ws xs then true else false
theorem rd_yes {ws : List (List UInt8)} {xs : List Int} (h : isNums ws xs) : rdX ws = xs ∧ rdT ws = true := by
 have he : ∃ xs, isNums ws xs := ⟨xs, h⟩
 refine ⟨?_, if_pos he⟩
 unfold rdX
 rw [dif_pos he]
 exact he.choose_spec.uniq h
theorem rd_no {ws : List (List UInt8)} (h : ∀ xs, ¬ isNums ws xs) : rdX ws = [] ∧ rdT ws = false := by
 have he : ¬ ∃ xs, isNums ws xs := fun ⟨xs, hx⟩ => h xs hx
 exact ⟨dif_neg he, if_neg he⟩
attribute [local irreducible] rdX rdT
theorem isNums.at {ws : List (List UInt8)} {xs : List Int} (h : isNums ws xs) {i : Nat} (hi : i < ws.length) : ∃ n, rg n ∧ ws.getD i [] = itoa n := by
 have hl : i < xs.length := by have := congrArg List.length h.2; rw [List.length_map] at this; omega
 refine ⟨xs.getD i 0, h.1 _ (getD_mem hl), ?_⟩
 rw [h.2, List.getD_eq_getElem?_getD, List.getElem?_map, List.getD_eq_getElem?_getD, List.getElem?_eq_getElem hl]
 rfl
theorem isNums.next {ws : List (List UInt8)} {xs : List Int} {i : Nat} (h : isNums (ws.take i) xs) (hi : i < ws.length) {n : Int} (hn : rg n) (he : ws.getD i [] = itoa n) : isNums (ws.take (i + 1)) (xs ++ [n]) :=
 ⟨fun x hx => by
   rcases List.mem_append.1 hx with hx | hx
   · exact h.1 x hx
   · obtain rfl := List.mem_singleton.1 hx
     exact hn, by rw [take_snoc [] hi, h.2, he, List.map_append]; rfl⟩
theorem isNums.len {ws : List (List UInt8)} {xs : List Int} (h : isNums ws xs) : xs.length = ws.length := by rw [h.2, List.length_map]
theorem readJoined_call (l : List UInt8) (hn : l.length ≤ 1048576) (hw : ∀ w ∈ sp 32 l, w.length ≤ 1048576) (hl : (sp 32 l).length ≤ 1048577) : CallA Tryz.prog G2 192 [Sv l] [] (fun v J => v = .tup [.sl 0 1 (rdX (sp 32 l)).length, Bo (rdT (sp 32 l))] ∧ J = [.data (.ints .i64 (rdX (sp 32 l)))]) := by
 refine cZ Tryz.func192 ?_
 have hsc := (split_call l 32 (by omega)).weak G_G2
 obtain ⟨ws, hwe⟩ : ∃ ws, ws = sp 32 l := ⟨_, rfl⟩
 rw [← hwe] at hsc hw hl ⊢
 have hml : (ws.map B).length = ws.length := List.length_map _
 repeat' (conv => whnf); first | (intro h; try exact nZ) | apply And.intro | refine sZ ?_ | refine CallA.gM [] (hsc) ?_ | fail
 all_goals try exact rZ
 (conv => whnf)
 refine loop_rule hT (fun q : Nat × List Int => q.1 ≤ ws.length ∧ isNums (ws.take q.1) q.2) 30 2 [0, 4, 11, 12, 13] (fun q => [Sv l, .sl 2 1 q.2.length, .sl 1 1 (ws.map B).length, I (ws.map B).length, I q.1]) (fun q => [.dead, .data (.strs (ws.map B)), .data (.ints .i64 q.2)]) (fun q => ws.length - q.1) ((0, [])) (Nat.le_of_ble_eq_true rfl) ?_ ?_ ?_
 · exact ⟨Nat.zero_le _, fun x hx => (by cases hx), by simp⟩
 · first | (exact endH1 [some 0])
 · rintro ⟨i, out⟩ ⟨h1, h2⟩
   dsimp only at h1 h2 ⊢
   have hol : out.length = i := by rw [h2.len, List.length_take]; omega
   by_cases hi : i < ws.length
   · by_cases hg : ∃ n, rg n ∧ ws.getD i [] = itoa n
     · obtain ⟨n, hg1, hg2⟩ := hg
       have hnx := h2.next hi hg1 hg2
       have hs := readDecimal_yes n hg1.1 hg1.2
       rw [← hg2, show Sv (ws.getD i []) = .v (.string ((ws.map B).getD ((i : Int)).toNat ByteArray.empty)) from (congrArg (fun b => AV.v (.string b)) (strs_getD ws i)).symm] at hs
       repeat' (conv => whnf); first | (intro h; try exact nZ) | apply And.intro | refine sZ ?_ | (refine Ret.go (hs) rfl rfl ?_) | fail
       all_goals first | exact rZ | (show _ < (ws.map B).length; omega) | (show (_ : Int) < ((ws.map B).length : Int); omega) | (show (_ : Nat) ≤ _; simp; omega) | skip
       all_goals ((conv => whnf); first | (refine ⟨(i + 1, out ++ [n]), ⟨hi, hnx⟩, ?_, by dsimp only; omega⟩; first | (refine ⟨rfl, [some 4], ?_, ?_⟩; (repeat' first | apply And.intro | exact xZ | ((try dsimp only); exact rfl) | fail); done) | (refine ⟨rfl, [some 3], ?_, ?_⟩; (repeat' first | apply And.intro | exact xZ | ((try dsimp only); exact rfl) | fail); done)))
     · have hs := readDecimal_no (ws.getD i []) (hw _ (getD_mem hi)) fun n h0 h9 he => hg ⟨n, ⟨h0, h9⟩, he⟩
       rw [show Sv (ws.getD i []) = .v (.string ((ws.map B).getD ((i : Int)).toNat ByteArray.empty)) from (congrArg (fun b => AV.v (.string b)) (strs_getD ws i)).symm] at hs
       obtain ⟨e1, e2⟩ := rd_no (ws := ws) fun xs hx => hg (hx.at hi)
       rw [e1, e2]
       repeat' (conv => whnf); first | (intro h; try exact nZ) | apply And.intro | refine sZ ?_ | (refine Ret.go (hs) rfl rfl ?_) | fail
       all_goals first | exact rZ | (show _ < (ws.map B).length; omega) | (show (_ : Int) < ((ws.map B).length : Int); omega) | skip
       all_goals (conv => whnf); exact endE1 [none] (.tup [.sl 0 1 ([] : List Int).length, Bo false]) [.data (.ints .i64 [])]
   · obtain rfl : i = ws.length := by omega
     rw [take_all (Nat.le_refl _)] at h2
     obtain ⟨e1, e2⟩ := rd_yes h2
     rw [e1, e2]
     repeat' (conv => whnf); first | (intro h; try exact nZ) | apply And.intro | refine sZ ?_ | fail
     all_goals try exact rZ
     all_goals (conv => whnf); exact endE1 [some 2] (.tup [.sl 0 1 out.length, Bo true]) [.data (.ints .i64 out)]
end
section
attribute [local irreducible] CallA LoopA DrawA CallQ arithK quoK remK eqK
theorem nDigits_ge : ∀ (k u : Nat), 10 ^ k ≤ u → k + 1 ≤ nDigits u
 | 0, u, _ => nDigits_pos u
 | k + 1, u, h => by
   have h10 : ¬ u < 10 := fun hu => by
     have : 10 ^ 1 ≤ 10 ^ (k + 1) := Nat.pow_le_pow_right (by decide) (by omega)
     omega
   rw [nDigits_big h10]
   have := nDigits_ge k (u / 10) (by
     rw [Nat.pow_succ] at h
     omega)
   omega
theorem small_of_digits {u : Nat} (h : (decDigits u).length ≤ 13) : u ≤ 9999999999999 := by
 rw [decDigits_length] at h
 rcases Nat.lt_or_ge 9999999999999 u with h1 | h1
 · have := nDigits_ge 13 u (by omega)
   omega
 · exact h1
theorem trim_minus (r : List UInt8) : trimPrefix (45 :: r) [45] = r := by
 unfold trimPrefix hasPrefix
 rw [if_pos (by simp [List.isPrefixOf])]
 rfl
theorem trim_dec (u : Nat) : trimPrefix (decDigits u) [45] = decDigits u := by
 unfold trimPrefix hasPrefix
 cases hd : decDigits u with
 | nil => rfl
 | cons b r =>
   have hb : b ≠ 45 := by
     rintro rfl
     have := dec_dgt u 45 (by rw [hd]; simp)
     exact absurd this.1 (by decide)
   rw [if_neg (by simp [List.isPrefixOf]; exact fun e => hb e.symm)]
theorem sm_trim (n : Int) : (trimPrefix (itoa n) [45]).length ≤ 13 ↔ sm n := by
 by_cases hn : n < 0
 · rw [itoa_minus hn, trim_minus]
   constructor
   · intro h
     have := small_of_digits h
     exact ⟨by omega, by omega⟩
   · intro h
     rw [decDigits_length]
     exact nDigits_le13 (by unfold sm at h; omega)
 · rw [itoa_nat (by omega), trim_dec]
   constructor
   · intro h
     have := small_of_digits h
     exact ⟨by omega, by omega⟩
   · intro h
     rw [decDigits_length]
     exact nDigits_le13 (by unfold sm at h; omega)
def rnN (l : List UInt8) : Int := if sgnB l then sgnN l else 0
attribute [local irreducible] sgnN sgnB
theorem readNumber_ret (l : List UInt8) (hl : l.length ≤ 1048576) : Ret Tryz.prog G2 66 [Sv l] (.tup [I (rnN l), Bo (decide (sgnB l))]) := by
 refine bZ Tryz.func66 ?_
 have ht := (trimPrefix_ret l [45]).weak G_G2
 have hts := B_size (trimPrefix l [45])
 by_cases hs : sgnB l
 · obtain ⟨n, hn, rfl⟩ := sgn_inv hs
   have hp := parse_ok (itoa n) (by omega) n (parse_itoa (by unfold sm at hn; omega) (by unfold sm at hn; omega))
   have hd := (decimal_ret n (by unfold sm at hn; omega)).weak G_G2
   have h13 := (sm_trim n).2 hn
   rw [decide_eq_true hs, show rnN (itoa n) = n from by unfold rnN; rw [if_pos hs]; exact (sgn_itoa hn).2]
   repeat' (conv => whnf); first | (intro h; try exact nZ) | apply And.intro | refine sZ ?_ | (refine Ret.go (hp) rfl rfl ?_) | (refine Ret.go (hd) rfl rfl ?_) | (refine Ret.go (ht) rfl rfl ?_) | fail
   all_goals first | exact rZ
 · rw [decide_eq_false hs, show rnN l = 0 from if_neg hs]
   by_cases hv : ∃ v, parseIntB 64 l = .ok v
   · obtain ⟨v, hv⟩ := hv
     have hp := parse_ok l (by omega) v hv
     have hr := i64_of_parse hv
     have hd := (decimal_ret v hr).weak G_G2
     by_cases h13 : (trimPrefix l [45]).length ≤ 13
     · have hne : B (itoa v) ≠ B l := fun e => by
         obtain rfl := B_inj.1 e
         exact hs (sgn_itoa ((sm_trim v).1 h13)).1
       repeat' (conv => whnf); first | (intro h; try exact nZ) | apply And.intro | refine sZ ?_ | (refine Ret.go (hp) rfl rfl ?_) | (refine Ret.go (hd) rfl rfl ?_) | (refine Ret.go (ht) rfl rfl ?_) | fail
       all_goals first | exact rZ
     · repeat' (conv => whnf); first | (intro h; try exact nZ) | apply And.intro | refine sZ ?_ | (refine Ret.go (hp) rfl rfl ?_) | (refine Ret.go (hd) rfl rfl ?_) | (refine Ret.go (ht) rfl rfl ?_) | fail
       all_goals first | exact rZ
   · have hp := parse_bad l (by omega) fun v hh => hv ⟨v, hh⟩
     repeat' (conv => whnf); first | (intro h; try exact nZ) | apply And.intro | refine sZ ?_ | refine Ret.uA (hp) ?_ | fail
     all_goals first | exact rZ
def shp (b : ByteArray) : ByteArray × Bool :=
 if b = ⟨#[108, 105, 115, 116]⟩ then (⟨#[]⟩, true) else if b = ⟨#[114, 101, 115, 101, 114, 118, 101]⟩ then (⟨#[]⟩, true) else if b = ⟨#[112, 114, 101, 109, 105, 117, 109, 115]⟩ then (⟨#[]⟩, true) else if b = ⟨#[99, 108, 97, 105, 109, 115]⟩ then (⟨#[]⟩, true)
 else if b = ⟨#[114, 97, 116, 101]⟩ then (⟨#[105]⟩, true) else if b = ⟨#[102, 117, 110, 100]⟩ then (⟨#[105]⟩, true) else if b = ⟨#[100, 114, 111, 112]⟩ then (⟨#[105]⟩, true) else if b = ⟨#[108, 101, 97, 118, 101]⟩ then (⟨#[105]⟩, true)
 else if b = ⟨#[97, 110, 110, 117, 105, 116, 121]⟩ then (⟨#[105, 105]⟩, true) else if b = ⟨#[115, 99, 101, 110, 97, 114, 105, 111]⟩ then (⟨#[105, 105]⟩, true) else if b = ⟨#[98, 111, 110, 117, 115]⟩ then (⟨#[105, 105]⟩, true)
 else if b = ⟨#[112, 114, 105, 99, 101]⟩ then (⟨#[105, 105, 105, 105]⟩, true)
 else if b = ⟨#[116, 97, 98, 108, 101]⟩ then (⟨#[105, 105, 46]⟩, true) else if b = ⟨#[121, 101, 97, 114]⟩ then (⟨#[105, 105, 46]⟩, true)
 else if b = ⟨#[113, 117, 111, 116, 101]⟩ then (⟨#[119]⟩, true) else if b = ⟨#[104, 111, 108, 100]⟩ then (⟨#[119, 105]⟩, true) else (⟨#[]⟩, false)
theorem shapeOf_ret (b : ByteArray) : Rt 64 [.v (.string b)] (.tup [.v (.string (shp b).1), Bo (shp b).2]) := by
 refine bZ Tryz.func64 ?_
 repeat' (conv => whnf); first | (intro h; try exact nZ) | apply And.intro | refine sZ ?_ | fail
 all_goals (try conv => whnf)
 all_goals first | exact rZ | (subst_vars; rfl) | (unfold shp; simp only [if_neg, *, not_false_eq_true]; done) | (unfold shp; simp [*]; done)
end
end Go.Proofs.YtglbamncajileaaGreatDoor
