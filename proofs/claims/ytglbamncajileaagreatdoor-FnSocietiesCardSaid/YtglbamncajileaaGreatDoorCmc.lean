/-
  Commands of the console read by the program: what the functions return. Commands of the console read by the reference: what the function returns. No conditions but those in the statements.
-/
import Derived.Test.YtglbamncajileaaGreatDoorCma
import Derived.Test.YtglbamncajileaaGreatDoorStp
set_option linter.unusedVariables false
set_option linter.unusedSimpArgs false
set_option maxRecDepth 100000
set_option maxHeartbeats 4000000
namespace Go.Proofs.YtglbamncajileaaGreatDoor
open Go.AE Go.Lib
section
attribute [local irreducible] CallA LoopA DrawA CallQ arithK quoK remK eqK
attribute [local irreducible] sgnN sgnB numX rnN shp
def impP (there more w : Bool) (m : Nat) (vs : List (List UInt8)) : Prop :=
 (there = true ∧ m ≤ vs.length ∧ (vs.length ≤ m ∨ more = true)) ∧ (w = true → vs.getD 0 [] ≠ []) ∧ allN (vs.drop (if w then 1 else 0)) ∧ vs.length ≤ 1000 + (if w then 1 else 0)
instance (there more w : Bool) (m : Nat) (vs : List (List UInt8)) : Decidable (impP there more w m vs) := by unfold impP; infer_instance
def wn (w : Bool) : Nat := if w then 1 else 0
def impW (w : Bool) (vs : List (List UInt8)) : ByteArray := if w then B (vs.getD 0 []) else ⟨#[]⟩
abbrev ImpOut (b0 : ByteArray) (there more w : Bool) (m : Nat) (vs : List (List UInt8)) (v : AV) (J : List Blk) : Prop := ∃ (x : ByteArray × ByteArray × List Int) (a s : Int), v = .tup [.agg [.v (.string x.1), .sl 0 1 x.2.2.length, .v (.string x.2.1)], Bo (decide (impP there more w m vs))] ∧ J = [.data (.ints .i64 x.2.2)] ∧ ((a = 0 ∧ s = 0) ∧ (impP there more w m vs → x = (b0, impW w vs, (vs.drop (wn w)).map rnN)))
structure ImpT (b0 : ByteArray) (there more w : Bool) (m : Nat) (vs : List (List UInt8)) (b c : ByteArray) (xs : List Int) : Prop where
 p : impP there more w m vs
 x : (b, c, xs) = (b0, impW w vs, (vs.drop (wn w)).map rnN)
theorem ends_impF {v : AV} {H : List Blk} {b0 : ByteArray} {there more w : Bool} {m : Nat} {vs : List (List UInt8)} (b c : ByteArray) (xs : List Int) (sel : List (Option Nat)) (h1 : vmV 0 sel v (.tup [.agg [.v (.string b), .sl 0 1 xs.length, .v (.string c)], Bo false])) (h2 : heapM 0 sel H [.data (.ints .i64 xs)]) (h3 : ¬ impP there more w m vs) :
   ∃ sel v' J, vmV 0 sel v v' ∧ heapM 0 sel H J ∧ ImpOut b0 there more w m vs v' J :=
 ⟨sel, _, _, h1, h2, (b, c, xs), 0, 0, by rw [decide_eq_false h3], rfl, ⟨rfl, rfl⟩, fun h => absurd h h3⟩
theorem ends_impT {v : AV} {H : List Blk} {b0 : ByteArray} {there more w : Bool} {m : Nat} {vs : List (List UInt8)} (b c : ByteArray) (xs : List Int) (sel : List (Option Nat)) (h1 : vmV 0 sel v (.tup [.agg [.v (.string b), .sl 0 1 xs.length, .v (.string c)], Bo true])) (h2 : heapM 0 sel H [.data (.ints .i64 xs)]) (h3 : ImpT b0 there more w m vs b c xs) :
   ∃ sel v' J, vmV 0 sel v v' ∧ heapM 0 sel H J ∧ ImpOut b0 there more w m vs v' J :=
 ⟨sel, _, _, h1, h2, (b, c, xs), 0, 0, by rw [decide_eq_true h3.p], rfl, ⟨rfl, rfl⟩, fun _ => h3.x⟩
theorem allN_snoc {vs : List (List UInt8)} {k i : Nat} (hk : k ≤ i) (h : i < vs.length) (ha : ∀ w ∈ (vs.take i).drop k, sgnB w) (hs : sgnB (vs.getD i [])) : ∀ w ∈ (vs.take (i + 1)).drop k, sgnB w := fun w hw => by
 rw [take_snoc [] h, List.drop_append_of_le_length (by rw [List.length_take]; omega)] at hw
 rcases List.mem_append.1 hw with hw | hw
 · exact ha w hw
 · obtain rfl := List.mem_singleton.1 hw
   exact hs
structure CmAt (w : Bool) (vs : List (List UInt8)) (i : Nat) (xs : List Int) (wd : ByteArray) : Prop where
 le : i ≤ vs.length
 all : ∀ u ∈ (vs.take i).drop (wn w), sgnB u
 len : xs.length = i - wn w
 nm : w = true → 0 < i → vs.getD 0 [] ≠ []
 xs_ : xs = ((vs.take i).drop (wn w)).map rnN
 wd_ : wd = if w = true ∧ 0 < i then B (vs.getD 0 []) else ⟨#[]⟩
theorem wn_le {w : Bool} {i : Nat} (hA : ¬ (w = true ∧ i = 0)) : wn w ≤ i := by
 unfold wn
 cases w with
 | false => exact Nat.zero_le _
 | true =>
   have : i ≠ 0 := fun e => hA ⟨rfl, e⟩
   show 1 ≤ i
   omega
theorem CmAt.next {w : Bool} {vs : List (List UInt8)} {i : Nat} {xs : List Int} {wd : ByteArray} (h : CmAt w vs i xs wd) (hi : i < vs.length) (hA : ¬ (w = true ∧ i = 0)) (hg : sgnB (vs.getD i [])) : CmAt w vs (i + 1) (xs ++ [rnN (vs.getD i [])]) wd := by
 have hk := wn_le hA
 refine ⟨hi, allN_snoc hk hi h.all hg, by rw [List.length_append, h.len]; show i - wn w + 1 = i + 1 - wn w; omega, fun hw _ => h.nm hw ?_, ?_, ?_⟩
 · have : i ≠ 0 := fun e => hA ⟨hw, e⟩
   omega
 · rw [take_snoc [] hi, List.drop_append_of_le_length (by rw [List.length_take]; omega), List.map_append, ← h.xs_]; rfl
 · rw [h.wd_]
   by_cases hw : w = true
   · have : i ≠ 0 := fun e => hA ⟨hw, e⟩
     rw [if_pos ⟨hw, by omega⟩, if_pos ⟨hw, by omega⟩]
   · rw [if_neg (fun e => hw e.1), if_neg (fun e => hw e.1)]
theorem CmAt.word {vs : List (List UInt8)} {xs : List Int} {wd c : ByteArray} (h : CmAt true vs 0 xs wd) (hi : 0 < vs.length) (hne : vs.getD 0 [] ≠ []) (hc : c = B (vs.getD 0 [])) : CmAt true vs 1 xs c :=
 have hd : (vs.take (0 + 1)).drop (wn true) = [] := List.drop_eq_nil_of_le (by rw [List.length_take]; show min 1 _ ≤ 1; omega)
 ⟨hi, fun u hu => (by rw [hd] at hu; cases hu), by rw [h.len]; rfl, fun _ _ => hne, by rw [h.xs_, hd]; rfl, by rw [if_pos ⟨rfl, Nat.one_pos⟩]; exact hc⟩
theorem not_imp {there more w : Bool} {m : Nat} {vs : List (List UInt8)} {i : Nat} (hi : i < vs.length) (hA : ¬ (w = true ∧ i = 0)) (hg : ¬ sgnB (vs.getD i [])) : ¬ impP there more w m vs := fun hp => by
 have hk : wn w ≤ i := by
   unfold wn
   cases w with
   | false => exact Nat.zero_le _
   | true =>
     have : i ≠ 0 := fun e => hA ⟨rfl, e⟩
     show 1 ≤ i
     omega
 have hall : ∀ u ∈ vs.drop (wn w), sgnB u := hp.2.2.1
 refine hg (hall _ ?_)
 have e : vs.getD i [] = (vs.drop (wn w)).getD (i - wn w) [] := by
   rw [List.getD_eq_getElem?_getD, List.getD_eq_getElem?_getD, List.getElem?_drop]
   congr 2
   omega
 rw [e]
 exact getD_mem (by rw [List.length_drop]; omega)
theorem CmAt.fin {w : Bool} {vs : List (List UInt8)} {xs : List Int} {wd : ByteArray} {more : Bool} {m : Nat} (h : CmAt w vs vs.length xs wd) (hc : m ≤ vs.length ∧ (vs.length ≤ m ∨ more = true)) (hm : w = true → 0 < m) : impP true more w m vs ↔ xs.length ≤ 1000 := by
 have ha := h.all
 rw [take_all (Nat.le_refl _)] at ha
 have hl := h.len
 have e : (if w then 1 else 0) = wn w := rfl
 have hw : wn w ≤ vs.length := by
   unfold wn
   cases w with
   | false => exact Nat.zero_le _
   | true =>
     have := hm rfl
     show 1 ≤ vs.length
     omega
 unfold impP
 rw [e]
 constructor
 · rintro ⟨_, _, _, h4⟩
   omega
 · intro h4
   refine ⟨⟨rfl, hc.1, hc.2⟩, fun hw1 => h.nm hw1 ?_, ha, by omega⟩
   have := hm hw1
   omega
theorem CmAt.out {w : Bool} {vs : List (List UInt8)} {xs : List Int} {wd b0 b : ByteArray} {more : Bool} {m : Nat} (h : CmAt w vs vs.length xs wd) (hc : m ≤ vs.length) (hm : w = true → 0 < m) (hp : impP true more w m vs) (hb : b = b0) : ImpT b0 true more w m vs b wd xs := by
 refine ⟨hp, ?_⟩
 have hx := h.xs_
 rw [take_all (Nat.le_refl _)] at hx
 rw [hb, hx, h.wd_]
 unfold impW
 cases w with
 | false => simp
 | true =>
   have := hm rfl
   rw [if_pos ⟨rfl, by omega⟩]
   rfl
attribute [local irreducible] impP
theorem command_call (l : List UInt8) (hn : l.length ≤ 1048576) (w0 : List UInt8) (vs : List (List UInt8)) (hws : sp 32 l = w0 :: vs) (s0 r : List UInt8) (there more w : Bool) (hs : shp (B w0) = (B s0, there)) (hs0 : s0.length ≤ 4) (hr : trimSuffix s0 [46] = r) (hm : hasSuffix s0 [46] = more)
   (hw : ∀ i, i < r.length → (r.getD i 0 = 119 ↔ (w = true ∧ i = 0))) (hw1 : w = true → 0 < r.length) :
   CallA Tryz.prog G2 40 [Sv l] [] (ImpOut (B w0) there more w r.length vs) := by
 refine cZ Tryz.func40 ?_
 have hsh := sp_short (c := 32) hn
 have hln := sp_many (c := 32) (l := l)
 have hsc := (split_call l 32 (by omega)).weak G_G2
 rw [hws] at hsc hsh hln
 have hln : vs.length ≤ 1048576 := by rw [List.length_cons] at hln; omega
 have hml : ((w0 :: vs).map B).length = vs.length + 1 := by simp
 have hvs : ∀ w ∈ vs, w.length ≤ 1048576 := fun w hw => hsh w (List.mem_cons_of_mem _ hw)
 have hso := (shapeOf_ret (B w0)).weak G_G2
 rw [hs] at hso
 have hct := (cutSuffix_ret s0 [46] (by omega)).weak G_G2
 rw [hr, hm] at hct
 have hrs := B_size r
 have hso2 : Ret Tryz.prog G2 64 [.v (.string (((w0 :: vs).map B).getD (Int.toNat 0) ByteArray.empty))] (.tup [Sv s0, Bo there]) := hso
 clear hso
 by_cases hc : there = true ∧ r.length ≤ vs.length ∧ (vs.length ≤ r.length ∨ more = true)
 · obtain ⟨c1, c2, c3⟩ := hc
   subst c1
   cases more with
   | false =>
     have c3 : vs.length ≤ r.length := by rcases c3 with h | h; exact h; cases h
     repeat' (conv => whnf); first | (intro h; try exact nZ) | apply And.intro | refine sZ ?_ | refine CallA.gM [] (hsc) ?_ | (refine Ret.go (hso2) rfl rfl ?_) | (refine Ret.go (hct) rfl rfl ?_) | fail
     all_goals first | exact rZ | (show (_ : Int) < (((w0 :: vs).map B).length : Int); omega) | (show (_ : Int) ≤ (((w0 :: vs).map B).length : Int); omega) | skip
     (conv => whnf)
     refine loop_rule hT (fun q : Nat × List Int × ByteArray => CmAt w vs q.1 q.2.1 q.2.2) 97 3 [0, 2, 5, 8, 55, 56, 57] (fun q => [Sv l, .ptr 0 0, .ptr 2 0, Sv r, .sub 1 1 (Int.toNat 1) (((w0 :: vs).map B).length - Int.toNat 1), I ((((w0 :: vs).map B).length - Int.toNat 1 : Nat) : Int), I q.1]) (fun q => [.cells [.v (.string ByteArray.empty), .nilsl, .v (.string ByteArray.empty)], .data (.strs ((w0 :: vs).map B)), .cells [.v (.string (((w0 :: vs).map B).getD (Int.toNat 0) ByteArray.empty)), .sl 3 1 q.2.1.length, .v (.string q.2.2)], .data (.ints .i64 q.2.1)]) (fun q => vs.length - q.1) ((0, [], ByteArray.empty)) (Nat.le_of_ble_eq_true rfl) ?_ ?_ ?_
     · exact ⟨Nat.zero_le _, by simp, by simp, fun _ h => absurd h (Nat.lt_irrefl 0), by simp, (if_neg fun e => absurd e.2 (Nat.lt_irrefl 0)).symm⟩
     · first | (exact endH1 [none])
     · rintro ⟨i, xs, wd⟩ hC
       dsimp only at hC ⊢
       have hle := hC.le
       have hxl := hC.len
       have hby := byteAt_B r i
       have hwe : ((w0 :: vs).map B).getD (Int.toNat 1 + ((i : Int)).toNat) ByteArray.empty = B (vs.getD i []) := by
         rw [show Int.toNat 1 + ((i : Int)).toNat = i + 1 by omega, strs_getD]
         rfl
       by_cases hi : i < vs.length
       · by_cases hA : w = true ∧ i = 0
         · obtain ⟨hA1, rfl⟩ := hA
           have hr0 := hw1 hA1
           have hb2 : byteAt (B r) (((0 : Nat) : Int)).toNat = 119 := by rw [show (((0 : Nat) : Int)).toNat = 0 from rfl, hby, (hw 0 hr0).2 ⟨hA1, rfl⟩]; rfl
           have hE : ((w0 :: vs).map B).getD (Int.toNat 1 + (((0 : Nat) : Int)).toNat) ByteArray.empty = ⟨#[]⟩ ↔ vs.getD 0 [] = [] := by rw [hwe]; exact B_inj (b := [])
           subst hA1
           repeat' (conv => whnf); first | (intro h; try exact nZ) | apply And.intro | refine sZ ?_ | fail
           all_goals try exact rZ
           all_goals ((conv => whnf); first
             | (apply ends_impF (((w0 :: vs).map B).getD (Int.toNat 0) ByteArray.empty) (((w0 :: vs).map B).getD (Int.toNat 1 + (((0 : Nat) : Int)).toNat) ByteArray.empty) xs [some 3]; (all_goals (repeat' (first | exact rfl | exact trivial | (with_reducible assumption) | refine And.intro ?_ ?_))); all_goals exact fun hp => (by unfold impP at hp; exact hp.2.1 rfl (hE.1 ‹_›)))
             | (refine ⟨(1, xs, ((w0 :: vs).map B).getD (Int.toNat 1 + (((0 : Nat) : Int)).toNat) ByteArray.empty), hC.word hi (fun e => absurd (hE.2 e) ‹_›) hwe, ?_, by dsimp only; omega⟩; (exact endH1 [some 3]))
            )
         · have hnm : i < r.length → byteAt (B r) ((i : Int)).toNat ≠ 119 := fun h e => hA ((hw i h).1 (u8_eq (b := 119) (hby.symm.trans e)))
           have hrd := readNumber_ret (vs.getD i []) (hvs _ (getD_mem hi))
           rw [show Sv (vs.getD i []) = .v (.string (((w0 :: vs).map B).getD (Int.toNat 1 + ((i : Int)).toNat) ByteArray.empty)) from congrArg (fun b => AV.v (.string b)) hwe.symm] at hrd
           by_cases hg : sgnB (vs.getD i [])
           · rw [decide_eq_true hg] at hrd
             by_cases hir : i < r.length
             · have hnm := hnm hir
               repeat' (conv => whnf); first | (intro h; try exact nZ) | apply And.intro | refine sZ ?_ | (refine Ret.go (hrd) rfl rfl ?_) | fail
               all_goals first | exact rZ | (show (_ : Nat) ≤ _; simp; omega) | skip
               all_goals ((conv => whnf); first | (refine ⟨(i + 1, xs ++ [rnN (vs.getD i [])], wd), hC.next hi hA hg, ?_, by dsimp only; omega⟩; first | (refine ⟨rfl, [some 5], ?_, ?_⟩; (repeat' first | apply And.intro | exact xZ | ((try dsimp only); exact rfl) | fail); done) | (refine ⟨rfl, [some 4], ?_, ?_⟩; (repeat' first | apply And.intro | exact xZ | ((try dsimp only); exact rfl) | fail); done)))
             · repeat' (conv => whnf); first | (intro h; try exact nZ) | apply And.intro | refine sZ ?_ | (refine Ret.go (hrd) rfl rfl ?_) | fail
               all_goals first | exact rZ | (show (_ : Nat) ≤ _; simp; omega) | skip
               all_goals ((conv => whnf); first | (refine ⟨(i + 1, xs ++ [rnN (vs.getD i [])], wd), hC.next hi hA hg, ?_, by dsimp only; omega⟩; first | (refine ⟨rfl, [some 5], ?_, ?_⟩; (repeat' first | apply And.intro | exact xZ | ((try dsimp only); exact rfl) | fail); done) | (refine ⟨rfl, [some 4], ?_, ?_⟩; (repeat' first | apply And.intro | exact xZ | ((try dsimp only); exact rfl) | fail); done)))
           · rw [decide_eq_false hg] at hrd
             by_cases hir : i < r.length
             · have hnm := hnm hir
               repeat' (conv => whnf); first | (intro h; try exact nZ) | apply And.intro | refine sZ ?_ | (refine Ret.go (hrd) rfl rfl ?_) | fail
               all_goals try exact rZ
               all_goals ((conv => whnf); first | (apply ends_impF (((w0 :: vs).map B).getD (Int.toNat 0) ByteArray.empty) wd xs [some 3]; (all_goals (repeat' (first | exact rfl | exact trivial | (with_reducible assumption) | refine And.intro ?_ ?_))); all_goals exact not_imp hi hA hg))
             · repeat' (conv => whnf); first | (intro h; try exact nZ) | apply And.intro | refine sZ ?_ | (refine Ret.go (hrd) rfl rfl ?_) | fail
               all_goals try exact rZ
               all_goals ((conv => whnf); first | (apply ends_impF (((w0 :: vs).map B).getD (Int.toNat 0) ByteArray.empty) wd xs [some 3]; (all_goals (repeat' (first | exact rfl | exact trivial | (with_reducible assumption) | refine And.intro ?_ ?_))); all_goals exact not_imp hi hA hg))
       · obtain rfl : i = vs.length := by omega
         have hf := hC.fin (more := false) (m := r.length) ⟨c2, by first | exact .inl c3 | exact .inr rfl⟩ hw1
         repeat' (conv => whnf); first | (intro h; try exact nZ) | apply And.intro | refine sZ ?_ | fail
         all_goals try exact rZ
         all_goals ((conv => whnf); first
           | (apply ends_impT (((w0 :: vs).map B).getD (Int.toNat 0) ByteArray.empty) wd xs [some 3]; (all_goals (repeat' (first | exact rfl | exact trivial | (with_reducible assumption) | refine And.intro ?_ ?_))); all_goals exact hC.out c2 hw1 (hf.2 (by omega)) rfl)
           | (apply ends_impF (((w0 :: vs).map B).getD (Int.toNat 0) ByteArray.empty) wd xs [some 3]; (all_goals (repeat' (first | exact rfl | exact trivial | (with_reducible assumption) | refine And.intro ?_ ?_))); all_goals exact fun hp => absurd (hf.1 hp) (by omega))
          )
   | true =>
     by_cases hgt : vs.length ≤ r.length
     · repeat' (conv => whnf); first | (intro h; try exact nZ) | apply And.intro | refine sZ ?_ | refine CallA.gM [] (hsc) ?_ | (refine Ret.go (hso2) rfl rfl ?_) | (refine Ret.go (hct) rfl rfl ?_) | fail
       all_goals first | exact rZ | (show (_ : Int) < (((w0 :: vs).map B).length : Int); omega) | (show (_ : Int) ≤ (((w0 :: vs).map B).length : Int); omega) | skip
       (conv => whnf)
       refine loop_rule hT (fun q : Nat × List Int × ByteArray => CmAt w vs q.1 q.2.1 q.2.2) 97 3 [0, 2, 5, 8, 55, 56, 57] (fun q => [Sv l, .ptr 0 0, .ptr 2 0, Sv r, .sub 1 1 (Int.toNat 1) (((w0 :: vs).map B).length - Int.toNat 1), I ((((w0 :: vs).map B).length - Int.toNat 1 : Nat) : Int), I q.1]) (fun q => [.cells [.v (.string ByteArray.empty), .nilsl, .v (.string ByteArray.empty)], .data (.strs ((w0 :: vs).map B)), .cells [.v (.string (((w0 :: vs).map B).getD (Int.toNat 0) ByteArray.empty)), .sl 3 1 q.2.1.length, .v (.string q.2.2)], .data (.ints .i64 q.2.1)]) (fun q => vs.length - q.1) ((0, [], ByteArray.empty)) (Nat.le_of_ble_eq_true rfl) ?_ ?_ ?_
       · exact ⟨Nat.zero_le _, by simp, by simp, fun _ h => absurd h (Nat.lt_irrefl 0), by simp, (if_neg fun e => absurd e.2 (Nat.lt_irrefl 0)).symm⟩
       · first | (exact endH1 [none])
       · rintro ⟨i, xs, wd⟩ hC
         dsimp only at hC ⊢
         have hle := hC.le
         have hxl := hC.len
         have hby := byteAt_B r i
         have hwe : ((w0 :: vs).map B).getD (Int.toNat 1 + ((i : Int)).toNat) ByteArray.empty = B (vs.getD i []) := by
           rw [show Int.toNat 1 + ((i : Int)).toNat = i + 1 by omega, strs_getD]
           rfl
         by_cases hi : i < vs.length
         · by_cases hA : w = true ∧ i = 0
           · obtain ⟨hA1, rfl⟩ := hA
             have hr0 := hw1 hA1
             have hb2 : byteAt (B r) (((0 : Nat) : Int)).toNat = 119 := by rw [show (((0 : Nat) : Int)).toNat = 0 from rfl, hby, (hw 0 hr0).2 ⟨hA1, rfl⟩]; rfl
             have hE : ((w0 :: vs).map B).getD (Int.toNat 1 + (((0 : Nat) : Int)).toNat) ByteArray.empty = ⟨#[]⟩ ↔ vs.getD 0 [] = [] := by rw [hwe]; exact B_inj (b := [])
             subst hA1
             repeat' (conv => whnf); first | (intro h; try exact nZ) | apply And.intro | refine sZ ?_ | fail
             all_goals try exact rZ
             all_goals ((conv => whnf); first
               | (apply ends_impF (((w0 :: vs).map B).getD (Int.toNat 0) ByteArray.empty) (((w0 :: vs).map B).getD (Int.toNat 1 + (((0 : Nat) : Int)).toNat) ByteArray.empty) xs [some 3]; (all_goals (repeat' (first | exact rfl | exact trivial | (with_reducible assumption) | refine And.intro ?_ ?_))); all_goals exact fun hp => (by unfold impP at hp; exact hp.2.1 rfl (hE.1 ‹_›)))
               | (refine ⟨(1, xs, ((w0 :: vs).map B).getD (Int.toNat 1 + (((0 : Nat) : Int)).toNat) ByteArray.empty), hC.word hi (fun e => absurd (hE.2 e) ‹_›) hwe, ?_, by dsimp only; omega⟩; (exact endH1 [some 3]))
              )
           · have hnm : i < r.length → byteAt (B r) ((i : Int)).toNat ≠ 119 := fun h e => hA ((hw i h).1 (u8_eq (b := 119) (hby.symm.trans e)))
             have hrd := readNumber_ret (vs.getD i []) (hvs _ (getD_mem hi))
             rw [show Sv (vs.getD i []) = .v (.string (((w0 :: vs).map B).getD (Int.toNat 1 + ((i : Int)).toNat) ByteArray.empty)) from congrArg (fun b => AV.v (.string b)) hwe.symm] at hrd
             by_cases hg : sgnB (vs.getD i [])
             · rw [decide_eq_true hg] at hrd
               by_cases hir : i < r.length
               · have hnm := hnm hir
                 repeat' (conv => whnf); first | (intro h; try exact nZ) | apply And.intro | refine sZ ?_ | (refine Ret.go (hrd) rfl rfl ?_) | fail
                 all_goals first | exact rZ | (show (_ : Nat) ≤ _; simp; omega) | skip
                 all_goals ((conv => whnf); first | (refine ⟨(i + 1, xs ++ [rnN (vs.getD i [])], wd), hC.next hi hA hg, ?_, by dsimp only; omega⟩; first | (refine ⟨rfl, [some 5], ?_, ?_⟩; (repeat' first | apply And.intro | exact xZ | ((try dsimp only); exact rfl) | fail); done) | (refine ⟨rfl, [some 4], ?_, ?_⟩; (repeat' first | apply And.intro | exact xZ | ((try dsimp only); exact rfl) | fail); done)))
               · repeat' (conv => whnf); first | (intro h; try exact nZ) | apply And.intro | refine sZ ?_ | (refine Ret.go (hrd) rfl rfl ?_) | fail
                 all_goals first | exact rZ | (show (_ : Nat) ≤ _; simp; omega) | skip
                 all_goals ((conv => whnf); first | (refine ⟨(i + 1, xs ++ [rnN (vs.getD i [])], wd), hC.next hi hA hg, ?_, by dsimp only; omega⟩; first | (refine ⟨rfl, [some 5], ?_, ?_⟩; (repeat' first | apply And.intro | exact xZ | ((try dsimp only); exact rfl) | fail); done) | (refine ⟨rfl, [some 4], ?_, ?_⟩; (repeat' first | apply And.intro | exact xZ | ((try dsimp only); exact rfl) | fail); done)))
             · rw [decide_eq_false hg] at hrd
               by_cases hir : i < r.length
               · have hnm := hnm hir
                 repeat' (conv => whnf); first | (intro h; try exact nZ) | apply And.intro | refine sZ ?_ | (refine Ret.go (hrd) rfl rfl ?_) | fail
                 all_goals try exact rZ
                 all_goals ((conv => whnf); first | (apply ends_impF (((w0 :: vs).map B).getD (Int.toNat 0) ByteArray.empty) wd xs [some 3]; (all_goals (repeat' (first | exact rfl | exact trivial | (with_reducible assumption) | refine And.intro ?_ ?_))); all_goals exact not_imp hi hA hg))
               · repeat' (conv => whnf); first | (intro h; try exact nZ) | apply And.intro | refine sZ ?_ | (refine Ret.go (hrd) rfl rfl ?_) | fail
                 all_goals try exact rZ
                 all_goals ((conv => whnf); first | (apply ends_impF (((w0 :: vs).map B).getD (Int.toNat 0) ByteArray.empty) wd xs [some 3]; (all_goals (repeat' (first | exact rfl | exact trivial | (with_reducible assumption) | refine And.intro ?_ ?_))); all_goals exact not_imp hi hA hg))
         · obtain rfl : i = vs.length := by omega
           have hf := hC.fin (more := true) (m := r.length) ⟨c2, by first | exact .inl c3 | exact .inr rfl⟩ hw1
           repeat' (conv => whnf); first | (intro h; try exact nZ) | apply And.intro | refine sZ ?_ | fail
           all_goals try exact rZ
           all_goals ((conv => whnf); first
             | (apply ends_impT (((w0 :: vs).map B).getD (Int.toNat 0) ByteArray.empty) wd xs [some 3]; (all_goals (repeat' (first | exact rfl | exact trivial | (with_reducible assumption) | refine And.intro ?_ ?_))); all_goals exact hC.out c2 hw1 (hf.2 (by omega)) rfl)
             | (apply ends_impF (((w0 :: vs).map B).getD (Int.toNat 0) ByteArray.empty) wd xs [some 3]; (all_goals (repeat' (first | exact rfl | exact trivial | (with_reducible assumption) | refine And.intro ?_ ?_))); all_goals exact fun hp => absurd (hf.1 hp) (by omega))
            )
     · repeat' (conv => whnf); first | (intro h; try exact nZ) | apply And.intro | refine sZ ?_ | refine CallA.gM [] (hsc) ?_ | (refine Ret.go (hso2) rfl rfl ?_) | (refine Ret.go (hct) rfl rfl ?_) | fail
       all_goals first | exact rZ | (show (_ : Int) < (((w0 :: vs).map B).length : Int); omega) | (show (_ : Int) ≤ (((w0 :: vs).map B).length : Int); omega) | skip
       (conv => whnf)
       refine loop_rule hT (fun q : Nat × List Int × ByteArray => CmAt w vs q.1 q.2.1 q.2.2) 97 3 [0, 2, 5, 8, 55, 56, 57] (fun q => [Sv l, .ptr 0 0, .ptr 2 0, Sv r, .sub 1 1 (Int.toNat 1) (((w0 :: vs).map B).length - Int.toNat 1), I ((((w0 :: vs).map B).length - Int.toNat 1 : Nat) : Int), I q.1]) (fun q => [.cells [.v (.string ByteArray.empty), .nilsl, .v (.string ByteArray.empty)], .data (.strs ((w0 :: vs).map B)), .cells [.v (.string (((w0 :: vs).map B).getD (Int.toNat 0) ByteArray.empty)), .sl 3 1 q.2.1.length, .v (.string q.2.2)], .data (.ints .i64 q.2.1)]) (fun q => vs.length - q.1) ((0, [], ByteArray.empty)) (Nat.le_of_ble_eq_true rfl) ?_ ?_ ?_
       · exact ⟨Nat.zero_le _, by simp, by simp, fun _ h => absurd h (Nat.lt_irrefl 0), by simp, (if_neg fun e => absurd e.2 (Nat.lt_irrefl 0)).symm⟩
       · first | (exact endH1 [none])
       · rintro ⟨i, xs, wd⟩ hC
         dsimp only at hC ⊢
         have hle := hC.le
         have hxl := hC.len
         have hby := byteAt_B r i
         have hwe : ((w0 :: vs).map B).getD (Int.toNat 1 + ((i : Int)).toNat) ByteArray.empty = B (vs.getD i []) := by
           rw [show Int.toNat 1 + ((i : Int)).toNat = i + 1 by omega, strs_getD]
           rfl
         by_cases hi : i < vs.length
         · by_cases hA : w = true ∧ i = 0
           · obtain ⟨hA1, rfl⟩ := hA
             have hr0 := hw1 hA1
             have hb2 : byteAt (B r) (((0 : Nat) : Int)).toNat = 119 := by rw [show (((0 : Nat) : Int)).toNat = 0 from rfl, hby, (hw 0 hr0).2 ⟨hA1, rfl⟩]; rfl
             have hE : ((w0 :: vs).map B).getD (Int.toNat 1 + (((0 : Nat) : Int)).toNat) ByteArray.empty = ⟨#[]⟩ ↔ vs.getD 0 [] = [] := by rw [hwe]; exact B_inj (b := [])
             subst hA1
             repeat' (conv => whnf); first | (intro h; try exact nZ) | apply And.intro | refine sZ ?_ | fail
             all_goals try exact rZ
             all_goals ((conv => whnf); first
               | (apply ends_impF (((w0 :: vs).map B).getD (Int.toNat 0) ByteArray.empty) (((w0 :: vs).map B).getD (Int.toNat 1 + (((0 : Nat) : Int)).toNat) ByteArray.empty) xs [some 3]; (all_goals (repeat' (first | exact rfl | exact trivial | (with_reducible assumption) | refine And.intro ?_ ?_))); all_goals exact fun hp => (by unfold impP at hp; exact hp.2.1 rfl (hE.1 ‹_›)))
               | (refine ⟨(1, xs, ((w0 :: vs).map B).getD (Int.toNat 1 + (((0 : Nat) : Int)).toNat) ByteArray.empty), hC.word hi (fun e => absurd (hE.2 e) ‹_›) hwe, ?_, by dsimp only; omega⟩; (exact endH1 [some 3]))
              )
           · have hnm : i < r.length → byteAt (B r) ((i : Int)).toNat ≠ 119 := fun h e => hA ((hw i h).1 (u8_eq (b := 119) (hby.symm.trans e)))
             have hrd := readNumber_ret (vs.getD i []) (hvs _ (getD_mem hi))
             rw [show Sv (vs.getD i []) = .v (.string (((w0 :: vs).map B).getD (Int.toNat 1 + ((i : Int)).toNat) ByteArray.empty)) from congrArg (fun b => AV.v (.string b)) hwe.symm] at hrd
             by_cases hg : sgnB (vs.getD i [])
             · rw [decide_eq_true hg] at hrd
               by_cases hir : i < r.length
               · have hnm := hnm hir
                 repeat' (conv => whnf); first | (intro h; try exact nZ) | apply And.intro | refine sZ ?_ | (refine Ret.go (hrd) rfl rfl ?_) | fail
                 all_goals first | exact rZ | (show (_ : Nat) ≤ _; simp; omega) | skip
                 all_goals ((conv => whnf); first | (refine ⟨(i + 1, xs ++ [rnN (vs.getD i [])], wd), hC.next hi hA hg, ?_, by dsimp only; omega⟩; first | (refine ⟨rfl, [some 5], ?_, ?_⟩; (repeat' first | apply And.intro | exact xZ | ((try dsimp only); exact rfl) | fail); done) | (refine ⟨rfl, [some 4], ?_, ?_⟩; (repeat' first | apply And.intro | exact xZ | ((try dsimp only); exact rfl) | fail); done)))
               · repeat' (conv => whnf); first | (intro h; try exact nZ) | apply And.intro | refine sZ ?_ | (refine Ret.go (hrd) rfl rfl ?_) | fail
                 all_goals first | exact rZ | (show (_ : Nat) ≤ _; simp; omega) | skip
                 all_goals ((conv => whnf); first | (refine ⟨(i + 1, xs ++ [rnN (vs.getD i [])], wd), hC.next hi hA hg, ?_, by dsimp only; omega⟩; first | (refine ⟨rfl, [some 5], ?_, ?_⟩; (repeat' first | apply And.intro | exact xZ | ((try dsimp only); exact rfl) | fail); done) | (refine ⟨rfl, [some 4], ?_, ?_⟩; (repeat' first | apply And.intro | exact xZ | ((try dsimp only); exact rfl) | fail); done)))
             · rw [decide_eq_false hg] at hrd
               by_cases hir : i < r.length
               · have hnm := hnm hir
                 repeat' (conv => whnf); first | (intro h; try exact nZ) | apply And.intro | refine sZ ?_ | (refine Ret.go (hrd) rfl rfl ?_) | fail
                 all_goals try exact rZ
                 all_goals ((conv => whnf); first | (apply ends_impF (((w0 :: vs).map B).getD (Int.toNat 0) ByteArray.empty) wd xs [some 3]; (all_goals (repeat' (first | exact rfl | exact trivial | (with_reducible assumption) | refine And.intro ?_ ?_))); all_goals exact not_imp hi hA hg))
               · repeat' (conv => whnf); first | (intro h; try exact nZ) | apply And.intro | refine sZ ?_ | (refine Ret.go (hrd) rfl rfl ?_) | fail
                 all_goals try exact rZ
                 all_goals ((conv => whnf); first | (apply ends_impF (((w0 :: vs).map B).getD (Int.toNat 0) ByteArray.empty) wd xs [some 3]; (all_goals (repeat' (first | exact rfl | exact trivial | (with_reducible assumption) | refine And.intro ?_ ?_))); all_goals exact not_imp hi hA hg))
         · obtain rfl : i = vs.length := by omega
           have hf := hC.fin (more := true) (m := r.length) ⟨c2, by first | exact .inl c3 | exact .inr rfl⟩ hw1
           repeat' (conv => whnf); first | (intro h; try exact nZ) | apply And.intro | refine sZ ?_ | fail
           all_goals try exact rZ
           all_goals ((conv => whnf); first
             | (apply ends_impT (((w0 :: vs).map B).getD (Int.toNat 0) ByteArray.empty) wd xs [some 3]; (all_goals (repeat' (first | exact rfl | exact trivial | (with_reducible assumption) | refine And.intro ?_ ?_))); all_goals exact hC.out c2 hw1 (hf.2 (by omega)) rfl)
             | (apply ends_impF (((w0 :: vs).map B).getD (Int.toNat 0) ByteArray.empty) wd xs [some 3]; (all_goals (repeat' (first | exact rfl | exact trivial | (with_reducible assumption) | refine And.intro ?_ ?_))); all_goals exact fun hp => absurd (hf.1 hp) (by omega))
            )
 · have hno : ¬ impP there more w r.length vs := fun hp => hc (by unfold impP at hp; exact hp.1)
   cases there with
   | false =>
     repeat' (conv => whnf); first | (intro h; try exact nZ) | apply And.intro | refine sZ ?_ | refine CallA.gM [] (hsc) ?_ | (refine Ret.go (hso2) rfl rfl ?_) | (refine Ret.go (hct) rfl rfl ?_) | fail
     all_goals first | exact rZ | (show (_ : Int) < (((w0 :: vs).map B).length : Int); omega) | (show (_ : Int) ≤ (((w0 :: vs).map B).length : Int); omega) | skip
     all_goals ((conv => whnf); first | (apply ends_impF (((w0 :: vs).map B).getD (Int.toNat 0) ByteArray.empty) ByteArray.empty [] [none]; (all_goals (repeat' (first | exact rfl | exact trivial | (with_reducible assumption) | refine And.intro ?_ ?_))); all_goals exact hno))
   | true =>
     by_cases c2 : r.length ≤ vs.length
     · have c3 : ¬ (vs.length ≤ r.length ∨ more = true) := fun h => hc ⟨rfl, c2, h⟩
       have c4 : more = false := by
         cases more with
         | false => rfl
         | true => exact absurd (.inr rfl) c3
       have c5 : r.length < vs.length := by
         rcases Nat.lt_or_ge r.length vs.length with h | h
         · exact h
         · exact absurd (.inl h) c3
       rw [c4] at hct hno ⊢
       repeat' (conv => whnf); first | (intro h; try exact nZ) | apply And.intro | refine sZ ?_ | refine CallA.gM [] (hsc) ?_ | (refine Ret.go (hso2) rfl rfl ?_) | (refine Ret.go (hct) rfl rfl ?_) | fail
       all_goals first | exact rZ | (show (_ : Int) < (((w0 :: vs).map B).length : Int); omega) | (show (_ : Int) ≤ (((w0 :: vs).map B).length : Int); omega) | skip
       all_goals ((conv => whnf); first | (apply ends_impF (((w0 :: vs).map B).getD (Int.toNat 0) ByteArray.empty) ByteArray.empty [] [none]; (all_goals (repeat' (first | exact rfl | exact trivial | (with_reducible assumption) | refine And.intro ?_ ?_))); all_goals exact hno))
     · repeat' (conv => whnf); first | (intro h; try exact nZ) | apply And.intro | refine sZ ?_ | refine CallA.gM [] (hsc) ?_ | (refine Ret.go (hso2) rfl rfl ?_) | (refine Ret.go (hct) rfl rfl ?_) | fail
       all_goals first | exact rZ | (show (_ : Int) < (((w0 :: vs).map B).length : Int); omega) | (show (_ : Int) ≤ (((w0 :: vs).map B).length : Int); omega) | skip
       all_goals ((conv => whnf); first | (apply ends_impF (((w0 :: vs).map B).getD (Int.toNat 0) ByteArray.empty) ByteArray.empty [] [none]; (all_goals (repeat' (first | exact rfl | exact trivial | (with_reducible assumption) | refine And.intro ?_ ?_))); all_goals exact hno))
end
section
attribute [local irreducible] CallA LoopA DrawA CallQ arithK quoK remK eqK
def kd (b : ByteArray) : Nat × Nat × Nat :=
 if b = ⟨#[108, 105, 115, 116]⟩ then (1, 0, 0) else if b = ⟨#[114, 101, 115, 101, 114, 118, 101]⟩ then (1, 0, 0) else if b = ⟨#[112, 114, 101, 109, 105, 117, 109, 115]⟩ then (1, 0, 0) else if b = ⟨#[99, 108, 97, 105, 109, 115]⟩ then (1, 0, 0)
 else if b = ⟨#[113, 117, 111, 116, 101]⟩ then (2, 0, 0) else if b = ⟨#[104, 111, 108, 100]⟩ then (2, 1, 1)
 else if b = ⟨#[114, 97, 116, 101]⟩ then (1, 1, 1) else if b = ⟨#[102, 117, 110, 100]⟩ then (1, 1, 1) else if b = ⟨#[100, 114, 111, 112]⟩ then (1, 1, 1) else if b = ⟨#[108, 101, 97, 118, 101]⟩ then (1, 1, 1)
 else if b = ⟨#[97, 110, 110, 117, 105, 116, 121]⟩ then (1, 2, 2) else if b = ⟨#[115, 99, 101, 110, 97, 114, 105, 111]⟩ then (1, 2, 2) else if b = ⟨#[98, 111, 110, 117, 115]⟩ then (1, 2, 2)
 else if b = ⟨#[112, 114, 105, 99, 101]⟩ then (1, 4, 4)
 else if b = ⟨#[116, 97, 98, 108, 101]⟩ then (1, 2, 1000) else if b = ⟨#[121, 101, 97, 114]⟩ then (1, 2, 1000)
 else (0, 0, 0)
theorem allN_drop {vs : List (List UInt8)} (h : allN vs) : allN (vs.drop 1) := fun w hw => h w (List.mem_of_mem_drop hw)
attribute [local irreducible] sgnN sgnB numX allN
def cmdP (b : ByteArray) (vs : List (List UInt8)) : Prop :=
 ((kd b).1 = 1 ∧ allN vs ∧ (kd b).2.1 ≤ vs.length ∧ vs.length ≤ (kd b).2.2) ∨ ((kd b).1 = 2 ∧ (vs ≠ [] ∧ vs.getD 0 [] ≠ []) ∧ allN (vs.drop 1) ∧ (kd b).2.1 ≤ (vs.drop 1).length ∧ (vs.drop 1).length ≤ (kd b).2.2)
instance (b : ByteArray) (vs : List (List UInt8)) : Decidable (cmdP b vs) := by unfold cmdP; infer_instance
def cmdW (b : ByteArray) (vs : List (List UInt8)) : ByteArray := if (kd b).1 = 2 then B (vs.getD 0 []) else ⟨#[]⟩
def cmdN (b : ByteArray) (vs : List (List UInt8)) : List Int := if (kd b).1 = 2 then numX (vs.drop 1) else numX vs
structure CmdT (b c : ByteArray) (vs : List (List UInt8)) (xs : List Int) : Prop where
 p : cmdP b vs
 w : c = cmdW b vs
 n : xs = cmdN b vs
abbrev CmdOut (b : ByteArray) (vs : List (List UInt8)) (v : AV) (J : List Blk) : Prop := ∃ (x : ByteArray × ByteArray × List Int) (a s : Int), v = .tup [.v (.string x.1), .v (.string x.2.1), .sl 0 1 x.2.2.length, Bo (decide (cmdP b vs))] ∧ J = [.data (.ints .i64 x.2.2)] ∧ ((a = 0 ∧ s = 0) ∧ (cmdP b vs → x = (b, cmdW b vs, cmdN b vs)))
theorem ends_cmdF {v : AV} {H : List Blk} {w : ByteArray} {vs : List (List UInt8)} (b c : ByteArray) (xs : List Int) (sel : List (Option Nat)) (h1 : vmV 0 sel v (.tup [.v (.string b), .v (.string c), .sl 0 1 xs.length, Bo false])) (h2 : heapM 0 sel H [.data (.ints .i64 xs)]) (h3 : ¬ cmdP w vs) :
   ∃ sel v' J, vmV 0 sel v v' ∧ heapM 0 sel H J ∧ CmdOut w vs v' J :=
 ⟨sel, _, _, h1, h2, (b, c, xs), 0, 0, by rw [decide_eq_false h3], rfl, ⟨rfl, rfl⟩, fun h => absurd h h3⟩
theorem ends_cmdT {v : AV} {H : List Blk} {vs : List (List UInt8)} (b c : ByteArray) (xs : List Int) (sel : List (Option Nat)) (h1 : vmV 0 sel v (.tup [.v (.string b), .v (.string c), .sl 0 1 xs.length, Bo true])) (h2 : heapM 0 sel H [.data (.ints .i64 xs)]) (h3 : CmdT b c vs xs) :
   ∃ sel v' J, vmV 0 sel v v' ∧ heapM 0 sel H J ∧ CmdOut b vs v' J :=
 ⟨sel, _, _, h1, h2, (b, c, xs), 0, 0, by rw [decide_eq_true h3.p], rfl, ⟨rfl, rfl⟩, fun _ => by rw [← h3.w, ← h3.n]⟩
theorem kd_cases {b : ByteArray} {vs : List (List UInt8)} {k lo hi : Nat} (h : kd b = (k, lo, hi)) : cmdP b vs ↔ (k = 1 ∧ allN vs ∧ lo ≤ vs.length ∧ vs.length ≤ hi) ∨ (k = 2 ∧ (vs ≠ [] ∧ vs.getD 0 [] ≠ []) ∧ allN (vs.drop 1) ∧ lo ≤ (vs.drop 1).length ∧ (vs.drop 1).length ≤ hi) := by
 unfold cmdP
 rw [h]
theorem kd_list {b : ByteArray} (h : b = ⟨#[108, 105, 115, 116]⟩) : kd b = (1, 0, 0) := by subst h; decide
theorem kd_reserve {b : ByteArray} (h : b = ⟨#[114, 101, 115, 101, 114, 118, 101]⟩) : kd b = (1, 0, 0) := by subst h; decide
theorem kd_premiums {b : ByteArray} (h : b = ⟨#[112, 114, 101, 109, 105, 117, 109, 115]⟩) : kd b = (1, 0, 0) := by subst h; decide
theorem kd_claims {b : ByteArray} (h : b = ⟨#[99, 108, 97, 105, 109, 115]⟩) : kd b = (1, 0, 0) := by subst h; decide
theorem kd_quote {b : ByteArray} (h : b = ⟨#[113, 117, 111, 116, 101]⟩) : kd b = (2, 0, 0) := by subst h; decide
theorem kd_hold {b : ByteArray} (h : b = ⟨#[104, 111, 108, 100]⟩) : kd b = (2, 1, 1) := by subst h; decide
theorem kd_rate {b : ByteArray} (h : b = ⟨#[114, 97, 116, 101]⟩) : kd b = (1, 1, 1) := by subst h; decide
theorem kd_fund {b : ByteArray} (h : b = ⟨#[102, 117, 110, 100]⟩) : kd b = (1, 1, 1) := by subst h; decide
theorem kd_drop {b : ByteArray} (h : b = ⟨#[100, 114, 111, 112]⟩) : kd b = (1, 1, 1) := by subst h; decide
theorem kd_leave {b : ByteArray} (h : b = ⟨#[108, 101, 97, 118, 101]⟩) : kd b = (1, 1, 1) := by subst h; decide
theorem kd_annuity {b : ByteArray} (h : b = ⟨#[97, 110, 110, 117, 105, 116, 121]⟩) : kd b = (1, 2, 2) := by subst h; decide
theorem kd_scenario {b : ByteArray} (h : b = ⟨#[115, 99, 101, 110, 97, 114, 105, 111]⟩) : kd b = (1, 2, 2) := by subst h; decide
theorem kd_bonus {b : ByteArray} (h : b = ⟨#[98, 111, 110, 117, 115]⟩) : kd b = (1, 2, 2) := by subst h; decide
theorem kd_price {b : ByteArray} (h : b = ⟨#[112, 114, 105, 99, 101]⟩) : kd b = (1, 4, 4) := by subst h; decide
theorem kd_table {b : ByteArray} (h : b = ⟨#[116, 97, 98, 108, 101]⟩) : kd b = (1, 2, 1000) := by subst h; decide
theorem kd_year {b : ByteArray} (h : b = ⟨#[121, 101, 97, 114]⟩) : kd b = (1, 2, 1000) := by subst h; decide
theorem kd_none {b : ByteArray} (h0 : ¬ b = ⟨#[108, 105, 115, 116]⟩) (h1 : ¬ b = ⟨#[114, 101, 115, 101, 114, 118, 101]⟩) (h2 : ¬ b = ⟨#[112, 114, 101, 109, 105, 117, 109, 115]⟩) (h3 : ¬ b = ⟨#[99, 108, 97, 105, 109, 115]⟩) (h4 : ¬ b = ⟨#[113, 117, 111, 116, 101]⟩) (h5 : ¬ b = ⟨#[104, 111, 108, 100]⟩) (h6 : ¬ b = ⟨#[114, 97, 116, 101]⟩) (h7 : ¬ b = ⟨#[102, 117, 110, 100]⟩) (h8 : ¬ b = ⟨#[100, 114, 111, 112]⟩) (h9 : ¬ b = ⟨#[108, 101, 97, 118, 101]⟩) (h10 : ¬ b = ⟨#[97, 110, 110, 117, 105, 116, 121]⟩) (h11 : ¬ b = ⟨#[115, 99, 101, 110, 97, 114, 105, 111]⟩) (h12 : ¬ b = ⟨#[98, 111, 110, 117, 115]⟩) (h13 : ¬ b = ⟨#[112, 114, 105, 99, 101]⟩) (h14 : ¬ b = ⟨#[116, 97, 98, 108, 101]⟩) (h15 : ¬ b = ⟨#[121, 101, 97, 114]⟩) : kd b = (0, 0, 0) := by unfold kd; simp only [h0, h1, h2, h3, h4, h5, h6, h7, h8, h9, h10, h11, h12, h13, h14, h15, if_false]
theorem cmdT1 {b : ByteArray} {vs : List (List UInt8)} {k lo hi : Nat} (hk : kd b = (k, lo, hi)) (h1 : k = 1) (ha : allN vs) (h2 : lo ≤ vs.length) (h3 : vs.length ≤ hi) : CmdT b ⟨#[]⟩ vs (numX vs) := by
 subst h1
 exact ⟨(kd_cases hk).2 (.inl ⟨rfl, ha, h2, h3⟩), by unfold cmdW; rw [hk]; rfl, by unfold cmdN; rw [hk]; rfl⟩
theorem cmdT2 {b c : ByteArray} {vs : List (List UInt8)} {k lo hi : Nat} (hk : kd b = (k, lo, hi)) (h1 : k = 2) (hv : vs ≠ []) (hc : c = B (vs.getD 0 [])) (h0 : vs.getD 0 [] ≠ []) (ha : allN (vs.drop 1)) (h2 : lo ≤ (vs.drop 1).length) (h3 : (vs.drop 1).length ≤ hi) : CmdT b c vs (numX (vs.drop 1)) := by
 subst h1
 exact ⟨(kd_cases hk).2 (.inr ⟨rfl, ⟨hv, h0⟩, ha, h2, h3⟩), by unfold cmdW; rw [hk]; exact hc, by unfold cmdN; rw [hk]; rfl⟩
theorem parse_call (l : List UInt8) (hn : l.length ≤ 1048576) (w0 : List UInt8) (vs : List (List UInt8)) (hws : sp 32 l = w0 :: vs) :
   Ca 41 [Sv l] [] (CmdOut (B w0) vs) := by
 refine cZ Tryz.func41 ?_
 have hsh := sp_short (c := 32) hn
 have hln := sp_many (c := 32) (l := l)
 have hsc := l01Split_call l 32 hn
 rw [hws] at hsc hsh hln
 have hln : vs.length ≤ 1048576 := by rw [List.length_cons] at hln; omega
 have hml : ((w0 :: vs).map B).length = vs.length + 1 := by simp
 have hdl : (D.strs ((w0 :: vs).map B)).len = vs.length + 1 := hml
 have hvs : ∀ w ∈ vs, w.length ≤ 1048576 := fun w hw => hsh w (List.mem_cons_of_mem _ hw)
 have hnum := l01Numbers_call vs (by omega) hvs
 have hnum1 := l01Numbers_call (vs.drop 1) (by rw [List.length_drop]; omega) fun w hw => hvs w (List.mem_of_mem_drop hw)
 have e1 : Rstr vs = .ro (.strs ((((w0 :: vs).map B).drop (Int.toNat 1)).take (((w0 :: vs).map B).length - Int.toNat 1))) := by
   congr 2
   rw [List.take_of_length_le (by simp)]
   rfl
 have e2 : Rstr (vs.drop 1) = .ro (.strs ((((w0 :: vs).map B).drop (Int.toNat 1 + Int.toNat 1)).take (((w0 :: vs).map B).length - Int.toNat 1 - Int.toNat 1))) := by
   rw [List.take_of_length_le (by simp)]
   show AV.ro (.strs ((vs.drop 1).map B)) = .ro (.strs ((vs.map B).drop 1))
   rw [List.map_drop]
 rw [e1] at hnum
 rw [e2] at hnum1
 clear e1 e2 hsh hvs hws
 obtain ⟨b, hb⟩ : ∃ b, ((w0 :: vs).map B).getD (Int.toNat 0) ByteArray.empty = b := ⟨_, rfl⟩
 rw [show B w0 = b from hb]
 have hnm : 0 < vs.length → (((w0 :: vs).map B).getD (Int.toNat 1 + Int.toNat 0) ByteArray.empty = ⟨#[]⟩ ↔ vs.getD 0 [] = []) := fun _ => by
   rw [show ((w0 :: vs).map B).getD (Int.toNat 1 + Int.toNat 0) ByteArray.empty = B (vs.getD 0 []) from strs_getD (w0 :: vs) 1]
   exact B_inj (b := [])
 have hwd : 0 < vs.length → ((w0 :: vs).map B).getD (Int.toNat 1 + Int.toNat 0) ByteArray.empty = B (vs.getD 0 []) := fun _ => strs_getD (w0 :: vs) 1
 have hne : vs ≠ [] ↔ 0 < vs.length := List.length_pos_iff.symm
 have hd1 : (vs.drop 1).length = vs.length - 1 := List.length_drop
 by_cases ha : allN vs
 · have ha1 : allN (vs.drop 1) := allN_drop ha
   · rw [decide_eq_true ha] at hnum
     rw [decide_eq_true ha1] at hnum1
     have hx1 : (numX vs).length = vs.length := by
       obtain ⟨xs, _, k2, k3⟩ := allN_inv ha
       rw [k3, k2, List.length_map]
     have hx2 : (numX (vs.drop 1)).length = vs.length - 1 := by
       obtain ⟨xs, _, k2, k3⟩ := allN_inv ha1
       rw [k3, ← hd1, k2, List.length_map]
     repeat' (conv => whnf); first | (intro h; try exact nZ) | apply And.intro | refine sZ ?_ | refine CallA.gM [] (hsc) ?_ | refine CallA.gM [] (hnum) ?_ | refine CallA.gM [] (hnum1) ?_ | fail
     all_goals first | exact rZ | (show (_ : Int) < (((w0 :: vs).map B).length : Int); omega) | (show (_ : Int) ≤ (((w0 :: vs).map B).length : Int); omega) | skip
     all_goals ((conv => whnf); (try simp only [hb] at *); first
       | (exfalso; subst b; contradiction)
       | (apply ends_cmdF b ⟨#[]⟩ [] [none]; all_goals (repeat' first | exact rfl | exact trivial | (with_reducible assumption) | apply And.intro); all_goals ((first | (have hk := kd_list (b := b) ‹_›) | (have hk := kd_reserve (b := b) ‹_›) | (have hk := kd_premiums (b := b) ‹_›) | (have hk := kd_claims (b := b) ‹_›) | (have hk := kd_quote (b := b) ‹_›) | (have hk := kd_hold (b := b) ‹_›) | (have hk := kd_rate (b := b) ‹_›) | (have hk := kd_fund (b := b) ‹_›) | (have hk := kd_drop (b := b) ‹_›) | (have hk := kd_leave (b := b) ‹_›) | (have hk := kd_annuity (b := b) ‹_›) | (have hk := kd_scenario (b := b) ‹_›) | (have hk := kd_bonus (b := b) ‹_›) | (have hk := kd_price (b := b) ‹_›) | (have hk := kd_table (b := b) ‹_›) | (have hk := kd_year (b := b) ‹_›) | (have hk := kd_none (b := b) ‹_› ‹_› ‹_› ‹_› ‹_› ‹_› ‹_› ‹_› ‹_› ‹_› ‹_› ‹_› ‹_› ‹_› ‹_› ‹_›)); refine fun hc => ?_; rcases (kd_cases hk).1 hc with ⟨k1, k2, k3, k4⟩ | ⟨k1, ⟨k2, k5⟩, k6, k7, k8⟩ <;> first | omega | contradiction | (have h0 := hne.1 k2; first | omega | exact k5 ((hnm h0).1 ‹_›))); done)
       | (apply ends_cmdF b ⟨#[]⟩ (numX vs) [some 1]; all_goals (repeat' first | exact rfl | exact trivial | (with_reducible assumption) | apply And.intro); all_goals ((first | (have hk := kd_list (b := b) ‹_›) | (have hk := kd_reserve (b := b) ‹_›) | (have hk := kd_premiums (b := b) ‹_›) | (have hk := kd_claims (b := b) ‹_›) | (have hk := kd_quote (b := b) ‹_›) | (have hk := kd_hold (b := b) ‹_›) | (have hk := kd_rate (b := b) ‹_›) | (have hk := kd_fund (b := b) ‹_›) | (have hk := kd_drop (b := b) ‹_›) | (have hk := kd_leave (b := b) ‹_›) | (have hk := kd_annuity (b := b) ‹_›) | (have hk := kd_scenario (b := b) ‹_›) | (have hk := kd_bonus (b := b) ‹_›) | (have hk := kd_price (b := b) ‹_›) | (have hk := kd_table (b := b) ‹_›) | (have hk := kd_year (b := b) ‹_›) | (have hk := kd_none (b := b) ‹_› ‹_› ‹_› ‹_› ‹_› ‹_› ‹_› ‹_› ‹_› ‹_› ‹_› ‹_› ‹_› ‹_› ‹_› ‹_›)); refine fun hc => ?_; rcases (kd_cases hk).1 hc with ⟨k1, k2, k3, k4⟩ | ⟨k1, ⟨k2, k5⟩, k6, k7, k8⟩ <;> first | omega | contradiction | (have h0 := hne.1 k2; first | omega | exact k5 ((hnm h0).1 ‹_›))); done)
       | (apply ends_cmdT b ⟨#[]⟩ (numX vs) [some 1]; all_goals (repeat' first | exact rfl | exact trivial | (with_reducible assumption) | apply And.intro); all_goals ((first | (have hk := kd_list (b := b) ‹_›) | (have hk := kd_reserve (b := b) ‹_›) | (have hk := kd_premiums (b := b) ‹_›) | (have hk := kd_claims (b := b) ‹_›) | (have hk := kd_quote (b := b) ‹_›) | (have hk := kd_hold (b := b) ‹_›) | (have hk := kd_rate (b := b) ‹_›) | (have hk := kd_fund (b := b) ‹_›) | (have hk := kd_drop (b := b) ‹_›) | (have hk := kd_leave (b := b) ‹_›) | (have hk := kd_annuity (b := b) ‹_›) | (have hk := kd_scenario (b := b) ‹_›) | (have hk := kd_bonus (b := b) ‹_›) | (have hk := kd_price (b := b) ‹_›) | (have hk := kd_table (b := b) ‹_›) | (have hk := kd_year (b := b) ‹_›) | (have hk := kd_none (b := b) ‹_› ‹_› ‹_› ‹_› ‹_› ‹_› ‹_› ‹_› ‹_› ‹_› ‹_› ‹_› ‹_› ‹_› ‹_› ‹_›)); first | (refine cmdT1 hk rfl ha ?_ ?_ <;> omega) | (refine cmdT2 hk rfl (hne.2 ?_) (hwd ?_) (fun e => absurd ((hnm ?_).2 e) ?_) ha1 ?_ ?_ <;> first | omega | assumption)); done)
       | (apply ends_cmdF b _ (numX (vs.drop 1)) [some 1]; all_goals (repeat' first | exact rfl | exact trivial | (with_reducible assumption) | apply And.intro); all_goals ((first | (have hk := kd_list (b := b) ‹_›) | (have hk := kd_reserve (b := b) ‹_›) | (have hk := kd_premiums (b := b) ‹_›) | (have hk := kd_claims (b := b) ‹_›) | (have hk := kd_quote (b := b) ‹_›) | (have hk := kd_hold (b := b) ‹_›) | (have hk := kd_rate (b := b) ‹_›) | (have hk := kd_fund (b := b) ‹_›) | (have hk := kd_drop (b := b) ‹_›) | (have hk := kd_leave (b := b) ‹_›) | (have hk := kd_annuity (b := b) ‹_›) | (have hk := kd_scenario (b := b) ‹_›) | (have hk := kd_bonus (b := b) ‹_›) | (have hk := kd_price (b := b) ‹_›) | (have hk := kd_table (b := b) ‹_›) | (have hk := kd_year (b := b) ‹_›) | (have hk := kd_none (b := b) ‹_› ‹_› ‹_› ‹_› ‹_› ‹_› ‹_› ‹_› ‹_› ‹_› ‹_› ‹_› ‹_› ‹_› ‹_› ‹_›)); refine fun hc => ?_; rcases (kd_cases hk).1 hc with ⟨k1, k2, k3, k4⟩ | ⟨k1, ⟨k2, k5⟩, k6, k7, k8⟩ <;> first | omega | contradiction | (have h0 := hne.1 k2; first | omega | exact k5 ((hnm h0).1 ‹_›))); done)
       | (apply ends_cmdT b _ (numX (vs.drop 1)) [some 1]; all_goals (repeat' first | exact rfl | exact trivial | (with_reducible assumption) | apply And.intro); all_goals ((first | (have hk := kd_list (b := b) ‹_›) | (have hk := kd_reserve (b := b) ‹_›) | (have hk := kd_premiums (b := b) ‹_›) | (have hk := kd_claims (b := b) ‹_›) | (have hk := kd_quote (b := b) ‹_›) | (have hk := kd_hold (b := b) ‹_›) | (have hk := kd_rate (b := b) ‹_›) | (have hk := kd_fund (b := b) ‹_›) | (have hk := kd_drop (b := b) ‹_›) | (have hk := kd_leave (b := b) ‹_›) | (have hk := kd_annuity (b := b) ‹_›) | (have hk := kd_scenario (b := b) ‹_›) | (have hk := kd_bonus (b := b) ‹_›) | (have hk := kd_price (b := b) ‹_›) | (have hk := kd_table (b := b) ‹_›) | (have hk := kd_year (b := b) ‹_›) | (have hk := kd_none (b := b) ‹_› ‹_› ‹_› ‹_› ‹_› ‹_› ‹_› ‹_› ‹_› ‹_› ‹_› ‹_› ‹_› ‹_› ‹_› ‹_›)); first | (refine cmdT1 hk rfl ha ?_ ?_ <;> omega) | (refine cmdT2 hk rfl (hne.2 ?_) (hwd ?_) (fun e => absurd ((hnm ?_).2 e) ?_) ha1 ?_ ?_ <;> first | omega | assumption)); done)
      )
 · rw [decide_eq_false ha] at hnum
   by_cases ha1 : allN (vs.drop 1)
   · rw [decide_eq_true ha1] at hnum1
     have hx2 : (numX (vs.drop 1)).length = vs.length - 1 := by
       obtain ⟨xs, _, k2, k3⟩ := allN_inv ha1
       rw [k3, ← hd1, k2, List.length_map]
     repeat' (conv => whnf); first | (intro h; try exact nZ) | apply And.intro | refine sZ ?_ | refine CallA.gM [] (hsc) ?_ | refine CallA.gM [] (hnum) ?_ | refine CallA.gM [] (hnum1) ?_ | fail
     all_goals first | exact rZ | (show (_ : Int) < (((w0 :: vs).map B).length : Int); omega) | (show (_ : Int) ≤ (((w0 :: vs).map B).length : Int); omega) | skip
     all_goals ((conv => whnf); (try simp only [hb] at *); first
       | (exfalso; subst b; contradiction)
       | (apply ends_cmdF b ⟨#[]⟩ [] [none]; all_goals (repeat' first | exact rfl | exact trivial | (with_reducible assumption) | apply And.intro); all_goals ((first | (have hk := kd_list (b := b) ‹_›) | (have hk := kd_reserve (b := b) ‹_›) | (have hk := kd_premiums (b := b) ‹_›) | (have hk := kd_claims (b := b) ‹_›) | (have hk := kd_quote (b := b) ‹_›) | (have hk := kd_hold (b := b) ‹_›) | (have hk := kd_rate (b := b) ‹_›) | (have hk := kd_fund (b := b) ‹_›) | (have hk := kd_drop (b := b) ‹_›) | (have hk := kd_leave (b := b) ‹_›) | (have hk := kd_annuity (b := b) ‹_›) | (have hk := kd_scenario (b := b) ‹_›) | (have hk := kd_bonus (b := b) ‹_›) | (have hk := kd_price (b := b) ‹_›) | (have hk := kd_table (b := b) ‹_›) | (have hk := kd_year (b := b) ‹_›) | (have hk := kd_none (b := b) ‹_› ‹_› ‹_› ‹_› ‹_› ‹_› ‹_› ‹_› ‹_› ‹_› ‹_› ‹_› ‹_› ‹_› ‹_› ‹_›)); refine fun hc => ?_; rcases (kd_cases hk).1 hc with ⟨k1, k2, k3, k4⟩ | ⟨k1, ⟨k2, k5⟩, k6, k7, k8⟩ <;> first | omega | contradiction | (have h0 := hne.1 k2; first | omega | exact k5 ((hnm h0).1 ‹_›))); done)
       | (apply ends_cmdF b ⟨#[]⟩ (numX vs) [some 1]; all_goals (repeat' first | exact rfl | exact trivial | (with_reducible assumption) | apply And.intro); all_goals ((first | (have hk := kd_list (b := b) ‹_›) | (have hk := kd_reserve (b := b) ‹_›) | (have hk := kd_premiums (b := b) ‹_›) | (have hk := kd_claims (b := b) ‹_›) | (have hk := kd_quote (b := b) ‹_›) | (have hk := kd_hold (b := b) ‹_›) | (have hk := kd_rate (b := b) ‹_›) | (have hk := kd_fund (b := b) ‹_›) | (have hk := kd_drop (b := b) ‹_›) | (have hk := kd_leave (b := b) ‹_›) | (have hk := kd_annuity (b := b) ‹_›) | (have hk := kd_scenario (b := b) ‹_›) | (have hk := kd_bonus (b := b) ‹_›) | (have hk := kd_price (b := b) ‹_›) | (have hk := kd_table (b := b) ‹_›) | (have hk := kd_year (b := b) ‹_›) | (have hk := kd_none (b := b) ‹_› ‹_› ‹_› ‹_› ‹_› ‹_› ‹_› ‹_› ‹_› ‹_› ‹_› ‹_› ‹_› ‹_› ‹_› ‹_›)); refine fun hc => ?_; rcases (kd_cases hk).1 hc with ⟨k1, k2, k3, k4⟩ | ⟨k1, ⟨k2, k5⟩, k6, k7, k8⟩ <;> first | omega | contradiction | (have h0 := hne.1 k2; first | omega | exact k5 ((hnm h0).1 ‹_›))); done)
       | (apply ends_cmdT b ⟨#[]⟩ (numX vs) [some 1]; all_goals (repeat' first | exact rfl | exact trivial | (with_reducible assumption) | apply And.intro); all_goals ((first | (have hk := kd_list (b := b) ‹_›) | (have hk := kd_reserve (b := b) ‹_›) | (have hk := kd_premiums (b := b) ‹_›) | (have hk := kd_claims (b := b) ‹_›) | (have hk := kd_quote (b := b) ‹_›) | (have hk := kd_hold (b := b) ‹_›) | (have hk := kd_rate (b := b) ‹_›) | (have hk := kd_fund (b := b) ‹_›) | (have hk := kd_drop (b := b) ‹_›) | (have hk := kd_leave (b := b) ‹_›) | (have hk := kd_annuity (b := b) ‹_›) | (have hk := kd_scenario (b := b) ‹_›) | (have hk := kd_bonus (b := b) ‹_›) | (have hk := kd_price (b := b) ‹_›) | (have hk := kd_table (b := b) ‹_›) | (have hk := kd_year (b := b) ‹_›) | (have hk := kd_none (b := b) ‹_› ‹_› ‹_› ‹_› ‹_› ‹_› ‹_› ‹_› ‹_› ‹_› ‹_› ‹_› ‹_› ‹_› ‹_› ‹_›)); first | (refine cmdT1 hk rfl ha ?_ ?_ <;> omega) | (refine cmdT2 hk rfl (hne.2 ?_) (hwd ?_) (fun e => absurd ((hnm ?_).2 e) ?_) ha1 ?_ ?_ <;> first | omega | assumption)); done)
       | (apply ends_cmdF b _ (numX (vs.drop 1)) [some 1]; all_goals (repeat' first | exact rfl | exact trivial | (with_reducible assumption) | apply And.intro); all_goals ((first | (have hk := kd_list (b := b) ‹_›) | (have hk := kd_reserve (b := b) ‹_›) | (have hk := kd_premiums (b := b) ‹_›) | (have hk := kd_claims (b := b) ‹_›) | (have hk := kd_quote (b := b) ‹_›) | (have hk := kd_hold (b := b) ‹_›) | (have hk := kd_rate (b := b) ‹_›) | (have hk := kd_fund (b := b) ‹_›) | (have hk := kd_drop (b := b) ‹_›) | (have hk := kd_leave (b := b) ‹_›) | (have hk := kd_annuity (b := b) ‹_›) | (have hk := kd_scenario (b := b) ‹_›) | (have hk := kd_bonus (b := b) ‹_›) | (have hk := kd_price (b := b) ‹_›) | (have hk := kd_table (b := b) ‹_›) | (have hk := kd_year (b := b) ‹_›) | (have hk := kd_none (b := b) ‹_› ‹_› ‹_› ‹_› ‹_› ‹_› ‹_› ‹_› ‹_› ‹_› ‹_› ‹_› ‹_› ‹_› ‹_› ‹_›)); refine fun hc => ?_; rcases (kd_cases hk).1 hc with ⟨k1, k2, k3, k4⟩ | ⟨k1, ⟨k2, k5⟩, k6, k7, k8⟩ <;> first | omega | contradiction | (have h0 := hne.1 k2; first | omega | exact k5 ((hnm h0).1 ‹_›))); done)
       | (apply ends_cmdT b _ (numX (vs.drop 1)) [some 1]; all_goals (repeat' first | exact rfl | exact trivial | (with_reducible assumption) | apply And.intro); all_goals ((first | (have hk := kd_list (b := b) ‹_›) | (have hk := kd_reserve (b := b) ‹_›) | (have hk := kd_premiums (b := b) ‹_›) | (have hk := kd_claims (b := b) ‹_›) | (have hk := kd_quote (b := b) ‹_›) | (have hk := kd_hold (b := b) ‹_›) | (have hk := kd_rate (b := b) ‹_›) | (have hk := kd_fund (b := b) ‹_›) | (have hk := kd_drop (b := b) ‹_›) | (have hk := kd_leave (b := b) ‹_›) | (have hk := kd_annuity (b := b) ‹_›) | (have hk := kd_scenario (b := b) ‹_›) | (have hk := kd_bonus (b := b) ‹_›) | (have hk := kd_price (b := b) ‹_›) | (have hk := kd_table (b := b) ‹_›) | (have hk := kd_year (b := b) ‹_›) | (have hk := kd_none (b := b) ‹_› ‹_› ‹_› ‹_› ‹_› ‹_› ‹_› ‹_› ‹_› ‹_› ‹_› ‹_› ‹_› ‹_› ‹_› ‹_›)); first | (refine cmdT1 hk rfl ha ?_ ?_ <;> omega) | (refine cmdT2 hk rfl (hne.2 ?_) (hwd ?_) (fun e => absurd ((hnm ?_).2 e) ?_) ha1 ?_ ?_ <;> first | omega | assumption)); done)
      )
   · rw [decide_eq_false ha1] at hnum1
     repeat' (conv => whnf); first | (intro h; try exact nZ) | apply And.intro | refine sZ ?_ | refine CallA.gM [] (hsc) ?_ | refine CallA.gM [] (hnum) ?_ | refine CallA.gM [] (hnum1) ?_ | fail
     all_goals first | exact rZ | (show (_ : Int) < (((w0 :: vs).map B).length : Int); omega) | (show (_ : Int) ≤ (((w0 :: vs).map B).length : Int); omega) | skip
     all_goals ((conv => whnf); (try simp only [hb] at *); first
       | (exfalso; subst b; contradiction)
       | (apply ends_cmdF b ⟨#[]⟩ [] [none]; all_goals (repeat' first | exact rfl | exact trivial | (with_reducible assumption) | apply And.intro); all_goals ((first | (have hk := kd_list (b := b) ‹_›) | (have hk := kd_reserve (b := b) ‹_›) | (have hk := kd_premiums (b := b) ‹_›) | (have hk := kd_claims (b := b) ‹_›) | (have hk := kd_quote (b := b) ‹_›) | (have hk := kd_hold (b := b) ‹_›) | (have hk := kd_rate (b := b) ‹_›) | (have hk := kd_fund (b := b) ‹_›) | (have hk := kd_drop (b := b) ‹_›) | (have hk := kd_leave (b := b) ‹_›) | (have hk := kd_annuity (b := b) ‹_›) | (have hk := kd_scenario (b := b) ‹_›) | (have hk := kd_bonus (b := b) ‹_›) | (have hk := kd_price (b := b) ‹_›) | (have hk := kd_table (b := b) ‹_›) | (have hk := kd_year (b := b) ‹_›) | (have hk := kd_none (b := b) ‹_› ‹_› ‹_› ‹_› ‹_› ‹_› ‹_› ‹_› ‹_› ‹_› ‹_› ‹_› ‹_› ‹_› ‹_› ‹_›)); refine fun hc => ?_; rcases (kd_cases hk).1 hc with ⟨k1, k2, k3, k4⟩ | ⟨k1, ⟨k2, k5⟩, k6, k7, k8⟩ <;> first | omega | contradiction | (have h0 := hne.1 k2; first | omega | exact k5 ((hnm h0).1 ‹_›))); done)
       | (apply ends_cmdF b ⟨#[]⟩ (numX vs) [some 1]; all_goals (repeat' first | exact rfl | exact trivial | (with_reducible assumption) | apply And.intro); all_goals ((first | (have hk := kd_list (b := b) ‹_›) | (have hk := kd_reserve (b := b) ‹_›) | (have hk := kd_premiums (b := b) ‹_›) | (have hk := kd_claims (b := b) ‹_›) | (have hk := kd_quote (b := b) ‹_›) | (have hk := kd_hold (b := b) ‹_›) | (have hk := kd_rate (b := b) ‹_›) | (have hk := kd_fund (b := b) ‹_›) | (have hk := kd_drop (b := b) ‹_›) | (have hk := kd_leave (b := b) ‹_›) | (have hk := kd_annuity (b := b) ‹_›) | (have hk := kd_scenario (b := b) ‹_›) | (have hk := kd_bonus (b := b) ‹_›) | (have hk := kd_price (b := b) ‹_›) | (have hk := kd_table (b := b) ‹_›) | (have hk := kd_year (b := b) ‹_›) | (have hk := kd_none (b := b) ‹_› ‹_› ‹_› ‹_› ‹_› ‹_› ‹_› ‹_› ‹_› ‹_› ‹_› ‹_› ‹_› ‹_› ‹_› ‹_›)); refine fun hc => ?_; rcases (kd_cases hk).1 hc with ⟨k1, k2, k3, k4⟩ | ⟨k1, ⟨k2, k5⟩, k6, k7, k8⟩ <;> first | omega | contradiction | (have h0 := hne.1 k2; first | omega | exact k5 ((hnm h0).1 ‹_›))); done)
       | (apply ends_cmdT b ⟨#[]⟩ (numX vs) [some 1]; all_goals (repeat' first | exact rfl | exact trivial | (with_reducible assumption) | apply And.intro); all_goals ((first | (have hk := kd_list (b := b) ‹_›) | (have hk := kd_reserve (b := b) ‹_›) | (have hk := kd_premiums (b := b) ‹_›) | (have hk := kd_claims (b := b) ‹_›) | (have hk := kd_quote (b := b) ‹_›) | (have hk := kd_hold (b := b) ‹_›) | (have hk := kd_rate (b := b) ‹_›) | (have hk := kd_fund (b := b) ‹_›) | (have hk := kd_drop (b := b) ‹_›) | (have hk := kd_leave (b := b) ‹_›) | (have hk := kd_annuity (b := b) ‹_›) | (have hk := kd_scenario (b := b) ‹_›) | (have hk := kd_bonus (b := b) ‹_›) | (have hk := kd_price (b := b) ‹_›) | (have hk := kd_table (b := b) ‹_›) | (have hk := kd_year (b := b) ‹_›) | (have hk := kd_none (b := b) ‹_› ‹_› ‹_› ‹_› ‹_› ‹_› ‹_› ‹_› ‹_› ‹_› ‹_› ‹_› ‹_› ‹_› ‹_› ‹_›)); first | (refine cmdT1 hk rfl ha ?_ ?_ <;> omega) | (refine cmdT2 hk rfl (hne.2 ?_) (hwd ?_) (fun e => absurd ((hnm ?_).2 e) ?_) ha1 ?_ ?_ <;> first | omega | assumption)); done)
       | (apply ends_cmdF b _ (numX (vs.drop 1)) [some 1]; all_goals (repeat' first | exact rfl | exact trivial | (with_reducible assumption) | apply And.intro); all_goals ((first | (have hk := kd_list (b := b) ‹_›) | (have hk := kd_reserve (b := b) ‹_›) | (have hk := kd_premiums (b := b) ‹_›) | (have hk := kd_claims (b := b) ‹_›) | (have hk := kd_quote (b := b) ‹_›) | (have hk := kd_hold (b := b) ‹_›) | (have hk := kd_rate (b := b) ‹_›) | (have hk := kd_fund (b := b) ‹_›) | (have hk := kd_drop (b := b) ‹_›) | (have hk := kd_leave (b := b) ‹_›) | (have hk := kd_annuity (b := b) ‹_›) | (have hk := kd_scenario (b := b) ‹_›) | (have hk := kd_bonus (b := b) ‹_›) | (have hk := kd_price (b := b) ‹_›) | (have hk := kd_table (b := b) ‹_›) | (have hk := kd_year (b := b) ‹_›) | (have hk := kd_none (b := b) ‹_› ‹_› ‹_› ‹_› ‹_› ‹_› ‹_› ‹_› ‹_› ‹_› ‹_› ‹_› ‹_› ‹_› ‹_› ‹_›)); refine fun hc => ?_; rcases (kd_cases hk).1 hc with ⟨k1, k2, k3, k4⟩ | ⟨k1, ⟨k2, k5⟩, k6, k7, k8⟩ <;> first | omega | contradiction | (have h0 := hne.1 k2; first | omega | exact k5 ((hnm h0).1 ‹_›))); done)
       | (apply ends_cmdT b _ (numX (vs.drop 1)) [some 1]; all_goals (repeat' first | exact rfl | exact trivial | (with_reducible assumption) | apply And.intro); all_goals ((first | (have hk := kd_list (b := b) ‹_›) | (have hk := kd_reserve (b := b) ‹_›) | (have hk := kd_premiums (b := b) ‹_›) | (have hk := kd_claims (b := b) ‹_›) | (have hk := kd_quote (b := b) ‹_›) | (have hk := kd_hold (b := b) ‹_›) | (have hk := kd_rate (b := b) ‹_›) | (have hk := kd_fund (b := b) ‹_›) | (have hk := kd_drop (b := b) ‹_›) | (have hk := kd_leave (b := b) ‹_›) | (have hk := kd_annuity (b := b) ‹_›) | (have hk := kd_scenario (b := b) ‹_›) | (have hk := kd_bonus (b := b) ‹_›) | (have hk := kd_price (b := b) ‹_›) | (have hk := kd_table (b := b) ‹_›) | (have hk := kd_year (b := b) ‹_›) | (have hk := kd_none (b := b) ‹_› ‹_› ‹_› ‹_› ‹_› ‹_› ‹_› ‹_› ‹_› ‹_› ‹_› ‹_› ‹_› ‹_› ‹_› ‹_›)); first | (refine cmdT1 hk rfl ha ?_ ?_ <;> omega) | (refine cmdT2 hk rfl (hne.2 ?_) (hwd ?_) (fun e => absurd ((hnm ?_).2 e) ?_) ha1 ?_ ?_ <;> first | omega | assumption)); done)
      )
end
end Go.Proofs.YtglbamncajileaaGreatDoor
