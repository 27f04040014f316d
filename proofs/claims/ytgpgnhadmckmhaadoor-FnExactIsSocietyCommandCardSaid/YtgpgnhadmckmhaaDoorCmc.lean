/-
  Commands of the console read by the program: what the functions return. No conditions but those in the statements.
-/
import Derived.Test.YtgpgnhadmckmhaaDoorCma
import Derived.Test.YtgpgnhadmckmhaaDoorStp
set_option linter.unusedVariables false
set_option linter.unusedSimpArgs false
namespace Go.Proofs.YtgpgnhadmckmhaaDoor
open Go.AE Go.Lib

attribute [local irreducible] CallA LoopA DrawA CallQ arithK quoK remK eqK
attribute [local irreducible] sgnN sgnB numX rnN shp
/-- A line whose words after the first one follow a shape: w: the first of them is a word. -/
def impP (there more w : Bool) (m : Nat) (vs : List (List UInt8)) : Prop :=
  (there = true ∧ m ≤ vs.length ∧ (vs.length ≤ m ∨ more = true)) ∧ (w = true → vs.getD 0 [] ≠ []) ∧ allN (vs.drop (if w then 1 else 0)) ∧ vs.length ≤ 1000 + (if w then 1 else 0)
instance (there more w : Bool) (m : Nat) (vs : List (List UInt8)) : Decidable (impP there more w m vs) := by unfold impP; infer_instance
theorem ends_imp {v : AV} {H : List Blk} {p : Prop} [Decidable p] (b c : ByteArray) (xs : List Int) (ok : Bool) (sel : List (Option Nat)) (h1 : vmV 0 sel v (.tup [.agg [.v (.string b), .sl 0 1 xs.length, .v (.string c)], Bo ok])) (h2 : heapM 0 sel H [.data (.ints .i64 xs)]) (h3 : ok = decide p) :
    ∃ sel v' J, vmV 0 sel v v' ∧ heapM 0 sel H J ∧ (∃ (x : ByteArray × ByteArray × List Int) (a s : Int), v' = .tup [.agg [.v (.string x.1), .sl 0 1 x.2.2.length, .v (.string x.2.1)], Bo (decide p)] ∧ J = [.data (.ints .i64 x.2.2)] ∧ (a = 0 ∧ s = 0)) :=
  ⟨sel, _, _, h1, h2, (b, c, xs), 0, 0, by rw [h3], rfl, rfl, rfl⟩
theorem allN_snoc {vs : List (List UInt8)} {k i : Nat} (hk : k ≤ i) (h : i < vs.length) (ha : ∀ w ∈ (vs.take i).drop k, sgnB w) (hs : sgnB (vs.getD i [])) : ∀ w ∈ (vs.take (i + 1)).drop k, sgnB w := fun w hw => by
  rw [take_snoc [] h, List.drop_append_of_le_length (by rw [List.length_take]; omega)] at hw
  rcases List.mem_append.1 hw with hw | hw
  · exact ha w hw
  · obtain rfl := List.mem_singleton.1 hw
    exact hs
/-- How many words there are ahead of the numbers. -/
def wn (w : Bool) : Nat := if w then 1 else 0
/-- Where the reading stands. -/
structure CmAt (w : Bool) (vs : List (List UInt8)) (i : Nat) (xs : List Int) : Prop where
  le : i ≤ vs.length
  all : ∀ u ∈ (vs.take i).drop (wn w), sgnB u
  len : xs.length = i - wn w
  nm : w = true → 0 < i → vs.getD 0 [] ≠ []
theorem CmAt.next {w : Bool} {vs : List (List UInt8)} {i : Nat} {xs : List Int} (h : CmAt w vs i xs) (hi : i < vs.length) (hA : ¬ (w = true ∧ i = 0)) (hg : sgnB (vs.getD i [])) (x : Int) : CmAt w vs (i + 1) (xs ++ [x]) := by
  have hk : wn w ≤ i := by
    unfold wn
    cases w with
    | false => exact Nat.zero_le _
    | true =>
      have : i ≠ 0 := fun e => hA ⟨rfl, e⟩
      show 1 ≤ i
      omega
  refine ⟨hi, allN_snoc hk hi h.all hg, by rw [List.length_append, h.len]; show i - wn w + 1 = i + 1 - wn w; omega, fun hw _ => h.nm hw ?_⟩
  have : i ≠ 0 := fun e => hA ⟨hw, e⟩
  omega
theorem CmAt.word {vs : List (List UInt8)} {xs : List Int} (h : CmAt true vs 0 xs) (hi : 0 < vs.length) (hne : vs.getD 0 [] ≠ []) : CmAt true vs 1 xs :=
  ⟨hi, fun u hu => (by
    rw [show (vs.take (0 + 1)).drop (wn true) = [] from List.drop_eq_nil_of_le (by rw [List.length_take]; show min 1 _ ≤ 1; omega)] at hu
    cases hu), by rw [h.len]; rfl, fun _ _ => hne⟩
theorem not_imp {there more w : Bool} {m : Nat} {vs : List (List UInt8)} {i : Nat} (hi : i < vs.length) (hA : ¬ (w = true ∧ i = 0)) (hg : ¬ sgnB (vs.getD i [])) : ¬ impP there more w m vs := fun hp => by
  have hk : wn w ≤ i := by
    unfold wn
    cases w with
    | false => exact Nat.zero_le _
    | true =>
      have : i ≠ 0 := fun e => hA ⟨rfl, e⟩
      show 1 ≤ i
      omega
  have hall : ∀ u ∈ vs.drop (wn w), sgnB u := hp.2.2.1
  refine hg (hall _ ?_)
  have e : vs.getD i [] = (vs.drop (wn w)).getD (i - wn w) [] := by
    rw [List.getD_eq_getElem?_getD, List.getD_eq_getElem?_getD, List.getElem?_drop]
    congr 2
    omega
  rw [e]
  exact getD_mem (by rw [List.length_drop]; omega)
theorem CmAt.fin {w : Bool} {vs : List (List UInt8)} {xs : List Int} {more : Bool} {m : Nat} (h : CmAt w vs vs.length xs) (hc : m ≤ vs.length ∧ (vs.length ≤ m ∨ more = true)) (hm : w = true → 0 < m) : impP true more w m vs ↔ xs.length ≤ 1000 := by
  have ha := h.all
  rw [take_all (Nat.le_refl _)] at ha
  have hl := h.len
  have e : (if w then 1 else 0) = wn w := rfl
  have hw : wn w ≤ vs.length := by
    unfold wn
    cases w with
    | false => exact Nat.zero_le _
    | true =>
      have := hm rfl
      show 1 ≤ vs.length
      omega
  unfold impP
  rw [e]
  constructor
  · rintro ⟨_, _, _, h4⟩
    omega
  · intro h4
    refine ⟨⟨rfl, hc.1, hc.2⟩, fun hw1 => h.nm hw1 ?_, ha, by omega⟩
    have := hm hw1
    omega
attribute [local irreducible] impP
set_option maxHeartbeats 4000000 in
set_option maxRecDepth 100000 in
theorem command_call (l : List UInt8) (hn : l.length ≤ 1048576) (w0 : List UInt8) (vs : List (List UInt8)) (hws : sp 32 l = w0 :: vs) (s0 r : List UInt8) (there more w : Bool) (hs : shp (B w0) = (B s0, there)) (hs0 : s0.length ≤ 4) (hr : trimSuffix s0 [46] = r) (hm : hasSuffix s0 [46] = more)
    (hw : ∀ i, i < r.length → (r.getD i 0 = 119 ↔ (w = true ∧ i = 0))) (hw1 : w = true → 0 < r.length) :
    CallA Tryd.prog G2 50 [Sv l] [] (fun v J => ∃ (x : ByteArray × ByteArray × List Int) (a s : Int), v = .tup [.agg [.v (.string x.1), .sl 0 1 x.2.2.length, .v (.string x.2.1)], Bo (decide (impP there more w r.length vs))] ∧ J = [.data (.ints .i64 x.2.2)] ∧ (a = 0 ∧ s = 0)) := by
  refine CallA.ends (callA_of_body hT Tryd.func50 rfl ?_)
  have hsh := sp_short (c := 32) hn
  have hln := sp_many (c := 32) (l := l)
  have hsc := (split_call l 32 (by omega)).weak G_G2
  rw [hws] at hsc hsh hln
  have hln : vs.length ≤ 1048576 := by rw [List.length_cons] at hln; omega
  have hml : ((w0 :: vs).map B).length = vs.length + 1 := by simp
  have hvs : ∀ w ∈ vs, w.length ≤ 1048576 := fun w hw => hsh w (List.mem_cons_of_mem _ hw)
  have hso := (shapeOf_ret (B w0)).weak G_G2
  rw [hs] at hso
  have hct := (cutSuffix_ret s0 [46] (by omega)).weak G_G2
  rw [hr, hm] at hct
  have hrs := B_size r
  have hso2 : Ret Tryd.prog G2 74 [.v (.string (((w0 :: vs).map B).getD (Int.toNat 0) ByteArray.empty))] (.tup [Sv s0, Bo there]) := hso
  clear hso
  by_cases hc : there = true ∧ r.length ≤ vs.length ∧ (vs.length ≤ r.length ∨ more = true)
  · obtain ⟨c1, c2, c3⟩ := hc
    subst c1
    cases more with
    | false =>
      have c3 : vs.length ≤ r.length := by rcases c3 with h | h; exact h; cases h
      repeat' ((first | (conv => whnf) | skip); (first | ((with_reducible intro h); first | contradiction | omega | (conv => whnf) | skip) | (with_reducible refine And.intro ?_ ?_) | ((with_reducible show arithK _ _ _); refine arith_ok ⟨by omega, by omega⟩ ?_) | ((with_reducible show quoK _ _ _ _); refine quo_ok ⟨by omega, by omega⟩ (by omega) (by omega) ?_) | ((with_reducible show remK _ _ _ _); refine rem_ok (by omega) (by omega) ?_) | ((first | (with_reducible show CallA _ _ _ _ _ _) | (with_reducible show CallQ _ _ _ _ _ _)); first | (refine CallA.go [] (hsc) rfl (by first | ((repeat' (first | exact rfl | exact trivial | (with_reducible assumption) | refine And.intro ?_ ?_ | omega | assumption)); done) | fail) trivial ?_) | (refine Ret.go (hso2) rfl rfl ?_) | (refine Ret.goQ (hso2) rfl rfl ?_) | (refine Ret.go (hct) rfl rfl ?_) | (refine Ret.goQ (hct) rfl rfl ?_)) | ((with_reducible show DrawA _ _ _ _ _ _); first | (refine draw_hard hT mixed (by decide +kernel) ?_))))
      all_goals first | rfl | omega | (show (_ : Int) < (((w0 :: vs).map B).length : Int); omega) | (show (_ : Int) ≤ (((w0 :: vs).map B).length : Int); omega) | skip
      (conv => whnf)
      refine loop_rule hT (fun q : Nat × List Int × ByteArray => CmAt w vs q.1 q.2.1) 97 3 [0, 2, 5, 8, 55, 56, 57] (fun q => [Sv l, .ptr 0 0, .ptr 2 0, Sv r, .sub 1 1 (Int.toNat 1) (((w0 :: vs).map B).length - Int.toNat 1), I ((((w0 :: vs).map B).length - Int.toNat 1 : Nat) : Int), I q.1]) (fun q => [.cells [.v (.string ByteArray.empty), .nilsl, .v (.string ByteArray.empty)], .data (.strs ((w0 :: vs).map B)), .cells [.v (.string (((w0 :: vs).map B).getD (Int.toNat 0) ByteArray.empty)), .sl 3 1 q.2.1.length, .v (.string q.2.2)], .data (.ints .i64 q.2.1)]) (fun q => vs.length - q.1) ((0, [], ByteArray.empty)) (Nat.le_of_ble_eq_true rfl) ?_ ?_ ?_
      · exact ⟨Nat.zero_le _, by simp, by simp, fun _ h => absurd h (Nat.lt_irrefl 0)⟩
      · first | (refine ⟨rfl, [none], ?_, ?_⟩; all_goals (repeat' (first | exact rfl | exact trivial | (with_reducible assumption) | refine And.intro ?_ ?_)); all_goals (first | omega | assumption); done) | trace_state
      · rintro ⟨i, xs, wd⟩ hC
        dsimp only at hC ⊢
        have hle := hC.le
        have hxl := hC.len
        have hby := byteAt_B r i
        have hwe : ((w0 :: vs).map B).getD (Int.toNat 1 + ((i : Int)).toNat) ByteArray.empty = B (vs.getD i []) := by
          rw [show Int.toNat 1 + ((i : Int)).toNat = i + 1 by omega, strs_getD]
          rfl
        by_cases hi : i < vs.length
        · by_cases hA : w = true ∧ i = 0
          · obtain ⟨hA1, rfl⟩ := hA
            have hr0 := hw1 hA1
            have hb2 : byteAt (B r) (((0 : Nat) : Int)).toNat = 119 := by rw [show (((0 : Nat) : Int)).toNat = 0 from rfl, hby, (hw 0 hr0).2 ⟨hA1, rfl⟩]; rfl
            have hE : ((w0 :: vs).map B).getD (Int.toNat 1 + (((0 : Nat) : Int)).toNat) ByteArray.empty = ⟨#[]⟩ ↔ vs.getD 0 [] = [] := by rw [hwe]; exact B_inj (b := [])
            subst hA1
            repeat' ((first | (conv => whnf) | skip); (first | ((with_reducible intro h); first | contradiction | omega | (conv => whnf) | skip) | (with_reducible refine And.intro ?_ ?_) | ((with_reducible show arithK _ _ _); refine arith_ok ⟨by omega, by omega⟩ ?_) | ((with_reducible show quoK _ _ _ _); refine quo_ok ⟨by omega, by omega⟩ (by omega) (by omega) ?_) | ((with_reducible show remK _ _ _ _); refine rem_ok (by omega) (by omega) ?_) | ((first | (with_reducible show CallA _ _ _ _ _ _) | (with_reducible show CallQ _ _ _ _ _ _)); first | fail) | ((with_reducible show DrawA _ _ _ _ _ _); first | (refine draw_hard hT mixed (by decide +kernel) ?_))))
            all_goals first | rfl | omega | contradiction | skip
            all_goals ((conv => whnf); first
              | (apply ends_imp (((w0 :: vs).map B).getD (Int.toNat 0) ByteArray.empty) (((w0 :: vs).map B).getD (Int.toNat 1 + (((0 : Nat) : Int)).toNat) ByteArray.empty) xs false [some 3]; (all_goals (repeat' (first | exact rfl | exact trivial | (with_reducible assumption) | refine And.intro ?_ ?_))); all_goals exact (decide_eq_false fun hp => (by unfold impP at hp; exact hp.2.1 rfl (hE.1 (by assumption)))).symm)
              | (refine ⟨(1, xs, ((w0 :: vs).map B).getD (Int.toNat 1 + (((0 : Nat) : Int)).toNat) ByteArray.empty), hC.word hi (fun e => absurd (hE.2 e) (by assumption)), ?_, by dsimp only; omega⟩; (refine ⟨rfl, [some 3], ?_, ?_⟩; all_goals (repeat' (first | exact rfl | exact trivial | (with_reducible assumption) | refine And.intro ?_ ?_)); all_goals (first | omega | assumption); done))
              | trace_state)
          · have hnm : i < r.length → byteAt (B r) ((i : Int)).toNat ≠ 119 := fun h e => hA ((hw i h).1 (u8_eq (b := 119) (hby.symm.trans e)))
            have hrd := readNumber_ret (vs.getD i []) (hvs _ (getD_mem hi))
            rw [show Sv (vs.getD i []) = .v (.string (((w0 :: vs).map B).getD (Int.toNat 1 + ((i : Int)).toNat) ByteArray.empty)) from congrArg (fun b => AV.v (.string b)) hwe.symm] at hrd
            by_cases hg : sgnB (vs.getD i [])
            · rw [decide_eq_true hg] at hrd
              by_cases hir : i < r.length
              · have hnm := hnm hir
                repeat' ((first | (conv => whnf) | skip); (first | ((with_reducible intro h); first | contradiction | omega | (conv => whnf) | skip) | (with_reducible refine And.intro ?_ ?_) | ((with_reducible show arithK _ _ _); refine arith_ok ⟨by omega, by omega⟩ ?_) | ((with_reducible show quoK _ _ _ _); refine quo_ok ⟨by omega, by omega⟩ (by omega) (by omega) ?_) | ((with_reducible show remK _ _ _ _); refine rem_ok (by omega) (by omega) ?_) | ((first | (with_reducible show CallA _ _ _ _ _ _) | (with_reducible show CallQ _ _ _ _ _ _)); first | (refine Ret.go (hrd) rfl rfl ?_) | (refine Ret.goQ (hrd) rfl rfl ?_)) | ((with_reducible show DrawA _ _ _ _ _ _); first | (refine draw_hard hT mixed (by decide +kernel) ?_))))
                all_goals first | rfl | omega | contradiction | (show (_ : Nat) ≤ _; simp; omega) | skip
                all_goals ((conv => whnf); first | (refine ⟨(i + 1, xs ++ [rnN (vs.getD i [])], wd), hC.next hi hA hg _, ?_, by dsimp only; omega⟩; first | (refine ⟨rfl, [some 5], ?_, ?_⟩; all_goals (repeat' (first | exact rfl | exact trivial | (with_reducible assumption) | refine And.intro ?_ ?_)); all_goals (first | omega | assumption | ((repeat' (first | ((try dsimp only); exact rfl) | exact rfl | exact trivial | (with_reducible assumption) | refine And.intro ?_ ?_ | omega | assumption)); done)); done) | (refine ⟨rfl, [some 4], ?_, ?_⟩; all_goals (repeat' (first | exact rfl | exact trivial | (with_reducible assumption) | refine And.intro ?_ ?_)); all_goals (first | omega | assumption | ((repeat' (first | ((try dsimp only); exact rfl) | exact rfl | exact trivial | (with_reducible assumption) | refine And.intro ?_ ?_ | omega | assumption)); done)); done)) | trace_state)
              · repeat' ((first | (conv => whnf) | skip); (first | ((with_reducible intro h); first | contradiction | omega | (conv => whnf) | skip) | (with_reducible refine And.intro ?_ ?_) | ((with_reducible show arithK _ _ _); refine arith_ok ⟨by omega, by omega⟩ ?_) | ((with_reducible show quoK _ _ _ _); refine quo_ok ⟨by omega, by omega⟩ (by omega) (by omega) ?_) | ((with_reducible show remK _ _ _ _); refine rem_ok (by omega) (by omega) ?_) | ((first | (with_reducible show CallA _ _ _ _ _ _) | (with_reducible show CallQ _ _ _ _ _ _)); first | (refine Ret.go (hrd) rfl rfl ?_) | (refine Ret.goQ (hrd) rfl rfl ?_)) | ((with_reducible show DrawA _ _ _ _ _ _); first | (refine draw_hard hT mixed (by decide +kernel) ?_))))
                all_goals first | rfl | omega | contradiction | (show (_ : Nat) ≤ _; simp; omega) | skip
                all_goals ((conv => whnf); first | (refine ⟨(i + 1, xs ++ [rnN (vs.getD i [])], wd), hC.next hi hA hg _, ?_, by dsimp only; omega⟩; first | (refine ⟨rfl, [some 5], ?_, ?_⟩; all_goals (repeat' (first | exact rfl | exact trivial | (with_reducible assumption) | refine And.intro ?_ ?_)); all_goals (first | omega | assumption | ((repeat' (first | ((try dsimp only); exact rfl) | exact rfl | exact trivial | (with_reducible assumption) | refine And.intro ?_ ?_ | omega | assumption)); done)); done) | (refine ⟨rfl, [some 4], ?_, ?_⟩; all_goals (repeat' (first | exact rfl | exact trivial | (with_reducible assumption) | refine And.intro ?_ ?_)); all_goals (first | omega | assumption | ((repeat' (first | ((try dsimp only); exact rfl) | exact rfl | exact trivial | (with_reducible assumption) | refine And.intro ?_ ?_ | omega | assumption)); done)); done)) | trace_state)
            · rw [decide_eq_false hg] at hrd
              by_cases hir : i < r.length
              · have hnm := hnm hir
                repeat' ((first | (conv => whnf) | skip); (first | ((with_reducible intro h); first | contradiction | omega | (conv => whnf) | skip) | (with_reducible refine And.intro ?_ ?_) | ((with_reducible show arithK _ _ _); refine arith_ok ⟨by omega, by omega⟩ ?_) | ((with_reducible show quoK _ _ _ _); refine quo_ok ⟨by omega, by omega⟩ (by omega) (by omega) ?_) | ((with_reducible show remK _ _ _ _); refine rem_ok (by omega) (by omega) ?_) | ((first | (with_reducible show CallA _ _ _ _ _ _) | (with_reducible show CallQ _ _ _ _ _ _)); first | (refine Ret.go (hrd) rfl rfl ?_) | (refine Ret.goQ (hrd) rfl rfl ?_)) | ((with_reducible show DrawA _ _ _ _ _ _); first | (refine draw_hard hT mixed (by decide +kernel) ?_))))
                all_goals first | rfl | omega | contradiction | skip
                all_goals ((conv => whnf); first | (apply ends_imp (((w0 :: vs).map B).getD (Int.toNat 0) ByteArray.empty) wd xs false [some 3]; (all_goals (repeat' (first | exact rfl | exact trivial | (with_reducible assumption) | refine And.intro ?_ ?_))); all_goals exact (decide_eq_false (not_imp hi hA hg)).symm) | trace_state)
              · repeat' ((first | (conv => whnf) | skip); (first | ((with_reducible intro h); first | contradiction | omega | (conv => whnf) | skip) | (with_reducible refine And.intro ?_ ?_) | ((with_reducible show arithK _ _ _); refine arith_ok ⟨by omega, by omega⟩ ?_) | ((with_reducible show quoK _ _ _ _); refine quo_ok ⟨by omega, by omega⟩ (by omega) (by omega) ?_) | ((with_reducible show remK _ _ _ _); refine rem_ok (by omega) (by omega) ?_) | ((first | (with_reducible show CallA _ _ _ _ _ _) | (with_reducible show CallQ _ _ _ _ _ _)); first | (refine Ret.go (hrd) rfl rfl ?_) | (refine Ret.goQ (hrd) rfl rfl ?_)) | ((with_reducible show DrawA _ _ _ _ _ _); first | (refine draw_hard hT mixed (by decide +kernel) ?_))))
                all_goals first | rfl | omega | contradiction | skip
                all_goals ((conv => whnf); first | (apply ends_imp (((w0 :: vs).map B).getD (Int.toNat 0) ByteArray.empty) wd xs false [some 3]; (all_goals (repeat' (first | exact rfl | exact trivial | (with_reducible assumption) | refine And.intro ?_ ?_))); all_goals exact (decide_eq_false (not_imp hi hA hg)).symm) | trace_state)
        · obtain rfl : i = vs.length := by omega
          have hf := hC.fin (more := false) (m := r.length) ⟨c2, by first | exact .inl c3 | exact .inr rfl⟩ hw1
          repeat' ((first | (conv => whnf) | skip); (first | ((with_reducible intro h); first | contradiction | omega | (conv => whnf) | skip) | (with_reducible refine And.intro ?_ ?_) | ((with_reducible show arithK _ _ _); refine arith_ok ⟨by omega, by omega⟩ ?_) | ((with_reducible show quoK _ _ _ _); refine quo_ok ⟨by omega, by omega⟩ (by omega) (by omega) ?_) | ((with_reducible show remK _ _ _ _); refine rem_ok (by omega) (by omega) ?_) | ((first | (with_reducible show CallA _ _ _ _ _ _) | (with_reducible show CallQ _ _ _ _ _ _)); first | fail) | ((with_reducible show DrawA _ _ _ _ _ _); first | (refine draw_hard hT mixed (by decide +kernel) ?_))))
          all_goals first | rfl | omega | skip
          all_goals ((conv => whnf); first
            | (apply ends_imp (((w0 :: vs).map B).getD (Int.toNat 0) ByteArray.empty) wd xs true [some 3]; (all_goals (repeat' (first | exact rfl | exact trivial | (with_reducible assumption) | refine And.intro ?_ ?_))); all_goals exact (decide_eq_true (hf.2 (by omega))).symm)
            | (apply ends_imp (((w0 :: vs).map B).getD (Int.toNat 0) ByteArray.empty) wd xs false [some 3]; (all_goals (repeat' (first | exact rfl | exact trivial | (with_reducible assumption) | refine And.intro ?_ ?_))); all_goals exact (decide_eq_false fun hp => absurd (hf.1 hp) (by omega)).symm)
            | trace_state)
    | true =>
      by_cases hgt : vs.length ≤ r.length
      · repeat' ((first | (conv => whnf) | skip); (first | ((with_reducible intro h); first | contradiction | omega | (conv => whnf) | skip) | (with_reducible refine And.intro ?_ ?_) | ((with_reducible show arithK _ _ _); refine arith_ok ⟨by omega, by omega⟩ ?_) | ((with_reducible show quoK _ _ _ _); refine quo_ok ⟨by omega, by omega⟩ (by omega) (by omega) ?_) | ((with_reducible show remK _ _ _ _); refine rem_ok (by omega) (by omega) ?_) | ((first | (with_reducible show CallA _ _ _ _ _ _) | (with_reducible show CallQ _ _ _ _ _ _)); first | (refine CallA.go [] (hsc) rfl (by first | ((repeat' (first | exact rfl | exact trivial | (with_reducible assumption) | refine And.intro ?_ ?_ | omega | assumption)); done) | fail) trivial ?_) | (refine Ret.go (hso2) rfl rfl ?_) | (refine Ret.goQ (hso2) rfl rfl ?_) | (refine Ret.go (hct) rfl rfl ?_) | (refine Ret.goQ (hct) rfl rfl ?_)) | ((with_reducible show DrawA _ _ _ _ _ _); first | (refine draw_hard hT mixed (by decide +kernel) ?_))))
        all_goals first | rfl | omega | (show (_ : Int) < (((w0 :: vs).map B).length : Int); omega) | (show (_ : Int) ≤ (((w0 :: vs).map B).length : Int); omega) | skip
        (conv => whnf)
        refine loop_rule hT (fun q : Nat × List Int × ByteArray => CmAt w vs q.1 q.2.1) 97 3 [0, 2, 5, 8, 55, 56, 57] (fun q => [Sv l, .ptr 0 0, .ptr 2 0, Sv r, .sub 1 1 (Int.toNat 1) (((w0 :: vs).map B).length - Int.toNat 1), I ((((w0 :: vs).map B).length - Int.toNat 1 : Nat) : Int), I q.1]) (fun q => [.cells [.v (.string ByteArray.empty), .nilsl, .v (.string ByteArray.empty)], .data (.strs ((w0 :: vs).map B)), .cells [.v (.string (((w0 :: vs).map B).getD (Int.toNat 0) ByteArray.empty)), .sl 3 1 q.2.1.length, .v (.string q.2.2)], .data (.ints .i64 q.2.1)]) (fun q => vs.length - q.1) ((0, [], ByteArray.empty)) (Nat.le_of_ble_eq_true rfl) ?_ ?_ ?_
        · exact ⟨Nat.zero_le _, by simp, by simp, fun _ h => absurd h (Nat.lt_irrefl 0)⟩
        · first | (refine ⟨rfl, [none], ?_, ?_⟩; all_goals (repeat' (first | exact rfl | exact trivial | (with_reducible assumption) | refine And.intro ?_ ?_)); all_goals (first | omega | assumption); done) | trace_state
        · rintro ⟨i, xs, wd⟩ hC
          dsimp only at hC ⊢
          have hle := hC.le
          have hxl := hC.len
          have hby := byteAt_B r i
          have hwe : ((w0 :: vs).map B).getD (Int.toNat 1 + ((i : Int)).toNat) ByteArray.empty = B (vs.getD i []) := by
            rw [show Int.toNat 1 + ((i : Int)).toNat = i + 1 by omega, strs_getD]
            rfl
          by_cases hi : i < vs.length
          · by_cases hA : w = true ∧ i = 0
            · obtain ⟨hA1, rfl⟩ := hA
              have hr0 := hw1 hA1
              have hb2 : byteAt (B r) (((0 : Nat) : Int)).toNat = 119 := by rw [show (((0 : Nat) : Int)).toNat = 0 from rfl, hby, (hw 0 hr0).2 ⟨hA1, rfl⟩]; rfl
              have hE : ((w0 :: vs).map B).getD (Int.toNat 1 + (((0 : Nat) : Int)).toNat) ByteArray.empty = ⟨#[]⟩ ↔ vs.getD 0 [] = [] := by rw [hwe]; exact B_inj (b := [])
              subst hA1
              repeat' ((first | (conv => whnf) | skip); (first | ((with_reducible intro h); first | contradiction | omega | (conv => whnf) | skip) | (with_reducible refine And.intro ?_ ?_) | ((with_reducible show arithK _ _ _); refine arith_ok ⟨by omega, by omega⟩ ?_) | ((with_reducible show quoK _ _ _ _); refine quo_ok ⟨by omega, by omega⟩ (by omega) (by omega) ?_) | ((with_reducible show remK _ _ _ _); refine rem_ok (by omega) (by omega) ?_) | ((first | (with_reducible show CallA _ _ _ _ _ _) | (with_reducible show CallQ _ _ _ _ _ _)); first | fail) | ((with_reducible show DrawA _ _ _ _ _ _); first | (refine draw_hard hT mixed (by decide +kernel) ?_))))
              all_goals first | rfl | omega | contradiction | skip
              all_goals ((conv => whnf); first
                | (apply ends_imp (((w0 :: vs).map B).getD (Int.toNat 0) ByteArray.empty) (((w0 :: vs).map B).getD (Int.toNat 1 + (((0 : Nat) : Int)).toNat) ByteArray.empty) xs false [some 3]; (all_goals (repeat' (first | exact rfl | exact trivial | (with_reducible assumption) | refine And.intro ?_ ?_))); all_goals exact (decide_eq_false fun hp => (by unfold impP at hp; exact hp.2.1 rfl (hE.1 (by assumption)))).symm)
                | (refine ⟨(1, xs, ((w0 :: vs).map B).getD (Int.toNat 1 + (((0 : Nat) : Int)).toNat) ByteArray.empty), hC.word hi (fun e => absurd (hE.2 e) (by assumption)), ?_, by dsimp only; omega⟩; (refine ⟨rfl, [some 3], ?_, ?_⟩; all_goals (repeat' (first | exact rfl | exact trivial | (with_reducible assumption) | refine And.intro ?_ ?_)); all_goals (first | omega | assumption); done))
                | trace_state)
            · have hnm : i < r.length → byteAt (B r) ((i : Int)).toNat ≠ 119 := fun h e => hA ((hw i h).1 (u8_eq (b := 119) (hby.symm.trans e)))
              have hrd := readNumber_ret (vs.getD i []) (hvs _ (getD_mem hi))
              rw [show Sv (vs.getD i []) = .v (.string (((w0 :: vs).map B).getD (Int.toNat 1 + ((i : Int)).toNat) ByteArray.empty)) from congrArg (fun b => AV.v (.string b)) hwe.symm] at hrd
              by_cases hg : sgnB (vs.getD i [])
              · rw [decide_eq_true hg] at hrd
                by_cases hir : i < r.length
                · have hnm := hnm hir
                  repeat' ((first | (conv => whnf) | skip); (first | ((with_reducible intro h); first | contradiction | omega | (conv => whnf) | skip) | (with_reducible refine And.intro ?_ ?_) | ((with_reducible show arithK _ _ _); refine arith_ok ⟨by omega, by omega⟩ ?_) | ((with_reducible show quoK _ _ _ _); refine quo_ok ⟨by omega, by omega⟩ (by omega) (by omega) ?_) | ((with_reducible show remK _ _ _ _); refine rem_ok (by omega) (by omega) ?_) | ((first | (with_reducible show CallA _ _ _ _ _ _) | (with_reducible show CallQ _ _ _ _ _ _)); first | (refine Ret.go (hrd) rfl rfl ?_) | (refine Ret.goQ (hrd) rfl rfl ?_)) | ((with_reducible show DrawA _ _ _ _ _ _); first | (refine draw_hard hT mixed (by decide +kernel) ?_))))
                  all_goals first | rfl | omega | contradiction | (show (_ : Nat) ≤ _; simp; omega) | skip
                  all_goals ((conv => whnf); first | (refine ⟨(i + 1, xs ++ [rnN (vs.getD i [])], wd), hC.next hi hA hg _, ?_, by dsimp only; omega⟩; first | (refine ⟨rfl, [some 5], ?_, ?_⟩; all_goals (repeat' (first | exact rfl | exact trivial | (with_reducible assumption) | refine And.intro ?_ ?_)); all_goals (first | omega | assumption | ((repeat' (first | ((try dsimp only); exact rfl) | exact rfl | exact trivial | (with_reducible assumption) | refine And.intro ?_ ?_ | omega | assumption)); done)); done) | (refine ⟨rfl, [some 4], ?_, ?_⟩; all_goals (repeat' (first | exact rfl | exact trivial | (with_reducible assumption) | refine And.intro ?_ ?_)); all_goals (first | omega | assumption | ((repeat' (first | ((try dsimp only); exact rfl) | exact rfl | exact trivial | (with_reducible assumption) | refine And.intro ?_ ?_ | omega | assumption)); done)); done)) | trace_state)
                · repeat' ((first | (conv => whnf) | skip); (first | ((with_reducible intro h); first | contradiction | omega | (conv => whnf) | skip) | (with_reducible refine And.intro ?_ ?_) | ((with_reducible show arithK _ _ _); refine arith_ok ⟨by omega, by omega⟩ ?_) | ((with_reducible show quoK _ _ _ _); refine quo_ok ⟨by omega, by omega⟩ (by omega) (by omega) ?_) | ((with_reducible show remK _ _ _ _); refine rem_ok (by omega) (by omega) ?_) | ((first | (with_reducible show CallA _ _ _ _ _ _) | (with_reducible show CallQ _ _ _ _ _ _)); first | (refine Ret.go (hrd) rfl rfl ?_) | (refine Ret.goQ (hrd) rfl rfl ?_)) | ((with_reducible show DrawA _ _ _ _ _ _); first | (refine draw_hard hT mixed (by decide +kernel) ?_))))
                  all_goals first | rfl | omega | contradiction | (show (_ : Nat) ≤ _; simp; omega) | skip
                  all_goals ((conv => whnf); first | (refine ⟨(i + 1, xs ++ [rnN (vs.getD i [])], wd), hC.next hi hA hg _, ?_, by dsimp only; omega⟩; first | (refine ⟨rfl, [some 5], ?_, ?_⟩; all_goals (repeat' (first | exact rfl | exact trivial | (with_reducible assumption) | refine And.intro ?_ ?_)); all_goals (first | omega | assumption | ((repeat' (first | ((try dsimp only); exact rfl) | exact rfl | exact trivial | (with_reducible assumption) | refine And.intro ?_ ?_ | omega | assumption)); done)); done) | (refine ⟨rfl, [some 4], ?_, ?_⟩; all_goals (repeat' (first | exact rfl | exact trivial | (with_reducible assumption) | refine And.intro ?_ ?_)); all_goals (first | omega | assumption | ((repeat' (first | ((try dsimp only); exact rfl) | exact rfl | exact trivial | (with_reducible assumption) | refine And.intro ?_ ?_ | omega | assumption)); done)); done)) | trace_state)
              · rw [decide_eq_false hg] at hrd
                by_cases hir : i < r.length
                · have hnm := hnm hir
                  repeat' ((first | (conv => whnf) | skip); (first | ((with_reducible intro h); first | contradiction | omega | (conv => whnf) | skip) | (with_reducible refine And.intro ?_ ?_) | ((with_reducible show arithK _ _ _); refine arith_ok ⟨by omega, by omega⟩ ?_) | ((with_reducible show quoK _ _ _ _); refine quo_ok ⟨by omega, by omega⟩ (by omega) (by omega) ?_) | ((with_reducible show remK _ _ _ _); refine rem_ok (by omega) (by omega) ?_) | ((first | (with_reducible show CallA _ _ _ _ _ _) | (with_reducible show CallQ _ _ _ _ _ _)); first | (refine Ret.go (hrd) rfl rfl ?_) | (refine Ret.goQ (hrd) rfl rfl ?_)) | ((with_reducible show DrawA _ _ _ _ _ _); first | (refine draw_hard hT mixed (by decide +kernel) ?_))))
                  all_goals first | rfl | omega | contradiction | skip
                  all_goals ((conv => whnf); first | (apply ends_imp (((w0 :: vs).map B).getD (Int.toNat 0) ByteArray.empty) wd xs false [some 3]; (all_goals (repeat' (first | exact rfl | exact trivial | (with_reducible assumption) | refine And.intro ?_ ?_))); all_goals exact (decide_eq_false (not_imp hi hA hg)).symm) | trace_state)
                · repeat' ((first | (conv => whnf) | skip); (first | ((with_reducible intro h); first | contradiction | omega | (conv => whnf) | skip) | (with_reducible refine And.intro ?_ ?_) | ((with_reducible show arithK _ _ _); refine arith_ok ⟨by omega, by omega⟩ ?_) | ((with_reducible show quoK _ _ _ _); refine quo_ok ⟨by omega, by omega⟩ (by omega) (by omega) ?_) | ((with_reducible show remK _ _ _ _); refine rem_ok (by omega) (by omega) ?_) | ((first | (with_reducible show CallA _ _ _ _ _ _) | (with_reducible show CallQ _ _ _ _ _ _)); first | (refine Ret.go (hrd) rfl rfl ?_) | (refine Ret.goQ (hrd) rfl rfl ?_)) | ((with_reducible show DrawA _ _ _ _ _ _); first | (refine draw_hard hT mixed (by decide +kernel) ?_))))
                  all_goals first | rfl | omega | contradiction | skip
                  all_goals ((conv => whnf); first | (apply ends_imp (((w0 :: vs).map B).getD (Int.toNat 0) ByteArray.empty) wd xs false [some 3]; (all_goals (repeat' (first | exact rfl | exact trivial | (with_reducible assumption) | refine And.intro ?_ ?_))); all_goals exact (decide_eq_false (not_imp hi hA hg)).symm) | trace_state)
          · obtain rfl : i = vs.length := by omega
            have hf := hC.fin (more := true) (m := r.length) ⟨c2, by first | exact .inl c3 | exact .inr rfl⟩ hw1
            repeat' ((first | (conv => whnf) | skip); (first | ((with_reducible intro h); first | contradiction | omega | (conv => whnf) | skip) | (with_reducible refine And.intro ?_ ?_) | ((with_reducible show arithK _ _ _); refine arith_ok ⟨by omega, by omega⟩ ?_) | ((with_reducible show quoK _ _ _ _); refine quo_ok ⟨by omega, by omega⟩ (by omega) (by omega) ?_) | ((with_reducible show remK _ _ _ _); refine rem_ok (by omega) (by omega) ?_) | ((first | (with_reducible show CallA _ _ _ _ _ _) | (with_reducible show CallQ _ _ _ _ _ _)); first | fail) | ((with_reducible show DrawA _ _ _ _ _ _); first | (refine draw_hard hT mixed (by decide +kernel) ?_))))
            all_goals first | rfl | omega | skip
            all_goals ((conv => whnf); first
              | (apply ends_imp (((w0 :: vs).map B).getD (Int.toNat 0) ByteArray.empty) wd xs true [some 3]; (all_goals (repeat' (first | exact rfl | exact trivial | (with_reducible assumption) | refine And.intro ?_ ?_))); all_goals exact (decide_eq_true (hf.2 (by omega))).symm)
              | (apply ends_imp (((w0 :: vs).map B).getD (Int.toNat 0) ByteArray.empty) wd xs false [some 3]; (all_goals (repeat' (first | exact rfl | exact trivial | (with_reducible assumption) | refine And.intro ?_ ?_))); all_goals exact (decide_eq_false fun hp => absurd (hf.1 hp) (by omega)).symm)
              | trace_state)
      · repeat' ((first | (conv => whnf) | skip); (first | ((with_reducible intro h); first | contradiction | omega | (conv => whnf) | skip) | (with_reducible refine And.intro ?_ ?_) | ((with_reducible show arithK _ _ _); refine arith_ok ⟨by omega, by omega⟩ ?_) | ((with_reducible show quoK _ _ _ _); refine quo_ok ⟨by omega, by omega⟩ (by omega) (by omega) ?_) | ((with_reducible show remK _ _ _ _); refine rem_ok (by omega) (by omega) ?_) | ((first | (with_reducible show CallA _ _ _ _ _ _) | (with_reducible show CallQ _ _ _ _ _ _)); first | (refine CallA.go [] (hsc) rfl (by first | ((repeat' (first | exact rfl | exact trivial | (with_reducible assumption) | refine And.intro ?_ ?_ | omega | assumption)); done) | fail) trivial ?_) | (refine Ret.go (hso2) rfl rfl ?_) | (refine Ret.goQ (hso2) rfl rfl ?_) | (refine Ret.go (hct) rfl rfl ?_) | (refine Ret.goQ (hct) rfl rfl ?_)) | ((with_reducible show DrawA _ _ _ _ _ _); first | (refine draw_hard hT mixed (by decide +kernel) ?_))))
        all_goals first | rfl | omega | (show (_ : Int) < (((w0 :: vs).map B).length : Int); omega) | (show (_ : Int) ≤ (((w0 :: vs).map B).length : Int); omega) | skip
        (conv => whnf)
        refine loop_rule hT (fun q : Nat × List Int × ByteArray => CmAt w vs q.1 q.2.1) 97 3 [0, 2, 5, 8, 55, 56, 57] (fun q => [Sv l, .ptr 0 0, .ptr 2 0, Sv r, .sub 1 1 (Int.toNat 1) (((w0 :: vs).map B).length - Int.toNat 1), I ((((w0 :: vs).map B).length - Int.toNat 1 : Nat) : Int), I q.1]) (fun q => [.cells [.v (.string ByteArray.empty), .nilsl, .v (.string ByteArray.empty)], .data (.strs ((w0 :: vs).map B)), .cells [.v (.string (((w0 :: vs).map B).getD (Int.toNat 0) ByteArray.empty)), .sl 3 1 q.2.1.length, .v (.string q.2.2)], .data (.ints .i64 q.2.1)]) (fun q => vs.length - q.1) ((0, [], ByteArray.empty)) (Nat.le_of_ble_eq_true rfl) ?_ ?_ ?_
        · exact ⟨Nat.zero_le _, by simp, by simp, fun _ h => absurd h (Nat.lt_irrefl 0)⟩
        · first | (refine ⟨rfl, [none], ?_, ?_⟩; all_goals (repeat' (first | exact rfl | exact trivial | (with_reducible assumption) | refine And.intro ?_ ?_)); all_goals (first | omega | assumption); done) | trace_state
        · rintro ⟨i, xs, wd⟩ hC
          dsimp only at hC ⊢
          have hle := hC.le
          have hxl := hC.len
          have hby := byteAt_B r i
          have hwe : ((w0 :: vs).map B).getD (Int.toNat 1 + ((i : Int)).toNat) ByteArray.empty = B (vs.getD i []) := by
            rw [show Int.toNat 1 + ((i : Int)).toNat = i + 1 by omega, strs_getD]
            rfl
          by_cases hi : i < vs.length
          · by_cases hA : w = true ∧ i = 0
            · obtain ⟨hA1, rfl⟩ := hA
              have hr0 := hw1 hA1
              have hb2 : byteAt (B r) (((0 : Nat) : Int)).toNat = 119 := by rw [show (((0 : Nat) : Int)).toNat = 0 from rfl, hby, (hw 0 hr0).2 ⟨hA1, rfl⟩]; rfl
              have hE : ((w0 :: vs).map B).getD (Int.toNat 1 + (((0 : Nat) : Int)).toNat) ByteArray.empty = ⟨#[]⟩ ↔ vs.getD 0 [] = [] := by rw [hwe]; exact B_inj (b := [])
              subst hA1
              repeat' ((first | (conv => whnf) | skip); (first | ((with_reducible intro h); first | contradiction | omega | (conv => whnf) | skip) | (with_reducible refine And.intro ?_ ?_) | ((with_reducible show arithK _ _ _); refine arith_ok ⟨by omega, by omega⟩ ?_) | ((with_reducible show quoK _ _ _ _); refine quo_ok ⟨by omega, by omega⟩ (by omega) (by omega) ?_) | ((with_reducible show remK _ _ _ _); refine rem_ok (by omega) (by omega) ?_) | ((first | (with_reducible show CallA _ _ _ _ _ _) | (with_reducible show CallQ _ _ _ _ _ _)); first | fail) | ((with_reducible show DrawA _ _ _ _ _ _); first | (refine draw_hard hT mixed (by decide +kernel) ?_))))
              all_goals first | rfl | omega | contradiction | skip
              all_goals ((conv => whnf); first
                | (apply ends_imp (((w0 :: vs).map B).getD (Int.toNat 0) ByteArray.empty) (((w0 :: vs).map B).getD (Int.toNat 1 + (((0 : Nat) : Int)).toNat) ByteArray.empty) xs false [some 3]; (all_goals (repeat' (first | exact rfl | exact trivial | (with_reducible assumption) | refine And.intro ?_ ?_))); all_goals exact (decide_eq_false fun hp => (by unfold impP at hp; exact hp.2.1 rfl (hE.1 (by assumption)))).symm)
                | (refine ⟨(1, xs, ((w0 :: vs).map B).getD (Int.toNat 1 + (((0 : Nat) : Int)).toNat) ByteArray.empty), hC.word hi (fun e => absurd (hE.2 e) (by assumption)), ?_, by dsimp only; omega⟩; (refine ⟨rfl, [some 3], ?_, ?_⟩; all_goals (repeat' (first | exact rfl | exact trivial | (with_reducible assumption) | refine And.intro ?_ ?_)); all_goals (first | omega | assumption); done))
                | trace_state)
            · have hnm : i < r.length → byteAt (B r) ((i : Int)).toNat ≠ 119 := fun h e => hA ((hw i h).1 (u8_eq (b := 119) (hby.symm.trans e)))
              have hrd := readNumber_ret (vs.getD i []) (hvs _ (getD_mem hi))
              rw [show Sv (vs.getD i []) = .v (.string (((w0 :: vs).map B).getD (Int.toNat 1 + ((i : Int)).toNat) ByteArray.empty)) from congrArg (fun b => AV.v (.string b)) hwe.symm] at hrd
              by_cases hg : sgnB (vs.getD i [])
              · rw [decide_eq_true hg] at hrd
                by_cases hir : i < r.length
                · have hnm := hnm hir
                  repeat' ((first | (conv => whnf) | skip); (first | ((with_reducible intro h); first | contradiction | omega | (conv => whnf) | skip) | (with_reducible refine And.intro ?_ ?_) | ((with_reducible show arithK _ _ _); refine arith_ok ⟨by omega, by omega⟩ ?_) | ((with_reducible show quoK _ _ _ _); refine quo_ok ⟨by omega, by omega⟩ (by omega) (by omega) ?_) | ((with_reducible show remK _ _ _ _); refine rem_ok (by omega) (by omega) ?_) | ((first | (with_reducible show CallA _ _ _ _ _ _) | (with_reducible show CallQ _ _ _ _ _ _)); first | (refine Ret.go (hrd) rfl rfl ?_) | (refine Ret.goQ (hrd) rfl rfl ?_)) | ((with_reducible show DrawA _ _ _ _ _ _); first | (refine draw_hard hT mixed (by decide +kernel) ?_))))
                  all_goals first | rfl | omega | contradiction | (show (_ : Nat) ≤ _; simp; omega) | skip
                  all_goals ((conv => whnf); first | (refine ⟨(i + 1, xs ++ [rnN (vs.getD i [])], wd), hC.next hi hA hg _, ?_, by dsimp only; omega⟩; first | (refine ⟨rfl, [some 5], ?_, ?_⟩; all_goals (repeat' (first | exact rfl | exact trivial | (with_reducible assumption) | refine And.intro ?_ ?_)); all_goals (first | omega | assumption | ((repeat' (first | ((try dsimp only); exact rfl) | exact rfl | exact trivial | (with_reducible assumption) | refine And.intro ?_ ?_ | omega | assumption)); done)); done) | (refine ⟨rfl, [some 4], ?_, ?_⟩; all_goals (repeat' (first | exact rfl | exact trivial | (with_reducible assumption) | refine And.intro ?_ ?_)); all_goals (first | omega | assumption | ((repeat' (first | ((try dsimp only); exact rfl) | exact rfl | exact trivial | (with_reducible assumption) | refine And.intro ?_ ?_ | omega | assumption)); done)); done)) | trace_state)
                · repeat' ((first | (conv => whnf) | skip); (first | ((with_reducible intro h); first | contradiction | omega | (conv => whnf) | skip) | (with_reducible refine And.intro ?_ ?_) | ((with_reducible show arithK _ _ _); refine arith_ok ⟨by omega, by omega⟩ ?_) | ((with_reducible show quoK _ _ _ _); refine quo_ok ⟨by omega, by omega⟩ (by omega) (by omega) ?_) | ((with_reducible show remK _ _ _ _); refine rem_ok (by omega) (by omega) ?_) | ((first | (with_reducible show CallA _ _ _ _ _ _) | (with_reducible show CallQ _ _ _ _ _ _)); first | (refine Ret.go (hrd) rfl rfl ?_) | (refine Ret.goQ (hrd) rfl rfl ?_)) | ((with_reducible show DrawA _ _ _ _ _ _); first | (refine draw_hard hT mixed (by decide +kernel) ?_))))
                  all_goals first | rfl | omega | contradiction | (show (_ : Nat) ≤ _; simp; omega) | skip
                  all_goals ((conv => whnf); first | (refine ⟨(i + 1, xs ++ [rnN (vs.getD i [])], wd), hC.next hi hA hg _, ?_, by dsimp only; omega⟩; first | (refine ⟨rfl, [some 5], ?_, ?_⟩; all_goals (repeat' (first | exact rfl | exact trivial | (with_reducible assumption) | refine And.intro ?_ ?_)); all_goals (first | omega | assumption | ((repeat' (first | ((try dsimp only); exact rfl) | exact rfl | exact trivial | (with_reducible assumption) | refine And.intro ?_ ?_ | omega | assumption)); done)); done) | (refine ⟨rfl, [some 4], ?_, ?_⟩; all_goals (repeat' (first | exact rfl | exact trivial | (with_reducible assumption) | refine And.intro ?_ ?_)); all_goals (first | omega | assumption | ((repeat' (first | ((try dsimp only); exact rfl) | exact rfl | exact trivial | (with_reducible assumption) | refine And.intro ?_ ?_ | omega | assumption)); done)); done)) | trace_state)
              · rw [decide_eq_false hg] at hrd
                by_cases hir : i < r.length
                · have hnm := hnm hir
                  repeat' ((first | (conv => whnf) | skip); (first | ((with_reducible intro h); first | contradiction | omega | (conv => whnf) | skip) | (with_reducible refine And.intro ?_ ?_) | ((with_reducible show arithK _ _ _); refine arith_ok ⟨by omega, by omega⟩ ?_) | ((with_reducible show quoK _ _ _ _); refine quo_ok ⟨by omega, by omega⟩ (by omega) (by omega) ?_) | ((with_reducible show remK _ _ _ _); refine rem_ok (by omega) (by omega) ?_) | ((first | (with_reducible show CallA _ _ _ _ _ _) | (with_reducible show CallQ _ _ _ _ _ _)); first | (refine Ret.go (hrd) rfl rfl ?_) | (refine Ret.goQ (hrd) rfl rfl ?_)) | ((with_reducible show DrawA _ _ _ _ _ _); first | (refine draw_hard hT mixed (by decide +kernel) ?_))))
                  all_goals first | rfl | omega | contradiction | skip
                  all_goals ((conv => whnf); first | (apply ends_imp (((w0 :: vs).map B).getD (Int.toNat 0) ByteArray.empty) wd xs false [some 3]; (all_goals (repeat' (first | exact rfl | exact trivial | (with_reducible assumption) | refine And.intro ?_ ?_))); all_goals exact (decide_eq_false (not_imp hi hA hg)).symm) | trace_state)
                · repeat' ((first | (conv => whnf) | skip); (first | ((with_reducible intro h); first | contradiction | omega | (conv => whnf) | skip) | (with_reducible refine And.intro ?_ ?_) | ((with_reducible show arithK _ _ _); refine arith_ok ⟨by omega, by omega⟩ ?_) | ((with_reducible show quoK _ _ _ _); refine quo_ok ⟨by omega, by omega⟩ (by omega) (by omega) ?_) | ((with_reducible show remK _ _ _ _); refine rem_ok (by omega) (by omega) ?_) | ((first | (with_reducible show CallA _ _ _ _ _ _) | (with_reducible show CallQ _ _ _ _ _ _)); first | (refine Ret.go (hrd) rfl rfl ?_) | (refine Ret.goQ (hrd) rfl rfl ?_)) | ((with_reducible show DrawA _ _ _ _ _ _); first | (refine draw_hard hT mixed (by decide +kernel) ?_))))
                  all_goals first | rfl | omega | contradiction | skip
                  all_goals ((conv => whnf); first | (apply ends_imp (((w0 :: vs).map B).getD (Int.toNat 0) ByteArray.empty) wd xs false [some 3]; (all_goals (repeat' (first | exact rfl | exact trivial | (with_reducible assumption) | refine And.intro ?_ ?_))); all_goals exact (decide_eq_false (not_imp hi hA hg)).symm) | trace_state)
          · obtain rfl : i = vs.length := by omega
            have hf := hC.fin (more := true) (m := r.length) ⟨c2, by first | exact .inl c3 | exact .inr rfl⟩ hw1
            repeat' ((first | (conv => whnf) | skip); (first | ((with_reducible intro h); first | contradiction | omega | (conv => whnf) | skip) | (with_reducible refine And.intro ?_ ?_) | ((with_reducible show arithK _ _ _); refine arith_ok ⟨by omega, by omega⟩ ?_) | ((with_reducible show quoK _ _ _ _); refine quo_ok ⟨by omega, by omega⟩ (by omega) (by omega) ?_) | ((with_reducible show remK _ _ _ _); refine rem_ok (by omega) (by omega) ?_) | ((first | (with_reducible show CallA _ _ _ _ _ _) | (with_reducible show CallQ _ _ _ _ _ _)); first | fail) | ((with_reducible show DrawA _ _ _ _ _ _); first | (refine draw_hard hT mixed (by decide +kernel) ?_))))
            all_goals first | rfl | omega | skip
            all_goals ((conv => whnf); first
              | (apply ends_imp (((w0 :: vs).map B).getD (Int.toNat 0) ByteArray.empty) wd xs true [some 3]; (all_goals (repeat' (first | exact rfl | exact trivial | (with_reducible assumption) | refine And.intro ?_ ?_))); all_goals exact (decide_eq_true (hf.2 (by omega))).symm)
              | (apply ends_imp (((w0 :: vs).map B).getD (Int.toNat 0) ByteArray.empty) wd xs false [some 3]; (all_goals (repeat' (first | exact rfl | exact trivial | (with_reducible assumption) | refine And.intro ?_ ?_))); all_goals exact (decide_eq_false fun hp => absurd (hf.1 hp) (by omega)).symm)
              | trace_state)
  · have hno : ¬ impP there more w r.length vs := fun hp => hc (by unfold impP at hp; exact hp.1)
    cases there with
    | false =>
      repeat' ((first | (conv => whnf) | skip); (first | ((with_reducible intro h); first | contradiction | omega | (conv => whnf) | skip) | (with_reducible refine And.intro ?_ ?_) | ((with_reducible show arithK _ _ _); refine arith_ok ⟨by omega, by omega⟩ ?_) | ((with_reducible show quoK _ _ _ _); refine quo_ok ⟨by omega, by omega⟩ (by omega) (by omega) ?_) | ((with_reducible show remK _ _ _ _); refine rem_ok (by omega) (by omega) ?_) | ((first | (with_reducible show CallA _ _ _ _ _ _) | (with_reducible show CallQ _ _ _ _ _ _)); first | (refine CallA.go [] (hsc) rfl (by first | ((repeat' (first | exact rfl | exact trivial | (with_reducible assumption) | refine And.intro ?_ ?_ | omega | assumption)); done) | fail) trivial ?_) | (refine Ret.go (hso2) rfl rfl ?_) | (refine Ret.goQ (hso2) rfl rfl ?_) | (refine Ret.go (hct) rfl rfl ?_) | (refine Ret.goQ (hct) rfl rfl ?_)) | ((with_reducible show DrawA _ _ _ _ _ _); first | (refine draw_hard hT mixed (by decide +kernel) ?_))))
      all_goals first | rfl | omega | (show (_ : Int) < (((w0 :: vs).map B).length : Int); omega) | (show (_ : Int) ≤ (((w0 :: vs).map B).length : Int); omega) | skip
      all_goals ((conv => whnf); first | (apply ends_imp (((w0 :: vs).map B).getD (Int.toNat 0) ByteArray.empty) ByteArray.empty [] false [none]; (all_goals (repeat' (first | exact rfl | exact trivial | (with_reducible assumption) | refine And.intro ?_ ?_))); all_goals exact (decide_eq_false hno).symm) | trace_state)
    | true =>
      by_cases c2 : r.length ≤ vs.length
      · have c3 : ¬ (vs.length ≤ r.length ∨ more = true) := fun h => hc ⟨rfl, c2, h⟩
        have c4 : more = false := by
          cases more with
          | false => rfl
          | true => exact absurd (.inr rfl) c3
        have c5 : r.length < vs.length := by
          rcases Nat.lt_or_ge r.length vs.length with h | h
          · exact h
          · exact absurd (.inl h) c3
        rw [c4] at hct hno ⊢
        repeat' ((first | (conv => whnf) | skip); (first | ((with_reducible intro h); first | contradiction | omega | (conv => whnf) | skip) | (with_reducible refine And.intro ?_ ?_) | ((with_reducible show arithK _ _ _); refine arith_ok ⟨by omega, by omega⟩ ?_) | ((with_reducible show quoK _ _ _ _); refine quo_ok ⟨by omega, by omega⟩ (by omega) (by omega) ?_) | ((with_reducible show remK _ _ _ _); refine rem_ok (by omega) (by omega) ?_) | ((first | (with_reducible show CallA _ _ _ _ _ _) | (with_reducible show CallQ _ _ _ _ _ _)); first | (refine CallA.go [] (hsc) rfl (by first | ((repeat' (first | exact rfl | exact trivial | (with_reducible assumption) | refine And.intro ?_ ?_ | omega | assumption)); done) | fail) trivial ?_) | (refine Ret.go (hso2) rfl rfl ?_) | (refine Ret.goQ (hso2) rfl rfl ?_) | (refine Ret.go (hct) rfl rfl ?_) | (refine Ret.goQ (hct) rfl rfl ?_)) | ((with_reducible show DrawA _ _ _ _ _ _); first | (refine draw_hard hT mixed (by decide +kernel) ?_))))
        all_goals first | rfl | omega | (show (_ : Int) < (((w0 :: vs).map B).length : Int); omega) | (show (_ : Int) ≤ (((w0 :: vs).map B).length : Int); omega) | skip
        all_goals ((conv => whnf); first | (apply ends_imp (((w0 :: vs).map B).getD (Int.toNat 0) ByteArray.empty) ByteArray.empty [] false [none]; (all_goals (repeat' (first | exact rfl | exact trivial | (with_reducible assumption) | refine And.intro ?_ ?_))); all_goals exact (decide_eq_false hno).symm) | trace_state)
      · repeat' ((first | (conv => whnf) | skip); (first | ((with_reducible intro h); first | contradiction | omega | (conv => whnf) | skip) | (with_reducible refine And.intro ?_ ?_) | ((with_reducible show arithK _ _ _); refine arith_ok ⟨by omega, by omega⟩ ?_) | ((with_reducible show quoK _ _ _ _); refine quo_ok ⟨by omega, by omega⟩ (by omega) (by omega) ?_) | ((with_reducible show remK _ _ _ _); refine rem_ok (by omega) (by omega) ?_) | ((first | (with_reducible show CallA _ _ _ _ _ _) | (with_reducible show CallQ _ _ _ _ _ _)); first | (refine CallA.go [] (hsc) rfl (by first | ((repeat' (first | exact rfl | exact trivial | (with_reducible assumption) | refine And.intro ?_ ?_ | omega | assumption)); done) | fail) trivial ?_) | (refine Ret.go (hso2) rfl rfl ?_) | (refine Ret.goQ (hso2) rfl rfl ?_) | (refine Ret.go (hct) rfl rfl ?_) | (refine Ret.goQ (hct) rfl rfl ?_)) | ((with_reducible show DrawA _ _ _ _ _ _); first | (refine draw_hard hT mixed (by decide +kernel) ?_))))
        all_goals first | rfl | omega | (show (_ : Int) < (((w0 :: vs).map B).length : Int); omega) | (show (_ : Int) ≤ (((w0 :: vs).map B).length : Int); omega) | skip
        all_goals ((conv => whnf); first | (apply ends_imp (((w0 :: vs).map B).getD (Int.toNat 0) ByteArray.empty) ByteArray.empty [] false [none]; (all_goals (repeat' (first | exact rfl | exact trivial | (with_reducible assumption) | refine And.intro ?_ ?_))); all_goals exact (decide_eq_false hno).symm) | trace_state)
end Go.Proofs.YtgpgnhadmckmhaaDoor
