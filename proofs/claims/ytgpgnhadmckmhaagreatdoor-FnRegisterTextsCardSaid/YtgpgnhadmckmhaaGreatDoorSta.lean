/-
  Numerals as the reference writes them: what the functions return. No conditions but those in the statements.
-/
import Derived.Test.YtgpgnhadmckmhaaGreatDoorInts
import Derived.Test.YtgpgnhadmckmhaaGreatDoorAeC
import Derived.Lib.ItoaLen
set_option linter.unusedVariables false
set_option linter.unusedSimpArgs false
namespace Go.Proofs.YtgpgnhadmckmhaaGreatDoor
open Go.AE Go.Lib

attribute [local irreducible] CallA LoopA DrawA CallQ arithK quoK remK eqK
abbrev B (l : List UInt8) : ByteArray := ⟨l.toArray⟩
abbrev Sv (l : List UInt8) : AV := .v (.string (B l))
abbrev Dstr (ws : List (List UInt8)) : Blk := .data (.strs (ws.map B))
abbrev Rstr (ws : List (List UInt8)) : AV := .ro (.strs (ws.map B))
theorem strs_getD (ws : List (List UInt8)) (i : Nat) : (ws.map B).getD i ByteArray.empty = B (ws.getD i []) := by
  rw [List.getD_eq_getElem?_getD, List.getElem?_map, List.getD_eq_getElem?_getD]
  cases ws[i]? <;> rfl
theorem B_app (a b : List UInt8) : B a ++ B b = B (a ++ b) := by
  apply ByteArray.ext
  simp
theorem B_size (l : List UInt8) : (B l).size = l.length := rfl
theorem B_inj {a b : List UInt8} : B a = B b ↔ a = b := by
  constructor
  · intro h
    have := congrArg (fun x : ByteArray => x.data.toList) h
    simpa using this
  · rintro rfl; rfl
theorem B_extract (l : List UInt8) (i j : Nat) : (B l).extract i j = B ((l.take j).drop i) := by
  apply ByteArray.ext
  simp [ByteArray.data_extract, List.drop_take]
theorem byteAt_B (l : List UInt8) (i : Nat) : byteAt (B l) i = ((l.getD i 0).toNat : Int) := rfl
theorem bytesOf_one (x : Int) : bytesOf [x] = B [UInt8.ofNat x.toNat] := rfl
theorem sv {a b : ByteArray} (h : a = b) : AV.v (.string a) = AV.v (.string b) := by rw [h]
theorem B_ex (s : ByteArray) : ∃ l, s = B l := ⟨s.data.toList, by apply ByteArray.ext; simp⟩
theorem dec_len {u : Nat} (h : u ≤ 9223372036854775807) : (decDigits u).length ≤ 20 := by rw [decDigits_length]; exact nDigits_le20 u (by omega)
theorem dec_big {u : Nat} (h : ¬ u < 10) : decDigits u = decDigits (u / 10) ++ [UInt8.ofNat (48 + u % 10)] := by rw [decDigits, dif_neg h]
set_option maxRecDepth 100000 in
theorem l01Dec_ret (u : Nat) : u ≤ 9223372036854775807 → Ret Tryz.prog G 92 [I (u : Int)] (Sv (decDigits u)) := by
  induction u using Nat.strongRecOn with
  | _ u ih =>
    intro hu
    refine ret_of_body hT Tryz.func92 rfl ?_ rfl
    by_cases h10 : u < 10
    · repeat' ((first | (conv => whnf) | skip); (first | ((with_reducible intro h); first | contradiction | omega | (conv => whnf) | skip) | (with_reducible refine And.intro ?_ ?_) | ((with_reducible show arithK _ _ _); refine arith_ok ⟨by omega, by omega⟩ ?_) | ((with_reducible show quoK _ _ _ _); refine quo_ok ⟨by omega, by omega⟩ (by omega) (by omega) ?_) | ((with_reducible show remK _ _ _ _); refine rem_ok (by omega) (by omega) ?_) | ((first | (with_reducible show CallA _ _ _ _ _ _) | (with_reducible show CallQ _ _ _ _ _ _)); first | fail) | ((with_reducible show DrawA _ _ _ _ _ _); first | (refine draw_hard hT mixed (by decide +kernel) ?_))))
      all_goals first | (show 1 = _; rfl) | omega | ((conv => whnf); refine sv ?_; show bytesOf [48 + (u : Int)] = _; rw [bytesOf_one, decDigits_one h10]; congr 3) | trace_state
    · have hi : Ret Tryz.prog G 92 [I ((u : Int) / 10)] (Sv (decDigits (u / 10))) := by
        have := ih (u / 10) (by omega) (by omega)
        rwa [show ((u / 10 : Nat) : Int) = (u : Int) / 10 by omega] at this
      have hl := dec_len (u := u / 10) (by omega)
      have hl1 := B_size (decDigits (u / 10))
      have hl2 : (bytesOf [48 + (u : Int) % 10]).size = 1 := rfl
      repeat' ((first | (conv => whnf) | skip); (first | ((with_reducible intro h); first | contradiction | omega | (conv => whnf) | skip) | (with_reducible refine And.intro ?_ ?_) | ((with_reducible show arithK _ _ _); refine arith_ok ⟨by omega, by omega⟩ ?_) | ((with_reducible show quoK _ _ _ _); refine quo_ok ⟨by omega, by omega⟩ (by omega) (by omega) ?_) | ((with_reducible show remK _ _ _ _); refine rem_ok (by omega) (by omega) ?_) | ((first | (with_reducible show CallA _ _ _ _ _ _) | (with_reducible show CallQ _ _ _ _ _ _)); first | (refine Ret.go (hi) rfl rfl ?_) | (refine Ret.goQ (hi) rfl rfl ?_)) | ((with_reducible show DrawA _ _ _ _ _ _); first | (refine draw_hard hT mixed (by decide +kernel) ?_))))
      all_goals first | (show 1 = _; rfl) | omega | (show (B (decDigits (u / 10))).size + (bytesOf [48 + (u : Int) % 10]).size ≤ _; omega) | ((conv => whnf); refine sv ?_; show B (decDigits (u / 10)) ++ bytesOf [48 + (u : Int) % 10] = _; rw [bytesOf_one, B_app, dec_big h10, show (48 + (u : Int) % 10).toNat = 48 + u % 10 by omega]) | trace_state
abbrev okI (n : Int) : Prop := -9223372036854775807 ≤ n ∧ n ≤ 9223372036854775807
theorem itoa_len {n : Int} (h : okI n) : (itoa n).length ≤ 21 := itoa_length_le n (by omega) (by omega)
set_option maxRecDepth 100000 in
theorem l01Number_ret (n : Int) (h : okI n) : Ret Tryz.prog G 81 [I n] (Sv (itoa n)) := by
  refine ret_of_body hT Tryz.func81 rfl ?_ rfl
  by_cases hn : n < 0
  · have hi : Ret Tryz.prog G 92 [I (0 - n)] (Sv (decDigits n.natAbs)) := by
      have := l01Dec_ret n.natAbs (by omega)
      rwa [show ((n.natAbs : Nat) : Int) = 0 - n by omega] at this
    have hl := dec_len (u := n.natAbs) (by omega)
    have hl1 := B_size (decDigits n.natAbs)
    repeat' ((first | (conv => whnf) | skip); (first | ((with_reducible intro h); first | contradiction | omega | (conv => whnf) | skip) | (with_reducible refine And.intro ?_ ?_) | ((with_reducible show arithK _ _ _); refine arith_ok ⟨by omega, by omega⟩ ?_) | ((with_reducible show quoK _ _ _ _); refine quo_ok ⟨by omega, by omega⟩ (by omega) (by omega) ?_) | ((with_reducible show remK _ _ _ _); refine rem_ok (by omega) (by omega) ?_) | ((first | (with_reducible show CallA _ _ _ _ _ _) | (with_reducible show CallQ _ _ _ _ _ _)); first | (refine Ret.go (hi) rfl rfl ?_) | (refine Ret.goQ (hi) rfl rfl ?_)) | ((with_reducible show DrawA _ _ _ _ _ _); first | (refine draw_hard hT mixed (by decide +kernel) ?_))))
    all_goals first | omega | (show 1 + (B (decDigits n.natAbs)).size ≤ _; omega) | ((conv => whnf); refine sv ?_; show B [45] ++ B (decDigits n.natAbs) = _; rw [B_app, itoa_minus hn]; rfl) | trace_state
  · have hi : Ret Tryz.prog G 92 [I n] (Sv (decDigits n.toNat)) := by
      have := l01Dec_ret n.toNat (by omega)
      rwa [show ((n.toNat : Nat) : Int) = n by omega] at this
    repeat' ((first | (conv => whnf) | skip); (first | ((with_reducible intro h); first | contradiction | omega | (conv => whnf) | skip) | (with_reducible refine And.intro ?_ ?_) | ((with_reducible show arithK _ _ _); refine arith_ok ⟨by omega, by omega⟩ ?_) | ((with_reducible show quoK _ _ _ _); refine quo_ok ⟨by omega, by omega⟩ (by omega) (by omega) ?_) | ((with_reducible show remK _ _ _ _); refine rem_ok (by omega) (by omega) ?_) | ((first | (with_reducible show CallA _ _ _ _ _ _) | (with_reducible show CallQ _ _ _ _ _ _)); first | (refine Ret.go (hi) rfl rfl ?_) | (refine Ret.goQ (hi) rfl rfl ?_)) | ((with_reducible show DrawA _ _ _ _ _ _); first | (refine draw_hard hT mixed (by decide +kernel) ?_))))
    all_goals first | omega | ((conv => whnf); refine sv ?_; rw [itoa_nat (by omega)]) | trace_state
/-- The first ones joined. -/
def jn (xs : List Int) (by_ : List UInt8) (i : Nat) : List UInt8 := join ((xs.take i).map itoa) by_
theorem join_snoc (ws : List (List UInt8)) (w sep : List UInt8) (h : ws ≠ []) : join (ws ++ [w]) sep = join ws sep ++ sep ++ w := by
  cases ws with
  | nil => exact absurd rfl h
  | cons x r =>
    rw [List.cons_append, join_cons, join_cons]
    simp [joinTail]
theorem jn_one {xs : List Int} {s : List UInt8} (h : 0 < xs.length) : jn xs s 1 = itoa (xs.getD 0 0) := by
  unfold jn
  rw [show (1 : Nat) = 0 + 1 from rfl, take_snoc 0 h, List.take_zero, List.nil_append, List.map_cons, List.map_nil, join_one]
theorem jn_next {xs : List Int} {s : List UInt8} {i : Nat} (h0 : 0 < i) (h : i < xs.length) : jn xs s (i + 1) = jn xs s i ++ s ++ itoa (xs.getD i 0) := by
  unfold jn
  rw [take_snoc 0 h, List.map_append, List.map_cons, List.map_nil, join_snoc]
  intro e
  have : ((xs.take i).map itoa).length = 0 := by rw [e]; rfl
  rw [List.length_map, List.length_take] at this
  omega
theorem jn_len {xs : List Int} {s : List UInt8} (hx : ∀ x ∈ xs, okI x) (hs : s.length ≤ 8) : ∀ i, i ≤ xs.length → (jn xs s i).length ≤ 29 * i
  | 0, _ => by simp [jn, join_nil]
  | 1, h => by
    rw [jn_one (by omega)]
    have := itoa_len (hx _ (getD_mem (d := (0 : Int)) (show 0 < xs.length by omega)))
    omega
  | i + 2, h => by
    rw [jn_next (by omega) (by omega), List.length_append, List.length_append]
    have := jn_len hx hs (i + 1) (by omega)
    have := itoa_len (hx _ (getD_mem (d := (0 : Int)) (show i + 1 < xs.length by omega)))
    omega
theorem jn_zero (xs : List Int) (s : List UInt8) : jn xs s 0 = [] := by simp [jn, join_nil]
theorem jn_all (xs : List Int) (s : List UInt8) : jn xs s xs.length = join (xs.map itoa) s := by unfold jn; rw [take_all (Nat.le_refl _)]
attribute [local irreducible] jn
set_option maxRecDepth 100000 in
theorem l01Join_ret (xs : List Int) (s : List UInt8) (hn : xs.length ≤ 1048576) (hx : ∀ x ∈ xs, okI x) (hs : s.length ≤ 8) : Ret Tryz.prog G 49 [Ri xs, Sv s] (Sv (join (xs.map itoa) s)) := by
  refine ret_of_body hT Tryz.func49 rfl ?_ rfl
  repeat' ((first | (conv => whnf) | skip); (first | ((with_reducible intro h); first | contradiction | omega | (conv => whnf) | skip) | (with_reducible refine And.intro ?_ ?_) | ((with_reducible show arithK _ _ _); refine arith_ok ⟨by omega, by omega⟩ ?_) | ((with_reducible show quoK _ _ _ _); refine quo_ok ⟨by omega, by omega⟩ (by omega) (by omega) ?_) | ((with_reducible show remK _ _ _ _); refine rem_ok (by omega) (by omega) ?_) | ((first | (with_reducible show CallA _ _ _ _ _ _) | (with_reducible show CallQ _ _ _ _ _ _)); first | fail) | ((with_reducible show DrawA _ _ _ _ _ _); first | (refine draw_hard hT mixed (by decide +kernel) ?_))))
  all_goals first | rfl | omega | skip
  refine loop_rule hT (fun i : Nat => i ≤ xs.length) 26 0 [0, 1, 5, 6] (fun i => [Ri xs, Sv s, Sv (jn xs s i), I i]) (fun _ => []) (fun i => xs.length - i) (0) (Nat.le_of_ble_eq_true rfl) ?_ ?_ ?_
  · exact Nat.zero_le _
  · first | (refine ⟨rfl, [], ?_, ?_⟩; all_goals (repeat' (first | exact rfl | exact trivial | (with_reducible assumption) | refine And.intro ?_ ?_)); all_goals (first | omega | assumption | ((repeat' (first | (rw [jn_zero]; rfl) | exact rfl | exact trivial | (with_reducible assumption) | refine And.intro ?_ ?_ | omega | assumption)); done)); done) | trace_state
  · intro i h1
    by_cases hi : i < xs.length
    · have hxi := hx _ (getD_mem (d := (0 : Int)) hi)
      have hnum := l01Number_ret (xs.getD ((i : Int)).toNat 0) hxi
      have hl := jn_len hx hs i h1
      have hl1 := B_size (jn xs s i)
      have hl2 := itoa_len hxi
      have hl3 := B_size s
      have hl4 : (B (itoa (xs.getD ((i : Int)).toNat 0))).size ≤ 21 := hl2
      by_cases h0 : 0 < i
      · have hj := jn_next (s := s) h0 hi
        have hl5 : (B (jn xs s i) ++ B s).size = (jn xs s i).length + s.length := by rw [B_app, B_size, List.length_append]
        repeat' ((first | (conv => whnf) | skip); (first | ((with_reducible intro h); first | contradiction | omega | (conv => whnf) | skip) | (with_reducible refine And.intro ?_ ?_) | ((with_reducible show arithK _ _ _); refine arith_ok ⟨by omega, by omega⟩ ?_) | ((with_reducible show quoK _ _ _ _); refine quo_ok ⟨by omega, by omega⟩ (by omega) (by omega) ?_) | ((with_reducible show remK _ _ _ _); refine rem_ok (by omega) (by omega) ?_) | ((first | (with_reducible show CallA _ _ _ _ _ _) | (with_reducible show CallQ _ _ _ _ _ _)); first | (refine Ret.go (hnum) rfl rfl ?_) | (refine Ret.goQ (hnum) rfl rfl ?_)) | ((with_reducible show DrawA _ _ _ _ _ _); first | (refine draw_hard hT mixed (by decide +kernel) ?_))))
        all_goals first | rfl | omega | (show _ < xs.length; omega) | skip
        all_goals ((conv => whnf); first | (refine ⟨i + 1, by omega, ?_, by omega⟩; (refine ⟨rfl, [], ?_, ?_⟩; all_goals (repeat' (first | exact rfl | exact trivial | (with_reducible assumption) | refine And.intro ?_ ?_)); all_goals (first | omega | assumption | ((repeat' (first | (rw [hj, B_app, B_app]) | exact rfl | exact trivial | (with_reducible assumption) | refine And.intro ?_ ?_ | omega | assumption)); done)); done)) | trace_state)
      · obtain rfl : i = 0 := by omega
        have hj := jn_one (s := s) hi
        repeat' ((first | (conv => whnf) | skip); (first | ((with_reducible intro h); first | contradiction | omega | (conv => whnf) | skip) | (with_reducible refine And.intro ?_ ?_) | ((with_reducible show arithK _ _ _); refine arith_ok ⟨by omega, by omega⟩ ?_) | ((with_reducible show quoK _ _ _ _); refine quo_ok ⟨by omega, by omega⟩ (by omega) (by omega) ?_) | ((with_reducible show remK _ _ _ _); refine rem_ok (by omega) (by omega) ?_) | ((first | (with_reducible show CallA _ _ _ _ _ _) | (with_reducible show CallQ _ _ _ _ _ _)); first | (refine Ret.go (hnum) rfl rfl ?_) | (refine Ret.goQ (hnum) rfl rfl ?_)) | ((with_reducible show DrawA _ _ _ _ _ _); first | (refine draw_hard hT mixed (by decide +kernel) ?_))))
        all_goals first | rfl | omega | (show _ < xs.length; omega) | skip
        all_goals ((conv => whnf); first | (refine ⟨0 + 1, by omega, ?_, by omega⟩; (refine ⟨rfl, [], ?_, ?_⟩; all_goals (repeat' (first | exact rfl | exact trivial | (with_reducible assumption) | refine And.intro ?_ ?_)); all_goals (first | omega | assumption | ((repeat' (first | (rw [show 0 + 1 = 1 from rfl, hj, jn_zero, B_app]; rfl) | exact rfl | exact trivial | (with_reducible assumption) | refine And.intro ?_ ?_ | omega | assumption)); done)); done)) | trace_state)
    · obtain rfl : i = xs.length := by omega
      repeat' ((first | (conv => whnf) | skip); (first | ((with_reducible intro h); first | contradiction | omega | (conv => whnf) | skip) | (with_reducible refine And.intro ?_ ?_) | ((with_reducible show arithK _ _ _); refine arith_ok ⟨by omega, by omega⟩ ?_) | ((with_reducible show quoK _ _ _ _); refine quo_ok ⟨by omega, by omega⟩ (by omega) (by omega) ?_) | ((with_reducible show remK _ _ _ _); refine rem_ok (by omega) (by omega) ?_) | ((first | (with_reducible show CallA _ _ _ _ _ _) | (with_reducible show CallQ _ _ _ _ _ _)); first | fail) | ((with_reducible show DrawA _ _ _ _ _ _); first | (refine draw_hard hT mixed (by decide +kernel) ?_))))
      all_goals first | rfl | omega | ((conv => whnf); refine sv ?_; rw [jn_all]) | trace_state
end Go.Proofs.YtgpgnhadmckmhaaGreatDoor
