/-
  Texts that are damaged, as drawn: what the function returns. No conditions but those in the statements.
-/
import Derived.Test.YtgpgnhadmckmhaaGreatDoorMdr
import Derived.Test.YtgpgnhadmckmhaaGreatDoorSta
set_option linter.unusedVariables false
set_option linter.unusedSimpArgs false
namespace Go.Proofs.YtgpgnhadmckmhaaGreatDoor
open Go.AE Go.Lib

attribute [local irreducible] CallA LoopA DrawA CallQ arithK quoK remK eqK
attribute [local irreducible] srcOk
theorem ends_str {code : List Int} {n : Nat} {v : AV} {H : List Blk} (sel : List (Option Nat)) (x : ByteArray) (a2 s2 : Int) (h1 : vmV 1 sel v (.v (.string x))) (h2 : heapM 1 sel H [Src code a2 s2]) (h3 : x.size ≤ n) (h4 : srcOk code a2 s2) :
    ∃ sel v' J, vmV 1 sel v v' ∧ heapM 1 sel H J ∧ (∃ (x : ByteArray) (a' s' : Int), v' = .v (.string x) ∧ J = [Src code a' s'] ∧ x.size ≤ n ∧ srcOk code a' s') :=
  ⟨sel, _, _, h1, h2, x, a2, s2, rfl, rfl, h3, h4⟩
theorem sz_app (a b : ByteArray) : (a ++ b).size = a.size + b.size := by simp
theorem sz_ext (t : ByteArray) (i j : Nat) : (t.extract i j).size ≤ j - i := by
  obtain ⟨l, rfl⟩ := B_ex t
  rw [B_extract, B_size, List.length_drop, List.length_take]
  omega
theorem one_of (z : Nat) : (([] ++ [⟨#[48]⟩] ++ [⟨#[49]⟩] ++ [⟨#[32]⟩] ++ [⟨#[45]⟩] ++ [⟨#[44]⟩] ++ [⟨#[46]⟩] ++ [⟨#[10]⟩] ++ [⟨#[97]⟩] : List ByteArray).getD z ByteArray.empty).size ≤ 1 := by
  rcases (show z = 0 ∨ z = 1 ∨ z = 2 ∨ z = 3 ∨ z = 4 ∨ z = 5 ∨ z = 6 ∨ z = 7 ∨ 8 ≤ z by omega) with rfl | rfl | rfl | rfl | rfl | rfl | rfl | rfl | h
  all_goals first | (show 1 ≤ 1; omega) | skip
  rw [List.getD_eq_getElem?_getD, List.getElem?_eq_none (by show 8 ≤ z; exact h)]
  exact Nat.zero_le _
set_option maxHeartbeats 1000000 in
set_option maxRecDepth 100000 in
theorem damage_call (code : List Int) (hn : code.length ≤ 2305843009213693952) (hb : bytesOk code) (a s : Int) (t : ByteArray) (ht : t.size ≤ 1048576) (h : srcOk code a s) : CallA Tryz.prog G 50 [.ptr 0 0, .v (.string t)] [Src code a s] (fun v J => ∃ (x : ByteArray) (a' s' : Int), v = .v (.string x) ∧ J = [Src code a' s'] ∧ x.size ≤ t.size + 1 ∧ srcOk code a' s') := by
  refine CallA.ends (callA_of_body hT Tryz.func50 rfl ?_)
  repeat' ((first | (conv => whnf) | skip); (first | ((with_reducible intro h); first | contradiction | omega | (conv => whnf) | skip) | (with_reducible refine And.intro ?_ ?_) | ((with_reducible show arithK _ _ _); refine arith_ok ⟨by omega, by omega⟩ ?_) | ((with_reducible show quoK _ _ _ _); refine quo_ok ⟨by omega, by omega⟩ (by omega) (by omega) ?_) | ((with_reducible show remK _ _ _ _); refine rem_ok (by omega) (by omega) ?_) | ((first | (with_reducible show CallA _ _ _ _ _ _) | (with_reducible show CallQ _ _ _ _ _ _)); first | (refine CallA.goE3 false [0] (nextP_call code hn hb _ _ ((t.size : Int) + 1) (by first | decide | omega) ‹srcOk code _ _›) rfl (by first | ((repeat' (first | exact rfl | exact trivial | refine And.intro ?_ ?_)); done) | fail) (by first | ((repeat' (first | exact rfl | exact trivial | refine And.intro ?_ ?_)); done) | fail) ?_; rintro k a2 s2 ⟨hk, hs⟩; (first | (conv => whnf) | skip)) | (refine CallA.goE3 false [0] (nextP_call code hn hb _ _ (8) (by first | decide | omega) ‹srcOk code _ _›) rfl (by first | ((repeat' (first | exact rfl | exact trivial | refine And.intro ?_ ?_)); done) | fail) (by first | ((repeat' (first | exact rfl | exact trivial | refine And.intro ?_ ?_)); done) | fail) ?_; rintro m a2 s2 ⟨hm, hs⟩; (first | (conv => whnf) | skip))) | ((with_reducible show DrawA _ _ _ _ _ _); first | (refine draw_hard hT mixed (by decide +kernel) ?_))))
  all_goals first | rfl | omega | skip
  all_goals (have q1 := sz_ext t 0 k.toNat; have q2 := sz_ext t k.toNat t.size; have q3 := sz_ext t (k + 1).toNat t.size; have q4 := one_of m.toNat)
  all_goals ((conv => whnf); first | (apply ends_str []; all_goals (try (repeat' (first | exact rfl | exact trivial | refine And.intro ?_ ?_))); all_goals (first | assumption | omega | (simp only [sz_app]; omega)); done) | omega | (show m.toNat < 8; omega) | (show (_ : Nat) ≤ 9223372036854775807; first | omega | (simp only [sz_app]; omega)) | trace_state)
end Go.Proofs.YtgpgnhadmckmhaaGreatDoor
