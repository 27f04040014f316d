/-
  Draws of commands' words: numbers, policies. Draws of commands: what is known of their length. Draws of texts for the console: what is known of their length. No conditions but those in the statements.
-/
import Derived.Test.YtglbamncajileaaGreatDoorDmg
import Derived.Test.YtglbamncajileaaGreatDoorUtx
set_option linter.unusedVariables false
set_option linter.unusedSimpArgs false
set_option maxRecDepth 100000
set_option maxHeartbeats 8000000
namespace Go.Proofs.YtglbamncajileaaGreatDoor
open Go.AE Go.Lib
section
attribute [local irreducible] CallA LoopA DrawA CallQ arithK quoK remK eqK
attribute [local irreducible] srcOk
theorem decO (n : Int) (h : 0 ≤ n ∧ n ≤ 9223372036854775807) : Ca 62 [I n] [] (fun v J => ∃ (x : ByteArray) (_ _ : Int), v = .v (.string x) ∧ J = [] ∧ x.size ≤ 20) := by
 have hd := l01Dec_ret n.toNat (by omega)
 rw [show ((n.toNat : Nat) : Int) = n by omega] at hd
 refine Ret.go hd rfl rfl ⟨_, 0, 0, rfl, rfl, ?_⟩
 rw [B_size]
 exact dec_len (by omega)
theorem numO (n : Int) (h : okI n) : Ca 63 [I n] [] (fun v J => ∃ (x : ByteArray) (_ _ : Int), v = .v (.string x) ∧ J = [] ∧ x.size ≤ 21) := by
 refine Ret.go (l01Number_ret n h) rfl rfl ⟨_, 0, 0, rfl, rfl, ?_⟩
 rw [B_size]
 exact itoa_len h
theorem polO (k a y s l : Int) : Ca 90 [Po k a y s l] [] (fun v J => ∃ (x : ByteArray) (_ _ : Int), v = .v (.string x) ∧ J = [] ∧ x.size ≤ 145) := by
 refine Ret.go (specPText_ret k a y s l) rfl rfl ⟨_, 0, 0, rfl, rfl, ?_⟩
 rw [B_size]
 unfold ptx
 split
 · exact rt_le rfl ‹_›
 · exact Nat.zero_le _
theorem word_call (code : List Int) (hn : code.length ≤ 2305843009213693952) (hb : bytesOk code) (a s n : Int) (h1 : 1 ≤ n) (h2 : n ≤ 9223372036854775807) (h : srcOk code a s) : Ca 61 [.ptr 0 0, I n] [Src code a s] (fun v J => ∃ (x : ByteArray) (a' s' : Int), v = .v (.string x) ∧ J = [Src code a' s'] ∧ x.size ≤ 20 ∧ srcOk code a' s') := by
 refine cZ Tryz.func61 ?_
 repeat' (conv => whnf); first | (intro h; try exact nZ) | apply And.intro | refine sZ ?_ | (refine CallA.gR [0] (nextP_call code hn hb _ _ (n) (by first | decide | omega) ‹srcOk code _ _›) ?_; rintro m a2 s2 ⟨hm, hs⟩; (try conv => whnf)) | (refine CallA.gR [] (decO m ⟨by omega, by omega⟩) ?_; rintro w _ _ hw; (try conv => whnf)) | fail
 all_goals try exact rZ
 all_goals ((conv => whnf); first | (apply ends_str []; all_goals (try (repeat' (first | exact rfl | exact trivial | refine And.intro ?_ ?_))); all_goals (first | assumption | omega | (simp only [sz_app]; omega)); done))
theorem policies_call (code : List Int) (hn : code.length ≤ 2305843009213693952) (hb : bytesOk code) (a s : Int) (h : srcOk code a s) : Ca 60 [.ptr 0 0] [Src code a s] (fun v J => ∃ (x : ByteArray) (a' s' : Int), v = .v (.string x) ∧ J = [Src code a' s'] ∧ x.size ≤ 145 ∧ srcOk code a' s') := by
 refine cZ Tryz.func60 ?_
 repeat' (conv => whnf); first | (intro h; try exact nZ) | apply And.intro | refine sZ ?_ | (refine CallA.gR [0] (nextP_call code hn hb _ _ (4) (by first | decide | omega) ‹srcOk code _ _›) ?_; rintro k a2 s2 ⟨hk, hs⟩; (try conv => whnf)) | (refine CallA.gR [0] (nextP_call code hn hb _ _ (3) (by first | decide | omega) ‹srcOk code _ _›) ?_; rintro m a2 s2 ⟨hm, hs⟩; (try conv => whnf)) | (refine CallA.gR [0] (nextP_call code hn hb _ _ (300) (by first | decide | omega) ‹srcOk code _ _›) ?_; rintro z a2 s2 ⟨hz, hs⟩; (try conv => whnf)) | (refine CallA.gR [0, 1] (pickB_call code hn hb _ _ [0, 50, 100] (Nat.le_of_ble_eq_true rfl) (Nat.le_of_ble_eq_true rfl) ‹srcOk code _ _› 0 100 (fun y hy => by simp only [List.mem_cons, List.not_mem_nil, or_false] at hy; omega)) ?_; rintro y a2 s2 ⟨hy, hs⟩; (try conv => whnf)) | (refine CallA.gR [] (polO _ _ _ _ _) ?_; rintro w _ _ hw; (try conv => whnf)) | fail
 all_goals try exact rZ
 all_goals ((conv => whnf); first | (apply ends_str []; all_goals (try (repeat' (first | exact rfl | exact trivial | refine And.intro ?_ ?_))); all_goals (first | assumption | omega | (simp only [sz_app]; omega)); done))
end
section
attribute [local irreducible] CallA LoopA DrawA CallQ arithK quoK remK eqK
attribute [local irreducible] srcOk
theorem litA (l : List UInt8) : (ByteArray.mk (Array.mk l)).size = l.length := rfl
theorem litB (l : List UInt8) : (ByteArray.mk (List.toArray l)).size = l.length := rfl
theorem four_of (z : Nat) : (([] ++ [⟨#[108, 105, 115, 116]⟩] ++ [⟨#[114, 101, 115, 101, 114, 118, 101]⟩] ++ [⟨#[112, 114, 101, 109, 105, 117, 109, 115]⟩] ++ [⟨#[99, 108, 97, 105, 109, 115]⟩] : List ByteArray).getD z ByteArray.empty).size ≤ 8 := by
 rcases (show z = 0 ∨ z = 1 ∨ z = 2 ∨ z = 3 ∨ 4 ≤ z by omega) with rfl | rfl | rfl | rfl | h
 · show 4 ≤ 8; omega
 · show 7 ≤ 8; omega
 · show 8 ≤ 8; omega
 · show 6 ≤ 8; omega
 rw [List.getD_eq_getElem?_getD, List.getElem?_eq_none (by show 4 ≤ z; exact h)]
 exact Nat.zero_le _
theorem drawCmd_call (code : List Int) (hn : code.length ≤ 2305843009213693952) (hb : bytesOk code) (a s : Int) (h : srcOk code a s) : Ca 37 [.ptr 0 0] [Src code a s] (fun v J => ∃ (x : ByteArray) (a' s' : Int), v = .v (.string x) ∧ J = [Src code a' s'] ∧ x.size ≤ 200 ∧ srcOk code a' s') := by
 refine cZ Tryz.func37 ?_
 repeat' (conv => whnf); first | (intro h; try exact nZ) | apply And.intro | refine sZ ?_ | (refine CallA.gR [0] (nextP_call code hn hb _ _ (20) (by first | decide | omega) ‹srcOk code _ _›) ?_; rintro k a2 s2 ⟨hk, hs⟩; (try conv => whnf)) | (refine CallA.gR [0] (policies_call code hn hb _ _ ‹srcOk code _ _›) ?_; rintro w a2 s2 ⟨hw, hs⟩; (try conv => whnf)) | (refine CallA.gR [0] (word_call code hn hb _ _ (200) (by first | decide | omega) (by first | decide | omega) ‹srcOk code _ _›) ?_; rintro w a2 s2 ⟨hw, hs⟩; (try conv => whnf)) | (refine CallA.gR [0] (word_call code hn hb _ _ (80) (by first | decide | omega) (by first | decide | omega) ‹srcOk code _ _›) ?_; rintro w a2 s2 ⟨hw, hs⟩; (try conv => whnf)) | (refine CallA.gR [0] (word_call code hn hb _ _ (5000000) (by first | decide | omega) (by first | decide | omega) ‹srcOk code _ _›) ?_; rintro w a2 s2 ⟨hw, hs⟩; (try conv => whnf)) | (refine CallA.gR [0] (word_call code hn hb _ _ (4) (by first | decide | omega) (by first | decide | omega) ‹srcOk code _ _›) ?_; rintro w a2 s2 ⟨hw, hs⟩; (try conv => whnf)) | (refine CallA.gR [0] (word_call code hn hb _ _ (3) (by first | decide | omega) (by first | decide | omega) ‹srcOk code _ _›) ?_; rintro w a2 s2 ⟨hw, hs⟩; (try conv => whnf)) | (refine CallA.gR [0] (nextP_call code hn hb _ _ (6) (by first | decide | omega) ‹srcOk code _ _›) ?_; rintro m a2 s2 ⟨hm, hs⟩; (try conv => whnf)) | (refine CallA.gR [] (decO (60 + m) ⟨by omega, by omega⟩) ?_; rintro w _ _ hw; (try conv => whnf)) | (refine CallA.gR [0] (word_call code hn hb _ _ (20000) (by first | decide | omega) (by first | decide | omega) ‹srcOk code _ _›) ?_; rintro w a2 s2 ⟨hw, hs⟩; (try conv => whnf)) | (refine CallA.gR [0] (word_call code hn hb _ _ (5) (by first | decide | omega) (by first | decide | omega) ‹srcOk code _ _›) ?_; rintro w a2 s2 ⟨hw, hs⟩; (try conv => whnf)) | (refine CallA.gR [0] (word_call code hn hb _ _ (90000) (by first | decide | omega) (by first | decide | omega) ‹srcOk code _ _›) ?_; rintro w a2 s2 ⟨hw, hs⟩; (try conv => whnf)) | (refine CallA.gR [] (numO (k - 10) (by unfold okI; omega)) ?_; rintro w _ _ hw; (try conv => whnf)) | (refine CallA.gR [0] (nextP_call code hn hb _ _ (300) (by first | decide | omega) ‹srcOk code _ _›) ?_; rintro m a2 s2 ⟨hm, hs⟩; (try conv => whnf)) | (refine CallA.gR [] (numO (m - 100) (by unfold okI; omega)) ?_; rintro w _ _ hw; (try conv => whnf)) | (refine CallA.gR [0] (word_call code hn hb _ _ (60000) (by first | decide | omega) (by first | decide | omega) ‹srcOk code _ _›) ?_; rintro w a2 s2 ⟨hw, hs⟩; (try conv => whnf)) | (refine CallA.gR [] (decO (90 + k) ⟨by omega, by omega⟩) ?_; rintro w _ _ hw; (try conv => whnf)) | (refine CallA.gR [] (decO (60 + k) ⟨by omega, by omega⟩) ?_; rintro w _ _ hw; (try conv => whnf)) | (refine CallA.gR [0] (word_call code hn hb _ _ (5000) (by first | decide | omega) (by first | decide | omega) ‹srcOk code _ _›) ?_; rintro w1 a2 s2 ⟨hw1, hs⟩; (try conv => whnf)) | (refine CallA.gR [0] (word_call code hn hb _ _ (40000) (by first | decide | omega) (by first | decide | omega) ‹srcOk code _ _›) ?_; rintro w2 a2 s2 ⟨hw2, hs⟩; (try conv => whnf)) | (refine CallA.gR [0] (nextP_call code hn hb _ _ (4) (by first | decide | omega) ‹srcOk code _ _›) ?_; rintro m a2 s2 ⟨hm, hs⟩; (try conv => whnf)) | fail
 all_goals try exact rZ
 all_goals (first | (have q4 := four_of m.toNat) | skip)
 all_goals ((conv => whnf); first | (apply ends_str []; all_goals (try (repeat' (first | exact rfl | exact trivial | refine And.intro ?_ ?_))); all_goals (first | assumption | omega | (simp only [sz_app, litA, litB, List.length_cons, List.length_nil]; omega)); done) | (apply ends_str [some 0]; all_goals (try (repeat' (first | exact rfl | exact trivial | refine And.intro ?_ ?_))); all_goals (first | assumption | omega | (simp only [sz_app, litA, litB, List.length_cons, List.length_nil]; omega)); done) | omega | (show m.toNat < 4; omega) | (show (_ : Nat) ≤ 9223372036854775807; first | omega | (simp only [sz_app, litA, litB, List.length_cons, List.length_nil]; omega)) | skip)
 all_goals
   (conv => whnf)
   refine loop_rule hT (fun p : Int × ByteArray × Int × Int => (0 ≤ p.1 ∧ p.1 ≤ 3) ∧ (p.2.1.size : Int) + 21 * p.1 ≤ 109 ∧ srcOk code p.2.2.1 p.2.2.2) 137 1 [0, 3, 4] (fun p => [.ptr 0 0, .v (.string p.2.1), I p.1]) (fun p => [Src code p.2.2.1 p.2.2.2]) (fun p => p.1.toNat) ((m, ⟨#[121, 101, 97, 114, 32]⟩ ++ w1 ++ ⟨#[32]⟩ ++ w2, a2, s2)) (Nat.le_of_ble_eq_true rfl) ?_ ?_ ?_
   · refine ⟨by dsimp only; omega, ?_, hs⟩
     dsimp only
     simp only [sz_app, litA, litB, List.length_cons, List.length_nil]
     omega
   · (exact endH1 [])
   · rintro ⟨k, t, a1, s1⟩ ⟨i1, i2, i3⟩
     dsimp only at i1 i2 i3 ⊢
     repeat' (conv => whnf); first | (intro h; try exact nZ) | apply And.intro | refine sZ ?_ | (refine CallA.gR [0] (word_call code hn hb _ _ (5) (by first | decide | omega) (by first | decide | omega) ‹srcOk code _ _›) ?_; rintro w a2 s2 ⟨hw, hs⟩; (try conv => whnf)) | fail
     all_goals first | exact rZ | (show (_ : Nat) ≤ 9223372036854775807; first | omega | (simp only [sz_app, litA, litB, List.length_cons, List.length_nil]; omega)) | skip
     all_goals ((conv => whnf); first | (refine ⟨(k - 1, t ++ ⟨#[32]⟩ ++ w, a2, s2), ⟨by dsimp only; omega, by dsimp only; simp only [sz_app, litA, litB, List.length_cons, List.length_nil]; omega, hs⟩, ?_, by dsimp only; omega⟩; (exact endH1 [])) | (apply ends_str []; all_goals (try (repeat' (first | exact rfl | exact trivial | refine And.intro ?_ ?_))); all_goals (first | assumption | omega | (simp only [sz_app, litA, litB, List.length_cons, List.length_nil]; omega)); done))
end
section
attribute [local irreducible] CallA LoopA DrawA CallQ arithK quoK remK eqK
attribute [local irreducible] srcOk
theorem drawText_call (code : List Int) (hn : code.length ≤ 2305843009213693952) (hb : bytesOk code) (a s : Int) (h : srcOk code a s) : Ca 35 [.ptr 0 0] [Src code a s] (fun v J => ∃ (x : ByteArray) (a' s' : Int), v = .v (.string x) ∧ J = [Src code a' s'] ∧ x.size ≤ 4000 ∧ srcOk code a' s') := by
 refine cZ Tryz.func35 ?_
 repeat' (conv => whnf); first | (intro h; try exact nZ) | apply And.intro | refine sZ ?_ | (refine CallA.gR [0] (nextP_call code hn hb _ _ (14) (by first | decide | omega) ‹srcOk code _ _›) ?_; rintro k a2 s2 ⟨hk, hs⟩; (try conv => whnf)) | fail
 all_goals try exact rZ
 (conv => whnf)
 refine loop_rule hT (fun p : Int × ByteArray × Int × Int => (0 ≤ p.1 ∧ p.1 ≤ 13) ∧ (p.2.1.size : Int) + 203 * p.1 ≤ 2639 ∧ srcOk code p.2.2.1 p.2.2.2) 40 1 [0, 3, 4] (fun p => [.ptr 0 0, .v (.string p.2.1), I p.1]) (fun p => [Src code p.2.2.1 p.2.2.2]) (fun p => p.1.toNat) ((k, ⟨#[]⟩, a2, s2)) (Nat.le_of_ble_eq_true rfl) ?_ ?_ ?_
 · exact ⟨by dsimp only; omega, by show (0 : Int) + 203 * k ≤ 2639; omega, hs⟩
 · (exact endH1 [])
 · rintro ⟨k, t, a1, s1⟩ ⟨i1, i2, i3⟩
   dsimp only at i1 i2 i3 ⊢
   by_cases hk0 : 0 < k
   · repeat' (conv => whnf); first | (intro h; try exact nZ) | apply And.intro | refine sZ ?_ | (refine CallA.gR [0] (drawCmd_call code hn hb _ _ ‹srcOk code _ _›) ?_; rintro w a2 s2 ⟨hw, hs⟩; (try conv => whnf)) | (refine CallA.gR [0] (nextP_call code hn hb _ _ (16) (by first | decide | omega) ‹srcOk code _ _›) ?_; rintro m a2 s2 ⟨hm, hs⟩; (try conv => whnf)) | (refine CallA.gR [0] (damage_call code hn hb _ _ w (by omega) ‹srcOk code _ _›) ?_; rintro d a2 s2 ⟨hd, hs⟩; (try conv => whnf)) | fail
     all_goals first | exact rZ | (show (_ : Nat) ≤ 9223372036854775807; first | omega | (simp only [sz_app, litA, litB, List.length_cons, List.length_nil]; omega)) | skip
     all_goals ((conv => whnf); first | (refine ⟨(k - 1, t ++ d ++ ⟨#[10]⟩, a2, s2), ⟨⟨by dsimp only; omega, by dsimp only; omega⟩, by dsimp only; simp only [sz_app, litA, litB, List.length_cons, List.length_nil]; omega, hs⟩, ?_, by dsimp only; omega⟩; (exact endH1 [])) | (refine ⟨(k - 1, t ++ w ++ ⟨#[10]⟩, a2, s2), ⟨⟨by dsimp only; omega, by dsimp only; omega⟩, by dsimp only; simp only [sz_app, litA, litB, List.length_cons, List.length_nil]; omega, hs⟩, ?_, by dsimp only; omega⟩; (exact endH1 [])))
   · repeat' (conv => whnf); first | (intro h; try exact nZ) | apply And.intro | refine sZ ?_ | (refine CallA.gR [0] (nextP_call code hn hb _ _ (40) (by first | decide | omega) ‹srcOk code _ _›) ?_; rintro z a2 s2 ⟨hz, hs⟩; (try conv => whnf)) | fail
     all_goals first | exact rZ | (show (_ : Nat) ≤ 9223372036854775807; first | omega | (simp only [sz_app, litA, litB, List.length_cons, List.length_nil]; omega)) | skip
     all_goals (first | ((conv => whnf); (apply ends_str []; all_goals (try (repeat' (first | exact rfl | exact trivial | refine And.intro ?_ ?_))); all_goals (first | assumption | omega | (simp only [sz_app, litA, litB, List.length_cons, List.length_nil]; omega)); done)) | skip)
     (conv => whnf)
     refine loop_rule hT (fun q : Nat × ByteArray => q.1 ≤ 44 ∧ q.2.size ≤ t.size + 8 * q.1) 40 1 [0, 3, 6] (fun q => [.ptr 0 0, .v (.string q.2), I q.1]) (fun _ => [Src code a2 s2]) (fun q => 44 - q.1) ((0, t)) (Nat.le_of_ble_eq_true rfl) ?_ ?_ ?_
     · exact ⟨Nat.zero_le _, Nat.le_refl _⟩
     · (exact endH1 [])
     · rintro ⟨i, u⟩ ⟨j1, j2⟩
       dsimp only at j1 j2 ⊢
       repeat' (conv => whnf); first | (intro h; try exact nZ) | apply And.intro | refine sZ ?_ | fail
       all_goals first | exact rZ | (show (_ : Nat) ≤ 9223372036854775807; first | omega | (simp only [sz_app, litA, litB, List.length_cons, List.length_nil]; omega)) | skip
       all_goals ((conv => whnf); first | (refine ⟨(i + 1, u ++ ⟨#[114, 101, 115, 101, 114, 118, 101, 10]⟩), ⟨by dsimp only; omega, by dsimp only; (simp only [sz_app, litA, litB, List.length_cons, List.length_nil]; omega)⟩, ?_, by dsimp only; omega⟩; (exact endH1 [])) | (apply ends_str []; all_goals (try (repeat' (first | exact rfl | exact trivial | refine And.intro ?_ ?_))); all_goals (first | assumption | omega | (simp only [sz_app, litA, litB, List.length_cons, List.length_nil]; omega)); done))
abbrev TxtO (f : FuncId) (code : List Int) (n : Nat) : Prop := Ca f [Rb code] [] (fun v J => ∃ (x : ByteArray) (_ _ : Int), v = .v (.string x) ∧ J = [] ∧ x.size ≤ n)
theorem ends_strO {n : Nat} {v : AV} {H : List Blk} (x : ByteArray) (h1 : vmV 0 [] v (.v (.string x))) (h2 : heapM 0 [] H []) (h3 : x.size ≤ n) :
   ∃ sel v' J, vmV 0 sel v v' ∧ heapM 0 sel H J ∧ (∃ (x : ByteArray) (_ _ : Int), v' = .v (.string x) ∧ J = [] ∧ x.size ≤ n) := ⟨[], _, _, h1, h2, x, 0, 0, rfl, rfl, h3⟩
theorem drawRS_call (code : List Int) (hn : code.length ≤ 2305843009213693952) (hb : bytesOk code) : TxtO 13 code 4000 := by
 refine cZ Tryz.func13 ?_
 have hf := l01From_call code hn hb
 repeat' (conv => whnf); first | (intro h; try exact nZ) | apply And.intro | refine sZ ?_ | (refine CallA.gR [] (hf) ?_; rintro x a2 s2 ⟨_, hs⟩; (try conv => whnf)) | (refine CallA.gR [0] (drawText_call code hn hb _ _ ‹srcOk code _ _›) ?_; rintro x a2 s2 ⟨hx, hs⟩; (try conv => whnf)) | fail
 all_goals try exact rZ
 all_goals ((conv => whnf); first | (apply ends_strO; all_goals (try (repeat' (first | exact rfl | exact trivial | refine And.intro ?_ ?_))); all_goals (first | assumption | omega); done))
theorem drawSA_call (code : List Int) (hn : code.length ≤ 2305843009213693952) (hb : bytesOk code) : TxtO 23 code 4000 := by
 refine cZ Tryz.func23 ?_
 have hf := l01From_call code hn hb
 repeat' (conv => whnf); first | (intro h; try exact nZ) | apply And.intro | refine sZ ?_ | (refine CallA.gR [] (hf) ?_; rintro x a2 s2 ⟨_, hs⟩; (try conv => whnf)) | (refine CallA.gR [0] (drawText_call code hn hb _ _ ‹srcOk code _ _›) ?_; rintro x a2 s2 ⟨hx, hs⟩; (try conv => whnf)) | fail
 all_goals try exact rZ
 all_goals ((conv => whnf); first | (apply ends_strO; all_goals (try (repeat' (first | exact rfl | exact trivial | refine And.intro ?_ ?_))); all_goals (first | assumption | omega); done))
theorem drawIC_call (code : List Int) (hn : code.length ≤ 2305843009213693952) (hb : bytesOk code) : TxtO 14 code 300 := by
 refine cZ Tryz.func14 ?_
 have hf := l01From_call code hn hb
 repeat' (conv => whnf); first | (intro h; try exact nZ) | apply And.intro | refine sZ ?_ | (refine CallA.gR [] (hf) ?_; rintro x a2 s2 ⟨_, hs⟩; (try conv => whnf)) | (refine CallA.gR [0] (drawCmd_call code hn hb _ _ ‹srcOk code _ _›) ?_; rintro w a2 s2 ⟨hw, hs⟩; (try conv => whnf)) | (refine CallA.gR [0] (nextP_call code hn hb _ _ (3) (by first | decide | omega) ‹srcOk code _ _›) ?_; rintro m a2 s2 ⟨hm, hs⟩; (try conv => whnf)) | (refine CallA.gR [0] (damage_call code hn hb _ _ w (by omega) ‹srcOk code _ _›) ?_; rintro d a2 s2 ⟨hd, hs⟩; (try conv => whnf)) | fail
 all_goals try exact rZ
 all_goals ((conv => whnf); first | (apply ends_strO; all_goals (try (repeat' (first | exact rfl | exact trivial | refine And.intro ?_ ?_))); all_goals (first | assumption | omega); done))
end
end Go.Proofs.YtglbamncajileaaGreatDoor
