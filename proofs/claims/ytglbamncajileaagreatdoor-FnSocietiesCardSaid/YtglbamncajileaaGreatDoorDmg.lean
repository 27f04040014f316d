/-
  The source of draws: what its functions return. Draws of life tables: what the functions return. The small functions of the laws: what they return. Texts that are damaged, as drawn: what the function returns. No conditions but those in the statements.
-/
import Derived.Test.YtglbamncajileaaGreatDoorIn
import Derived.Test.YtglbamncajileaaGreatDoorAeC
import Derived.Test.YtglbamncajileaaGreatDoorSc
import Derived.Test.YtglbamncajileaaGreatDoorAcc
set_option linter.unusedVariables false
set_option linter.unusedSimpArgs false
set_option maxRecDepth 100000
set_option maxHeartbeats 1000000
namespace Go.Proofs.YtglbamncajileaaGreatDoor
section
open Go.AE
attribute [local irreducible] CallA LoopA DrawA CallQ arithK quoK remK eqK
abbrev Rb (code : List Int) : AV := .ro (.ints .u8 code)
abbrev Src (code : List Int) (a s : Int) : Blk := .cells [Rb code, I a, I s]
def bytesOk (code : List Int) : Prop := ∀ x ∈ code, 0 ≤ x ∧ x ≤ 255
theorem bytesOk.at {code : List Int} (h : bytesOk code) (i : Nat) : 0 ≤ code.getD i 0 ∧ code.getD i 0 ≤ 255 := by
 by_cases hi : i < code.length
 · exact h _ (getD_mem hi)
 · rw [List.getD_eq_getElem?_getD, List.getElem?_eq_none (by omega)]
   exact ⟨Int.le_refl _, by decide⟩
def srcOk (code : List Int) (a s : Int) : Prop := 0 ≤ a ∧ a ≤ (code.length : Int) ∧ 0 ≤ s ∧ s ≤ 2147483646
theorem l01From_call (code : List Int) (hn : code.length ≤ 2305843009213693952) (hb : bytesOk code) : Ca 36 [Rb code] [] (fun v J => ∃ x a' s' : Int, v = .ptr 0 0 ∧ J = [Src code a' s'] ∧ (x = 0 ∧ a' = 0) ∧ srcOk code a' s') := by
 refine cZ Tryz.func36 ?_
 repeat' (conv => whnf); first | (intro h; try exact nZ) | apply And.intro | refine dZ ?_ | refine sZ ?_ | fail
 refine loop_rule hT (fun p : Nat × Int => p.1 ≤ code.length ∧ 0 ≤ p.2 ∧ p.2 ≤ 2147483646) 34 1 [0, 3, 4] (fun p => [Rb code, .ptr 0 0, I p.1]) (fun p => [Src code 0 p.2]) (fun p => code.length - p.1) ((0, 25001)) (Nat.le_of_ble_eq_true rfl) ?_ ?_ ?_
 · exact ⟨Nat.zero_le _, by decide, by decide⟩
 · (exact endHA)
 · rintro ⟨i, s⟩ ⟨h1, h2, h3⟩
   dsimp only at h1 h2 h3 ⊢
   have hc : 0 ≤ code.getD ((i : Int)).toNat 0 ∧ code.getD ((i : Int)).toNat 0 ≤ 255 := hb.at _
   repeat' (conv => whnf); first | (intro h; try exact nZ) | apply And.intro | refine dZ ?_ | refine sZ ?_ | refine qZ ?_ | refine mZ ?_ | fail
   all_goals first | omega | (show _ < code.length; omega) | skip
   all_goals first
     | (refine ⟨(i + 1, (s * 71 + code.getD ((i : Int)).toNat 0) % 2147483647), ⟨by dsimp only; omega, by dsimp only; omega, by dsimp only; omega⟩, ?_, by dsimp only; omega⟩; (exact endHA))
     | ((first | (refine ⟨[], .ptr 0 0, [Src code 0 s], ?_, ?_, ?_⟩; (repeat' first | apply And.intro | exact xZ | exact ⟨0, 0, _, rfl, rfl, ⟨rfl, rfl⟩, by omega, by omega, by omega, by omega⟩ | fail); done) | (refine ⟨[some 1], .ptr 0 0, [Src code 0 s], ?_, ?_, ?_⟩; (repeat' first | apply And.intro | exact xZ | exact ⟨0, 0, _, rfl, rfl, ⟨rfl, rfl⟩, by omega, by omega, by omega, by omega⟩ | fail); done) | (refine ⟨[some 0], .ptr 0 0, [Src code 0 s], ?_, ?_, ?_⟩; (repeat' first | apply And.intro | exact xZ | exact ⟨0, 0, _, rfl, rfl, ⟨rfl, rfl⟩, by omega, by omega, by omega, by omega⟩ | fail); done) | (refine ⟨[some 2], .ptr 0 0, [Src code 0 s], ?_, ?_, ?_⟩; (repeat' first | apply And.intro | exact xZ | exact ⟨0, 0, _, rfl, rfl, ⟨rfl, rfl⟩, by omega, by omega, by omega, by omega⟩ | fail); done) | (refine ⟨[some 3], .ptr 0 0, [Src code 0 s], ?_, ?_, ?_⟩; (repeat' first | apply And.intro | exact xZ | exact ⟨0, 0, _, rfl, rfl, ⟨rfl, rfl⟩, by omega, by omega, by omega, by omega⟩ | fail); done) | (refine ⟨[some 4], .ptr 0 0, [Src code 0 s], ?_, ?_, ?_⟩; (repeat' first | apply And.intro | exact xZ | exact ⟨0, 0, _, rfl, rfl, ⟨rfl, rfl⟩, by omega, by omega, by omega, by omega⟩ | fail); done) | (refine ⟨[some 5], .ptr 0 0, [Src code 0 s], ?_, ?_, ?_⟩; (repeat' first | apply And.intro | exact xZ | exact ⟨0, 0, _, rfl, rfl, ⟨rfl, rfl⟩, by omega, by omega, by omega, by omega⟩ | fail); done)))
    
theorem ends_src {α : Type} {ne : Nat} {v : AV} {H : List Blk} {r : α → AV} {J0 : α → Int → Int → List Blk} {B : α → Int → Int → Prop} (sel : List (Option Nat)) (x : α) (a s : Int) (h1 : vmV ne sel v (r x)) (h2 : heapM ne sel H (J0 x a s)) (h3 : B x a s) :
   ∃ sel v' J, vmV ne sel v v' ∧ heapM ne sel H J ∧ (∃ (x : α) (a s : Int), v' = r x ∧ J = J0 x a s ∧ B x a s) := ⟨sel, _, _, h1, h2, x, a, s, rfl, rfl, h3⟩
def drawn (n x : Int) : Prop := 0 ≤ x ∧ (n ≤ 1 → x = 0) ∧ (1 < n → x < n)
theorem drawn_one {n : Int} (h : n ≤ 1) : drawn n 0 := ⟨Int.le_refl _, fun _ => rfl, fun _ => by omega⟩
theorem drawn_mod {n x : Int} (h : ¬ n ≤ 1) : drawn n (x % n) := ⟨Int.emod_nonneg _ (by omega), fun _ => by omega, fun _ => Int.emod_lt_of_pos _ (by omega)⟩
theorem l01Next_call (code : List Int) (hn : code.length ≤ 2305843009213693952) (hb : bytesOk code) (a s n : Int) (h : srcOk code a s) : Ca 38 [.ptr 0 0, I n] [Src code a s] (fun v J => ∃ x a' s' : Int, v = I x ∧ J = [Src code a' s'] ∧ drawn n x ∧ srcOk code a' s') := by
 refine cZ Tryz.func38 ?_
 obtain ⟨h1, h2, h3, h4⟩ := h
 have hc : 0 ≤ code.getD a.toNat 0 ∧ code.getD a.toNat 0 ≤ 255 := hb.at _
 have hc2 : 0 ≤ code.getD (a + 1 - 1).toNat 0 ∧ code.getD (a + 1 - 1).toNat 0 ≤ 255 := hb.at _
 repeat' (conv => whnf); first | (intro h; try exact nZ) | apply And.intro | refine dZ ?_ | refine sZ ?_ | refine qZ ?_ | refine mZ ?_ | fail
 all_goals first | omega | (show _ < code.length; omega) | skip
 all_goals first
   | (refine ⟨[], I (0), [Src code a s], ?_, ?_, ⟨0, a, s, rfl, rfl, drawn_one ‹_›, by omega, by omega, by omega, by omega⟩⟩; all_goals (repeat' (first | exact rfl | exact trivial | refine And.intro ?_ ?_)); done)
   | (refine ⟨[], I ((code.getD (a + 1 - 1).toNat 0) % n), [Src code (a + 1) ((s * 48271 + 71) % 2147483647)], ?_, ?_, ⟨(code.getD (a + 1 - 1).toNat 0) % n, (a + 1), ((s * 48271 + 71) % 2147483647), rfl, rfl, drawn_mod ‹_›, by omega, by omega, by omega, by omega⟩⟩; all_goals (repeat' (first | exact rfl | exact trivial | refine And.intro ?_ ?_)); done)
   | (refine ⟨[], I (((s * 48271 + 71) % 2147483647 / 41 + code.getD a.toNat 0) % n), [Src code (a + 1) ((s * 48271 + 71) % 2147483647)], ?_, ?_, ⟨((s * 48271 + 71) % 2147483647 / 41 + code.getD a.toNat 0) % n, (a + 1), ((s * 48271 + 71) % 2147483647), rfl, rfl, drawn_mod ‹_›, by omega, by omega, by omega, by omega⟩⟩; all_goals (repeat' (first | exact rfl | exact trivial | refine And.intro ?_ ?_)); done)
   | (refine ⟨[], I (((s * 48271 + 71) % 2147483647 / 41) % n), [Src code a ((s * 48271 + 71) % 2147483647)], ?_, ?_, ⟨((s * 48271 + 71) % 2147483647 / 41) % n, a, ((s * 48271 + 71) % 2147483647), rfl, rfl, drawn_mod ‹_›, by omega, by omega, by omega, by omega⟩⟩; all_goals (repeat' (first | exact rfl | exact trivial | refine And.intro ?_ ?_)); done)
  
theorem l01Pick_call (code : List Int) (hn : code.length ≤ 2305843009213693952) (hb : bytesOk code) (a s : Int) (xs : List Int) (hx : 0 < xs.length) (hx2 : xs.length ≤ 1048576) (h : srcOk code a s) : Ca 75 [.ptr 0 0, .sl 1 1 xs.length] [Src code a s, .data (.ints .i64 xs)] (fun v J => ∃ (x : Nat) (a' s' : Int), v = I (xs.getD x 0) ∧ J = [Src code a' s', .data (.ints .i64 xs)] ∧ x < xs.length ∧ srcOk code a' s') := by
 refine cZ Tryz.func75 ?_
 have hl := l01Next_call code hn hb a s xs.length h
 repeat' (conv => whnf); first | (intro h; try exact nZ) | apply And.intro | refine dZ ?_ | refine sZ ?_ | (refine CallA.gE [0] (hl) ?_; rintro x a2 s2 ⟨⟨h1, h2, h3⟩, h4⟩; (try conv => whnf)) | fail
 all_goals try omega
 all_goals (refine ⟨[], I (xs.getD x.toNat 0), [Src code a2 s2, .data (.ints .i64 xs)], ?_, ?_, ⟨x.toNat, a2, s2, rfl, rfl, by omega, h4⟩⟩; all_goals (repeat' (first | exact rfl | exact trivial | refine And.intro ?_ ?_)); done)
end
section
open Go.AE
attribute [local irreducible] CallA LoopA DrawA CallQ arithK quoK remK eqK
attribute [local irreducible] srcOk
theorem pickB_call (code : List Int) (hn : code.length ≤ 2305843009213693952) (hb : bytesOk code) (a s : Int) (xs : List Int) (hx : 0 < xs.length) (hx2 : xs.length ≤ 1048576) (h : srcOk code a s) (lo hi : Int) (hall : ∀ y ∈ xs, lo ≤ y ∧ y ≤ hi) :
   Ca 75 [.ptr 0 0, .sl 1 1 xs.length] [Src code a s, .data (.ints .i64 xs)] (fun v J => ∃ x a' s' : Int, v = I x ∧ J = [Src code a' s', .data (.ints .i64 xs)] ∧ (lo ≤ x ∧ x ≤ hi) ∧ srcOk code a' s') :=
 (l01Pick_call code hn hb a s xs hx hx2 h).mono fun _ _ ⟨x, a', s', h1, h2, h3, h4⟩ => ⟨xs.getD x 0, a', s', h1, h2, hall _ (getD_mem h3), h4⟩
theorem nextP_call (code : List Int) (hn : code.length ≤ 2305843009213693952) (hb : bytesOk code) (a s n : Int) (h1 : 1 ≤ n) (h : srcOk code a s) :
   Ca 38 [.ptr 0 0, I n] [Src code a s] (fun v J => ∃ x a' s' : Int, v = I x ∧ J = [Src code a' s'] ∧ (0 ≤ x ∧ x < n) ∧ srcOk code a' s') :=
 (l01Next_call code hn hb a s n h).mono fun _ _ ⟨x, a', s', h2, h3, ⟨h4, h5, h6⟩, h7⟩ => ⟨x, a', s', h2, h3, ⟨h4, by omega⟩, h7⟩
theorem next0_call (code : List Int) (hn : code.length ≤ 2305843009213693952) (hb : bytesOk code) (a s n : Int) (h : srcOk code a s) :
   Ca 38 [.ptr 0 0, I n] [Src code a s] (fun v J => ∃ x a' s' : Int, v = I x ∧ J = [Src code a' s'] ∧ 0 ≤ x ∧ srcOk code a' s') :=
 (l01Next_call code hn hb a s n h).mono fun _ _ ⟨x, a', s', h2, h3, h4, h7⟩ => ⟨x, a', s', h2, h3, h4.1, h7⟩
theorem allR_snoc {xs : List Int} {y lo hi : Int} (h : allR xs lo hi) (hy : lo ≤ y ∧ y ≤ hi) : allR (xs ++ ([] ++ [y])) lo hi := fun r hr => by
 rcases List.mem_append.1 hr with hr | hr
 · exact h r hr
 · simp only [List.nil_append, List.mem_singleton] at hr; subst hr; exact hy
theorem l03DrawRates_call (code : List Int) (hn : code.length ≤ 2305843009213693952) (hb : bytesOk code) (a s : Int) (h : srcOk code a s) : Ca 290 [.ptr 0 0] [Src code a s] (fun v J => ∃ (x : List Int) (a' s' : Int), v = .sl 1 1 x.length ∧ J = [Src code a' s', Di x] ∧ ((1 ≤ x.length ∧ x.length ≤ 25) ∧ allR x 0 1000) ∧ srcOk code a' s') := by
 refine cZ Tryz.func290 ?_
 repeat' (conv => whnf); first | (intro h; try exact nZ) | apply And.intro | refine dZ ?_ | refine sZ ?_ | (refine CallA.gR [0] (nextP_call code hn hb _ _ (20) (by first | decide | omega) ‹srcOk code _ _›) ?_; rintro y a2 s2 ⟨hy, hs⟩; (try conv => whnf)) | (refine CallA.gR [0] (nextP_call code hn hb _ _ (25) (by first | decide | omega) ‹srcOk code _ _›) ?_; rintro x a2 s2 ⟨hx, hs⟩; (try conv => whnf)) | fail
 all_goals try omega
 refine loop_rule hT (fun q : Nat × List Int × Int × Int × Int => (q.1 + q.2.1.length ≤ 25 ∧ 1 ≤ q.1 + q.2.1.length) ∧ allR q.2.1 0 1000 ∧ (0 ≤ q.2.2.1 ∧ q.2.2.1 ≤ 20 + 30 * q.2.1.length) ∧ srcOk code q.2.2.2.1 q.2.2.2.2) 26 2 [0, 3, 4, 5] (fun q => [.ptr 0 0, .sl 2 1 q.2.1.length, I q.2.2.1, I q.1]) (fun q => [Src code q.2.2.2.1 q.2.2.2.2, .dead, Di q.2.1]) (fun q => q.1) (((1 + x).toNat, [], y, a2, s2)) (Nat.le_of_ble_eq_true rfl) ?_ ?_ ?_
 · refine ⟨⟨?_, ?_⟩, ?_, ?_, hs⟩ <;> dsimp only [List.length_nil] <;> first | omega | exact (fun r hr => by cases hr)
 · (first | (exact endH1 [some 1]) | (exact endH1 [some 2]) | (exact endH1 [some 3]) | (exact endH1 [some 4]) | (exact endH1 [some 5]) | (exact endH1 [some 6]) | (exact endH1 [some 7]))
 · rintro ⟨n, xs, y, a, s⟩ ⟨h1, h2, h3, h4⟩
   dsimp only at h1 h2 h3 h4 ⊢
   by_cases hz : n = 0
   · subst hz
     repeat' (conv => whnf); first | (intro h; try exact nZ) | apply And.intro | refine dZ ?_ | refine sZ ?_ | fail
     all_goals try exact rZ
     refine ends_src (ne := 1) [some 2] xs a s ?_ ?_ ⟨⟨by omega, h2⟩, h4⟩ <;> (repeat' (first | exact rfl | exact trivial | omega | refine And.intro ?_ ?_))
   · repeat' (conv => whnf); first | (intro h; try exact nZ) | apply And.intro | refine dZ ?_ | refine sZ ?_ | (refine CallA.gR [0] (nextP_call code hn hb _ _ (30) (by first | decide | omega) ‹srcOk code _ _›) ?_; rintro x a2 s2 ⟨hx, hs⟩; (try conv => whnf)) | fail
     all_goals first | exact rZ | (simp only [List.nil_append, List.length_cons, List.length_nil]; omega) | skip
     all_goals ((conv => whnf); refine ⟨(n - 1, xs ++ ([] ++ [min 1000 y]), y + x, a2, s2), ⟨⟨by dsimp only; simp; omega, by dsimp only; simp; omega⟩, allR_snoc h2 (by omega), ⟨by dsimp only; omega, by dsimp only; simp; omega⟩, hs⟩, ?_, by dsimp only; omega⟩; first | (first | (exact endH1 [some 1]) | (exact endH1 [some 2]) | (exact endH1 [some 3]) | (exact endH1 [some 4]) | (exact endH1 [some 5]) | (exact endH1 [some 6]) | (exact endH1 [some 7])))
theorem l04DrawRate_call (code : List Int) (hn : code.length ≤ 2305843009213693952) (hb : bytesOk code) (a s : Int) (h : srcOk code a s) : Ca 226 [.ptr 0 0] [Src code a s] (fun v J => ∃ (x : Int) (a' s' : Int), v = I x ∧ J = [Src code a' s'] ∧ (-1 ≤ x ∧ x ≤ 201) ∧ srcOk code a' s') := by
 refine cZ Tryz.func226 ?_
 repeat' (conv => whnf); first | (intro h; try exact nZ) | apply And.intro | refine dZ ?_ | refine sZ ?_ | (refine CallA.gR [0] (nextP_call code hn hb _ _ (24) (by first | decide | omega) ‹srcOk code _ _›) ?_; rintro x a2 s2 ⟨hx, hs⟩; (try conv => whnf)) | (refine CallA.gR [0] (nextP_call code hn hb _ _ (100) (by first | decide | omega) ‹srcOk code _ _›) ?_; rintro y a2 s2 ⟨hy, hs⟩; (try conv => whnf)) | (refine CallA.gR [0, 1] (pickB_call code hn hb _ _ [-1, 0, 200, 201] (Nat.le_of_ble_eq_true rfl) (Nat.le_of_ble_eq_true rfl) ‹srcOk code _ _› (-1) 201 (fun y hy => by simp only [List.mem_cons, List.not_mem_nil, or_false] at hy; omega)) ?_; rintro z a2 s2 ⟨hz, hs⟩; (try conv => whnf)) | (refine CallA.gR [0, 1] (pickB_call code hn hb _ _ [0, 30, 35, 40, y] (Nat.le_of_ble_eq_true rfl) (Nat.le_of_ble_eq_true rfl) ‹srcOk code _ _› 0 100 (fun y hy => by simp only [List.mem_cons, List.not_mem_nil, or_false] at hy; omega)) ?_; rintro z a2 s2 ⟨hz, hs⟩; (try conv => whnf)) | fail
 all_goals try omega
 all_goals first | (first | (apply ends_src (ne := 1) []; all_goals (try (repeat' (first | exact rfl | exact trivial | refine And.intro ?_ ?_))); all_goals (repeat' (first | assumption | omega | exact trivial | refine And.intro ?_ ?_)); done) | (apply ends_src (ne := 1) [some 1]; all_goals (try (repeat' (first | exact rfl | exact trivial | refine And.intro ?_ ?_))); all_goals (repeat' (first | assumption | omega | exact trivial | refine And.intro ?_ ?_)); done))
theorem specEndG_ret (f : Int) (ls : List Int) (hf : -1000 ≤ f ∧ f ≤ 1000) (hl : ls.length ≤ 100000) : Rt 101 [Tb f ls] (I (f + ls.length - 1)) := by
 refine bZ Tryz.func101 ?_
 repeat' (conv => whnf); first | (intro h; try exact nZ) | apply And.intro | refine dZ ?_ | refine sZ ?_ | fail
 all_goals first | exact rZ
theorem l03DrawAge_call (code : List Int) (hn : code.length ≤ 2305843009213693952) (hb : bytesOk code) (a s : Int) (f : Int) (ls : List Int) (hf : -1 ≤ f ∧ f ≤ 101) (hl : 1 ≤ ls.length ∧ ls.length ≤ 200) (h : srcOk code a s) : Ca 159 [.ptr 0 0, .agg [I f, .sl 1 1 ls.length]] [Src code a s, Di ls] (fun v J => ∃ (x : Int) (a' s' : Int), v = I x ∧ J = [Src code a' s', Di ls] ∧ (-2 ≤ x ∧ x ≤ 400) ∧ srcOk code a' s') := by
 refine cZ Tryz.func159 ?_
 repeat' (conv => whnf); first | (intro h; try exact nZ) | apply And.intro | refine sZ ?_ | (refine CallA.gR [0] (nextP_call code hn hb _ _ (24) (by first | decide | omega) ‹srcOk code _ _›) ?_; rintro x a2 s2 ⟨hx, hs⟩; (try conv => whnf)) | (refine CallA.gR [0] (nextP_call code hn hb _ _ ((ls.length : Int)) (by first | decide | omega) ‹srcOk code _ _›) ?_; rintro y a2 s2 ⟨hy, hs⟩; (try conv => whnf)) | refine Ret.uA (specEndG_ret f ls (by omega) (by omega)) ?_ | (refine CallA.gR [0, 3] (pickB_call code hn hb _ _ [f - 1, f + ls.length - 1, f + ls.length - 1 + 1, 150, 151] (Nat.le_of_ble_eq_true rfl) (Nat.le_of_ble_eq_true rfl) ‹srcOk code _ _› (-2) 400 (fun y hy => by simp only [List.mem_cons, List.not_mem_nil, or_false] at hy; omega)) ?_; rintro z a2 s2 ⟨hz, hs⟩; (try conv => whnf)) | fail
 all_goals try omega
 all_goals ((conv => whnf); first | (apply ends_src (ne := 2) []; all_goals (try (repeat' (first | exact rfl | exact trivial | refine And.intro ?_ ?_))); all_goals (repeat' (first | assumption | omega | exact trivial | refine And.intro ?_ ?_)); done))
end
section
open Go.AE
attribute [local irreducible] CallA LoopA DrawA CallQ arithK quoK remK eqK
theorem big_ret (code : List Int) : Rt 12 [Rb code] (Bo (decide ((4096 : Int) < code.length))) := by
 refine bZ Tryz.func12 ?_
 repeat' (conv => whnf); first | (intro h; try exact nZ) | apply And.intro | refine dZ ?_ | refine sZ ?_ | fail
 all_goals first | exact bv_true ‹_› | exact bv_false ‹_›
theorem likeInts_ret (xs ys : List Int) (hn : xs.length ≤ 2305843009213693952) : Rt 50 [Ri xs, Ri ys] (Bo (decide (xs = ys))) := by
 refine bZ Tryz.func50 ?_
 repeat' (conv => whnf); first | (intro h; try exact nZ) | apply And.intro | refine dZ ?_ | refine sZ ?_ | fail
 · exact bv_false (fun e => by subst e; omega)
 refine loop_rule hT (fun i : Nat => i ≤ xs.length ∧ xs.take i = ys.take i) 26 0 [0, 1, 5] (fun i => [Ri xs, Ri ys, I i]) (fun _ => []) (fun i => xs.length - i) (0) (Nat.le_of_ble_eq_true rfl) ?_ ?_ ?_
 · exact ⟨Nat.zero_le _, rfl⟩
 · (refine ⟨rfl, [], ?_, ?_⟩; all_goals (repeat' (first | exact rfl | exact trivial | (with_reducible assumption) | refine And.intro ?_ ?_ | omega)))
 · rintro i ⟨h1, h2⟩
   repeat' (conv => whnf); first | (intro h; try exact nZ) | apply And.intro | refine dZ ?_ | refine sZ ?_ | fail
   all_goals try omega
   · refine bv_false (fun e => ?_)
     subst e
     contradiction
   · have he : xs.getD i 0 = ys.getD i 0 := Decidable.of_not_not ‹_›
     refine ⟨i + 1, ⟨by omega, ?_⟩, ?_, by omega⟩
     · rw [take_snoc 0 (by omega), take_snoc 0 (by omega), h2, he]
     · (refine ⟨rfl, [], ?_, ?_⟩; all_goals (repeat' (first | exact rfl | exact trivial | (with_reducible assumption) | refine And.intro ?_ ?_ | omega)))
   · refine bv_true ?_
     rwa [take_all (by omega), take_all (by omega)] at h2
end
section
open Go.AE Go.Lib
attribute [local irreducible] CallA LoopA DrawA CallQ arithK quoK remK eqK
attribute [local irreducible] srcOk
theorem ends_str {code : List Int} {n : Nat} {v : AV} {H : List Blk} (sel : List (Option Nat)) (x : ByteArray) (a2 s2 : Int) (h1 : vmV 1 sel v (.v (.string x))) (h2 : heapM 1 sel H [Src code a2 s2]) (h3 : x.size ≤ n) (h4 : srcOk code a2 s2) :
   ∃ sel v' J, vmV 1 sel v v' ∧ heapM 1 sel H J ∧ (∃ (x : ByteArray) (a' s' : Int), v' = .v (.string x) ∧ J = [Src code a' s'] ∧ x.size ≤ n ∧ srcOk code a' s') :=
 ⟨sel, _, _, h1, h2, x, a2, s2, rfl, rfl, h3, h4⟩
theorem sz_app (a b : ByteArray) : (a ++ b).size = a.size + b.size := by simp
theorem sz_ext (t : ByteArray) (i j : Nat) : (t.extract i j).size ≤ j - i := by
 obtain ⟨l, rfl⟩ := B_ex t
 rw [B_extract, B_size, List.length_drop, List.length_take]
 omega
theorem one_of (z : Nat) : (([] ++ [⟨#[48]⟩] ++ [⟨#[49]⟩] ++ [⟨#[32]⟩] ++ [⟨#[45]⟩] ++ [⟨#[44]⟩] ++ [⟨#[46]⟩] ++ [⟨#[10]⟩] ++ [⟨#[97]⟩] : List ByteArray).getD z ByteArray.empty).size ≤ 1 := by
 rcases (show z = 0 ∨ z = 1 ∨ z = 2 ∨ z = 3 ∨ z = 4 ∨ z = 5 ∨ z = 6 ∨ z = 7 ∨ 8 ≤ z by omega) with rfl | rfl | rfl | rfl | rfl | rfl | rfl | rfl | h
 all_goals first | (show 1 ≤ 1; omega) | skip
 rw [List.getD_eq_getElem?_getD, List.getElem?_eq_none (by show 8 ≤ z; exact h)]
 exact Nat.zero_le _
theorem damage_call (code : List Int) (hn : code.length ≤ 2305843009213693952) (hb : bytesOk code) (a s : Int) (t : ByteArray) (ht : t.size ≤ 1048576) (h : srcOk code a s) : Ca 39 [.ptr 0 0, .v (.string t)] [Src code a s] (fun v J => ∃ (x : ByteArray) (a' s' : Int), v = .v (.string x) ∧ J = [Src code a' s'] ∧ x.size ≤ t.size + 1 ∧ srcOk code a' s') := by
 refine cZ Tryz.func39 ?_
 repeat' (conv => whnf); first | (intro h; try exact nZ) | apply And.intro | refine sZ ?_ | (refine CallA.gR [0] (nextP_call code hn hb _ _ ((t.size : Int) + 1) (by first | decide | omega) ‹srcOk code _ _›) ?_; rintro k a2 s2 ⟨hk, hs⟩; (try conv => whnf)) | (refine CallA.gR [0] (nextP_call code hn hb _ _ (8) (by first | decide | omega) ‹srcOk code _ _›) ?_; rintro m a2 s2 ⟨hm, hs⟩; (try conv => whnf)) | fail
 all_goals try exact rZ
 all_goals (have q1 := sz_ext t 0 k.toNat; have q2 := sz_ext t k.toNat t.size; have q3 := sz_ext t (k + 1).toNat t.size; have q4 := one_of m.toNat)
 all_goals ((conv => whnf); first | (apply ends_str []; all_goals (try (repeat' (first | exact rfl | exact trivial | refine And.intro ?_ ?_))); all_goals (first | assumption | omega | (simp only [sz_app]; omega)); done) | omega | (show m.toNat < 8; omega) | (show (_ : Nat) ≤ 9223372036854775807; first | omega | (simp only [sz_app]; omega)))
end
end Go.Proofs.YtglbamncajileaaGreatDoor
