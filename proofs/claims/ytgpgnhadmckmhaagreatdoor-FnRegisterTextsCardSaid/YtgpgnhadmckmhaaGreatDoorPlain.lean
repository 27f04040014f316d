/-
  The source of draws: what its functions return. No conditions but those in the statements. The small functions of the laws: what they return. No conditions but those in the statements.
-/
import Derived.Test.YtgpgnhadmckmhaaGreatDoorMfb
import Derived.Test.YtgpgnhadmckmhaaGreatDoorAeList
namespace Go.Proofs.YtgpgnhadmckmhaaGreatDoor
open Go.AE

attribute [local irreducible] CallA LoopA DrawA CallQ arithK quoK remK eqK
abbrev Rb (code : List Int) : AV := .ro (.ints .u8 code)
abbrev Src (code : List Int) (a s : Int) : Blk := .cells [Rb code, I a, I s]
def bytesOk (code : List Int) : Prop := ∀ x ∈ code, 0 ≤ x ∧ x ≤ 255
theorem bytesOk.at {code : List Int} (h : bytesOk code) (i : Nat) : 0 ≤ code.getD i 0 ∧ code.getD i 0 ≤ 255 := by
  by_cases hi : i < code.length
  · exact h _ (getD_mem hi)
  · rw [List.getD_eq_getElem?_getD, List.getElem?_eq_none (by omega)]
    exact ⟨Int.le_refl _, by decide⟩
def srcOk (code : List Int) (a s : Int) : Prop := 0 ≤ a ∧ a ≤ (code.length : Int) ∧ 0 ≤ s ∧ s ≤ 2147483646
set_option maxRecDepth 100000 in
theorem l01From_call (code : List Int) (hn : code.length ≤ 2305843009213693952) (hb : bytesOk code) : CallA Tryz.prog G 36 [Rb code] [] (fun v J => ∃ x a' s' : Int, v = .ptr 0 0 ∧ J = [Src code a' s'] ∧ (x = 0 ∧ a' = 0) ∧ srcOk code a' s') := by
  refine CallA.ends (callA_of_body hT Tryz.func36 rfl ?_)
  repeat' (first | (intro h; first | contradiction | omega | (conv => whnf) | skip) | (refine And.intro ?_ ?_) | (refine arith_ok ⟨by omega, by omega⟩ ?_) | (first | (refine draw_quiet hT mixed (by decide +kernel) ?_) | (refine draw_hard hT mixed (by decide +kernel) ?_)) | fail)
  refine loop_rule hT (fun p : Nat × Int => p.1 ≤ code.length ∧ 0 ≤ p.2 ∧ p.2 ≤ 2147483646) 34 1 [0, 3, 4] (fun p => [Rb code, .ptr 0 0, I p.1]) (fun p => [Src code 0 p.2]) (fun p => code.length - p.1) ((0, 25001)) (Nat.le_of_ble_eq_true rfl) ?_ ?_ ?_
  · exact ⟨Nat.zero_le _, by decide, by decide⟩
  · (first | (refine ⟨rfl, [], ?_, ?_⟩; all_goals (repeat' (first | exact rfl | exact trivial | (with_reducible assumption) | refine And.intro ?_ ?_)); all_goals (first | omega | assumption); done) | (refine ⟨rfl, [some 1], ?_, ?_⟩; all_goals (repeat' (first | exact rfl | exact trivial | (with_reducible assumption) | refine And.intro ?_ ?_)); all_goals (first | omega | assumption); done) | (refine ⟨rfl, [some 2], ?_, ?_⟩; all_goals (repeat' (first | exact rfl | exact trivial | (with_reducible assumption) | refine And.intro ?_ ?_)); all_goals (first | omega | assumption); done) | (refine ⟨rfl, [some 3], ?_, ?_⟩; all_goals (repeat' (first | exact rfl | exact trivial | (with_reducible assumption) | refine And.intro ?_ ?_)); all_goals (first | omega | assumption); done) | (refine ⟨rfl, [some 0], ?_, ?_⟩; all_goals (repeat' (first | exact rfl | exact trivial | (with_reducible assumption) | refine And.intro ?_ ?_)); all_goals (first | omega | assumption); done) | (refine ⟨rfl, [some 4], ?_, ?_⟩; all_goals (repeat' (first | exact rfl | exact trivial | (with_reducible assumption) | refine And.intro ?_ ?_)); all_goals (first | omega | assumption); done) | (refine ⟨rfl, [some 5], ?_, ?_⟩; all_goals (repeat' (first | exact rfl | exact trivial | (with_reducible assumption) | refine And.intro ?_ ?_)); all_goals (first | omega | assumption); done) | (refine ⟨rfl, [some 6], ?_, ?_⟩; all_goals (repeat' (first | exact rfl | exact trivial | (with_reducible assumption) | refine And.intro ?_ ?_)); all_goals (first | omega | assumption); done))
  · rintro ⟨i, s⟩ ⟨h1, h2, h3⟩
    dsimp only at h1 h2 h3 ⊢
    have hc : 0 ≤ code.getD ((i : Int)).toNat 0 ∧ code.getD ((i : Int)).toNat 0 ≤ 255 := hb.at _
    repeat' (first | (intro h; first | contradiction | omega | (conv => whnf) | skip) | (refine And.intro ?_ ?_) | (refine arith_ok ⟨by omega, by omega⟩ ?_) | (first | (refine draw_quiet hT mixed (by decide +kernel) ?_) | (refine draw_hard hT mixed (by decide +kernel) ?_)) | (refine quo_ok ⟨by omega, by omega⟩ (by omega) (by omega) ?_) | (refine rem_ok (by omega) (by omega) ?_))
    all_goals first | omega | (show _ < code.length; omega) | skip
    all_goals first
      | (refine ⟨(i + 1, (s * 71 + code.getD ((i : Int)).toNat 0) % 2147483647), ⟨by dsimp only; omega, by dsimp only; omega, by dsimp only; omega⟩, ?_, by dsimp only; omega⟩; (first | (refine ⟨rfl, [], ?_, ?_⟩; all_goals (repeat' (first | exact rfl | exact trivial | (with_reducible assumption) | refine And.intro ?_ ?_)); all_goals (first | omega | assumption); done) | (refine ⟨rfl, [some 1], ?_, ?_⟩; all_goals (repeat' (first | exact rfl | exact trivial | (with_reducible assumption) | refine And.intro ?_ ?_)); all_goals (first | omega | assumption); done) | (refine ⟨rfl, [some 2], ?_, ?_⟩; all_goals (repeat' (first | exact rfl | exact trivial | (with_reducible assumption) | refine And.intro ?_ ?_)); all_goals (first | omega | assumption); done) | (refine ⟨rfl, [some 3], ?_, ?_⟩; all_goals (repeat' (first | exact rfl | exact trivial | (with_reducible assumption) | refine And.intro ?_ ?_)); all_goals (first | omega | assumption); done) | (refine ⟨rfl, [some 0], ?_, ?_⟩; all_goals (repeat' (first | exact rfl | exact trivial | (with_reducible assumption) | refine And.intro ?_ ?_)); all_goals (first | omega | assumption); done) | (refine ⟨rfl, [some 4], ?_, ?_⟩; all_goals (repeat' (first | exact rfl | exact trivial | (with_reducible assumption) | refine And.intro ?_ ?_)); all_goals (first | omega | assumption); done) | (refine ⟨rfl, [some 5], ?_, ?_⟩; all_goals (repeat' (first | exact rfl | exact trivial | (with_reducible assumption) | refine And.intro ?_ ?_)); all_goals (first | omega | assumption); done) | (refine ⟨rfl, [some 6], ?_, ?_⟩; all_goals (repeat' (first | exact rfl | exact trivial | (with_reducible assumption) | refine And.intro ?_ ?_)); all_goals (first | omega | assumption); done)))
      | ((first | (refine ⟨[], .ptr 0 0, [Src code 0 s], ?_, ?_, ?_⟩; all_goals (repeat' (first | exact rfl | exact trivial | (with_reducible assumption) | refine And.intro ?_ ?_)); all_goals (first | omega | assumption | ((repeat' (first | exact ⟨0, 0, _, rfl, rfl, ⟨rfl, rfl⟩, by omega, by omega, by omega, by omega⟩ | exact rfl | exact trivial | (with_reducible assumption) | refine And.intro ?_ ?_ | omega | assumption)); done)); done) | (refine ⟨[some 1], .ptr 0 0, [Src code 0 s], ?_, ?_, ?_⟩; all_goals (repeat' (first | exact rfl | exact trivial | (with_reducible assumption) | refine And.intro ?_ ?_)); all_goals (first | omega | assumption | ((repeat' (first | exact ⟨0, 0, _, rfl, rfl, ⟨rfl, rfl⟩, by omega, by omega, by omega, by omega⟩ | exact rfl | exact trivial | (with_reducible assumption) | refine And.intro ?_ ?_ | omega | assumption)); done)); done) | (refine ⟨[some 0], .ptr 0 0, [Src code 0 s], ?_, ?_, ?_⟩; all_goals (repeat' (first | exact rfl | exact trivial | (with_reducible assumption) | refine And.intro ?_ ?_)); all_goals (first | omega | assumption | ((repeat' (first | exact ⟨0, 0, _, rfl, rfl, ⟨rfl, rfl⟩, by omega, by omega, by omega, by omega⟩ | exact rfl | exact trivial | (with_reducible assumption) | refine And.intro ?_ ?_ | omega | assumption)); done)); done) | (refine ⟨[some 2], .ptr 0 0, [Src code 0 s], ?_, ?_, ?_⟩; all_goals (repeat' (first | exact rfl | exact trivial | (with_reducible assumption) | refine And.intro ?_ ?_)); all_goals (first | omega | assumption | ((repeat' (first | exact ⟨0, 0, _, rfl, rfl, ⟨rfl, rfl⟩, by omega, by omega, by omega, by omega⟩ | exact rfl | exact trivial | (with_reducible assumption) | refine And.intro ?_ ?_ | omega | assumption)); done)); done) | (refine ⟨[some 3], .ptr 0 0, [Src code 0 s], ?_, ?_, ?_⟩; all_goals (repeat' (first | exact rfl | exact trivial | (with_reducible assumption) | refine And.intro ?_ ?_)); all_goals (first | omega | assumption | ((repeat' (first | exact ⟨0, 0, _, rfl, rfl, ⟨rfl, rfl⟩, by omega, by omega, by omega, by omega⟩ | exact rfl | exact trivial | (with_reducible assumption) | refine And.intro ?_ ?_ | omega | assumption)); done)); done) | (refine ⟨[some 4], .ptr 0 0, [Src code 0 s], ?_, ?_, ?_⟩; all_goals (repeat' (first | exact rfl | exact trivial | (with_reducible assumption) | refine And.intro ?_ ?_)); all_goals (first | omega | assumption | ((repeat' (first | exact ⟨0, 0, _, rfl, rfl, ⟨rfl, rfl⟩, by omega, by omega, by omega, by omega⟩ | exact rfl | exact trivial | (with_reducible assumption) | refine And.intro ?_ ?_ | omega | assumption)); done)); done) | (refine ⟨[some 5], .ptr 0 0, [Src code 0 s], ?_, ?_, ?_⟩; all_goals (repeat' (first | exact rfl | exact trivial | (with_reducible assumption) | refine And.intro ?_ ?_)); all_goals (first | omega | assumption | ((repeat' (first | exact ⟨0, 0, _, rfl, rfl, ⟨rfl, rfl⟩, by omega, by omega, by omega, by omega⟩ | exact rfl | exact trivial | (with_reducible assumption) | refine And.intro ?_ ?_ | omega | assumption)); done)); done)))
      | trace_state
/-- An open answer: its values are found by what the heap says. -/
theorem ends_src {α : Type} {ne : Nat} {v : AV} {H : List Blk} {r : α → AV} {J0 : α → Int → Int → List Blk} {B : α → Int → Int → Prop} (sel : List (Option Nat)) (x : α) (a s : Int) (h1 : vmV ne sel v (r x)) (h2 : heapM ne sel H (J0 x a s)) (h3 : B x a s) :
    ∃ sel v' J, vmV ne sel v v' ∧ heapM ne sel H J ∧ (∃ (x : α) (a s : Int), v' = r x ∧ J = J0 x a s ∧ B x a s) := ⟨sel, _, _, h1, h2, x, a, s, rfl, rfl, h3⟩
/-- What a draw below n may give. -/
def drawn (n x : Int) : Prop := 0 ≤ x ∧ (n ≤ 1 → x = 0) ∧ (1 < n → x < n)
theorem drawn_one {n : Int} (h : n ≤ 1) : drawn n 0 := ⟨Int.le_refl _, fun _ => rfl, fun _ => by omega⟩
theorem drawn_mod {n x : Int} (h : ¬ n ≤ 1) : drawn n (x % n) := ⟨Int.emod_nonneg _ (by omega), fun _ => by omega, fun _ => Int.emod_lt_of_pos _ (by omega)⟩
set_option maxRecDepth 100000 in
theorem l01Next_call (code : List Int) (hn : code.length ≤ 2305843009213693952) (hb : bytesOk code) (a s n : Int) (h : srcOk code a s) : CallA Tryz.prog G 44 [.ptr 0 0, I n] [Src code a s] (fun v J => ∃ x a' s' : Int, v = I x ∧ J = [Src code a' s'] ∧ drawn n x ∧ srcOk code a' s') := by
  refine CallA.ends (callA_of_body hT Tryz.func44 rfl ?_)
  obtain ⟨h1, h2, h3, h4⟩ := h
  have hc : 0 ≤ code.getD a.toNat 0 ∧ code.getD a.toNat 0 ≤ 255 := hb.at _
  have hc2 : 0 ≤ code.getD (a + 1 - 1).toNat 0 ∧ code.getD (a + 1 - 1).toNat 0 ≤ 255 := hb.at _
  repeat' (first | (intro h; first | contradiction | omega | (conv => whnf) | skip) | (refine And.intro ?_ ?_) | (refine arith_ok ⟨by omega, by omega⟩ ?_) | (first | (refine draw_quiet hT mixed (by decide +kernel) ?_) | (refine draw_hard hT mixed (by decide +kernel) ?_)) | (refine quo_ok ⟨by omega, by omega⟩ (by omega) (by omega) ?_) | (refine rem_ok (by omega) (by omega) ?_))
  all_goals first | omega | (show _ < code.length; omega) | skip
  all_goals first
    | (refine ⟨[], I (0), [Src code a s], ?_, ?_, ⟨0, a, s, rfl, rfl, drawn_one (by assumption), by omega, by omega, by omega, by omega⟩⟩; all_goals (repeat' (first | exact rfl | exact trivial | refine And.intro ?_ ?_)); done)
    | (refine ⟨[], I ((code.getD (a + 1 - 1).toNat 0) % n), [Src code (a + 1) ((s * 48271 + 71) % 2147483647)], ?_, ?_, ⟨(code.getD (a + 1 - 1).toNat 0) % n, (a + 1), ((s * 48271 + 71) % 2147483647), rfl, rfl, drawn_mod (by assumption), by omega, by omega, by omega, by omega⟩⟩; all_goals (repeat' (first | exact rfl | exact trivial | refine And.intro ?_ ?_)); done)
    | (refine ⟨[], I (((s * 48271 + 71) % 2147483647 / 41 + code.getD a.toNat 0) % n), [Src code (a + 1) ((s * 48271 + 71) % 2147483647)], ?_, ?_, ⟨((s * 48271 + 71) % 2147483647 / 41 + code.getD a.toNat 0) % n, (a + 1), ((s * 48271 + 71) % 2147483647), rfl, rfl, drawn_mod (by assumption), by omega, by omega, by omega, by omega⟩⟩; all_goals (repeat' (first | exact rfl | exact trivial | refine And.intro ?_ ?_)); done)
    | (refine ⟨[], I (((s * 48271 + 71) % 2147483647 / 41) % n), [Src code a ((s * 48271 + 71) % 2147483647)], ?_, ?_, ⟨((s * 48271 + 71) % 2147483647 / 41) % n, a, ((s * 48271 + 71) % 2147483647), rfl, rfl, drawn_mod (by assumption), by omega, by omega, by omega, by omega⟩⟩; all_goals (repeat' (first | exact rfl | exact trivial | refine And.intro ?_ ?_)); done)
    | trace_state
set_option maxRecDepth 100000 in
theorem l01Pick_call (code : List Int) (hn : code.length ≤ 2305843009213693952) (hb : bytesOk code) (a s : Int) (xs : List Int) (hx : 0 < xs.length) (hx2 : xs.length ≤ 1048576) (h : srcOk code a s) : CallA Tryz.prog G 43 [.ptr 0 0, .sl 1 1 xs.length] [Src code a s, .data (.ints .i64 xs)] (fun v J => ∃ (x : Nat) (a' s' : Int), v = I (xs.getD x 0) ∧ J = [Src code a' s', .data (.ints .i64 xs)] ∧ x < xs.length ∧ srcOk code a' s') := by
  refine CallA.ends (callA_of_body hT Tryz.func43 rfl ?_)
  have hl := l01Next_call code hn hb a s xs.length h
  repeat' (first | (intro h; first | contradiction | omega | (conv => whnf) | skip) | (refine And.intro ?_ ?_) | (refine arith_ok ⟨by omega, by omega⟩ ?_) | (first | (refine draw_quiet hT mixed (by decide +kernel) ?_) | (refine draw_hard hT mixed (by decide +kernel) ?_)) | (refine CallA.goE3 false [0] (hl) rfl (by first | ((repeat' (first | exact rfl | exact trivial | (with_reducible assumption) | refine And.intro ?_ ?_ | omega | assumption)); done) | fail) (by first | ((repeat' (first | exact rfl | exact trivial | (with_reducible assumption) | refine And.intro ?_ ?_ | omega | assumption)); done) | fail) ?_; rintro x a2 s2 ⟨⟨h1, h2, h3⟩, h4⟩; (first | (conv => whnf) | skip)))
  all_goals first | omega | skip
  all_goals (refine ⟨[], I (xs.getD x.toNat 0), [Src code a2 s2, .data (.ints .i64 xs)], ?_, ?_, ⟨x.toNat, a2, s2, rfl, rfl, by omega, h4⟩⟩; all_goals (repeat' (first | exact rfl | exact trivial | refine And.intro ?_ ?_)); done)
end Go.Proofs.YtgpgnhadmckmhaaGreatDoor
namespace Go.Proofs.YtgpgnhadmckmhaaGreatDoor
open Go.AE

attribute [local irreducible] CallA LoopA DrawA CallQ arithK quoK remK eqK
set_option maxRecDepth 100000 in
theorem big_ret (code : List Int) : Ret Tryz.prog G 5 [Rb code] (Bo (decide ((4096 : Int) < code.length))) := by
  refine ret_of_body hT Tryz.func5 rfl ?_ rfl
  repeat' (first | (intro h; first | contradiction | omega | (conv => whnf) | skip) | (refine And.intro ?_ ?_) | (refine arith_ok ⟨by omega, by omega⟩ ?_) | (first | (refine draw_quiet hT mixed (by decide +kernel) ?_) | (refine draw_hard hT mixed (by decide +kernel) ?_)) | fail)
  all_goals first | exact bv_true (by assumption) | exact bv_false (by assumption)
set_option maxRecDepth 100000 in
theorem likeInts_ret (xs ys : List Int) (hn : xs.length ≤ 2305843009213693952) : Ret Tryz.prog G 33 [Ri xs, Ri ys] (Bo (decide (xs = ys))) := by
  refine ret_of_body hT Tryz.func33 rfl ?_ rfl
  repeat' (first | (intro h; first | contradiction | omega | (conv => whnf) | skip) | (refine And.intro ?_ ?_) | (refine arith_ok ⟨by omega, by omega⟩ ?_) | (first | (refine draw_quiet hT mixed (by decide +kernel) ?_) | (refine draw_hard hT mixed (by decide +kernel) ?_)) | fail)
  · exact bv_false (fun e => by subst e; omega)
  refine loop_rule hT (fun i : Nat => i ≤ xs.length ∧ xs.take i = ys.take i) 26 0 [0, 1, 5] (fun i => [Ri xs, Ri ys, I i]) (fun _ => []) (fun i => xs.length - i) (0) (Nat.le_of_ble_eq_true rfl) ?_ ?_ ?_
  · exact ⟨Nat.zero_le _, rfl⟩
  · (refine ⟨rfl, [], ?_, ?_⟩; all_goals (repeat' (first | exact rfl | exact trivial | (with_reducible assumption) | refine And.intro ?_ ?_ | omega)))
  · rintro i ⟨h1, h2⟩
    repeat' (first | (intro h; first | contradiction | omega | (conv => whnf) | skip) | (refine And.intro ?_ ?_) | (refine arith_ok ⟨by omega, by omega⟩ ?_) | (first | (refine draw_quiet hT mixed (by decide +kernel) ?_) | (refine draw_hard hT mixed (by decide +kernel) ?_)) | fail)
    all_goals first | omega | skip
    · refine bv_false (fun e => ?_)
      subst e
      contradiction
    · have he : xs.getD i 0 = ys.getD i 0 := Decidable.of_not_not (by assumption)
      refine ⟨i + 1, ⟨by omega, ?_⟩, ?_, by omega⟩
      · rw [take_snoc 0 (by omega), take_snoc 0 (by omega), h2, he]
      · (refine ⟨rfl, [], ?_, ?_⟩; all_goals (repeat' (first | exact rfl | exact trivial | (with_reducible assumption) | refine And.intro ?_ ?_ | omega)))
    · refine bv_true ?_
      rwa [take_all (by omega), take_all (by omega)] at h2
end Go.Proofs.YtgpgnhadmckmhaaGreatDoor
