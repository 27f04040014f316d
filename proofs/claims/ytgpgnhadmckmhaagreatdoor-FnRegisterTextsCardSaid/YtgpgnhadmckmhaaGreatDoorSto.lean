/-
  The library's functions on strings as contracts of the abstract evaluator: each is the kit's contract, brought in. No conditions but those in the statements. Lists of structs (Rule): copies, equality, marks. No conditions but those in the statements. Rules of statutes: what the functions on rules, cases and lists of rules return. No conditions but those in the statements. Texts split and numerals read as the reference does: what the functions return. No conditions but those in the statements. Numerals read by the reference: what the functions return. No conditions but those in the statements. Numbers joined and the text of statutes: what the functions return. No conditions but those in the statements. Which texts are texts of statutes: plain facts, no program in sight. Signed numerals and lists of them, read by the reference: what the functions return. No conditions but those in the statements.
-/
import Derived.Test.YtgpgnhadmckmhaaGreatDoorSta
import Derived.Test.YtgpgnhadmckmhaaGreatDoorSh
import Derived.Lib.AppendIntMem
import Derived.Lib.SmallJoins
import Derived.Lib.SplitLaws
import Derived.Test.YtgpgnhadmckmhaaGreatDoorMfb
namespace Go.Proofs.YtgpgnhadmckmhaaGreatDoor
open Go.AE Go.Lib Go.RowKit

theorem B_list (l : List UInt8) : (B l).data.toList = l := rfl
theorem B_all (ws : List (List UInt8)) : (ws.map B).map (·.data.toList) = ws := by
  rw [List.map_map]
  exact List.map_id'' (fun l => rfl) ws
theorem B_of : ∀ (xs : List ByteArray), xs = (xs.map (·.data.toList)).map B
  | [] => rfl
  | x :: r => by
    rw [List.map_cons, List.map_cons, ← B_of r]
theorem formatInt_ret (n : Int) (h : -9223372036854775808 ≤ n ∧ n ≤ 9223372036854775807) : Ret Tryz.prog G 108 [I n, I 10] (Sv (itoa n)) :=
  ret_of_calls1 (xs := [.int .i64 n, .int .i64 10]) (x := .string (B (itoa n))) rfl ⟨_, Tryz.func108, by kernel_rfl, by kernel_rfl⟩ fun S w hw => by
    obtain ⟨e, fz, hg⟩ := hw.ints (g := 5) rfl
    have ht : Go.Lib.TabIs Tryz.prog w "internal/strconv.uint64pow10" .u64 Go.Lib.pow10Tab := by
      have hn : Go.Program.globalNamed Tryz.prog "internal/strconv.uint64pow10" = some 5 := by kernel_rfl
      show Go.World.var? Tryz.prog w _ = _
      unfold Go.World.var?
      rw [hn]
      show (match w.heap[5]? with | some (.cells cs _ _) => some cs | _ => none) = _
      rw [hg]
    exact (Tryz.strconv_FormatInt_10 n h.1 h.2 w ht).mono fun e w' ⟨h1, k, os, h2⟩ => ⟨h1, h2 ▸ Cl.of_below (Go.Lib.below_grow _ w (Nat.le_refl _) k os)⟩
theorem join_ret (ws : List (List UInt8)) (sep : List UInt8) (hn : ws.length ≤ 140737488355328) (hl : (join ws sep).length ≤ 140737488355328) : Ret Tryz.prog G 80 [Rstr ws, Sv sep] (Sv (join ws sep)) :=
  ret_of_strs (y := .string (B sep)) (x := .string (B (join ws sep))) rfl ⟨_, Tryz.func80, by kernel_rfl, by kernel_rfl⟩
    (fun he w a cap => by
      obtain rfl : ws = [] := by simpa using he
      exact (Tryz.strings_Join_none a cap (B sep) w).mono fun e w' ⟨h1, h2⟩ => ⟨h1, h2 ▸ Cl.of_below (Below.refl _ _)⟩)
    fun w b off cap hp hb hc hcell => by
      have hx := Tryz.strings_Join b off cap (ws.map B) (B sep) w (fun j x hj => hcell j x hj) hb (by simpa using hn) (by simpa using hc) (by rw [B_all]; exact hl)
      rw [B_all] at hx
      exact hx.mono fun e w' ⟨h1, h2⟩ => ⟨h1, Cl.of_below h2⟩
theorem splitB_sp (c : UInt8) (l : List UInt8) : splitB (B [c]) 0 (countB (B l) (B [c])) (B l) = (sp c l).map B := by
  have h := splitB_data (B [c]) 0 (countB (B l) (B [c])) (B l)
  rw [B_of (splitB _ _ _ _), h]
  congr 1
  exact splitK_sp c l
theorem split_call (l : List UInt8) (c : UInt8) (hn : l.length ≤ 4294967280) : CallA Tryz.prog G 51 [Sv l, Sv [c]] [] (fun v J => v = .sl 0 1 ((sp c l).map B).length ∧ J = [Dstr (sp c l)]) :=
  call_strs (xs := [.string (B l), .string (B [c])]) ⟨_, Tryz.func51, by kernel_rfl, by kernel_rfl⟩ (by rw [List.length_map, sp_len]; have := List.count_le_length (a := c) (l := l); unfold maxLen; omega) fun S w hw => by
    obtain ⟨u, hu, hi⟩ := hw.cell (g := 0) rfl
    obtain ⟨m, rfl⟩ : ∃ m, u = .int .i64 m := by
      unfold isI64 at hi
      split at hi
      · exact ⟨_, rfl⟩
      · cases hi
    refine (Tryz.strings_Split (B l) (B [c]) m w (by rw [B_size]; omega) hu (Nat.le_refl _)).mono fun e w' ⟨h1, h2⟩ => ⟨9, ?_, ?_⟩
    · rw [h1, List.length_map, sp_len, show countB (B l) (B [c]) = l.count c from count_one c l]
    · rw [h2, splitB_sp]
theorem replaceAll_ret (l : List UInt8) (a b : UInt8) (hn : l.length ≤ 1048576000) : Ret Tryz.prog G 53 [Sv l, Sv [a], Sv [b]] (Sv (replaceAll l [a] [b])) :=
  ret_of_calls1 (xs := [.string (B l), .string (B [a]), .string (B [b])]) (x := .string (B (replaceAll l [a] [b]))) rfl ⟨_, Tryz.func53, by kernel_rfl, by kernel_rfl⟩ fun S w hw => by
    obtain ⟨u, hu, hi⟩ := hw.cell (g := 0) rfl
    obtain ⟨m, rfl⟩ : ∃ m, u = .int .i64 m := by
      unfold isI64 at hi
      split at hi
      · exact ⟨_, rfl⟩
      · cases hi
    have hc := countB_le (B [a]) (Nat.le_refl _) (B l).size (B l) (Nat.le_refl _)
    have hz := B_size l
    refine (Tryz.strings_ReplaceAll (B l) (B [a]) (B [b]) m w (by omega) hu (Nat.le_refl _) (by rw [show (B [b]).size = 1 from rfl]; omega)).mono fun e w' ⟨h1, h2⟩ => ⟨h1, Cl.of_below h2⟩
theorem repeat_ret (l : List UInt8) (c : Nat) (hn : l.length * c ≤ 140737488355328) (hc : c ≤ 9223372036854775807) : Ret Tryz.prog G 117 [Sv l, I (c : Int)] (Sv (repeatL l c)) :=
  ret_of_calls1 (xs := [.string (B l), .int .i64 c]) (x := .string (B (repeatL l c))) rfl ⟨_, Tryz.func117, by kernel_rfl, by kernel_rfl⟩ fun S w hw =>
    (Tryz.strings_Repeat (B l) c w hc hn).mono fun e w' ⟨h1, h2⟩ => ⟨h1, Cl.of_below h2⟩
theorem parse_ok (l : List UInt8) (hn : l.length ≤ 281474976710656) (v : Int) (h : parseIntB 64 l = .ok v) : Ret Tryz.prog G2 104 [Sv l, I 10, I 64] (.tup [I v, .v .nilIface]) :=
  ret_of_calls1 (xs := [.string (B l), .int .i64 10, .int .i64 64]) (x := .tuple #[.int .i64 v, .nilIface]) rfl ⟨_, Tryz.func104, by kernel_rfl, by kernel_rfl⟩ fun S w hw =>
    (Tryz.strconv_ParseInt_10_at64_ok (B l) (by rw [B_size]; omega) v h w).mono fun e w' ⟨h1, h2⟩ => ⟨h1, by
      rcases h2 with rfl | ⟨t, rfl⟩
      · exact Cl.of_below (Below.refl _ _)
      · exact Cl.of_below (Go.Joins.below_bytesWorld _ w _ t (Nat.le_refl _))⟩
theorem ifc_tup {β : Nat → Option Nat} {n : Nat} {S : Nat → Prop} {w : World} (x : Int) (te : TypeId) (p : Value) : VR β n S w (.tup [.un, .ifc]) (.tuple #[.int .i64 x, .iface te p]) :=
  .tup _ _ rfl fun i c hc => by
    match i, hc with
    | 0, hc => cases hc; exact .un _
    | 1, hc => cases hc; exact .ifc te p
theorem err_of {u : Value} (h : isErr u = true) : u = .nilIface ∨ ∃ te pe, u = .iface te pe := by
  unfold isErr at h
  split at h
  · exact .inl rfl
  · exact .inr ⟨_, _, rfl⟩
  · cases h
theorem parse_bad (l : List UInt8) (hn : l.length ≤ 281474976710656) (h : ∀ v, parseIntB 64 l ≠ .ok v) : Ret Tryz.prog G2 104 [Sv l, I 10, I 64] (.tup [.un, .ifc]) :=
  ret_of_calls (xs := [.string (B l), .int .i64 10, .int .i64 64]) ⟨_, Tryz.func104, by kernel_rfl, by kernel_rfl⟩ fun S w hw => by
    cases hp : parseIntB 64 l with
    | ok v => exact absurd hp (h v)
    | «syntax» =>
      obtain ⟨u, hu, hi⟩ := hw.cell (g := 3) rfl
      exact (Tryz.strconv_ParseInt_10_at64_syntax (B l) hn hp u w hu (err_of hi)).mono fun e w' ⟨N, h1, _, _, h2⟩ => ⟨⟨_, h1, fun _ _ _ _ => ifc_tup _ _ _⟩, Cl.of_below h2⟩
    | range =>
      obtain ⟨u, hu, hi⟩ := hw.cell (g := 4) rfl
      exact (Tryz.strconv_ParseInt_10_at64_range (B l) hn hp u w hu (err_of hi)).mono fun e w' ⟨N, h1, _, _, h2⟩ => ⟨⟨_, h1, fun _ _ _ _ => ifc_tup _ _ _⟩, Cl.of_below h2⟩
end Go.Proofs.YtgpgnhadmckmhaaGreatDoor
namespace Go.Proofs.YtgpgnhadmckmhaaGreatDoor
open Go.AE

attribute [local irreducible] CallA LoopA DrawA CallQ arithK quoK remK eqK
abbrev VRule (a0 a1 a2 a3 a4 a5 : Int) : AV := .agg [I a0, I a1, I a2, I a3, I a4, I a5]
abbrev WRule (r : List Int) : AV := .agg [I (r.getD 0 0), I (r.getD 1 0), I (r.getD 2 0), I (r.getD 3 0), I (r.getD 4 0), I (r.getD 5 0)]
abbrev RRule (xss : List (List Int)) : AV := .ro (.recs 6 xss)
abbrev DRule (xss : List (List Int)) : Blk := .data (.recs 6 xss)
theorem lenRule {r : List Int} (h : r.length = 6) : ∃ a0 a1 a2 a3 a4 a5, r = [a0, a1, a2, a3, a4, a5] := by
  match r, h with
  | [a0, a1, a2, a3, a4, a5], _ => exact ⟨_, _, _, _, _, _, rfl⟩
theorem etaRule {r : List Int} (h : r.length = 6) : [r.getD 0 0, r.getD 1 0, r.getD 2 0, r.getD 3 0, r.getD 4 0, r.getD 5 0] = r := by
  obtain ⟨a0, a1, a2, a3, a4, a5, rfl⟩ := lenRule h
  rfl
def marksRule (m k : Nat) : List (List Int) := (List.range m).map fun i => [((k + i * 6 + 0 : Nat) : Int), ((k + i * 6 + 1 : Nat) : Int), ((k + i * 6 + 2 : Nat) : Int), ((k + i * 6 + 3 : Nat) : Int), ((k + i * 6 + 4 : Nat) : Int), ((k + i * 6 + 5 : Nat) : Int)]
theorem marksRule_len (m k : Nat) : (marksRule m k).length = m := by simp [marksRule]
theorem marksRule_get {m k i : Nat} (h : i < m) : (marksRule m k).getD i [] = [((k + i * 6 + 0 : Nat) : Int), ((k + i * 6 + 1 : Nat) : Int), ((k + i * 6 + 2 : Nat) : Int), ((k + i * 6 + 3 : Nat) : Int), ((k + i * 6 + 4 : Nat) : Int), ((k + i * 6 + 5 : Nat) : Int)] := by
  rw [marksRule, List.getD_eq_getElem?_getD, List.getElem?_map, List.getElem?_range h]; rfl
theorem marksRule_row (m k : Nat) : ∀ r ∈ marksRule m k, r.length = 6 := fun r hr => by
  obtain ⟨i, _, rfl⟩ := List.mem_map.1 hr
  rfl
end Go.Proofs.YtgpgnhadmckmhaaGreatDoor
namespace Go.Proofs.YtgpgnhadmckmhaaGreatDoor
open Go.AE

attribute [local irreducible] CallA LoopA DrawA CallQ arithK quoK remK eqK
/-- A rule as it should be. -/
def rowRl (a b c d e f : Int) : Prop := (0 ≤ a ∧ a ≤ b) ∧ b ≤ 150 ∧ (0 ≤ c ∧ c ≤ d) ∧ d ≤ 99 ∧ (1 ≤ e ∧ e ≤ 15) ∧ (0 ≤ f ∧ f ≤ 9)
instance (a b c d e f : Int) : Decidable (rowRl a b c d e f) := by unfold rowRl; infer_instance
set_option maxRecDepth 100000 in
theorem l23Rule_ret (a b c d e f : Int) : Ret Tryz.prog G 77 [VRule a b c d e f] (Bo (decide (rowRl a b c d e f))) := by
  refine ret_of_body hT Tryz.func77 rfl ?_ rfl
  repeat' (first | (intro h; first | contradiction | omega | (conv => whnf) | skip) | (refine And.intro ?_ ?_) | (refine arith_ok ⟨by omega, by omega⟩ ?_) | (first | (refine draw_quiet hT mixed (by decide +kernel) ?_) | (refine draw_hard hT mixed (by decide +kernel) ?_)) | (refine Ret.goP (l01In_ret _ _ _) rfl ?_) | (refine Ret.goQP (l01In_ret _ _ _) rfl ?_))
  all_goals first | exact bv_true (by unfold rowRl; omega) | exact bv_false (by unfold rowRl; omega)
set_option maxRecDepth 100000 in
theorem isRule_ret (a b c d e f : Int) : Ret Tryz.prog G 56 [VRule a b c d e f] (Bo (decide (rowRl a b c d e f))) := by
  refine ret_of_body hT Tryz.func56 rfl ?_ rfl
  repeat' (first | (intro h; first | contradiction | omega | (conv => whnf) | skip) | (refine And.intro ?_ ?_) | (refine arith_ok ⟨by omega, by omega⟩ ?_) | (first | (refine draw_quiet hT mixed (by decide +kernel) ?_) | (refine draw_hard hT mixed (by decide +kernel) ?_)) | (refine Ret.goP (inRange_ret _ _ _) rfl ?_) | (refine Ret.goQP (inRange_ret _ _ _) rfl ?_))
  all_goals first | exact bv_true (by unfold rowRl; omega) | exact bv_false (by unfold rowRl; omega)
def rowL (r : List Int) : Prop := rowRl (r.getD 0 0) (r.getD 1 0) (r.getD 2 0) (r.getD 3 0) (r.getD 4 0) (r.getD 5 0)
instance (r : List Int) : Decidable (rowL r) := by unfold rowL; infer_instance
def allRl (xss : List (List Int)) : Prop := ∀ r ∈ xss, rowL r
instance (xss : List (List Int)) : Decidable (allRl xss) := by unfold allRl; infer_instance
/-- A list of rules as it should be. -/
def areRl (xss : List (List Int)) : Prop := allRl xss ∧ 1 ≤ xss.length ∧ xss.length ≤ 20
instance (xss : List (List Int)) : Decidable (areRl xss) := by unfold areRl; infer_instance
theorem areRl.at {xss : List (List Int)} (h : areRl xss) {i : Nat} (hi : i < xss.length) : rowL (xss.getD i []) := h.1 _ (getD_mem hi)
set_option maxRecDepth 100000 in
theorem length_ret (xss : List (List Int)) : Ret Tryz.prog G 57 [RRule xss] (I xss.length) := by
  refine ret_of_body hT Tryz.func57 rfl ?_ rfl
  repeat' (first | (intro h; first | contradiction | omega | (conv => whnf) | skip) | (refine And.intro ?_ ?_) | (refine arith_ok ⟨by omega, by omega⟩ ?_) | (first | (refine draw_quiet hT mixed (by decide +kernel) ?_) | (refine draw_hard hT mixed (by decide +kernel) ?_)) | fail)
  all_goals rfl
set_option maxRecDepth 100000 in
theorem specAre_ret (xss : List (List Int)) (hn : xss.length ≤ 2305843009213693952) : Ret Tryz.prog G 39 [RRule xss] (Bo (decide (areRl xss))) := by
  refine ret_of_body hT Tryz.func39 rfl ?_ rfl
  repeat' (first | (intro h; first | contradiction | omega | (conv => whnf) | skip) | (refine And.intro ?_ ?_) | (refine arith_ok ⟨by omega, by omega⟩ ?_) | (first | (refine draw_quiet hT mixed (by decide +kernel) ?_) | (refine draw_hard hT mixed (by decide +kernel) ?_)) | fail)
  refine loop_rule hT (fun i : Nat => i ≤ xss.length ∧ ∀ r ∈ xss.take i, rowL r) 24 0 [0, 3] (fun i => [RRule xss, I i]) (fun _ => []) (fun i => xss.length - i) (0) (Nat.le_of_ble_eq_true rfl) ?_ ?_ ?_
  · exact ⟨Nat.zero_le _, by simp⟩
  · (refine ⟨rfl, [], ?_, ?_⟩; all_goals (repeat' (first | exact rfl | exact trivial | (with_reducible assumption) | refine And.intro ?_ ?_ | omega)))
  · rintro i ⟨h1, h2⟩
    repeat' (first | (intro h; first | contradiction | omega | (conv => whnf) | skip) | (refine And.intro ?_ ?_) | (refine arith_ok ⟨by omega, by omega⟩ ?_) | (first | (refine draw_quiet hT mixed (by decide +kernel) ?_) | (refine draw_hard hT mixed (by decide +kernel) ?_)) | (refine Ret.goP (l23Rule_ret _ _ _ _ _ _) rfl ?_) | (refine Ret.goQP (l23Rule_ret _ _ _ _ _ _) rfl ?_))
    all_goals first | omega | skip
    all_goals first
      | (refine ⟨i + 1, ⟨by omega, all_snoc [] (by omega) h2 h⟩, ?_, by omega⟩; (refine ⟨rfl, [], ?_, ?_⟩; all_goals (repeat' (first | exact rfl | exact trivial | (with_reducible assumption) | refine And.intro ?_ ?_ | omega))); done)
      | (refine bv_false fun hh => ?_; have := hh.1 (xss.getD i []) (getD_mem (by omega)); contradiction)
      | exact bv_true ⟨all_end (by omega) h2, by omega, by omega⟩
      | (exact bv_false fun hh => by have := hh.2; omega)
      | trace_state
set_option maxRecDepth 100000 in
theorem implAre_ret (xss : List (List Int)) (hn : xss.length ≤ 2305843009213693952) : Ret Tryz.prog G 18 [RRule xss] (Bo (decide (areRl xss))) := by
  refine ret_of_body hT Tryz.func18 rfl ?_ rfl
  repeat' (first | (intro h; first | contradiction | omega | (conv => whnf) | skip) | (refine And.intro ?_ ?_) | (refine arith_ok ⟨by omega, by omega⟩ ?_) | (first | (refine draw_quiet hT mixed (by decide +kernel) ?_) | (refine draw_hard hT mixed (by decide +kernel) ?_)) | fail)
  refine loop_rule hT (fun i : Nat => i ≤ xss.length ∧ ∀ r ∈ xss.take i, rowL r) 18 0 [0, 5, 6, 7] (fun i => [RRule xss, RRule xss, I xss.length, I i]) (fun _ => []) (fun i => xss.length - i) (0) (Nat.le_of_ble_eq_true rfl) ?_ ?_ ?_
  · exact ⟨Nat.zero_le _, by simp⟩
  · (refine ⟨rfl, [], ?_, ?_⟩; all_goals (repeat' (first | exact rfl | exact trivial | (with_reducible assumption) | refine And.intro ?_ ?_ | omega)))
  · rintro i ⟨h1, h2⟩
    repeat' (first | (intro h; first | contradiction | omega | (conv => whnf) | skip) | (refine And.intro ?_ ?_) | (refine arith_ok ⟨by omega, by omega⟩ ?_) | (first | (refine draw_quiet hT mixed (by decide +kernel) ?_) | (refine draw_hard hT mixed (by decide +kernel) ?_)) | (refine Ret.goP (isRule_ret _ _ _ _ _ _) rfl ?_) | (refine Ret.goQP (isRule_ret _ _ _ _ _ _) rfl ?_) | (refine Ret.go (length_ret xss) rfl rfl ?_) | (refine Ret.goQ (length_ret xss) rfl rfl ?_) | (refine Ret.goP (inRange_ret _ _ _) rfl ?_) | (refine Ret.goQP (inRange_ret _ _ _) rfl ?_))
    all_goals first | omega | skip
    all_goals first
      | (refine ⟨i + 1, ⟨by omega, all_snoc [] (by omega) h2 h⟩, ?_, by omega⟩; (refine ⟨rfl, [], ?_, ?_⟩; all_goals (repeat' (first | exact rfl | exact trivial | (with_reducible assumption) | refine And.intro ?_ ?_ | omega))); done)
      | (refine bv_false fun hh => ?_; have := hh.1 (xss.getD i []) (getD_mem (by omega)); contradiction)
      | exact bv_true ⟨all_end (by omega) h2, by omega, by omega⟩
      | (exact bv_false fun hh => by have := hh.2; omega)
      | trace_state
/-! ### Which rule applies -/
def sh (e k : Int) : Int := e.fdiv (2 ^ (min k.toNat 64))
theorem sh_in {e k : Int} (h : 1 ≤ e ∧ e ≤ 15) : 0 ≤ sh e k ∧ sh e k ≤ 15 := by
  unfold sh
  have hp : (0 : Int) < 2 ^ (min k.toNat 64) := Int.pow_pos (by decide)
  rw [Int.fdiv_eq_ediv_of_nonneg _ (Int.le_of_lt hp)]
  exact ⟨Int.ediv_nonneg (by omega) (Int.le_of_lt hp), Int.le_trans (Int.ediv_le_self _ (by omega)) (by omega)⟩
theorem and_one {x : Int} (h : 0 ≤ x ∧ x ≤ 15) : bitsI .and .i64 x 1 = x % 2 := by
  obtain ⟨n, rfl⟩ := Int.eq_ofNat_of_zero_le h.1
  have hn : n < 16 := by omega
  have key : ∀ m : Fin 16, bitsI .and .i64 ((m.val : Nat) : Int) 1 = ((m.val : Nat) : Int) % 2 := by decide
  exact key ⟨n, hn⟩
/-- A rule applies to a case. -/
def appl (r : List Int) (a y k : Int) : Prop := (r.getD 0 0 ≤ a ∧ a ≤ r.getD 1 0) ∧ (r.getD 2 0 ≤ y ∧ y ≤ r.getD 3 0) ∧ sh (r.getD 4 0) k % 2 = 1
instance (r : List Int) (a y k : Int) : Decidable (appl r a y k) := by unfold appl; infer_instance
abbrev VCase (a y k : Int) : AV := .agg [I a, I y, I k]
set_option maxRecDepth 100000 in
theorem l23Applies_ret (r : List Int) (a y k : Int) (hr : rowL r) (hk : 0 ≤ k ∧ k ≤ 3) : Ret Tryz.prog G 78 [WRule r, VCase a y k] (Bo (decide (appl r a y k))) := by
  refine ret_of_body hT Tryz.func78 rfl ?_ rfl
  have h4 := sh_in (k := k) hr.2.2.2.2.1
  repeat' (first | (intro h; first | contradiction | omega | (conv => whnf) | skip) | (refine And.intro ?_ ?_) | (refine arith_ok ⟨by omega, by omega⟩ ?_) | (first | (refine draw_quiet hT mixed (by decide +kernel) ?_) | (refine draw_hard hT mixed (by decide +kernel) ?_)) | (refine Ret.goP (l01In_ret _ _ _) rfl ?_) | (refine Ret.goQP (l01In_ret _ _ _) rfl ?_) | (refine eq_ok ?_) | (refine rem_ok h4.1 (by omega) ?_))
  all_goals first | omega | exact bv_true (And.intro (by assumption) (And.intro (by assumption) (by assumption))) | (refine bv_false ?_; rintro ⟨h7, h8, h9⟩; contradiction) | trace_state
set_option maxRecDepth 100000 in
theorem applies_ret (r : List Int) (a y k : Int) (hr : rowL r) (hk : 0 ≤ k ∧ k ≤ 3) : Ret Tryz.prog G 99 [WRule r, VCase a y k] (Bo (decide (appl r a y k))) := by
  refine ret_of_body hT Tryz.func99 rfl ?_ rfl
  have h4 := sh_in (k := k) hr.2.2.2.2.1
  have h5 := and_one h4
  repeat' (first | (intro h; first | contradiction | omega | (conv => whnf) | skip) | (refine And.intro ?_ ?_) | (refine arith_ok ⟨by omega, by omega⟩ ?_) | (first | (refine draw_quiet hT mixed (by decide +kernel) ?_) | (refine draw_hard hT mixed (by decide +kernel) ?_)) | (refine Ret.goP (inRange_ret _ _ _) rfl ?_) | (refine Ret.goQP (inRange_ret _ _ _) rfl ?_) | (refine eq_ok ?_))
  all_goals first | omega | exact bv_true (And.intro (by assumption) (And.intro (by assumption) (h5.symm.trans (by assumption)))) | (refine bv_false ?_; rintro ⟨h7, h8, h9⟩; first | contradiction | exact h (h5.trans h9)) | trace_state
/-- The place of the first rule that applies, or -1. -/
def fst (xss : List (List Int)) (a y k : Int) : Int := if firstOf (fun r => decide (appl r a y k)) xss < xss.length then (firstOf (fun r => decide (appl r a y k)) xss : Int) else -1
theorem fst_in (xss : List (List Int)) (a y k : Int) : fst xss a y k = -1 ∨ (0 ≤ fst xss a y k ∧ fst xss a y k < xss.length) := by
  unfold fst
  split
  · right; omega
  · left; rfl
theorem fst_hit {xss : List (List Int)} {a y k : Int} {i : Nat} (hi : i < xss.length) (h2 : ∀ j, j < i → ¬ appl (xss.getD j []) a y k) (h : appl (xss.getD i []) a y k) : fst xss a y k = i := by
  have : firstOf (fun r => decide (appl r a y k)) xss = i := firstOf_eq [] (by omega) (fun j hj => decide_eq_false (h2 j hj)) fun _ => decide_eq_true h
  unfold fst
  rw [if_pos (by omega), this]
theorem fst_miss {xss : List (List Int)} {a y k : Int} (h2 : ∀ j, j < xss.length → ¬ appl (xss.getD j []) a y k) : fst xss a y k = -1 := by
  have : firstOf (fun r => decide (appl r a y k)) xss = xss.length := firstOf_eq [] (Nat.le_refl _) (fun j hj => decide_eq_false (h2 j hj)) fun h => absurd h (Nat.lt_irrefl _)
  unfold fst
  rw [if_neg (by omega)]
theorem fst_step {p : Nat → Prop} {i : Nat} (h2 : ∀ j, j < i → ¬ p j) (h : ¬ p i) : ∀ j, j < i + 1 → ¬ p j := fun j hj => by
  by_cases hji : j = i
  · rw [hji]; exact h
  · exact h2 j (by omega)
set_option maxRecDepth 100000 in
theorem l23First_ret (xss : List (List Int)) (a y k : Int) (ha : areRl xss) (hk : 0 ≤ k ∧ k ≤ 3) : Ret Tryz.prog G 41 [RRule xss, VCase a y k] (I (fst xss a y k)) := by
  refine ret_of_body hT Tryz.func41 rfl ?_ rfl
  have hn := ha.2.2
  repeat' (first | (intro h; first | contradiction | omega | (conv => whnf) | skip) | (refine And.intro ?_ ?_) | (refine arith_ok ⟨by omega, by omega⟩ ?_) | (first | (refine draw_quiet hT mixed (by decide +kernel) ?_) | (refine draw_hard hT mixed (by decide +kernel) ?_)) | fail)
  refine loop_rule hT (fun i : Nat => i ≤ xss.length ∧ ∀ j, j < i → ¬ appl (xss.getD j []) a y k) 19 1 [0, 3, 5] (fun i => [RRule xss, .ptr 0 0, I i]) (fun _ => [.cells [I a, I y, I k]]) (fun i => xss.length - i) (0) (Nat.le_of_ble_eq_true rfl) ?_ ?_ ?_
  · exact ⟨Nat.zero_le _, fun j h => absurd h (Nat.not_lt_zero j)⟩
  · (first | (refine ⟨rfl, [], ?_, ?_⟩; all_goals (repeat' (first | exact rfl | exact trivial | (with_reducible assumption) | refine And.intro ?_ ?_)); all_goals (first | omega | assumption); done) | (refine ⟨rfl, [some 1], ?_, ?_⟩; all_goals (repeat' (first | exact rfl | exact trivial | (with_reducible assumption) | refine And.intro ?_ ?_)); all_goals (first | omega | assumption); done) | (refine ⟨rfl, [some 2], ?_, ?_⟩; all_goals (repeat' (first | exact rfl | exact trivial | (with_reducible assumption) | refine And.intro ?_ ?_)); all_goals (first | omega | assumption); done) | (refine ⟨rfl, [some 3], ?_, ?_⟩; all_goals (repeat' (first | exact rfl | exact trivial | (with_reducible assumption) | refine And.intro ?_ ?_)); all_goals (first | omega | assumption); done) | (refine ⟨rfl, [some 0], ?_, ?_⟩; all_goals (repeat' (first | exact rfl | exact trivial | (with_reducible assumption) | refine And.intro ?_ ?_)); all_goals (first | omega | assumption); done) | (refine ⟨rfl, [some 4], ?_, ?_⟩; all_goals (repeat' (first | exact rfl | exact trivial | (with_reducible assumption) | refine And.intro ?_ ?_)); all_goals (first | omega | assumption); done) | (refine ⟨rfl, [some 5], ?_, ?_⟩; all_goals (repeat' (first | exact rfl | exact trivial | (with_reducible assumption) | refine And.intro ?_ ?_)); all_goals (first | omega | assumption); done) | (refine ⟨rfl, [some 6], ?_, ?_⟩; all_goals (repeat' (first | exact rfl | exact trivial | (with_reducible assumption) | refine And.intro ?_ ?_)); all_goals (first | omega | assumption); done))
  · rintro i ⟨h1, h2⟩
    by_cases hi : i < xss.length
    · have hr : rowL (xss.getD ((i : Int)).toNat []) := ha.at hi
      repeat' (first | (intro h; first | contradiction | omega | (conv => whnf) | skip) | (refine And.intro ?_ ?_) | (refine arith_ok ⟨by omega, by omega⟩ ?_) | (first | (refine draw_quiet hT mixed (by decide +kernel) ?_) | (refine draw_hard hT mixed (by decide +kernel) ?_)) | (refine Ret.goP (l23Applies_ret (xss.getD ((i : Int)).toNat []) a y k hr hk) rfl ?_) | (refine Ret.goQP (l23Applies_ret (xss.getD ((i : Int)).toNat []) a y k hr hk) rfl ?_))
      all_goals first | omega | skip
      all_goals first
        | (refine ⟨i + 1, ⟨by omega, fst_step h2 h⟩, ?_, by omega⟩; (first | (refine ⟨rfl, [], ?_, ?_⟩; all_goals (repeat' (first | exact rfl | exact trivial | (with_reducible assumption) | refine And.intro ?_ ?_)); all_goals (first | omega | assumption); done) | (refine ⟨rfl, [some 1], ?_, ?_⟩; all_goals (repeat' (first | exact rfl | exact trivial | (with_reducible assumption) | refine And.intro ?_ ?_)); all_goals (first | omega | assumption); done) | (refine ⟨rfl, [some 2], ?_, ?_⟩; all_goals (repeat' (first | exact rfl | exact trivial | (with_reducible assumption) | refine And.intro ?_ ?_)); all_goals (first | omega | assumption); done) | (refine ⟨rfl, [some 3], ?_, ?_⟩; all_goals (repeat' (first | exact rfl | exact trivial | (with_reducible assumption) | refine And.intro ?_ ?_)); all_goals (first | omega | assumption); done) | (refine ⟨rfl, [some 0], ?_, ?_⟩; all_goals (repeat' (first | exact rfl | exact trivial | (with_reducible assumption) | refine And.intro ?_ ?_)); all_goals (first | omega | assumption); done) | (refine ⟨rfl, [some 4], ?_, ?_⟩; all_goals (repeat' (first | exact rfl | exact trivial | (with_reducible assumption) | refine And.intro ?_ ?_)); all_goals (first | omega | assumption); done) | (refine ⟨rfl, [some 5], ?_, ?_⟩; all_goals (repeat' (first | exact rfl | exact trivial | (with_reducible assumption) | refine And.intro ?_ ?_)); all_goals (first | omega | assumption); done) | (refine ⟨rfl, [some 6], ?_, ?_⟩; all_goals (repeat' (first | exact rfl | exact trivial | (with_reducible assumption) | refine And.intro ?_ ?_)); all_goals (first | omega | assumption); done)))
        | exact iv (fst_hit hi h2 h).symm
        | trace_state
    · obtain rfl : i = xss.length := by omega
      repeat' (first | (intro h; first | contradiction | omega | (conv => whnf) | skip) | (refine And.intro ?_ ?_) | (refine arith_ok ⟨by omega, by omega⟩ ?_) | (first | (refine draw_quiet hT mixed (by decide +kernel) ?_) | (refine draw_hard hT mixed (by decide +kernel) ?_)) | fail)
      all_goals first | omega | exact iv (fst_miss h2).symm | trace_state
set_option maxRecDepth 100000 in
theorem decides_ret (xss : List (List Int)) (a y k : Int) (ha : areRl xss) (hk : 0 ≤ k ∧ k ≤ 3) : Ret Tryz.prog G 76 [RRule xss, VCase a y k] (I (fst xss a y k)) := by
  refine ret_of_body hT Tryz.func76 rfl ?_ rfl
  have hn := ha.2.2
  repeat' (first | (intro h; first | contradiction | omega | (conv => whnf) | skip) | (refine And.intro ?_ ?_) | (refine arith_ok ⟨by omega, by omega⟩ ?_) | (first | (refine draw_quiet hT mixed (by decide +kernel) ?_) | (refine draw_hard hT mixed (by decide +kernel) ?_)) | fail)
  refine loop_rule hT (fun i : Nat => i ≤ xss.length ∧ ∀ j, j < i → ¬ appl (xss.getD j []) a y k) 19 1 [0, 3, 7, 8, 9] (fun i => [RRule xss, .ptr 0 0, RRule xss, I xss.length, I i]) (fun _ => [.cells [I a, I y, I k]]) (fun i => xss.length - i) (0) (Nat.le_of_ble_eq_true rfl) ?_ ?_ ?_
  · exact ⟨Nat.zero_le _, fun j h => absurd h (Nat.not_lt_zero j)⟩
  · (first | (refine ⟨rfl, [], ?_, ?_⟩; all_goals (repeat' (first | exact rfl | exact trivial | (with_reducible assumption) | refine And.intro ?_ ?_)); all_goals (first | omega | assumption); done) | (refine ⟨rfl, [some 1], ?_, ?_⟩; all_goals (repeat' (first | exact rfl | exact trivial | (with_reducible assumption) | refine And.intro ?_ ?_)); all_goals (first | omega | assumption); done) | (refine ⟨rfl, [some 2], ?_, ?_⟩; all_goals (repeat' (first | exact rfl | exact trivial | (with_reducible assumption) | refine And.intro ?_ ?_)); all_goals (first | omega | assumption); done) | (refine ⟨rfl, [some 3], ?_, ?_⟩; all_goals (repeat' (first | exact rfl | exact trivial | (with_reducible assumption) | refine And.intro ?_ ?_)); all_goals (first | omega | assumption); done) | (refine ⟨rfl, [some 0], ?_, ?_⟩; all_goals (repeat' (first | exact rfl | exact trivial | (with_reducible assumption) | refine And.intro ?_ ?_)); all_goals (first | omega | assumption); done) | (refine ⟨rfl, [some 4], ?_, ?_⟩; all_goals (repeat' (first | exact rfl | exact trivial | (with_reducible assumption) | refine And.intro ?_ ?_)); all_goals (first | omega | assumption); done) | (refine ⟨rfl, [some 5], ?_, ?_⟩; all_goals (repeat' (first | exact rfl | exact trivial | (with_reducible assumption) | refine And.intro ?_ ?_)); all_goals (first | omega | assumption); done) | (refine ⟨rfl, [some 6], ?_, ?_⟩; all_goals (repeat' (first | exact rfl | exact trivial | (with_reducible assumption) | refine And.intro ?_ ?_)); all_goals (first | omega | assumption); done))
  · rintro i ⟨h1, h2⟩
    by_cases hi : i < xss.length
    · have hr : rowL (xss.getD ((i : Int)).toNat []) := ha.at hi
      repeat' (first | (intro h; first | contradiction | omega | (conv => whnf) | skip) | (refine And.intro ?_ ?_) | (refine arith_ok ⟨by omega, by omega⟩ ?_) | (first | (refine draw_quiet hT mixed (by decide +kernel) ?_) | (refine draw_hard hT mixed (by decide +kernel) ?_)) | (refine Ret.goP (applies_ret (xss.getD ((i : Int)).toNat []) a y k hr hk) rfl ?_) | (refine Ret.goQP (applies_ret (xss.getD ((i : Int)).toNat []) a y k hr hk) rfl ?_))
      all_goals first | omega | skip
      all_goals first
        | (refine ⟨i + 1, ⟨by omega, fst_step h2 h⟩, ?_, by omega⟩; (first | (refine ⟨rfl, [], ?_, ?_⟩; all_goals (repeat' (first | exact rfl | exact trivial | (with_reducible assumption) | refine And.intro ?_ ?_)); all_goals (first | omega | assumption); done) | (refine ⟨rfl, [some 1], ?_, ?_⟩; all_goals (repeat' (first | exact rfl | exact trivial | (with_reducible assumption) | refine And.intro ?_ ?_)); all_goals (first | omega | assumption); done) | (refine ⟨rfl, [some 2], ?_, ?_⟩; all_goals (repeat' (first | exact rfl | exact trivial | (with_reducible assumption) | refine And.intro ?_ ?_)); all_goals (first | omega | assumption); done) | (refine ⟨rfl, [some 3], ?_, ?_⟩; all_goals (repeat' (first | exact rfl | exact trivial | (with_reducible assumption) | refine And.intro ?_ ?_)); all_goals (first | omega | assumption); done) | (refine ⟨rfl, [some 0], ?_, ?_⟩; all_goals (repeat' (first | exact rfl | exact trivial | (with_reducible assumption) | refine And.intro ?_ ?_)); all_goals (first | omega | assumption); done) | (refine ⟨rfl, [some 4], ?_, ?_⟩; all_goals (repeat' (first | exact rfl | exact trivial | (with_reducible assumption) | refine And.intro ?_ ?_)); all_goals (first | omega | assumption); done) | (refine ⟨rfl, [some 5], ?_, ?_⟩; all_goals (repeat' (first | exact rfl | exact trivial | (with_reducible assumption) | refine And.intro ?_ ?_)); all_goals (first | omega | assumption); done) | (refine ⟨rfl, [some 6], ?_, ?_⟩; all_goals (repeat' (first | exact rfl | exact trivial | (with_reducible assumption) | refine And.intro ?_ ?_)); all_goals (first | omega | assumption); done)))
        | exact iv (fst_hit hi h2 h).symm
        | trace_state
    · obtain rfl : i = xss.length := by omega
      repeat' (first | (intro h; first | contradiction | omega | (conv => whnf) | skip) | (refine And.intro ?_ ?_) | (refine arith_ok ⟨by omega, by omega⟩ ?_) | (first | (refine draw_quiet hT mixed (by decide +kernel) ?_) | (refine draw_hard hT mixed (by decide +kernel) ?_)) | fail)
      all_goals first | omega | exact iv (fst_miss h2).symm | trace_state
end Go.Proofs.YtgpgnhadmckmhaaGreatDoor
namespace Go.Proofs.YtgpgnhadmckmhaaGreatDoor
open Go.AE Go.Lib

attribute [local irreducible] CallA LoopA DrawA CallQ arithK quoK remK eqK
/-- Where a split stands. -/
structure SpAt (c : UInt8) (l : List UInt8) (i f : Nat) (out : List (List UInt8)) : Prop where
  le : out.length ≤ i
  st : (i ≤ l.length ∧ f ≤ i ∧ out ++ sp c (l.drop f) = sp c l ∧ ∀ j, f ≤ j → j < i → l.getD j 0 ≠ c) ∨ (i = l.length + 1 ∧ out = sp c l)
theorem sp_cut {c : UInt8} {l : List UInt8} {i f : Nat} (h1 : f ≤ i) (h2 : i < l.length) (h3 : ∀ j, f ≤ j → j < i → l.getD j 0 ≠ c) (h4 : l.getD i 0 = c) : sp c (l.drop f) = (l.take i).drop f :: sp c (l.drop (i + 1)) := by
  have e : l.drop f = (l.take i).drop f ++ c :: l.drop (i + 1) := by
    have : l = l.take i ++ c :: l.drop (i + 1) := by
      conv => lhs; rw [← List.take_append_drop i l, List.drop_eq_getElem_cons h2, ← getD_lt (d := (0 : UInt8)) h2, h4]
    conv => lhs; rw [this, List.drop_append_of_le_length (by rw [List.length_take]; omega)]
  rw [e, sp_hit]
  intro hm
  obtain ⟨k, hk, hx⟩ := mem_getD (0 : UInt8) hm
  rw [List.length_drop, List.length_take] at hk
  refine h3 (f + k) (by omega) (by omega) ?_
  rw [← hx, List.getD_eq_getElem?_getD, List.getD_eq_getElem?_getD, List.getElem?_drop, List.getElem?_take, if_pos (by omega)]
theorem sp_last {c : UInt8} {l : List UInt8} {f : Nat} (h1 : f ≤ l.length) (h3 : ∀ j, f ≤ j → j < l.length → l.getD j 0 ≠ c) : sp c (l.drop f) = [l.drop f] := by
  refine sp_miss fun hm => ?_
  obtain ⟨k, hk, hx⟩ := mem_getD (0 : UInt8) hm
  rw [List.length_drop] at hk
  refine h3 (f + k) (by omega) (by omega) ?_
  rw [← hx, List.getD_eq_getElem?_getD, List.getD_eq_getElem?_getD, List.getElem?_drop]
theorem SpAt.cut {c : UInt8} {l : List UInt8} {i f : Nat} {out : List (List UInt8)} (h : SpAt c l i f out) (h2 : i < l.length) (h4 : l.getD i 0 = c) : SpAt c l (i + 1) (i + 1) (out ++ [(l.take i).drop f]) := by
  obtain ⟨hl, ⟨a1, a2, a3, a4⟩ | ⟨a1, a2⟩⟩ := h
  · refine ⟨by simp; omega, .inl ⟨by omega, Nat.le_refl _, ?_, fun j h5 h6 => by omega⟩⟩
    rw [sp_cut a2 h2 a4 h4] at a3
    rw [List.append_assoc]
    exact a3
  · omega
theorem SpAt.last {c : UInt8} {l : List UInt8} {f : Nat} {out : List (List UInt8)} (h : SpAt c l l.length f out) : SpAt c l (l.length + 1) (l.length + 1) (out ++ [(l.take l.length).drop f]) := by
  obtain ⟨hl, ⟨a1, a2, a3, a4⟩ | ⟨a1, a2⟩⟩ := h
  · refine ⟨by simp; omega, .inr ⟨rfl, ?_⟩⟩
    rw [sp_last a2 a4] at a3
    rw [take_all (Nat.le_refl _)]
    exact a3
  · omega
theorem SpAt.on {c : UInt8} {l : List UInt8} {i f : Nat} {out : List (List UInt8)} (h : SpAt c l i f out) (h2 : i < l.length) (h4 : l.getD i 0 ≠ c) : SpAt c l (i + 1) f out := by
  obtain ⟨hl, ⟨a1, a2, a3, a4⟩ | ⟨a1, a2⟩⟩ := h
  · refine ⟨by omega, .inl ⟨by omega, by omega, a3, fun j h5 h6 => ?_⟩⟩
    by_cases e : j = i
    · subst e; exact h4
    · exact a4 j h5 (by omega)
  · omega
theorem SpAt.f_le {c : UInt8} {l : List UInt8} {i f : Nat} {out : List (List UInt8)} (h : SpAt c l i f out) (h2 : i ≤ l.length) : f ≤ i := by
  obtain ⟨hl, ⟨a1, a2, a3, a4⟩ | ⟨a1, a2⟩⟩ := h
  · exact a2
  · omega
theorem SpAt.fin {c : UInt8} {l : List UInt8} {i f : Nat} {out : List (List UInt8)} (h : SpAt c l i f out) (h2 : l.length < i) : i = l.length + 1 ∧ out = sp c l := by
  obtain ⟨hl, ⟨a1, a2, a3, a4⟩ | ⟨a1, a2⟩⟩ := h
  · omega
  · exact ⟨a1, a2⟩
theorem SpAt.start (c : UInt8) (l : List UInt8) : SpAt c l 0 0 [] := ⟨Nat.le_refl _, .inl ⟨Nat.zero_le _, Nat.le_refl _, by simp, fun j _ h => by omega⟩⟩
theorem u8_eq {a b : UInt8} (h : (a.toNat : Int) = (b.toNat : Int)) : a = b := UInt8.toNat_inj.1 (by omega)
set_option maxHeartbeats 1000000 in
set_option maxRecDepth 100000 in
theorem l01Split_call (l : List UInt8) (c : UInt8) (hn : l.length ≤ 1048576) : CallA Tryz.prog G 54 [Sv l, .v (.int .u8 (c.toNat : Int))] [] (fun v J => v = .sl 0 1 ((sp c l).map B).length ∧ J = [Dstr (sp c l)]) := by
  refine CallA.ends (callA_of_body hT Tryz.func54 rfl ?_)
  repeat' ((first | (conv => whnf) | skip); (first | ((with_reducible intro h); first | contradiction | omega | (conv => whnf) | skip) | (with_reducible refine And.intro ?_ ?_) | ((with_reducible show arithK _ _ _); refine arith_ok ⟨by omega, by omega⟩ ?_) | ((with_reducible show quoK _ _ _ _); refine quo_ok ⟨by omega, by omega⟩ (by omega) (by omega) ?_) | ((with_reducible show remK _ _ _ _); refine rem_ok (by omega) (by omega) ?_) | ((first | (with_reducible show CallA _ _ _ _ _ _) | (with_reducible show CallQ _ _ _ _ _ _)); first | fail) | ((with_reducible show DrawA _ _ _ _ _ _); first | (refine draw_hard hT mixed (by decide +kernel) ?_))))
  all_goals first | rfl | omega | skip
  (conv => whnf)
  refine loop_rule hT (fun q : Nat × Nat × List (List UInt8) => SpAt c l q.1 q.2.1 q.2.2) 36 1 [0, 1, 5, 6, 7] (fun q => [Sv l, .v (.int .u8 (c.toNat : Int)), .sl 1 1 (q.2.2.map B).length, I q.2.1, I q.1]) (fun q => [.dead, .data (.strs (q.2.2.map B))]) (fun q => l.length + 1 - q.1) ((0, 0, [])) (Nat.le_of_ble_eq_true rfl) ?_ ?_ ?_
  · exact SpAt.start c l
  · first | (refine ⟨rfl, [some 0], ?_, ?_⟩; all_goals (repeat' (first | exact rfl | exact trivial | (with_reducible assumption) | refine And.intro ?_ ?_)); all_goals (first | omega | assumption); done) | trace_state
  · rintro ⟨i, f, out⟩ hS
    dsimp only at hS ⊢
    have hsz := B_size l
    have hby := byteAt_B l i
    have hle := hS.le
    have hc0 : 0 ≤ (c.toNat : Int) ∧ (c.toNat : Int) ≤ 255 := by have := c.toNat_lt; omega
    by_cases hi : i < l.length
    · have hf := hS.f_le (by omega)
      by_cases hc : l.getD i 0 = c
      · have hbc : byteAt (B l) ((i : Int)).toNat = (c.toNat : Int) := by rw [← hc]; exact hby
        have hx := B_extract l f i
        have hsn : (out ++ [(l.take i).drop f]).map B = out.map B ++ [(B l).extract f i] := by rw [List.map_append, hx]; rfl
        repeat' ((first | (conv => whnf) | skip); (first | ((with_reducible intro h); first | contradiction | omega | (conv => whnf) | skip) | (with_reducible refine And.intro ?_ ?_) | ((with_reducible show arithK _ _ _); refine arith_ok ⟨by omega, by omega⟩ ?_) | ((with_reducible show quoK _ _ _ _); refine quo_ok ⟨by omega, by omega⟩ (by omega) (by omega) ?_) | ((with_reducible show remK _ _ _ _); refine rem_ok (by omega) (by omega) ?_) | ((first | (with_reducible show CallA _ _ _ _ _ _) | (with_reducible show CallQ _ _ _ _ _ _)); first | fail) | ((with_reducible show DrawA _ _ _ _ _ _); first | (refine draw_hard hT mixed (by decide +kernel) ?_))))
        all_goals first | rfl | omega | (show (_ : Nat) ≤ _; simp; omega) | (show (i : Int) < ((B l).size : Int); omega) | skip
        all_goals ((conv => whnf); first | (refine ⟨(i + 1, i + 1, out ++ [(l.take i).drop f]), hS.cut hi hc, ?_, by dsimp only; omega⟩; (refine ⟨rfl, [some 3], ?_, ?_⟩; all_goals (repeat' (first | exact rfl | exact trivial | (with_reducible assumption) | refine And.intro ?_ ?_)); all_goals (first | omega | assumption | ((repeat' (first | ((try dsimp only); rw [hsn]; exact rfl) | exact rfl | exact trivial | (with_reducible assumption) | refine And.intro ?_ ?_ | omega | assumption)); done)); done)) | (show (f : Int) ≤ _; omega) | trace_state)
      · have hbc : byteAt (B l) ((i : Int)).toNat ≠ (c.toNat : Int) := fun e => hc (u8_eq (hby.symm.trans e))
        repeat' ((first | (conv => whnf) | skip); (first | ((with_reducible intro h); first | contradiction | omega | (conv => whnf) | skip) | (with_reducible refine And.intro ?_ ?_) | ((with_reducible show arithK _ _ _); refine arith_ok ⟨by omega, by omega⟩ ?_) | ((with_reducible show quoK _ _ _ _); refine quo_ok ⟨by omega, by omega⟩ (by omega) (by omega) ?_) | ((with_reducible show remK _ _ _ _); refine rem_ok (by omega) (by omega) ?_) | ((first | (with_reducible show CallA _ _ _ _ _ _) | (with_reducible show CallQ _ _ _ _ _ _)); first | fail) | ((with_reducible show DrawA _ _ _ _ _ _); first | (refine draw_hard hT mixed (by decide +kernel) ?_))))
        all_goals first | rfl | omega | (show (i : Int) < ((B l).size : Int); omega) | skip
        all_goals ((conv => whnf); first | (refine ⟨(i + 1, f, out), hS.on hi hc, ?_, by dsimp only; omega⟩; (refine ⟨rfl, [some 1], ?_, ?_⟩; all_goals (repeat' (first | exact rfl | exact trivial | (with_reducible assumption) | refine And.intro ?_ ?_)); all_goals (first | omega | assumption); done)) | trace_state)
    · by_cases he : i = l.length
      · subst he
        have hf := hS.f_le (Nat.le_refl _)
        have hx := B_extract l f l.length
        have hsn : (out ++ [(l.take l.length).drop f]).map B = out.map B ++ [(B l).extract f l.length] := by rw [List.map_append, hx]; rfl
        repeat' ((first | (conv => whnf) | skip); (first | ((with_reducible intro h); first | contradiction | omega | (conv => whnf) | skip) | (with_reducible refine And.intro ?_ ?_) | ((with_reducible show arithK _ _ _); refine arith_ok ⟨by omega, by omega⟩ ?_) | ((with_reducible show quoK _ _ _ _); refine quo_ok ⟨by omega, by omega⟩ (by omega) (by omega) ?_) | ((with_reducible show remK _ _ _ _); refine rem_ok (by omega) (by omega) ?_) | ((first | (with_reducible show CallA _ _ _ _ _ _) | (with_reducible show CallQ _ _ _ _ _ _)); first | fail) | ((with_reducible show DrawA _ _ _ _ _ _); first | (refine draw_hard hT mixed (by decide +kernel) ?_))))
        all_goals first | rfl | omega | (show (_ : Nat) ≤ _; simp; omega) | skip
        all_goals ((conv => whnf); first | (refine ⟨(l.length + 1, l.length + 1, out ++ [(l.take l.length).drop f]), hS.last, ?_, by dsimp only; omega⟩; (refine ⟨rfl, [some 3], ?_, ?_⟩; all_goals (repeat' (first | exact rfl | exact trivial | (with_reducible assumption) | refine And.intro ?_ ?_)); all_goals (first | omega | assumption | ((repeat' (first | ((try dsimp only); rw [hsn]; exact rfl) | exact rfl | exact trivial | (with_reducible assumption) | refine And.intro ?_ ?_ | omega | assumption)); done)); done)) | (show (f : Int) ≤ _; omega) | trace_state)
      · obtain ⟨e1, e2⟩ := hS.fin (by omega)
        subst e1 e2
        repeat' ((first | (conv => whnf) | skip); (first | ((with_reducible intro h); first | contradiction | omega | (conv => whnf) | skip) | (with_reducible refine And.intro ?_ ?_) | ((with_reducible show arithK _ _ _); refine arith_ok ⟨by omega, by omega⟩ ?_) | ((with_reducible show quoK _ _ _ _); refine quo_ok ⟨by omega, by omega⟩ (by omega) (by omega) ?_) | ((with_reducible show remK _ _ _ _); refine rem_ok (by omega) (by omega) ?_) | ((first | (with_reducible show CallA _ _ _ _ _ _) | (with_reducible show CallQ _ _ _ _ _ _)); first | fail) | ((with_reducible show DrawA _ _ _ _ _ _); first | (refine draw_hard hT mixed (by decide +kernel) ?_))))
        all_goals first | rfl | omega | skip
        all_goals ((conv => whnf); first | (refine ⟨[some 1], .sl 0 1 ((sp c l).map B).length, [Dstr (sp c l)], ?_, ?_, ?_⟩; all_goals (repeat' (first | exact rfl | exact trivial | (with_reducible assumption) | refine And.intro ?_ ?_)); all_goals (first | omega | assumption); done) | trace_state)
end Go.Proofs.YtgpgnhadmckmhaaGreatDoor
namespace Go.Proofs.YtgpgnhadmckmhaaGreatDoor
open Go.AE Go.Lib

attribute [local irreducible] CallA LoopA DrawA CallQ arithK quoK remK eqK
theorem val_lt : ∀ (l : List UInt8) (a : Nat), (∀ b ∈ l, dgt b) → valF a l < (a + 1) * 10 ^ l.length
  | [], a, _ => by simp [valF]
  | b :: r, a, h => by
    have hb := h b (by simp)
    have ih := val_lt r (a * 10 + (b.toNat - 48)) fun x hx => h x (by simp [hx])
    have e : valF a (b :: r) = valF (a * 10 + (b.toNat - 48)) r := rfl
    rw [e, List.length_cons, Nat.pow_succ]
    have hm : (a * 10 + (b.toNat - 48) + 1) * 10 ^ r.length ≤ ((a + 1) * 10) * 10 ^ r.length := Nat.mul_le_mul_right _ (by unfold dgt at hb; omega)
    have e2 : (a + 1) * (10 ^ r.length * 10) = ((a + 1) * 10) * 10 ^ r.length := by
      rw [Nat.mul_comm (10 ^ r.length) 10, Nat.mul_assoc]
    omega
theorem val_13 {l : List UInt8} (h : ∀ b ∈ l, dgt b) (hl : l.length ≤ 13) : val l ≤ 9999999999999 := by
  have h1 := val_lt l 0 h
  have h2 : 10 ^ l.length ≤ 10 ^ 13 := Nat.pow_le_pow_right (by decide) hl
  unfold val
  omega
theorem val_take {l : List UInt8} {i : Nat} (h : i < l.length) : val (l.take (i + 1)) = val (l.take i) * 10 + ((l.getD i 0).toNat - 48) := by
  rw [take_snoc 0 h]
  exact valF_snoc _ _ _
/-- At most thirteen digits. -/
def dgOk (l : List UInt8) : Prop := (1 ≤ l.length ∧ l.length ≤ 13) ∧ ∀ b ∈ l, dgt b
instance (b : UInt8) : Decidable (dgt b) := by unfold dgt; infer_instance
instance (l : List UInt8) : Decidable (dgOk l) := by unfold dgOk; infer_instance
def digN (l : List UInt8) : Int := if dgOk l then (val l : Int) else 0
def digB (l : List UInt8) : Prop := dgOk l ∧ decDigits (val l) = l
instance (l : List UInt8) : Decidable (digB l) := by unfold digB; infer_instance
theorem getD_dgt {l : List UInt8} {i : Nat} (h : i < l.length) (hall : ∀ b ∈ l.take i, dgt b) (hd : dgt (l.getD i 0)) : ∀ b ∈ l.take (i + 1), dgt b := all_snoc (0 : UInt8) h hall hd
theorem digN_in (l : List UInt8) : 0 ≤ digN l ∧ digN l ≤ 9999999999999 := by
  unfold digN
  split
  · rename_i h; have := val_13 h.2 h.1.2; omega
  · omega
set_option maxHeartbeats 1000000 in
set_option maxRecDepth 100000 in
theorem l01Digits_ret (l : List UInt8) (hn : l.length ≤ 1048576) : Ret Tryz.prog G 64 [Sv l] (.tup [I (digN l), Bo (decide (digB l))]) := by
  refine ret_of_body hT Tryz.func64 rfl ?_ rfl
  have hsz := B_size l
  by_cases hl : 1 ≤ l.length ∧ l.length ≤ 13
  · repeat' ((first | (conv => whnf) | skip); (first | ((with_reducible intro h); first | contradiction | omega | (conv => whnf) | skip) | (with_reducible refine And.intro ?_ ?_) | ((with_reducible show arithK _ _ _); refine arith_ok ⟨by omega, by omega⟩ ?_) | ((with_reducible show quoK _ _ _ _); refine quo_ok ⟨by omega, by omega⟩ (by omega) (by omega) ?_) | ((with_reducible show remK _ _ _ _); refine rem_ok (by omega) (by omega) ?_) | ((first | (with_reducible show CallA _ _ _ _ _ _) | (with_reducible show CallQ _ _ _ _ _ _)); first | fail) | ((with_reducible show DrawA _ _ _ _ _ _); first | (refine draw_hard hT mixed (by decide +kernel) ?_))))
    all_goals first | rfl | omega | (exfalso; have h2 := h; rw [hsz] at h2; omega) | skip
    (conv => whnf)
    refine loop_rule hT (fun i : Nat => i ≤ l.length ∧ ∀ b ∈ l.take i, dgt b) 43 0 [0, 4, 5] (fun i => [Sv l, I (val (l.take i) : Int), I i]) (fun _ => []) (fun i => l.length - i) (0) (Nat.le_of_ble_eq_true rfl) ?_ ?_ ?_
    · exact ⟨Nat.zero_le _, by simp⟩
    · first | (refine ⟨rfl, [], ?_, ?_⟩; all_goals (repeat' (first | exact rfl | exact trivial | (with_reducible assumption) | refine And.intro ?_ ?_)); all_goals (first | omega | assumption); done) | trace_state
    · rintro i ⟨h1, h2⟩
      have hv := val_13 h2 (by rw [List.length_take]; omega)
      have hby := byteAt_B l i
      by_cases hi : i < l.length
      · have hc0 : 0 ≤ ((l.getD i 0).toNat : Int) ∧ ((l.getD i 0).toNat : Int) ≤ 255 := by have := (l.getD i 0).toNat_lt; omega
        have hbc : byteAt (B l) ((i : Int)).toNat = ((l.getD i 0).toNat : Int) := hby
        have hvt := val_take hi
        by_cases hd : dgt (l.getD i 0)
        · have h3 := getD_dgt hi h2 hd
          have hv3 := val_13 h3 (by rw [List.length_take]; omega)
          unfold dgt at hd
          repeat' ((first | (conv => whnf) | skip); (first | ((with_reducible intro h); first | contradiction | omega | (conv => whnf) | skip) | (with_reducible refine And.intro ?_ ?_) | ((with_reducible show arithK _ _ _); refine arith_ok ⟨by omega, by omega⟩ ?_) | ((with_reducible show quoK _ _ _ _); refine quo_ok ⟨by omega, by omega⟩ (by omega) (by omega) ?_) | ((with_reducible show remK _ _ _ _); refine rem_ok (by omega) (by omega) ?_) | ((first | (with_reducible show CallA _ _ _ _ _ _) | (with_reducible show CallQ _ _ _ _ _ _)); first | fail) | ((with_reducible show DrawA _ _ _ _ _ _); first | (refine draw_hard hT mixed (by decide +kernel) ?_))))
          all_goals first | rfl | omega | (show (i : Int) < ((B l).size : Int); omega) | (exfalso; have h5 := h; rw [hbc] at h5; omega) | skip
          all_goals ((conv => whnf); first | (refine ⟨i + 1, ⟨by omega, h3⟩, ?_, by omega⟩; (refine ⟨rfl, [], ?_, ?_⟩; all_goals (repeat' (first | exact rfl | exact trivial | (with_reducible assumption) | refine And.intro ?_ ?_)); all_goals (first | omega | assumption); done)) | trace_state)
        · have hno : ¬ dgOk l := fun hh => hd (hh.2 _ (getD_mem hi))
          have e1 : digN l = 0 := if_neg hno
          have e2 : decide (digB l) = false := decide_eq_false fun hh => hno hh.1
          rw [e1, e2]
          unfold dgt at hd
          repeat' ((first | (conv => whnf) | skip); (first | ((with_reducible intro h); first | contradiction | omega | (conv => whnf) | skip) | (with_reducible refine And.intro ?_ ?_) | ((with_reducible show arithK _ _ _); refine arith_ok ⟨by omega, by omega⟩ ?_) | ((with_reducible show quoK _ _ _ _); refine quo_ok ⟨by omega, by omega⟩ (by omega) (by omega) ?_) | ((with_reducible show remK _ _ _ _); refine rem_ok (by omega) (by omega) ?_) | ((first | (with_reducible show CallA _ _ _ _ _ _) | (with_reducible show CallQ _ _ _ _ _ _)); first | fail) | ((with_reducible show DrawA _ _ _ _ _ _); first | (refine draw_hard hT mixed (by decide +kernel) ?_))))
          all_goals first | rfl | omega | (show (i : Int) < ((B l).size : Int); omega) | (exfalso; omega) | trace_state
      · obtain rfl : i = l.length := by omega
        have hall : l.take l.length = l := take_all (Nat.le_refl _)
        rw [hall] at h2 hv ⊢
        have hok : dgOk l := ⟨hl, h2⟩
        have e1 : digN l = (val l : Int) := if_pos hok
        rw [e1]
        have hdc := l01Dec_ret (val l) (by omega)
        repeat' ((first | (conv => whnf) | skip); (first | ((with_reducible intro h); first | contradiction | omega | (conv => whnf) | skip) | (with_reducible refine And.intro ?_ ?_) | ((with_reducible show arithK _ _ _); refine arith_ok ⟨by omega, by omega⟩ ?_) | ((with_reducible show quoK _ _ _ _); refine quo_ok ⟨by omega, by omega⟩ (by omega) (by omega) ?_) | ((with_reducible show remK _ _ _ _); refine rem_ok (by omega) (by omega) ?_) | ((first | (with_reducible show CallA _ _ _ _ _ _) | (with_reducible show CallQ _ _ _ _ _ _)); first | (refine Ret.go (hdc) rfl rfl ?_) | (refine Ret.goQ (hdc) rfl rfl ?_)) | ((with_reducible show DrawA _ _ _ _ _ _); first | (refine draw_hard hT mixed (by decide +kernel) ?_))))
        all_goals first | rfl | omega | exact congrArg (fun b => AV.tup [I (val l), Bo b]) (decide_eq_true ⟨hok, B_inj.1 (by assumption)⟩).symm | exact congrArg (fun b => AV.tup [I (val l), Bo b]) (decide_eq_false fun hh : digB l => h (B_inj.2 hh.2)).symm | trace_state
  · have hno : ¬ dgOk l := fun hh => hl hh.1
    have e1 : digN l = 0 := if_neg hno
    have e2 : decide (digB l) = false := decide_eq_false fun hh => hno hh.1
    rw [e1, e2]
    repeat' ((first | (conv => whnf) | skip); (first | ((with_reducible intro h); first | contradiction | omega | (conv => whnf) | skip) | (with_reducible refine And.intro ?_ ?_) | ((with_reducible show arithK _ _ _); refine arith_ok ⟨by omega, by omega⟩ ?_) | ((with_reducible show quoK _ _ _ _); refine quo_ok ⟨by omega, by omega⟩ (by omega) (by omega) ?_) | ((with_reducible show remK _ _ _ _); refine rem_ok (by omega) (by omega) ?_) | ((first | (with_reducible show CallA _ _ _ _ _ _) | (with_reducible show CallQ _ _ _ _ _ _)); first | fail) | ((with_reducible show DrawA _ _ _ _ _ _); first | (refine draw_hard hT mixed (by decide +kernel) ?_))))
    all_goals first | rfl | omega | (exfalso; omega) | trace_state
end Go.Proofs.YtgpgnhadmckmhaaGreatDoor
namespace Go.Proofs.YtgpgnhadmckmhaaGreatDoor
open Go.AE Go.Lib

attribute [local irreducible] CallA LoopA DrawA CallQ arithK quoK remK eqK
set_option maxRecDepth 100000 in
theorem decimal_ret (n : Int) (h : -9223372036854775808 ≤ n ∧ n ≤ 9223372036854775807) : Ret Tryz.prog G 89 [I n] (Sv (itoa n)) := by
  refine ret_of_body hT Tryz.func89 rfl ?_ rfl
  repeat' ((first | (conv => whnf) | skip); (first | ((with_reducible intro h); first | contradiction | omega | (conv => whnf) | skip) | (with_reducible refine And.intro ?_ ?_) | ((with_reducible show arithK _ _ _); refine arith_ok ⟨by omega, by omega⟩ ?_) | ((with_reducible show quoK _ _ _ _); refine quo_ok ⟨by omega, by omega⟩ (by omega) (by omega) ?_) | ((with_reducible show remK _ _ _ _); refine rem_ok (by omega) (by omega) ?_) | ((first | (with_reducible show CallA _ _ _ _ _ _) | (with_reducible show CallQ _ _ _ _ _ _)); first | (refine Ret.go (formatInt_ret n h) rfl rfl ?_) | (refine Ret.goQ (formatInt_ret n h) rfl rfl ?_)) | ((with_reducible show DrawA _ _ _ _ _ _); first | (refine draw_hard hT mixed (by decide +kernel) ?_))))
  all_goals first | rfl | omega | trace_state
abbrev txts (xs : List Int) : List (List UInt8) := xs.map itoa
theorem txts_snoc {xs : List Int} {i : Nat} (h : i < xs.length) : (txts (xs.take (i + 1))).map B = (txts (xs.take i)).map B ++ [B (itoa (xs.getD i 0))] := by
  rw [take_snoc 0 h, txts, List.map_append, List.map_append]; rfl
theorem join_len {xs : List Int} {s : List UInt8} (hn : xs.length ≤ 1048576) (hx : ∀ x ∈ xs, okI x) (hs : s.length ≤ 8) : (join (xs.map itoa) s).length ≤ 30408704 := by
  have := jn_len hx hs xs.length (Nat.le_refl _)
  rw [jn_all] at this
  omega
set_option maxHeartbeats 1000000 in
set_option maxRecDepth 100000 in
theorem joined_ret (xs : List Int) (hn : xs.length ≤ 1048576) (hx : ∀ x ∈ xs, okI x) : Ret Tryz.prog G 79 [Ri xs] (Sv (join (xs.map itoa) [32])) := by
  have hjl := join_len (s := [32]) hn hx (by decide)
  refine ret_of_body hT Tryz.func79 rfl ?_ rfl
  repeat' ((first | (conv => whnf) | skip); (first | ((with_reducible intro h); first | contradiction | omega | (conv => whnf) | skip) | (with_reducible refine And.intro ?_ ?_) | ((with_reducible show arithK _ _ _); refine arith_ok ⟨by omega, by omega⟩ ?_) | ((with_reducible show quoK _ _ _ _); refine quo_ok ⟨by omega, by omega⟩ (by omega) (by omega) ?_) | ((with_reducible show remK _ _ _ _); refine rem_ok (by omega) (by omega) ?_) | ((first | (with_reducible show CallA _ _ _ _ _ _) | (with_reducible show CallQ _ _ _ _ _ _)); first | fail) | ((with_reducible show DrawA _ _ _ _ _ _); first | (refine draw_hard hT mixed (by decide +kernel) ?_))))
  all_goals first | rfl | omega | skip
  (conv => whnf)
  refine loop_rule hT (fun i : Nat => i ≤ xs.length) 21 1 [0, 3, 7, 8, 9] (fun i => [Ri xs, .sl 1 1 ((txts (xs.take i)).map B).length, Ri xs, I xs.length, I i]) (fun i => [.dead, .data (.strs ((txts (xs.take i)).map B))]) (fun i => xs.length - i) (0) (Nat.le_of_ble_eq_true rfl) ?_ ?_ ?_
  · exact Nat.zero_le _
  · first | (refine ⟨rfl, [some 0], ?_, ?_⟩; all_goals (repeat' (first | exact rfl | exact trivial | (with_reducible assumption) | refine And.intro ?_ ?_)); all_goals (first | omega | assumption); done) | trace_state
  · intro i h1
    have hlen : ((txts (xs.take i)).map B).length = i := by simp; omega
    by_cases hi : i < xs.length
    · have hxi := hx _ (getD_mem (d := (0 : Int)) hi)
      have hsn := txts_snoc hi
      have hd := decimal_ret (xs.getD ((i : Int)).toNat 0) (by have h2 : okI (xs.getD ((i : Int)).toNat 0) := hxi; unfold okI at h2; omega)
      repeat' ((first | (conv => whnf) | skip); (first | ((with_reducible intro h); first | contradiction | omega | (conv => whnf) | skip) | (with_reducible refine And.intro ?_ ?_) | ((with_reducible show arithK _ _ _); refine arith_ok ⟨by omega, by omega⟩ ?_) | ((with_reducible show quoK _ _ _ _); refine quo_ok ⟨by omega, by omega⟩ (by omega) (by omega) ?_) | ((with_reducible show remK _ _ _ _); refine rem_ok (by omega) (by omega) ?_) | ((first | (with_reducible show CallA _ _ _ _ _ _) | (with_reducible show CallQ _ _ _ _ _ _)); first | (refine Ret.go (hd) rfl rfl ?_) | (refine Ret.goQ (hd) rfl rfl ?_)) | ((with_reducible show DrawA _ _ _ _ _ _); first | (refine draw_hard hT mixed (by decide +kernel) ?_))))
      all_goals first | rfl | omega | (show _ < xs.length; omega) | (show (_ : Nat) ≤ _; simp; omega) | skip
      all_goals ((conv => whnf); first | (refine ⟨i + 1, by omega, ?_, by omega⟩; (refine ⟨rfl, [some 3], ?_, ?_⟩; all_goals (repeat' (first | exact rfl | exact trivial | (with_reducible assumption) | refine And.intro ?_ ?_)); all_goals (first | omega | assumption | ((repeat' (first | (rw [hsn]; exact rfl) | exact rfl | exact trivial | (with_reducible assumption) | refine And.intro ?_ ?_ | omega | assumption)); done)); done)) | trace_state)
    · obtain rfl : i = xs.length := by omega
      have hall : xs.take xs.length = xs := take_all (Nat.le_refl _)
      rw [hall]
      have hj := join_ret (txts xs) [32] (by rw [List.length_map]; omega) (show (join (xs.map itoa) [32]).length ≤ _ by omega)
      repeat' ((first | (conv => whnf) | skip); (first | ((with_reducible intro h); first | contradiction | omega | (conv => whnf) | skip) | (with_reducible refine And.intro ?_ ?_) | ((with_reducible show arithK _ _ _); refine arith_ok ⟨by omega, by omega⟩ ?_) | ((with_reducible show quoK _ _ _ _); refine quo_ok ⟨by omega, by omega⟩ (by omega) (by omega) ?_) | ((with_reducible show remK _ _ _ _); refine rem_ok (by omega) (by omega) ?_) | ((first | (with_reducible show CallA _ _ _ _ _ _) | (with_reducible show CallQ _ _ _ _ _ _)); first | (refine Ret.use (hj) (by first | ((repeat' (first | exact rfl | exact trivial | (with_reducible assumption) | refine And.intro ?_ ?_ | omega | assumption)); done) | fail) ?_) | (refine Ret.useQ (hj) (by first | ((repeat' (first | exact rfl | exact trivial | (with_reducible assumption) | refine And.intro ?_ ?_ | omega | assumption)); done) | fail) rfl ?_)) | ((with_reducible show DrawA _ _ _ _ _ _); first | (refine draw_hard hT mixed (by decide +kernel) ?_))))
      all_goals first | rfl | omega | trace_state
/-- The text of a rule. -/
def rt (r : List Int) : List UInt8 := join (r.map itoa) [44]
/-- The text of statutes. -/
def stx (xss : List (List Int)) : List UInt8 := join (xss.map rt) [59]
theorem rowL_len {r : List Int} (h : r.length = 6) : [r.getD 0 0, r.getD 1 0, r.getD 2 0, r.getD 3 0, r.getD 4 0, r.getD 5 0] = r := etaRule h
theorem rowL_ok {r : List Int} (hl : r.length = 6) (h : rowL r) : ∀ x ∈ r, okI x := by
  intro x hx
  obtain ⟨a, b, c, d, e, f, rfl⟩ := lenRule hl
  have h' : rowRl a b c d e f := h
  unfold rowRl at h'
  simp only [List.mem_cons, List.not_mem_nil, or_false] at hx
  unfold okI
  omega
theorem comma_blank {xs : List Int} : replaceAll (join (xs.map itoa) [32]) [32] [44] = join (xs.map itoa) [44] := by
  rw [replaceAll_map (by decide)]
  induction xs with
  | nil => rfl
  | cons x r ih =>
    have hk : (itoa x).map (fun b => if b = 32 then 44 else b) = itoa x := by
      conv => rhs; rw [← List.map_id (itoa x)]
      refine List.map_congr_left fun b hb => if_neg ?_
      rintro rfl
      rcases itoa_bytes hb with h | h
      · exact absurd h (by decide)
      · exact absurd h.1 (by decide)
    cases r with
    | nil => simpa [join_one] using hk
    | cons y r =>
      rw [List.map_cons, List.map_cons, join_cons2, join_cons2, List.map_append, List.map_append, hk]
      rw [List.map_cons] at ih
      rw [ih]
      rfl
theorem rt_len {r : List Int} (hl : r.length = 6) (h : rowL r) : (rt r).length ≤ 174 := by
  have := jn_len (s := [44]) (rowL_ok hl h) (by decide) r.length (Nat.le_refl _)
  rw [jn_all] at this
  unfold rt
  omega
theorem join_le {ws : List (List UInt8)} {s : List UInt8} {m : Nat} (h : ∀ w ∈ ws, w.length ≤ m) : (join ws s).length ≤ (m + s.length) * ws.length := by
  induction ws with
  | nil => simp [join_nil]
  | cons x r ih =>
    have hx := h x (by simp)
    have hr := ih fun w hw => h w (by simp [hw])
    cases r with
    | nil => rw [join_one]; simp; omega
    | cons y r =>
      rw [join_cons2, List.length_append, List.length_append, List.length_cons, Nat.mul_succ]
      omega
theorem stx_len {xss : List (List Int)} (hr : ∀ r ∈ xss, r.length = 6) (h : areRl xss) : (stx xss).length ≤ 3500 := by
  have : (stx xss).length ≤ (174 + [(59 : UInt8)].length) * (xss.map rt).length := join_le fun w hw => by
    obtain ⟨r, hr1, rfl⟩ := List.mem_map.1 hw
    exact rt_len (hr r hr1) (h.1 r hr1)
  rw [List.length_map] at this
  have := h.2.2
  simp at *
  omega
theorem rts_snoc {xss : List (List Int)} {i : Nat} (h : i < xss.length) : ((xss.take (i + 1)).map rt).map B = ((xss.take i).map rt).map B ++ [B (rt (xss.getD i []))] := by
  rw [take_snoc [] h, List.map_append, List.map_append]; rfl
set_option maxHeartbeats 1000000 in
set_option maxRecDepth 100000 in
theorem implText_ret (xss : List (List Int)) (hr : ∀ r ∈ xss, r.length = 6) (ha : areRl xss) : Ret Tryz.prog G 48 [RRule xss] (Sv (stx xss)) := by
  have hall := stx_len hr ha
  have h20 := ha.2.2
  refine ret_of_body hT Tryz.func48 rfl ?_ rfl
  repeat' ((first | (conv => whnf) | skip); (first | ((with_reducible intro h); first | contradiction | omega | (conv => whnf) | skip) | (with_reducible refine And.intro ?_ ?_) | ((with_reducible show arithK _ _ _); refine arith_ok ⟨by omega, by omega⟩ ?_) | ((with_reducible show quoK _ _ _ _); refine quo_ok ⟨by omega, by omega⟩ (by omega) (by omega) ?_) | ((with_reducible show remK _ _ _ _); refine rem_ok (by omega) (by omega) ?_) | ((first | (with_reducible show CallA _ _ _ _ _ _) | (with_reducible show CallQ _ _ _ _ _ _)); first | fail) | ((with_reducible show DrawA _ _ _ _ _ _); first | (refine draw_hard hT mixed (by decide +kernel) ?_))))
  all_goals first | rfl | omega | skip
  (conv => whnf)
  refine loop_rule hT (fun i : Nat => i ≤ xss.length) 34 1 [0, 3, 7, 8, 9] (fun i => [RRule xss, .sl 1 1 (((xss.take i).map rt).map B).length, RRule xss, I xss.length, I i]) (fun i => [.dead, .data (.strs (((xss.take i).map rt).map B))]) (fun i => xss.length - i) (0) (Nat.le_of_ble_eq_true rfl) ?_ ?_ ?_
  · exact Nat.zero_le _
  · first | (refine ⟨rfl, [some 0], ?_, ?_⟩; all_goals (repeat' (first | exact rfl | exact trivial | (with_reducible assumption) | refine And.intro ?_ ?_)); all_goals (first | omega | assumption); done) | trace_state
  · intro i h1
    have hlen : (((xss.take i).map rt).map B).length = i := by simp; omega
    by_cases hi : i < xss.length
    · have hm : xss.getD i [] ∈ xss := getD_mem hi
      have hsn := rts_snoc hi
      have hok := rowL_ok (hr _ hm) (ha.at hi)
      have hj := joined_ret (xss.getD ((i : Int)).toNat []) (by show (xss.getD i []).length ≤ _; rw [hr _ hm]; decide) hok
      have hj : Ret Tryz.prog G 79 [Ri [(xss.getD ((i : Int)).toNat []).getD 0 0, (xss.getD ((i : Int)).toNat []).getD 1 0, (xss.getD ((i : Int)).toNat []).getD 2 0, (xss.getD ((i : Int)).toNat []).getD 3 0, (xss.getD ((i : Int)).toNat []).getD 4 0, (xss.getD ((i : Int)).toNat []).getD 5 0]] (Sv (join ((xss.getD ((i : Int)).toNat []).map itoa) [32])) := by
        rw [etaRule (hr (xss.getD ((i : Int)).toNat []) hm)]
        exact hj
      have hrl := replaceAll_ret (join ((xss.getD ((i : Int)).toNat []).map itoa) [32]) 32 44 (by have := join_len (s := [32]) (xs := xss.getD ((i : Int)).toNat []) (by show (xss.getD i []).length ≤ _; rw [hr _ hm]; decide) hok (by decide); omega)
      rw [comma_blank] at hrl
      repeat' ((first | (conv => whnf) | skip); (first | ((with_reducible intro h); first | contradiction | omega | (conv => whnf) | skip) | (with_reducible refine And.intro ?_ ?_) | ((with_reducible show arithK _ _ _); refine arith_ok ⟨by omega, by omega⟩ ?_) | ((with_reducible show quoK _ _ _ _); refine quo_ok ⟨by omega, by omega⟩ (by omega) (by omega) ?_) | ((with_reducible show remK _ _ _ _); refine rem_ok (by omega) (by omega) ?_) | ((first | (with_reducible show CallA _ _ _ _ _ _) | (with_reducible show CallQ _ _ _ _ _ _)); first | (refine Ret.use (hj) (by first | ((repeat' (first | exact rfl | exact trivial | (with_reducible assumption) | refine And.intro ?_ ?_ | omega | assumption)); done) | fail) ?_) | (refine Ret.useQ (hj) (by first | ((repeat' (first | exact rfl | exact trivial | (with_reducible assumption) | refine And.intro ?_ ?_ | omega | assumption)); done) | fail) rfl ?_) | (refine Ret.go (hrl) rfl rfl ?_) | (refine Ret.goQ (hrl) rfl rfl ?_)) | ((with_reducible show DrawA _ _ _ _ _ _); first | (refine draw_hard hT mixed (by decide +kernel) ?_))))
      all_goals first | rfl | omega | (show _ < xss.length; omega) | (show (_ : Nat) ≤ _; simp; omega) | skip
      all_goals ((conv => whnf); first | (refine ⟨i + 1, by omega, ?_, by omega⟩; (refine ⟨rfl, [some 5], ?_, ?_⟩; all_goals (repeat' (first | exact rfl | exact trivial | (with_reducible assumption) | refine And.intro ?_ ?_)); all_goals (first | omega | assumption | ((repeat' (first | (rw [hsn]; exact rfl) | exact rfl | exact trivial | (with_reducible assumption) | refine And.intro ?_ ?_ | omega | assumption)); done)); done)) | trace_state)
    · obtain rfl : i = xss.length := by omega
      have hal : xss.take xss.length = xss := take_all (Nat.le_refl _)
      rw [hal]
      have hj := join_ret (xss.map rt) [59] (by rw [List.length_map]; omega) (show (stx xss).length ≤ _ by omega)
      repeat' ((first | (conv => whnf) | skip); (first | ((with_reducible intro h); first | contradiction | omega | (conv => whnf) | skip) | (with_reducible refine And.intro ?_ ?_) | ((with_reducible show arithK _ _ _); refine arith_ok ⟨by omega, by omega⟩ ?_) | ((with_reducible show quoK _ _ _ _); refine quo_ok ⟨by omega, by omega⟩ (by omega) (by omega) ?_) | ((with_reducible show remK _ _ _ _); refine rem_ok (by omega) (by omega) ?_) | ((first | (with_reducible show CallA _ _ _ _ _ _) | (with_reducible show CallQ _ _ _ _ _ _)); first | (refine Ret.use (hj) (by first | ((repeat' (first | exact rfl | exact trivial | (with_reducible assumption) | refine And.intro ?_ ?_ | omega | assumption)); done) | fail) ?_) | (refine Ret.useQ (hj) (by first | ((repeat' (first | exact rfl | exact trivial | (with_reducible assumption) | refine And.intro ?_ ?_ | omega | assumption)); done) | fail) rfl ?_)) | ((with_reducible show DrawA _ _ _ _ _ _); first | (refine draw_hard hT mixed (by decide +kernel) ?_))))
      all_goals first | rfl | omega | trace_state
end Go.Proofs.YtgpgnhadmckmhaaGreatDoor
namespace Go.Proofs.YtgpgnhadmckmhaaGreatDoor
open Go.AE Go.Lib

theorem itoa_free {n : Int} {c : UInt8} (h : c ≠ 45) (h2 : ¬ dgt c) : c ∉ itoa n := fun hm => by
  rcases itoa_bytes hm with h3 | h3
  · exact h h3
  · exact h2 h3
theorem join_mem {b : UInt8} {sep : List UInt8} : ∀ {ws : List (List UInt8)}, b ∈ join ws sep → b ∈ sep ∨ ∃ w ∈ ws, b ∈ w
  | [], h => by simp [join_nil] at h
  | [x], h => by rw [join_one] at h; exact .inr ⟨x, by simp, h⟩
  | x :: y :: r, h => by
    rw [join_cons2, List.mem_append, List.mem_append] at h
    rcases h with h | h | h
    · exact .inr ⟨x, by simp, h⟩
    · exact .inl h
    · rcases join_mem h with h | ⟨w, hw, h⟩
      · exact .inl h
      · exact .inr ⟨w, List.mem_cons_of_mem _ hw, h⟩
theorem sp_ints {c : UInt8} (h1 : c ≠ 45) (h2 : ¬ dgt c) {r : List Int} (h : r ≠ []) : sp c (join (r.map itoa) [c]) = r.map itoa :=
  sp_join (by simpa using h) fun w hw => by
    obtain ⟨x, _, rfl⟩ := List.mem_map.1 hw
    exact itoa_free h1 h2
theorem sp_rt {r : List Int} (h : r ≠ []) : sp 44 (rt r) = r.map itoa := sp_ints (by decide) (by decide) h
theorem rt_free (r : List Int) : (59 : UInt8) ∉ rt r := fun hm => by
  rcases join_mem hm with h | ⟨w, hw, h⟩
  · exact absurd h (by decide)
  · obtain ⟨x, _, rfl⟩ := List.mem_map.1 hw
    exact itoa_free (by decide) (by decide) h
theorem sp_stx {xss : List (List Int)} (h : xss ≠ []) : sp 59 (stx xss) = xss.map rt :=
  sp_join (by simpa using h) fun w hw => by
    obtain ⟨x, _, rfl⟩ := List.mem_map.1 hw
    exact rt_free x
theorem map_itoa_inj : ∀ {xs ys : List Int}, xs.map itoa = ys.map itoa → xs = ys
  | [], [], _ => rfl
  | [], _ :: _, h => by simp at h
  | _ :: _, [], h => by simp at h
  | x :: r, y :: q, h => by
    rw [List.map_cons, List.map_cons] at h
    injection h with h1 h2
    rw [itoa_inj h1, map_itoa_inj h2]
theorem len_ne {r : List Int} (h : r.length = 6) : r ≠ [] := fun e => by rw [e] at h; cases h
theorem rt_inj {r q : List Int} (h : r.length = 6) (h' : q.length = 6) (e : rt r = rt q) : r = q := map_itoa_inj (by rw [← sp_rt (len_ne h), ← sp_rt (len_ne h'), e])
/-- A rule's numbers with blanks. -/
def jb (r : List Int) : List UInt8 := join (r.map itoa) [32]
theorem jb_inj {r q : List Int} (h : r.length = 6) (h' : q.length = 6) (e : jb r = jb q) : r = q := map_itoa_inj (by
  rw [← sp_ints (c := 32) (by decide) (by decide) (len_ne h), ← sp_ints (c := 32) (by decide) (by decide) (len_ne h')]
  exact congrArg (sp 32) e)
theorem maps_inj {f : List Int → List UInt8} (hf : ∀ {r q : List Int}, r.length = 6 → q.length = 6 → f r = f q → r = q) : ∀ {xss yss : List (List Int)}, (∀ r ∈ xss, r.length = 6) → (∀ r ∈ yss, r.length = 6) → xss.map f = yss.map f → xss = yss
  | [], [], _, _, _ => rfl
  | [], _ :: _, _, _, h => by simp at h
  | _ :: _, [], _, _, h => by simp at h
  | x :: r, y :: q, h1, h2, h => by
    rw [List.map_cons, List.map_cons] at h
    injection h with h3 h4
    rw [hf (h1 x (by simp)) (h2 y (by simp)) h3, maps_inj hf (fun w hw => h1 w (by simp [hw])) (fun w hw => h2 w (by simp [hw])) h4]
theorem blank_rt (r : List Int) : replaceAll (rt r) [44] [32] = jb r := by
  rw [replaceAll_map (by decide)]
  unfold rt jb
  induction r with
  | nil => rfl
  | cons x r ih =>
    have hk : (itoa x).map (fun b => if b = 44 then 32 else b) = itoa x := by
      conv => rhs; rw [← List.map_id (itoa x)]
      refine List.map_congr_left fun b hb => if_neg ?_
      rintro rfl
      rcases itoa_bytes hb with h | h
      · exact absurd h (by decide)
      · exact absurd h.1 (by decide)
    cases r with
    | nil => simpa [join_one] using hk
    | cons y r =>
      rw [List.map_cons, List.map_cons, join_cons2, join_cons2, List.map_append, List.map_append, hk]
      rw [List.map_cons] at ih
      rw [ih]
      rfl
/-- A text of valid statutes. -/
def Acc (s : List UInt8) (xss : List (List Int)) : Prop := (∀ r ∈ xss, r.length = 6) ∧ areRl xss ∧ s = stx xss
theorem Acc.sp {s : List UInt8} {xss : List (List Int)} (h : Acc s xss) : Go.AE.sp 59 s = xss.map rt := by
  rw [h.2.2]
  refine sp_stx fun e => ?_
  have := h.2.1.2.1
  rw [e] at this
  cases this
theorem Acc.uniq {s : List UInt8} {x y : List (List Int)} (h : Acc s x) (h' : Acc s y) : x = y := maps_inj rt_inj h.1 h'.1 (by rw [← h.sp, ← h'.sp])
open Classical in
noncomputable def RS (s : List UInt8) : List (List Int) := if h : ∃ x, Acc s x then h.choose else []
open Classical in
noncomputable def CS (s : List UInt8) : Int := if ∃ x, Acc s x then 0 else 6
theorem RS_yes {s : List UInt8} {x : List (List Int)} (h : Acc s x) : RS s = x ∧ CS s = 0 := by
  have he : ∃ x, Acc s x := ⟨x, h⟩
  refine ⟨?_, if_pos he⟩
  unfold RS
  rw [dif_pos he]
  exact he.choose_spec.uniq h
theorem RS_no {s : List UInt8} (h : ∀ x, ¬ Acc s x) : RS s = [] ∧ CS s = 6 := by
  have he : ¬ ∃ x, Acc s x := fun ⟨x, hx⟩ => h x hx
  exact ⟨dif_neg he, if_neg he⟩
theorem RS_row (s : List UInt8) : (∀ r ∈ RS s, r.length = 6) ∧ (RS s).length ≤ 20 := by
  by_cases he : ∃ x, Acc s x
  · obtain ⟨x, hx⟩ := he
    rw [(RS_yes hx).1]
    exact ⟨hx.1, hx.2.1.2.2⟩
  · rw [(RS_no fun x hx => he ⟨x, hx⟩).1]
    exact ⟨fun r hr => (by cases hr), Nat.zero_le _⟩
/-- A number of at most thirteen digits. -/
def sm (n : Int) : Prop := -9999999999999 ≤ n ∧ n ≤ 9999999999999
theorem rowL_in {r : List Int} (hl : r.length = 6) (h : rowL r) : ∀ x ∈ r, 0 ≤ x ∧ x ≤ 150 := by
  intro x hx
  obtain ⟨a, b, c, d, e, f, rfl⟩ := lenRule hl
  have h' : rowRl a b c d e f := h
  unfold rowRl at h'
  simp only [List.mem_cons, List.not_mem_nil, or_false] at hx
  omega
/-- The parts read so far. -/
structure Rd (f : List Int → List UInt8) (ps : List (List UInt8)) (i : Nat) (out : List (List Int)) : Prop where
  le : i ≤ ps.length
  len : out.length = i
  eq : ps.take i = out.map f
  row : ∀ r ∈ out, r.length = 6
theorem Rd.start (f : List Int → List UInt8) (ps : List (List UInt8)) : Rd f ps 0 [] := ⟨Nat.zero_le _, rfl, by simp, fun r h => by cases h⟩
theorem Rd.next {f : List Int → List UInt8} {ps : List (List UInt8)} {i : Nat} {out : List (List Int)} (h : Rd f ps i out) (hi : i < ps.length) {r : List Int} (hr : r.length = 6) (he : ps.getD i [] = f r) : Rd f ps (i + 1) (out ++ [r]) :=
  ⟨hi, by rw [List.length_append, h.len]; rfl, by rw [take_snoc [] hi, h.eq, he, List.map_append]; rfl, fun q hq => by
    rcases List.mem_append.1 hq with hq | hq
    · exact h.row q hq
    · obtain rfl := List.mem_singleton.1 hq
      exact hr⟩
theorem Rd.all {f : List Int → List UInt8} {ps : List (List UInt8)} {out : List (List Int)} (h : Rd f ps ps.length out) : ps = out.map f := by rw [← h.eq, take_all (Nat.le_refl _)]
/-- The reference has read all parts. -/
theorem Rd.acc {s : List UInt8} {out : List (List Int)} (h : Rd rt (Go.AE.sp 59 s) (Go.AE.sp 59 s).length out) (ha : areRl out) : Acc s out :=
  ⟨h.row, ha, by
    conv => lhs; rw [← join_sp 59 s, h.all]
    rfl⟩
theorem Rd.nacc {s : List UInt8} {out : List (List Int)} (h : Rd rt (Go.AE.sp 59 s) (Go.AE.sp 59 s).length out) (ha : ¬ areRl out) (x : List (List Int)) : ¬ Acc s x := fun hx => by
  have e : x = out := maps_inj rt_inj hx.1 h.row (by rw [← hx.sp, ← h.all])
  exact ha (e ▸ hx.2.1)
theorem Acc.part {s : List UInt8} {x : List (List Int)} (h : Acc s x) {i : Nat} (hi : i < (Go.AE.sp 59 s).length) : ∃ r ∈ x, (Go.AE.sp 59 s).getD i [] = rt r ∧ i < x.length := by
  have hl : i < x.length := by rw [h.sp, List.length_map] at hi; exact hi
  refine ⟨x.getD i [], getD_mem hl, ?_, hl⟩
  rw [h.sp, List.getD_eq_getElem?_getD, List.getElem?_map, List.getD_eq_getElem?_getD, List.getElem?_eq_getElem hl]
  rfl
/-- A part that the reference cannot read. -/
theorem nacc_spec {s : List UInt8} {i : Nat} (hi : i < (Go.AE.sp 59 s).length) (h : ∀ xs : List Int, (∀ x ∈ xs, sm x) → Go.AE.sp 44 ((Go.AE.sp 59 s).getD i []) = xs.map itoa → xs.length ≠ 6) (x : List (List Int)) : ¬ Acc s x := fun hx => by
  obtain ⟨r, hr, he, _⟩ := hx.part hi
  refine h r (fun y hy => ?_) (by rw [he, sp_rt (len_ne (hx.1 r hr))]) (hx.1 r hr)
  have := rowL_in (hx.1 r hr) (hx.2.1.1 r hr) y hy
  unfold sm
  omega
theorem part_rt {p : List UInt8} {xs : List Int} (h : Go.AE.sp 44 p = xs.map itoa) : p = rt xs := by
  rw [← join_sp 44 p, h]; rfl
end Go.Proofs.YtgpgnhadmckmhaaGreatDoor
namespace Go.Proofs.YtgpgnhadmckmhaaGreatDoor
open Go.AE Go.Lib

attribute [local irreducible] CallA LoopA DrawA CallQ arithK quoK remK eqK
theorem nDigits_le : ∀ (k u : Nat), u < 10 ^ (k + 1) → nDigits u ≤ k + 1
  | 0, u, h => by rw [nDigits_small (by simpa using h)]; omega
  | k + 1, u, h => by
    by_cases hu : u < 10
    · rw [nDigits_small hu]; omega
    · rw [nDigits_big hu]
      have := nDigits_le k (u / 10) (Nat.div_lt_of_lt_mul (by rw [Nat.pow_succ] at h; omega))
      omega
theorem nDigits_le13 {u : Nat} (h : u ≤ 9999999999999) : nDigits u ≤ 13 := nDigits_le 12 u (by omega)
theorem digs_dec {u : Nat} (h : u ≤ 9999999999999) : dgOk (decDigits u) ∧ val (decDigits u) = u := by
  refine ⟨⟨⟨?_, ?_⟩, dec_dgt u⟩, val_dec u⟩
  · have := dec_ne u
    have : (decDigits u).length ≠ 0 := fun e => this (List.eq_nil_of_length_eq_zero e)
    omega
  · rw [decDigits_length]; exact nDigits_le13 h
theorem digB_dec {u : Nat} (h : u ≤ 9999999999999) : digB (decDigits u) ∧ digN (decDigits u) = u := by
  obtain ⟨h1, h2⟩ := digs_dec h
  refine ⟨⟨h1, by rw [h2]⟩, ?_⟩
  unfold digN
  rw [if_pos h1, h2]
theorem digB_inv {l : List UInt8} (h : digB l) : ∃ u, u ≤ 9999999999999 ∧ l = decDigits u := ⟨val l, val_13 h.1.2 h.1.1.2, h.2.symm⟩
theorem dec_head (u : Nat) : (decDigits u).getD 0 0 ≠ 45 := by
  cases hd : decDigits u with
  | nil => exact absurd hd (dec_ne u)
  | cons b r =>
    have := dec_dgt u b (by rw [hd]; simp)
    intro e
    have e : b = 45 := e
    rw [e] at this
    exact absurd this.1 (by decide)
def sgnN (l : List UInt8) : Int := if l.getD 0 0 = 45 then - digN (l.drop 1) else digN l
def sgnB (l : List UInt8) : Prop := if l.getD 0 0 = 45 then digB (l.drop 1) ∧ 0 < digN (l.drop 1) else digB l
instance (l : List UInt8) : Decidable (sgnB l) := by unfold sgnB; infer_instance
theorem sgn_itoa {n : Int} (h : sm n) : sgnB (itoa n) ∧ sgnN (itoa n) = n := by
  unfold sm at h
  by_cases hn : n < 0
  · rw [itoa_minus hn]
    obtain ⟨h1, h2⟩ := digB_dec (u := n.natAbs) (by omega)
    have e : (45 :: decDigits n.natAbs).drop 1 = decDigits n.natAbs := rfl
    unfold sgnB sgnN
    have e45 : (45 :: decDigits n.natAbs).getD 0 0 = 45 := rfl
    rw [if_pos e45, if_pos e45, e, h2]
    exact ⟨⟨h1, by omega⟩, by omega⟩
  · rw [itoa_nat (by omega)]
    obtain ⟨h1, h2⟩ := digB_dec (u := n.toNat) (by omega)
    unfold sgnB sgnN
    rw [if_neg (dec_head _), if_neg (dec_head _), h2]
    exact ⟨h1, by omega⟩
theorem sgn_inv {l : List UInt8} (h : sgnB l) : ∃ n, sm n ∧ l = itoa n := by
  unfold sgnB at h
  split at h
  · rename_i h0
    obtain ⟨⟨u, hu, he⟩, hp⟩ := And.intro (digB_inv h.1) h.2
    rw [he, (digB_dec hu).2] at hp
    refine ⟨-(u : Int), ⟨by omega, by omega⟩, ?_⟩
    rw [itoa_minus (by omega), show (-(u : Int)).natAbs = u by omega, ← he]
    cases l with
    | nil => exact absurd h0 (by decide)
    | cons b r =>
      have h0 : b = 45 := h0
      rw [h0]; rfl
  · obtain ⟨u, hu, rfl⟩ := digB_inv h
    refine ⟨(u : Int), ⟨by omega, by omega⟩, ?_⟩
    rw [itoa_nat (by omega)]
    rfl
theorem sgnN_in (l : List UInt8) : sm (sgnN l) := by
  unfold sgnN sm
  have h1 := digN_in l
  have h2 := digN_in (l.drop 1)
  split <;> omega
attribute [local irreducible] digN digB
set_option maxRecDepth 100000 in
theorem l01Signed_ret (l : List UInt8) (hn : l.length ≤ 1048576) : Ret Tryz.prog G 85 [Sv l] (.tup [I (sgnN l), Bo (decide (sgnB l))]) := by
  refine ret_of_body hT Tryz.func85 rfl ?_ rfl
  have hsz := B_size l
  have hby := byteAt_B l 0
  have h1 := digN_in (l.drop 1)
  have hd := l01Digits_ret l hn
  have hx := B_extract l 1 l.length
  have hdr := l01Digits_ret (l.drop 1) (by rw [List.length_drop]; omega)
  rw [take_all (Nat.le_refl _)] at hx
  have hdr' : Ret Tryz.prog G 64 [.v (.string ((B l).extract 1 l.length))] (.tup [I (digN (l.drop 1)), Bo (decide (digB (l.drop 1)))]) := by rw [hx]; exact hdr
  by_cases h0 : l.length = 0
  · have e0 : ¬ l.getD 0 0 = 45 := by
      rw [List.eq_nil_of_length_eq_zero h0]; decide
    rw [show sgnN l = digN l from if_neg e0, show decide (sgnB l) = decide (digB l) from by unfold sgnB; simp only [if_neg e0]]
    repeat' ((first | (conv => whnf) | skip); (first | ((with_reducible intro h); first | contradiction | omega | (conv => whnf) | skip) | (with_reducible refine And.intro ?_ ?_) | ((with_reducible show arithK _ _ _); refine arith_ok ⟨by omega, by omega⟩ ?_) | ((with_reducible show quoK _ _ _ _); refine quo_ok ⟨by omega, by omega⟩ (by omega) (by omega) ?_) | ((with_reducible show remK _ _ _ _); refine rem_ok (by omega) (by omega) ?_) | ((first | (with_reducible show CallA _ _ _ _ _ _) | (with_reducible show CallQ _ _ _ _ _ _)); first | (refine Ret.go (hd) rfl rfl ?_) | (refine Ret.goQ (hd) rfl rfl ?_)) | ((with_reducible show DrawA _ _ _ _ _ _); first | (refine draw_hard hT mixed (by decide +kernel) ?_))))
    all_goals first | rfl | omega | trace_state
  · by_cases h45 : l.getD 0 0 = 45
    · have hbc : byteAt (B l) 0 = 45 := by rw [hby, h45]; rfl
      rw [show sgnN l = - digN (l.drop 1) from if_pos h45, show decide (sgnB l) = decide (digB (l.drop 1) ∧ 0 < digN (l.drop 1)) from by unfold sgnB; simp only [if_pos h45]]
      rw [show - digN (l.drop 1) = 0 - digN (l.drop 1) by omega]
      by_cases hB : digB (l.drop 1)
      · rw [decide_eq_true hB] at hdr'
        by_cases hp : 0 < digN (l.drop 1)
        · rw [decide_eq_true (And.intro hB hp)]
          repeat' ((first | (conv => whnf) | skip); (first | ((with_reducible intro h); first | contradiction | omega | (conv => whnf) | skip) | (with_reducible refine And.intro ?_ ?_) | ((with_reducible show arithK _ _ _); refine arith_ok ⟨by omega, by omega⟩ ?_) | ((with_reducible show quoK _ _ _ _); refine quo_ok ⟨by omega, by omega⟩ (by omega) (by omega) ?_) | ((with_reducible show remK _ _ _ _); refine rem_ok (by omega) (by omega) ?_) | ((first | (with_reducible show CallA _ _ _ _ _ _) | (with_reducible show CallQ _ _ _ _ _ _)); first | (refine Ret.go (hdr') rfl rfl ?_) | (refine Ret.goQ (hdr') rfl rfl ?_)) | ((with_reducible show DrawA _ _ _ _ _ _); first | (refine draw_hard hT mixed (by decide +kernel) ?_))))
          all_goals first | rfl | omega | trace_state
        · rw [show decide (digB (l.drop 1) ∧ 0 < digN (l.drop 1)) = false from decide_eq_false fun hh => hp hh.2]
          repeat' ((first | (conv => whnf) | skip); (first | ((with_reducible intro h); first | contradiction | omega | (conv => whnf) | skip) | (with_reducible refine And.intro ?_ ?_) | ((with_reducible show arithK _ _ _); refine arith_ok ⟨by omega, by omega⟩ ?_) | ((with_reducible show quoK _ _ _ _); refine quo_ok ⟨by omega, by omega⟩ (by omega) (by omega) ?_) | ((with_reducible show remK _ _ _ _); refine rem_ok (by omega) (by omega) ?_) | ((first | (with_reducible show CallA _ _ _ _ _ _) | (with_reducible show CallQ _ _ _ _ _ _)); first | (refine Ret.go (hdr') rfl rfl ?_) | (refine Ret.goQ (hdr') rfl rfl ?_)) | ((with_reducible show DrawA _ _ _ _ _ _); first | (refine draw_hard hT mixed (by decide +kernel) ?_))))
          all_goals first | rfl | omega | trace_state
      · rw [decide_eq_false hB] at hdr'
        rw [show decide (digB (l.drop 1) ∧ 0 < digN (l.drop 1)) = false from decide_eq_false fun hh => hB hh.1]
        repeat' ((first | (conv => whnf) | skip); (first | ((with_reducible intro h); first | contradiction | omega | (conv => whnf) | skip) | (with_reducible refine And.intro ?_ ?_) | ((with_reducible show arithK _ _ _); refine arith_ok ⟨by omega, by omega⟩ ?_) | ((with_reducible show quoK _ _ _ _); refine quo_ok ⟨by omega, by omega⟩ (by omega) (by omega) ?_) | ((with_reducible show remK _ _ _ _); refine rem_ok (by omega) (by omega) ?_) | ((first | (with_reducible show CallA _ _ _ _ _ _) | (with_reducible show CallQ _ _ _ _ _ _)); first | (refine Ret.go (hdr') rfl rfl ?_) | (refine Ret.goQ (hdr') rfl rfl ?_)) | ((with_reducible show DrawA _ _ _ _ _ _); first | (refine draw_hard hT mixed (by decide +kernel) ?_))))
        all_goals first | rfl | omega | trace_state
    · have hbc : byteAt (B l) 0 ≠ 45 := fun e => h45 (u8_eq (hby.symm.trans e))
      rw [show sgnN l = digN l from if_neg h45, show decide (sgnB l) = decide (digB l) from by unfold sgnB; simp only [if_neg h45]]
      repeat' ((first | (conv => whnf) | skip); (first | ((with_reducible intro h); first | contradiction | omega | (conv => whnf) | skip) | (with_reducible refine And.intro ?_ ?_) | ((with_reducible show arithK _ _ _); refine arith_ok ⟨by omega, by omega⟩ ?_) | ((with_reducible show quoK _ _ _ _); refine quo_ok ⟨by omega, by omega⟩ (by omega) (by omega) ?_) | ((with_reducible show remK _ _ _ _); refine rem_ok (by omega) (by omega) ?_) | ((first | (with_reducible show CallA _ _ _ _ _ _) | (with_reducible show CallQ _ _ _ _ _ _)); first | (refine Ret.go (hd) rfl rfl ?_) | (refine Ret.goQ (hd) rfl rfl ?_)) | ((with_reducible show DrawA _ _ _ _ _ _); first | (refine draw_hard hT mixed (by decide +kernel) ?_))))
      all_goals first | rfl | omega | trace_state
/-! ### Lists of words -/
def allN (ws : List (List UInt8)) : Prop := ∀ w ∈ ws, sgnB w
instance (ws : List (List UInt8)) : Decidable (allN ws) := by unfold allN; infer_instance
def numX (ws : List (List UInt8)) : List Int := if allN ws then ws.map sgnN else []
theorem allN_itoa {xs : List Int} (h : ∀ x ∈ xs, sm x) : allN (xs.map itoa) ∧ numX (xs.map itoa) = xs := by
  have ha : allN (xs.map itoa) := fun w hw => by
    obtain ⟨x, hx, rfl⟩ := List.mem_map.1 hw
    exact (sgn_itoa (h x hx)).1
  refine ⟨ha, ?_⟩
  unfold numX
  rw [if_pos ha, List.map_map]
  conv => rhs; rw [← List.map_id xs]
  exact List.map_congr_left fun x hx => (sgn_itoa (h x hx)).2
theorem allN_inv {ws : List (List UInt8)} (h : allN ws) : ∃ xs : List Int, (∀ x ∈ xs, sm x) ∧ ws = xs.map itoa ∧ numX ws = xs := by
  have e : ws = (ws.map sgnN).map itoa := by
    rw [List.map_map]
    conv => lhs; rw [← List.map_id ws]
    exact List.map_congr_left fun w hw => by
      obtain ⟨n, hn, rfl⟩ := sgn_inv (h w hw)
      show itoa n = itoa (sgnN (itoa n))
      rw [(sgn_itoa hn).2]
  exact ⟨ws.map sgnN, fun x hx => by
    obtain ⟨w, _, rfl⟩ := List.mem_map.1 hx
    exact sgnN_in w, e, if_pos h⟩
theorem nums_snoc {ws : List (List UInt8)} {i : Nat} (h : i < ws.length) : (ws.take (i + 1)).map sgnN = (ws.take i).map sgnN ++ [sgnN (ws.getD i [])] := by
  rw [take_snoc [] h, List.map_append]; rfl
attribute [local irreducible] sgnN sgnB
set_option maxHeartbeats 1000000 in
set_option maxRecDepth 100000 in
theorem l01Numbers_call (ws : List (List UInt8)) (hn : ws.length ≤ 1048577) (hw : ∀ w ∈ ws, w.length ≤ 1048576) : CallA Tryz.prog G 55 [Rstr ws] [] (fun v J => v = .tup [.sl 0 1 (numX ws).length, Bo (decide (allN ws))] ∧ J = [.data (.ints .i64 (numX ws))]) := by
  refine CallA.ends (callA_of_body hT Tryz.func55 rfl ?_)
  repeat' ((first | (conv => whnf) | skip); (first | ((with_reducible intro h); first | contradiction | omega | (conv => whnf) | skip) | (with_reducible refine And.intro ?_ ?_) | ((with_reducible show arithK _ _ _); refine arith_ok ⟨by omega, by omega⟩ ?_) | ((with_reducible show quoK _ _ _ _); refine quo_ok ⟨by omega, by omega⟩ (by omega) (by omega) ?_) | ((with_reducible show remK _ _ _ _); refine rem_ok (by omega) (by omega) ?_) | ((first | (with_reducible show CallA _ _ _ _ _ _) | (with_reducible show CallQ _ _ _ _ _ _)); first | fail) | ((with_reducible show DrawA _ _ _ _ _ _); first | (refine draw_hard hT mixed (by decide +kernel) ?_))))
  all_goals first | rfl | omega | skip
  (conv => whnf)
  have hml : (ws.map B).length = ws.length := List.length_map _
  refine loop_rule hT (fun i : Nat => i ≤ ws.length ∧ ∀ w ∈ ws.take i, sgnB w) 30 1 [0, 4, 5] (fun i => [Rstr ws, .sl 1 1 ((ws.take i).map sgnN).length, I i]) (fun i => [.dead, .data (.ints .i64 ((ws.take i).map sgnN))]) (fun i => ws.length - i) (0) (Nat.le_of_ble_eq_true rfl) ?_ ?_ ?_
  · exact ⟨Nat.zero_le _, by simp⟩
  · first | (refine ⟨rfl, [some 0], ?_, ?_⟩; all_goals (repeat' (first | exact rfl | exact trivial | (with_reducible assumption) | refine And.intro ?_ ?_)); all_goals (first | omega | assumption); done) | trace_state
  · rintro i ⟨h1, h2⟩
    have hlen : ((ws.take i).map sgnN).length = i := by simp; omega
    by_cases hi : i < ws.length
    · have hsn := nums_snoc hi
      have hs := l01Signed_ret (ws.getD i []) (hw _ (getD_mem hi))
      rw [show Sv (ws.getD i []) = .v (.string ((ws.map B).getD ((i : Int)).toNat ByteArray.empty)) from (congrArg (fun b => AV.v (.string b)) (strs_getD ws i)).symm] at hs
      by_cases hg : sgnB (ws.getD i [])
      · rw [decide_eq_true hg] at hs
        repeat' ((first | (conv => whnf) | skip); (first | ((with_reducible intro h); first | contradiction | omega | (conv => whnf) | skip) | (with_reducible refine And.intro ?_ ?_) | ((with_reducible show arithK _ _ _); refine arith_ok ⟨by omega, by omega⟩ ?_) | ((with_reducible show quoK _ _ _ _); refine quo_ok ⟨by omega, by omega⟩ (by omega) (by omega) ?_) | ((with_reducible show remK _ _ _ _); refine rem_ok (by omega) (by omega) ?_) | ((first | (with_reducible show CallA _ _ _ _ _ _) | (with_reducible show CallQ _ _ _ _ _ _)); first | (refine Ret.go (hs) rfl rfl ?_) | (refine Ret.goQ (hs) rfl rfl ?_)) | ((with_reducible show DrawA _ _ _ _ _ _); first | (refine draw_hard hT mixed (by decide +kernel) ?_))))
        all_goals first | rfl | omega | (show _ < (ws.map B).length; omega) | (show (_ : Int) < ((ws.map B).length : Int); omega) | (show (_ : Nat) ≤ _; simp; omega) | (exfalso; simp at *; omega) | skip
        all_goals ((conv => whnf); first | (refine ⟨i + 1, ⟨by omega, all_snoc [] hi h2 hg⟩, ?_, by omega⟩; first | (refine ⟨rfl, [some 2], ?_, ?_⟩; all_goals (repeat' (first | exact rfl | exact trivial | (with_reducible assumption) | refine And.intro ?_ ?_)); all_goals (first | omega | assumption | ((repeat' (first | (rw [hsn]; exact rfl) | exact rfl | exact trivial | (with_reducible assumption) | refine And.intro ?_ ?_ | omega | assumption)); done)); done) | (refine ⟨rfl, [some 3], ?_, ?_⟩; all_goals (repeat' (first | exact rfl | exact trivial | (with_reducible assumption) | refine And.intro ?_ ?_)); all_goals (first | omega | assumption | ((repeat' (first | (rw [hsn]; exact rfl) | exact rfl | exact trivial | (with_reducible assumption) | refine And.intro ?_ ?_ | omega | assumption)); done)); done)) | trace_state)
      · rw [decide_eq_false hg] at hs
        have hno : ¬ allN ws := fun hh => hg (hh _ (getD_mem hi))
        rw [show numX ws = [] from if_neg hno, decide_eq_false hno]
        repeat' ((first | (conv => whnf) | skip); (first | ((with_reducible intro h); first | contradiction | omega | (conv => whnf) | skip) | (with_reducible refine And.intro ?_ ?_) | ((with_reducible show arithK _ _ _); refine arith_ok ⟨by omega, by omega⟩ ?_) | ((with_reducible show quoK _ _ _ _); refine quo_ok ⟨by omega, by omega⟩ (by omega) (by omega) ?_) | ((with_reducible show remK _ _ _ _); refine rem_ok (by omega) (by omega) ?_) | ((first | (with_reducible show CallA _ _ _ _ _ _) | (with_reducible show CallQ _ _ _ _ _ _)); first | (refine Ret.go (hs) rfl rfl ?_) | (refine Ret.goQ (hs) rfl rfl ?_)) | ((with_reducible show DrawA _ _ _ _ _ _); first | (refine draw_hard hT mixed (by decide +kernel) ?_))))
        all_goals first | rfl | omega | (show _ < (ws.map B).length; omega) | (show (_ : Int) < ((ws.map B).length : Int); omega) | (exfalso; simp at *; omega) | skip
        all_goals ((conv => whnf); first | (refine ⟨[none], .tup [.sl 0 1 ([] : List Int).length, Bo false], [.data (.ints .i64 [])], ?_, ?_, ?_⟩; all_goals (repeat' (first | exact rfl | exact trivial | (with_reducible assumption) | refine And.intro ?_ ?_)); all_goals (first | omega | assumption); done) | trace_state)
    · obtain rfl : i = ws.length := by omega
      have hal : ws.take ws.length = ws := take_all (Nat.le_refl _)
      rw [hal] at h2 hlen ⊢
      have hyes : allN ws := h2
      rw [show numX ws = ws.map sgnN from if_pos hyes, decide_eq_true hyes]
      repeat' ((first | (conv => whnf) | skip); (first | ((with_reducible intro h); first | contradiction | omega | (conv => whnf) | skip) | (with_reducible refine And.intro ?_ ?_) | ((with_reducible show arithK _ _ _); refine arith_ok ⟨by omega, by omega⟩ ?_) | ((with_reducible show quoK _ _ _ _); refine quo_ok ⟨by omega, by omega⟩ (by omega) (by omega) ?_) | ((with_reducible show remK _ _ _ _); refine rem_ok (by omega) (by omega) ?_) | ((first | (with_reducible show CallA _ _ _ _ _ _) | (with_reducible show CallQ _ _ _ _ _ _)); first | fail) | ((with_reducible show DrawA _ _ _ _ _ _); first | (refine draw_hard hT mixed (by decide +kernel) ?_))))
      all_goals first | rfl | omega | (exfalso; simp at *; done) | skip
      all_goals ((conv => whnf); first | (refine ⟨[some 1], .tup [.sl 0 1 (ws.map sgnN).length, Bo true], [.data (.ints .i64 (ws.map sgnN))], ?_, ?_, ?_⟩; all_goals (repeat' (first | exact rfl | exact trivial | (with_reducible assumption) | refine And.intro ?_ ?_)); all_goals (first | omega | assumption); done) | trace_state)
end Go.Proofs.YtgpgnhadmckmhaaGreatDoor
