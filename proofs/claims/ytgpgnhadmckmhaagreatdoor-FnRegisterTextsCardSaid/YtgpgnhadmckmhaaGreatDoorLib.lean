/-
  The library's functions on strings as contracts of the abstract evaluator: each is the kit's contract, brought in. No conditions but those in the statements.
-/
import Derived.Test.YtgpgnhadmckmhaaGreatDoorSta
import Derived.Test.YtgpgnhadmckmhaaGreatDoorSh
import Derived.Lib.AppendIntMem
import Derived.Lib.SmallJoins
import Derived.Lib.SplitLaws
set_option linter.unusedVariables false
set_option linter.unusedSimpArgs false
namespace Go.Proofs.YtgpgnhadmckmhaaGreatDoor
open Go.AE Go.Lib Go.RowKit

theorem B_list (l : List UInt8) : (B l).data.toList = l := rfl
theorem B_all (ws : List (List UInt8)) : (ws.map B).map (·.data.toList) = ws := by
  rw [List.map_map]
  exact List.map_id'' (fun l => rfl) ws
theorem B_of : ∀ (xs : List ByteArray), xs = (xs.map (·.data.toList)).map B
  | [] => rfl
  | x :: r => by
    rw [List.map_cons, List.map_cons, ← B_of r]
theorem formatInt_ret (n : Int) (h : -9223372036854775808 ≤ n ∧ n ≤ 9223372036854775807) : Ret Tryz.prog G 108 [I n, I 10] (Sv (itoa n)) :=
  ret_of_calls1 (xs := [.int .i64 n, .int .i64 10]) (x := .string (B (itoa n))) rfl ⟨_, Tryz.func108, by kernel_rfl, by kernel_rfl⟩ fun S w hw => by
    obtain ⟨e, fz, hg⟩ := hw.ints (g := 5) rfl
    have ht : Go.Lib.TabIs Tryz.prog w "internal/strconv.uint64pow10" .u64 Go.Lib.pow10Tab := by
      have hn : Go.Program.globalNamed Tryz.prog "internal/strconv.uint64pow10" = some 5 := by kernel_rfl
      show Go.World.var? Tryz.prog w _ = _
      unfold Go.World.var?
      rw [hn]
      show (match w.heap[5]? with | some (.cells cs _ _) => some cs | _ => none) = _
      rw [hg]
    exact (Tryz.strconv_FormatInt_10 n h.1 h.2 w ht).mono fun e w' ⟨h1, k, os, h2⟩ => ⟨h1, h2 ▸ Cl.of_below (Go.Lib.below_grow _ w (Nat.le_refl _) k os)⟩
theorem join_ret (ws : List (List UInt8)) (sep : List UInt8) (hn : ws.length ≤ 140737488355328) (hl : (join ws sep).length ≤ 140737488355328) : Ret Tryz.prog G 80 [Rstr ws, Sv sep] (Sv (join ws sep)) :=
  ret_of_strs (y := .string (B sep)) (x := .string (B (join ws sep))) rfl ⟨_, Tryz.func80, by kernel_rfl, by kernel_rfl⟩
    (fun he w a cap => by
      obtain rfl : ws = [] := by simpa using he
      exact (Tryz.strings_Join_none a cap (B sep) w).mono fun e w' ⟨h1, h2⟩ => ⟨h1, h2 ▸ Cl.of_below (Below.refl _ _)⟩)
    fun w b off cap hp hb hc hcell => by
      have hx := Tryz.strings_Join b off cap (ws.map B) (B sep) w (fun j x hj => hcell j x hj) hb (by simpa using hn) (by simpa using hc) (by rw [B_all]; exact hl)
      rw [B_all] at hx
      exact hx.mono fun e w' ⟨h1, h2⟩ => ⟨h1, Cl.of_below h2⟩
theorem splitB_sp (c : UInt8) (l : List UInt8) : splitB (B [c]) 0 (countB (B l) (B [c])) (B l) = (sp c l).map B := by
  have h := splitB_data (B [c]) 0 (countB (B l) (B [c])) (B l)
  rw [B_of (splitB _ _ _ _), h]
  congr 1
  exact splitK_sp c l
theorem split_call (l : List UInt8) (c : UInt8) (hn : l.length ≤ 4294967280) : CallA Tryz.prog G 51 [Sv l, Sv [c]] [] (fun v J => v = .sl 0 1 ((sp c l).map B).length ∧ J = [Dstr (sp c l)]) :=
  call_strs (xs := [.string (B l), .string (B [c])]) ⟨_, Tryz.func51, by kernel_rfl, by kernel_rfl⟩ (by rw [List.length_map, sp_len]; have := List.count_le_length (a := c) (l := l); unfold maxLen; omega) fun S w hw => by
    obtain ⟨u, hu, hi⟩ := hw.cell (g := 0) rfl
    obtain ⟨m, rfl⟩ : ∃ m, u = .int .i64 m := by
      unfold isI64 at hi
      split at hi
      · exact ⟨_, rfl⟩
      · cases hi
    refine (Tryz.strings_Split (B l) (B [c]) m w (by rw [B_size]; omega) hu (Nat.le_refl _)).mono fun e w' ⟨h1, h2⟩ => ⟨9, ?_, ?_⟩
    · rw [h1, List.length_map, sp_len, show countB (B l) (B [c]) = l.count c from count_one c l]
    · rw [h2, splitB_sp]
theorem replaceAll_ret (l : List UInt8) (a b : UInt8) (hn : l.length ≤ 1048576000) : Ret Tryz.prog G 53 [Sv l, Sv [a], Sv [b]] (Sv (replaceAll l [a] [b])) :=
  ret_of_calls1 (xs := [.string (B l), .string (B [a]), .string (B [b])]) (x := .string (B (replaceAll l [a] [b]))) rfl ⟨_, Tryz.func53, by kernel_rfl, by kernel_rfl⟩ fun S w hw => by
    obtain ⟨u, hu, hi⟩ := hw.cell (g := 0) rfl
    obtain ⟨m, rfl⟩ : ∃ m, u = .int .i64 m := by
      unfold isI64 at hi
      split at hi
      · exact ⟨_, rfl⟩
      · cases hi
    have hc := countB_le (B [a]) (Nat.le_refl _) (B l).size (B l) (Nat.le_refl _)
    have hz := B_size l
    refine (Tryz.strings_ReplaceAll (B l) (B [a]) (B [b]) m w (by omega) hu (Nat.le_refl _) (by rw [show (B [b]).size = 1 from rfl]; omega)).mono fun e w' ⟨h1, h2⟩ => ⟨h1, Cl.of_below h2⟩
theorem repeat_ret (l : List UInt8) (c : Nat) (hn : l.length * c ≤ 140737488355328) (hc : c ≤ 9223372036854775807) : Ret Tryz.prog G 117 [Sv l, I (c : Int)] (Sv (repeatL l c)) :=
  ret_of_calls1 (xs := [.string (B l), .int .i64 c]) (x := .string (B (repeatL l c))) rfl ⟨_, Tryz.func117, by kernel_rfl, by kernel_rfl⟩ fun S w hw =>
    (Tryz.strings_Repeat (B l) c w hc hn).mono fun e w' ⟨h1, h2⟩ => ⟨h1, Cl.of_below h2⟩
theorem parse_ok (l : List UInt8) (hn : l.length ≤ 281474976710656) (v : Int) (h : parseIntB 64 l = .ok v) : Ret Tryz.prog G2 104 [Sv l, I 10, I 64] (.tup [I v, .v .nilIface]) :=
  ret_of_calls1 (xs := [.string (B l), .int .i64 10, .int .i64 64]) (x := .tuple #[.int .i64 v, .nilIface]) rfl ⟨_, Tryz.func104, by kernel_rfl, by kernel_rfl⟩ fun S w hw =>
    (Tryz.strconv_ParseInt_10_at64_ok (B l) (by rw [B_size]; omega) v h w).mono fun e w' ⟨h1, h2⟩ => ⟨h1, by
      rcases h2 with rfl | ⟨t, rfl⟩
      · exact Cl.of_below (Below.refl _ _)
      · exact Cl.of_below (Go.Joins.below_bytesWorld _ w _ t (Nat.le_refl _))⟩
theorem ifc_tup {β : Nat → Option Nat} {n : Nat} {S : Nat → Prop} {w : World} (x : Int) (te : TypeId) (p : Value) : VR β n S w (.tup [.un, .ifc]) (.tuple #[.int .i64 x, .iface te p]) :=
  .tup _ _ rfl fun i c hc => by
    match i, hc with
    | 0, hc => cases hc; exact .un _
    | 1, hc => cases hc; exact .ifc te p
theorem err_of {u : Value} (h : isErr u = true) : u = .nilIface ∨ ∃ te pe, u = .iface te pe := by
  unfold isErr at h
  split at h
  · exact .inl rfl
  · exact .inr ⟨_, _, rfl⟩
  · cases h
theorem parse_bad (l : List UInt8) (hn : l.length ≤ 281474976710656) (h : ∀ v, parseIntB 64 l ≠ .ok v) : Ret Tryz.prog G2 104 [Sv l, I 10, I 64] (.tup [.un, .ifc]) :=
  ret_of_calls (xs := [.string (B l), .int .i64 10, .int .i64 64]) ⟨_, Tryz.func104, by kernel_rfl, by kernel_rfl⟩ fun S w hw => by
    cases hp : parseIntB 64 l with
    | ok v => exact absurd hp (h v)
    | range =>
      obtain ⟨u, hu, hi⟩ := hw.cell (g := 4) rfl
      exact (Tryz.strconv_ParseInt_10_at64_range (B l) hn hp u w hu (err_of hi)).mono fun e w' ⟨N, h1, _, _, h2⟩ => ⟨⟨_, h1, fun _ _ _ _ => ifc_tup _ _ _⟩, Cl.of_below h2⟩
    | _ =>
      obtain ⟨u, hu, hi⟩ := hw.cell (g := 3) rfl
      exact (Tryz.strconv_ParseInt_10_at64_syntax (B l) hn hp u w hu (err_of hi)).mono fun e w' ⟨N, h1, _, _, h2⟩ => ⟨⟨_, h1, fun _ _ _ _ => ifc_tup _ _ _⟩, Cl.of_below h2⟩
end Go.Proofs.YtgpgnhadmckmhaaGreatDoor
