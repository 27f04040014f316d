/-
  A line of the console, run by the program and by the reference: what both return. A line of the console, run by the reference: what it returns. No conditions but those in the statements.
-/
import Derived.Test.YtglbamncajileaaGreatDoorUrd
import Derived.Test.YtglbamncajileaaGreatDoorUch
set_option linter.unusedVariables false
set_option linter.unusedSimpArgs false
set_option maxRecDepth 100000
set_option maxHeartbeats 4000000
namespace Go.Proofs.YtglbamncajileaaGreatDoor
open Go.AE Go.Lib
section
attribute [local irreducible] CallA LoopA DrawA CallQ arithK quoK remK eqK
abbrev errT (c : Int) : List UInt8 := [101, 114, 114, 111, 114, 32] ++ itoa c
abbrev RunI (F F' : Fu) (l t : List UInt8) : Prop := Ca 59 [F.val 0 1, Sv l] [Di F.xs, Dh F.hs] (fun v J => v = .tup [F'.val 2 3, Sv t] ∧ J = [.dead, .dead, Di F'.xs, Dh F'.hs])
abbrev RunS (F F' : Fu) (l t : List UInt8) : Prop := Ca 56 [F.ro, Sv l] [] (fun v J => v = .tup [F'.ro, Sv t] ∧ J = [])
abbrev ReadI (l : List UInt8) (b w : ByteArray) (ns : List Int) : Prop := Ca 40 [Sv l] [] (fun v J => v = .tup [.agg [.v (.string b), .sl 0 1 ns.length, .v (.string w)], Bo true] ∧ J = [Di ns])
abbrev ReadS (l : List UInt8) (b w : ByteArray) (ns : List Int) : Prop := Ca 41 [Sv l] [] (fun v J => v = .tup [.v (.string b), .v (.string w), Ri ns, Bo true] ∧ J = [])
theorem readI_of (l : List UInt8) (hn : l.length ≤ 1048576) (w0 : List UInt8) (vs : List (List UInt8)) (hws : sp 32 l = w0 :: vs) (hP : cmdP (B w0) vs) : ReadI l (B w0) (cmdW (B w0) vs) (cmdN (B w0) vs) :=
 (readC_call l hn w0 vs hws).mono fun v J ⟨x, a, s, h1, h2, _, h4⟩ => by
   have := h4 hP
   subst this
   rw [decide_eq_true hP] at h1
   exact ⟨h1, h2⟩
theorem am_ro1 (xs : List Int) : amE true [] [Di xs] (.sl 0 1 xs.length) (Ri xs) := ⟨rfl, rfl, rfl, rfl, rfl⟩
theorem readS_of (l : List UInt8) (hn : l.length ≤ 1048576) (w0 : List UInt8) (vs : List (List UInt8)) (hws : sp 32 l = w0 :: vs) (hP : cmdP (B w0) vs) : ReadS l (B w0) (cmdW (B w0) vs) (cmdN (B w0) vs) :=
 CallA.frozen ((parse_call l hn w0 vs hws).mono fun v J ⟨x, a, s, h1, h2, _, h4⟩ => by
   have := h4 hP
   subst this
   rw [decide_eq_true hP] at h1
   subst h1 h2
   exact ⟨.tup [.v (.string (B w0)), .v (.string (cmdW (B w0) vs)), Ri (cmdN (B w0) vs), Bo true], ⟨amE_self rfl, amE_self rfl, am_ro1 _, amE_self rfl, trivial⟩, rfl, rfl⟩)
theorem dec_ret (c : Int) (hc : 0 ≤ c ∧ c ≤ 6) : Rt 62 [I c] (Sv (itoa c)) := by
 have hd := l01Dec_ret c.toNat (by omega)
 rw [show ((c.toNat : Nat) : Int) = c by omega, ← itoa_nat (n := c) (by omega)] at hd
 exact hd
theorem errB (c : Int) : (⟨#[101, 114, 114, 111, 114, 32]⟩ : ByteArray) ++ B (itoa c) = B (errT c) := by
 unfold errT
 rw [B_app]
theorem err_len (c : Int) (hc : 0 ≤ c ∧ c ≤ 6) : (errT c).length ≤ 100000 ∧ (itoa c).length ≤ 21 := by
 have := itoa_len (n := c) (by unfold okI; omega)
 refine ⟨?_, this⟩
 show ([101, 114, 114, 111, 114, 32] ++ itoa c : List UInt8).length ≤ _
 rw [List.length_append]
 have h6 : ([101, 114, 114, 111, 114, 32] : List UInt8).length = 6 := rfl
 omega
attribute [local irreducible] cmdP cmdW cmdN okF okT
theorem implRun_no (F : Fu) (hF : F.ok) (l : List UInt8) (hn : l.length ≤ 1048576) (w0 : List UInt8) (vs : List (List UInt8)) (hws : sp 32 l = w0 :: vs) (hP : ¬ cmdP (B w0) vs) : RunI F F l (errT 6) := by
 refine cZ Tryz.func59 ?_
 have hfit := hF.fit
 have hrd := readC_call l hn w0 vs hws
 unfold RdOut at hrd
 rw [decide_eq_false hP] at hrd
 have hfin := errB 6
 have hz1 : (⟨#[101, 114, 114, 111, 114, 32]⟩ : ByteArray).size = 6 := rfl
 have hz2 : (B (itoa 6)).size ≤ 21 := (err_len 6 (by omega)).2
 have hdc := decimal_ret 6 (by omega)
 have hdd := dec_ret 6 (by omega)
 repeat' (conv => whnf); first | (intro h; try exact nZ) | apply And.intro | refine sZ ?_ | (refine CallA.gE [] (hrd) ?_; rintro x a s ⟨h1, h2⟩; (try conv => whnf)) | refine Ret.uA (hdc) ?_ | fail
 all_goals first | exact rZ | (show (_ : Nat) ≤ _; simp only [ByteArray.size_append]; omega) | skip
 all_goals ((conv => whnf); first | (refine ⟨[some 0, some 1], .tup [F.val 2 3, Sv (errT 6)], [.dead, .dead, Di F.xs, Dh F.hs], ?_, ?_, ?_⟩; (repeat' first | apply And.intro | exact xZ | exact hfin | fail); done))
theorem implRun_chg (F F' : Fu) (hF : F.ok) (l : List UInt8) (b w : ByteArray) (ns : List Int) (hr : ReadI l b w ns) (hi : ChgOk F F' b w ns) : RunI F F' l [111, 107] := by
 refine cZ Tryz.func59 ?_
 have hfit := hF.fit
 repeat' (conv => whnf); first | (intro h; try exact nZ) | apply And.intro | refine sZ ?_ | refine CallA.gM [] (hr) ?_ | (refine CallA.gM [6, 0, 1] (hi) ?_) | fail
 all_goals first | exact rZ | (show (_ : Nat) ≤ _; simp only [ByteArray.size_append]; omega) | skip
 all_goals (conv => whnf); exact endE1 [some 7, some 8] (.tup [F'.val 2 3, Sv [111, 107]]) [.dead, .dead, Di F'.xs, Dh F'.hs]
theorem implRun_chgE (F : Fu) (hF : F.ok) (l : List UInt8) (b w : ByteArray) (ns : List Int) (c : Int) (hc : nz c) (hr : ReadI l b w ns) (hi : ChgEr F c b w ns) : RunI F F l (errT c) := by
 refine cZ Tryz.func59 ?_
 have hfit := hF.fit
 have hc1 : 1 ≤ c ∧ c ≤ 6 := hc
 have hfin := errB c
 have hz1 : (⟨#[101, 114, 114, 111, 114, 32]⟩ : ByteArray).size = 6 := rfl
 have hz2 : (B (itoa c)).size ≤ 21 := (err_len c (by omega)).2
 have hdc := decimal_ret c (by omega)
 have hdd := dec_ret c (by omega)
 repeat' (conv => whnf); first | (intro h; try exact nZ) | apply And.intro | refine sZ ?_ | refine CallA.gM [] (hr) ?_ | (refine CallA.gM [6, 0, 1] (hi) ?_) | refine Ret.uA (hdc) ?_ | fail
 all_goals first | exact rZ | (show (_ : Nat) ≤ _; simp only [ByteArray.size_append]; omega) | skip
 all_goals ((conv => whnf); first | (refine ⟨[some 0, some 1], .tup [F.val 2 3, Sv (errT c)], [.dead, .dead, Di F.xs, Dh F.hs], ?_, ?_, ?_⟩; (repeat' first | apply And.intro | exact xZ | exact hfin | fail); done))
theorem implRun_tel (F F' : Fu) (hF : F.ok) (l : List UInt8) (b w : ByteArray) (ns : List Int) (t : List UInt8) (hr : ReadI l b w ns) (hn : ChgNo F b w ns) (hi : TelOk F F' b w ns t) : RunI F F' l t := by
 refine cZ Tryz.func59 ?_
 have hfit := hF.fit
 repeat' (conv => whnf); first | (intro h; try exact nZ) | apply And.intro | refine sZ ?_ | refine CallA.gM [] (hr) ?_ | (refine CallA.gM [6, 0, 1] (hn) ?_) | (refine CallA.gM [6, 0, 1] (hi) ?_) | fail
 all_goals first | exact rZ | (show (_ : Nat) ≤ _; simp only [ByteArray.size_append]; omega) | skip
 all_goals (conv => whnf); exact endE1 [some 7, some 8] (.tup [F'.val 2 3, Sv t]) [.dead, .dead, Di F'.xs, Dh F'.hs]
theorem implRun_telE (F : Fu) (hF : F.ok) (l : List UInt8) (b w : ByteArray) (ns : List Int) (c : Int) (hc : nz c) (t : List UInt8) (hr : ReadI l b w ns) (hn : ChgNo F b w ns) (hi : TelEr F c b w ns t) : RunI F F l (errT c) := by
 refine cZ Tryz.func59 ?_
 have hfit := hF.fit
 have hc1 : 1 ≤ c ∧ c ≤ 6 := hc
 have hfin := errB c
 have hz1 : (⟨#[101, 114, 114, 111, 114, 32]⟩ : ByteArray).size = 6 := rfl
 have hz2 : (B (itoa c)).size ≤ 21 := (err_len c (by omega)).2
 have hdc := decimal_ret c (by omega)
 have hdd := dec_ret c (by omega)
 repeat' (conv => whnf); first | (intro h; try exact nZ) | apply And.intro | refine sZ ?_ | refine CallA.gM [] (hr) ?_ | (refine CallA.gM [6, 0, 1] (hn) ?_) | (refine CallA.gM [6, 0, 1] (hi) ?_) | refine Ret.uA (hdc) ?_ | fail
 all_goals first | exact rZ | (show (_ : Nat) ≤ _; simp only [ByteArray.size_append]; omega) | skip
 all_goals ((conv => whnf); first | (refine ⟨[some 0, some 1], .tup [F.val 2 3, Sv (errT c)], [.dead, .dead, Di F.xs, Dh F.hs], ?_, ?_, ?_⟩; (repeat' first | apply And.intro | exact xZ | exact hfin | fail); done))
end
section
attribute [local irreducible] CallA LoopA DrawA CallQ arithK quoK remK eqK
attribute [local irreducible] cmdP cmdW cmdN okF okT
theorem specRun_no (F : Fu) (hF : F.ok) (l : List UInt8) (hn : l.length ≤ 1048576) (w0 : List UInt8) (vs : List (List UInt8)) (hws : sp 32 l = w0 :: vs) (hP : ¬ cmdP (B w0) vs) : RunS F F l (errT 6) := by
 refine cZ Tryz.func56 ?_
 have hrd := parse_call l hn w0 vs hws
 unfold CmdOut at hrd
 rw [decide_eq_false hP] at hrd
 have hfin := errB 6
 have hz1 : (⟨#[101, 114, 114, 111, 114, 32]⟩ : ByteArray).size = 6 := rfl
 have hz2 : (B (itoa 6)).size ≤ 21 := (err_len 6 (by omega)).2
 have hdd := dec_ret 6 (by omega)
 repeat' (conv => whnf); first | (intro h; try exact nZ) | apply And.intro | refine sZ ?_ | (refine CallA.gE [] (hrd) ?_; rintro x a s ⟨h1, h2⟩; (try conv => whnf)) | refine Ret.uA (hdd) ?_ | fail
 all_goals first | exact rZ | (show (_ : Nat) ≤ _; simp only [ByteArray.size_append]; omega) | skip
 all_goals ((conv => whnf); first | (refine ⟨[], .tup [F.ro, Sv (errT 6)], [], ?_, ?_, ?_⟩; (repeat' first | apply And.intro | exact xZ | exact hfin | fail); done))
theorem specRun_chg (F F' : Fu) (l : List UInt8) (b w : ByteArray) (ns : List Int) (t : List UInt8) (hr : ReadS l b w ns) (hk : cw b) (hs : SChg F b w ns F'.ro t 0) : RunS F F' l t := by
 refine cZ Tryz.func56 ?_
 repeat' (conv => whnf); first | (intro h; try exact nZ) | apply And.intro | refine sZ ?_ | refine gZ [] (hr) ?_ | refine gZ [] (hs) ?_ | fail
 all_goals first | (exfalso; rcases hk with h | h | h | h | h | h <;> contradiction) | skip
 all_goals first | exact rZ | (show (_ : Nat) ≤ _; simp only [ByteArray.size_append]; omega) | skip
 all_goals (conv => whnf); exact endE1 [] (.tup [F'.ro, Sv t]) []
theorem specRun_chgE (F : Fu) (l : List UInt8) (b w : ByteArray) (ns : List Int) (t : List UInt8) (c : Int) (hc : nz c) (v : AV) (hv : v = F.ro ∨ v = SocZ) (hr : ReadS l b w ns) (hk : cw b) (hs : SChg F b w ns v t c) : RunS F F l (errT c) := by
 have hc1 : 1 ≤ c ∧ c ≤ 6 := hc
 have hfin := errB c
 have hz1 : (⟨#[101, 114, 114, 111, 114, 32]⟩ : ByteArray).size = 6 := rfl
 have hz2 : (B (itoa c)).size ≤ 21 := (err_len c (by omega)).2
 have hdd := dec_ret c (by omega)
 rcases hv with rfl | rfl
 · refine cZ Tryz.func56 ?_
   repeat' (conv => whnf); first | (intro h; try exact nZ) | apply And.intro | refine sZ ?_ | refine gZ [] (hr) ?_ | refine gZ [] (hs) ?_ | refine Ret.uA (hdd) ?_ | fail
   all_goals first | (exfalso; rcases hk with h | h | h | h | h | h <;> contradiction) | skip
   all_goals first | exact rZ | (show (_ : Nat) ≤ _; simp only [ByteArray.size_append]; omega) | skip
   all_goals ((conv => whnf); first | (refine ⟨[], .tup [F.ro, Sv (errT c)], [], ?_, ?_, ?_⟩; (repeat' first | apply And.intro | exact xZ | exact hfin | fail); done))
 · refine cZ Tryz.func56 ?_
   repeat' (conv => whnf); first | (intro h; try exact nZ) | apply And.intro | refine sZ ?_ | refine gZ [] (hr) ?_ | refine gZ [] (hs) ?_ | refine Ret.uA (hdd) ?_ | fail
   all_goals first | (exfalso; rcases hk with h | h | h | h | h | h <;> contradiction) | skip
   all_goals first | exact rZ | (show (_ : Nat) ≤ _; simp only [ByteArray.size_append]; omega) | skip
   all_goals ((conv => whnf); first | (refine ⟨[], .tup [F.ro, Sv (errT c)], [], ?_, ?_, ?_⟩; (repeat' first | apply And.intro | exact xZ | exact hfin | fail); done))
theorem specRun_tel (F : Fu) (l : List UInt8) (b w : ByteArray) (ns : List Int) (t : List UInt8) (hr : ReadS l b w ns) (hk : ¬ cw b) (hs : SAsk F b w ns t 0) : RunS F F l t := by
 refine cZ Tryz.func56 ?_
 repeat' (conv => whnf); first | (intro h; try exact nZ) | apply And.intro | refine sZ ?_ | refine gZ [] (hr) ?_ | refine Ret.uA (hs) ?_ | fail
 all_goals first | (refine absurd ?_ hk; first | (refine .inl ?_; assumption) | (refine .inr (.inl ?_); assumption) | (refine .inr (.inr (.inl ?_)); assumption) | (refine .inr (.inr (.inr (.inl ?_))); assumption) | (refine .inr (.inr (.inr (.inr (.inl ?_)))); assumption) | (refine .inr (.inr (.inr (.inr (.inr ?_)))); assumption)) | skip
 all_goals first | exact rZ | (show (_ : Nat) ≤ _; simp only [ByteArray.size_append]; omega) | skip
 all_goals (conv => whnf); exact endE1 [] (.tup [F.ro, Sv t]) []
theorem specRun_telE (F : Fu) (l : List UInt8) (b w : ByteArray) (ns : List Int) (t : List UInt8) (c : Int) (hc : nz c) (hr : ReadS l b w ns) (hk : ¬ cw b) (hs : SAsk F b w ns t c) : RunS F F l (errT c) := by
 refine cZ Tryz.func56 ?_
 have hc1 : 1 ≤ c ∧ c ≤ 6 := hc
 have hfin := errB c
 have hz1 : (⟨#[101, 114, 114, 111, 114, 32]⟩ : ByteArray).size = 6 := rfl
 have hz2 : (B (itoa c)).size ≤ 21 := (err_len c (by omega)).2
 have hdd := dec_ret c (by omega)
 repeat' (conv => whnf); first | (intro h; try exact nZ) | apply And.intro | refine sZ ?_ | refine gZ [] (hr) ?_ | refine Ret.uA (hs) ?_ | refine Ret.uA (hdd) ?_ | fail
 all_goals first | (refine absurd ?_ hk; first | (refine .inl ?_; assumption) | (refine .inr (.inl ?_); assumption) | (refine .inr (.inr (.inl ?_)); assumption) | (refine .inr (.inr (.inr (.inl ?_))); assumption) | (refine .inr (.inr (.inr (.inr (.inl ?_)))); assumption) | (refine .inr (.inr (.inr (.inr (.inr ?_)))); assumption)) | skip
 all_goals first | exact rZ | (show (_ : Nat) ≤ _; simp only [ByteArray.size_append]; omega) | skip
 all_goals ((conv => whnf); first | (refine ⟨[], .tup [F.ro, Sv (errT c)], [], ?_, ?_, ?_⟩; (repeat' first | apply And.intro | exact xZ | exact hfin | fail); done))
end
end Go.Proofs.YtglbamncajileaaGreatDoor
