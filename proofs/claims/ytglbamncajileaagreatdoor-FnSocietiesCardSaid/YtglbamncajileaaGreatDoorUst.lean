/-
  The society of the console: its state, and what a step of the program and of the reference is. No conditions but those in the statements.
-/
import Derived.Test.YtglbamncajileaaGreatDoorSf
import Derived.Test.YtglbamncajileaaGreatDoorStp
set_option linter.unusedVariables false
set_option linter.unusedSimpArgs false
set_option maxRecDepth 100000
set_option maxHeartbeats 400000
namespace Go.Proofs.YtglbamncajileaaGreatDoor
open Go.AE Go.Lib
attribute [local irreducible] CallA LoopA DrawA CallQ arithK quoK remK eqK
structure Fu where
 f : Int
 xs : List Int
 lo : Nat
 n : Nat
 r : Int
 hs : List (List Int)
 d : Int
abbrev Fu.ls (F : Fu) : List Int := (F.xs.drop F.lo).take F.n
structure Fu.ok (F : Fu) : Prop where
 fit : F.lo + F.n ≤ F.xs.length
 big : F.xs.length ≤ 1001
 pf : okF F.f F.ls F.r F.hs
 fd : okD F.d
 row : ∀ h ∈ F.hs, h.length = 7
theorem Fu.ok.len {F : Fu} (h : F.ok) : F.ls.length = F.n := by
 have := h.fit
 simp [Fu.ls]
 omega
theorem Fu.ok.nb {F : Fu} (h : F.ok) : F.ls.length ≤ 1048576 := by
 have := h.fit
 have := h.big
 rw [h.len]
 omega
theorem Fu.ok.hb {F : Fu} (h : F.ok) : F.hs.length ≤ 30 := h.pf.2.1
structure Fu.lax (F : Fu) : Prop where
 fit : F.lo + F.n ≤ F.xs.length
 big : F.xs.length ≤ 1001
 hb : F.hs.length ≤ 1048576
 row : ∀ h ∈ F.hs, h.length = 7
theorem Fu.lax.nb {F : Fu} (h : F.lax) : F.ls.length ≤ 1048576 := by
 have := h.fit
 have := h.big
 simp [Fu.ls]
 omega
abbrev Fu.cells (F : Fu) (i j : Nat) : List AV := [I F.f, .sub i 1 F.lo F.n, I F.r, .sl j 7 F.hs.length, I F.d]
abbrev Fu.ro (F : Fu) : AV := Soc F.f (Ri F.ls) F.r (Rh F.hs) F.d
abbrev Fu.val (F : Fu) (i j : Nat) : AV := .agg (F.cells i j)
abbrev cmdA (b w : ByteArray) (ns : List Int) : AV := .agg [.v (.string b), Ri ns, .v (.string w)]
abbrev ChgOk (F F' : Fu) (b w : ByteArray) (ns : List Int) : Prop := Ca 88 [.ptr 0 0, cmdA b w ns] [.cells (F.cells 1 2), Di F.xs, Dh F.hs] (fun v J => v = .tup [I 0, Bo true] ∧ J = [.cells (F'.cells 3 4), .dead, .dead, Di F'.xs, Dh F'.hs])
abbrev ChgEr (F : Fu) (c : Int) (b w : ByteArray) (ns : List Int) : Prop := Ca 88 [.ptr 0 0, cmdA b w ns] [.cells (F.cells 1 2), Di F.xs, Dh F.hs] (fun v J => v = .tup [I c, Bo true] ∧ J = [.dead, Di F.xs, Dh F.hs])
abbrev ChgNo (F : Fu) (b w : ByteArray) (ns : List Int) : Prop := Ca 88 [.ptr 0 0, cmdA b w ns] [.cells (F.cells 1 2), Di F.xs, Dh F.hs] (fun v J => v = .tup [I 0, Bo false] ∧ J = [.cells (F.cells 1 2), Di F.xs, Dh F.hs])
abbrev TelOk (F F' : Fu) (b w : ByteArray) (ns : List Int) (t : List UInt8) : Prop := Ca 89 [.ptr 0 0, cmdA b w ns] [.cells (F.cells 1 2), Di F.xs, Dh F.hs] (fun v J => v = .tup [Sv t, I 0] ∧ J = [.cells (F'.cells 3 4), .dead, .dead, Di F'.xs, Dh F'.hs])
abbrev TelEr (F : Fu) (c : Int) (b w : ByteArray) (ns : List Int) (t : List UInt8) : Prop := Ca 89 [.ptr 0 0, cmdA b w ns] [.cells (F.cells 1 2), Di F.xs, Dh F.hs] (fun v J => v = .tup [Sv t, I c] ∧ J = [.dead, Di F.xs, Dh F.hs])
abbrev SChg (F : Fu) (b w : ByteArray) (ns : List Int) (v' : AV) (t : List UInt8) (c : Int) : Prop := Ca 84 [F.ro, .v (.string b), .v (.string w), Ri ns] [] (fun v J => v = .tup [v', Sv t, I c] ∧ J = [])
abbrev SAsk (F : Fu) (b w : ByteArray) (ns : List Int) (t : List UInt8) (c : Int) : Prop := Rt 85 [F.ro, .v (.string b), .v (.string w), Ri ns] (.tup [Sv t, I c])
abbrev nz (c : Int) : Prop := 1 ≤ c ∧ c ≤ 6
abbrev SocZ : AV := .agg [I 0, .nilsl, I 0, .nilsl, I 0]
abbrev w_list : ByteArray := ⟨#[108, 105, 115, 116]⟩
abbrev w_reserve : ByteArray := ⟨#[114, 101, 115, 101, 114, 118, 101]⟩
abbrev w_premiums : ByteArray := ⟨#[112, 114, 101, 109, 105, 117, 109, 115]⟩
abbrev w_claims : ByteArray := ⟨#[99, 108, 97, 105, 109, 115]⟩
abbrev w_quote : ByteArray := ⟨#[113, 117, 111, 116, 101]⟩
abbrev w_hold : ByteArray := ⟨#[104, 111, 108, 100]⟩
abbrev w_rate : ByteArray := ⟨#[114, 97, 116, 101]⟩
abbrev w_fund : ByteArray := ⟨#[102, 117, 110, 100]⟩
abbrev w_drop : ByteArray := ⟨#[100, 114, 111, 112]⟩
abbrev w_leave : ByteArray := ⟨#[108, 101, 97, 118, 101]⟩
abbrev w_annuity : ByteArray := ⟨#[97, 110, 110, 117, 105, 116, 121]⟩
abbrev w_scenario : ByteArray := ⟨#[115, 99, 101, 110, 97, 114, 105, 111]⟩
abbrev w_bonus : ByteArray := ⟨#[98, 111, 110, 117, 115]⟩
abbrev w_price : ByteArray := ⟨#[112, 114, 105, 99, 101]⟩
abbrev w_table : ByteArray := ⟨#[116, 97, 98, 108, 101]⟩
abbrev w_year : ByteArray := ⟨#[121, 101, 97, 114]⟩
def cw (b : ByteArray) : Prop := b = w_table ∨ b = w_rate ∨ b = w_fund ∨ b = w_hold ∨ b = w_drop ∨ b = w_year
inductive Step (F : Fu) (b w : ByteArray) (ns : List Int) : Prop where
 | chg (F' : Fu) (h : F'.ok) (hi : ChgOk F F' b w ns) (hs : SChg F b w ns F'.ro [111, 107] 0) (hk : cw b := by first | exact .inl (by first | assumption | rfl) | exact .inr (.inl (by first | assumption | rfl)) | exact .inr (.inr (.inl (by first | assumption | rfl))) | exact .inr (.inr (.inr (.inl (by first | assumption | rfl)))) | exact .inr (.inr (.inr (.inr (.inl (by first | assumption | rfl))))) | exact .inr (.inr (.inr (.inr (.inr (by first | assumption | rfl))))))
 | chgE (c : Int) (hc : nz c) (t : List UInt8) (v : AV) (hi : ChgEr F c b w ns) (hs : SChg F b w ns v t c) (hk : cw b := by first | exact .inl (by first | assumption | rfl) | exact .inr (.inl (by first | assumption | rfl)) | exact .inr (.inr (.inl (by first | assumption | rfl))) | exact .inr (.inr (.inr (.inl (by first | assumption | rfl)))) | exact .inr (.inr (.inr (.inr (.inl (by first | assumption | rfl))))) | exact .inr (.inr (.inr (.inr (.inr (by first | assumption | rfl)))))) (hv : v = F.ro ∨ v = SocZ := by first | exact .inl rfl | exact .inr rfl)
 | tel (t : List UInt8) (ht : t.length ≤ 100000) (hn : ChgNo F b w ns) (hi : TelOk F F b w ns t) (hs : SAsk F b w ns t 0) (hk : ¬ cw b)
 | telE (c : Int) (hc : nz c) (t t' : List UInt8) (hn : ChgNo F b w ns) (hi : TelEr F c b w ns t) (hs : SAsk F b w ns t' c) (hk : ¬ cw b)
 | yr (F' : Fu) (h : F'.ok) (t : List UInt8) (ht : t.length ≤ 100000) (hn : ChgNo F b w ns) (hi : TelOk F F' b w ns t) (hs : SChg F b w ns F'.ro t 0) (hk : cw b := by first | exact .inl (by first | assumption | rfl) | exact .inr (.inl (by first | assumption | rfl)) | exact .inr (.inr (.inl (by first | assumption | rfl))) | exact .inr (.inr (.inr (.inl (by first | assumption | rfl)))) | exact .inr (.inr (.inr (.inr (.inl (by first | assumption | rfl))))) | exact .inr (.inr (.inr (.inr (.inr (by first | assumption | rfl))))))
 | yrE (c : Int) (hc : nz c) (t t' : List UInt8) (v : AV) (hn : ChgNo F b w ns) (hi : TelEr F c b w ns t) (hs : SChg F b w ns v t' c) (hk : cw b := by first | exact .inl (by first | assumption | rfl) | exact .inr (.inl (by first | assumption | rfl)) | exact .inr (.inr (.inl (by first | assumption | rfl))) | exact .inr (.inr (.inr (.inl (by first | assumption | rfl)))) | exact .inr (.inr (.inr (.inr (.inl (by first | assumption | rfl))))) | exact .inr (.inr (.inr (.inr (.inr (by first | assumption | rfl)))))) (hv : v = F.ro ∨ v = SocZ := by first | exact .inl rfl | exact .inr rfl)
theorem only_list {b : ByteArray} (h : b = w_list) : b ≠ w_reserve ∧ b ≠ w_premiums ∧ b ≠ w_claims ∧ b ≠ w_quote ∧ b ≠ w_hold ∧ b ≠ w_rate ∧ b ≠ w_fund ∧ b ≠ w_drop ∧ b ≠ w_leave ∧ b ≠ w_annuity ∧ b ≠ w_scenario ∧ b ≠ w_bonus ∧ b ≠ w_price ∧ b ≠ w_table ∧ b ≠ w_year := by
 subst h
 decide
theorem only_reserve {b : ByteArray} (h : b = w_reserve) : b ≠ w_list ∧ b ≠ w_premiums ∧ b ≠ w_claims ∧ b ≠ w_quote ∧ b ≠ w_hold ∧ b ≠ w_rate ∧ b ≠ w_fund ∧ b ≠ w_drop ∧ b ≠ w_leave ∧ b ≠ w_annuity ∧ b ≠ w_scenario ∧ b ≠ w_bonus ∧ b ≠ w_price ∧ b ≠ w_table ∧ b ≠ w_year := by
 subst h
 decide
theorem only_premiums {b : ByteArray} (h : b = w_premiums) : b ≠ w_list ∧ b ≠ w_reserve ∧ b ≠ w_claims ∧ b ≠ w_quote ∧ b ≠ w_hold ∧ b ≠ w_rate ∧ b ≠ w_fund ∧ b ≠ w_drop ∧ b ≠ w_leave ∧ b ≠ w_annuity ∧ b ≠ w_scenario ∧ b ≠ w_bonus ∧ b ≠ w_price ∧ b ≠ w_table ∧ b ≠ w_year := by
 subst h
 decide
theorem only_claims {b : ByteArray} (h : b = w_claims) : b ≠ w_list ∧ b ≠ w_reserve ∧ b ≠ w_premiums ∧ b ≠ w_quote ∧ b ≠ w_hold ∧ b ≠ w_rate ∧ b ≠ w_fund ∧ b ≠ w_drop ∧ b ≠ w_leave ∧ b ≠ w_annuity ∧ b ≠ w_scenario ∧ b ≠ w_bonus ∧ b ≠ w_price ∧ b ≠ w_table ∧ b ≠ w_year := by
 subst h
 decide
theorem only_quote {b : ByteArray} (h : b = w_quote) : b ≠ w_list ∧ b ≠ w_reserve ∧ b ≠ w_premiums ∧ b ≠ w_claims ∧ b ≠ w_hold ∧ b ≠ w_rate ∧ b ≠ w_fund ∧ b ≠ w_drop ∧ b ≠ w_leave ∧ b ≠ w_annuity ∧ b ≠ w_scenario ∧ b ≠ w_bonus ∧ b ≠ w_price ∧ b ≠ w_table ∧ b ≠ w_year := by
 subst h
 decide
theorem only_hold {b : ByteArray} (h : b = w_hold) : b ≠ w_list ∧ b ≠ w_reserve ∧ b ≠ w_premiums ∧ b ≠ w_claims ∧ b ≠ w_quote ∧ b ≠ w_rate ∧ b ≠ w_fund ∧ b ≠ w_drop ∧ b ≠ w_leave ∧ b ≠ w_annuity ∧ b ≠ w_scenario ∧ b ≠ w_bonus ∧ b ≠ w_price ∧ b ≠ w_table ∧ b ≠ w_year := by
 subst h
 decide
theorem only_rate {b : ByteArray} (h : b = w_rate) : b ≠ w_list ∧ b ≠ w_reserve ∧ b ≠ w_premiums ∧ b ≠ w_claims ∧ b ≠ w_quote ∧ b ≠ w_hold ∧ b ≠ w_fund ∧ b ≠ w_drop ∧ b ≠ w_leave ∧ b ≠ w_annuity ∧ b ≠ w_scenario ∧ b ≠ w_bonus ∧ b ≠ w_price ∧ b ≠ w_table ∧ b ≠ w_year := by
 subst h
 decide
theorem only_fund {b : ByteArray} (h : b = w_fund) : b ≠ w_list ∧ b ≠ w_reserve ∧ b ≠ w_premiums ∧ b ≠ w_claims ∧ b ≠ w_quote ∧ b ≠ w_hold ∧ b ≠ w_rate ∧ b ≠ w_drop ∧ b ≠ w_leave ∧ b ≠ w_annuity ∧ b ≠ w_scenario ∧ b ≠ w_bonus ∧ b ≠ w_price ∧ b ≠ w_table ∧ b ≠ w_year := by
 subst h
 decide
theorem only_drop {b : ByteArray} (h : b = w_drop) : b ≠ w_list ∧ b ≠ w_reserve ∧ b ≠ w_premiums ∧ b ≠ w_claims ∧ b ≠ w_quote ∧ b ≠ w_hold ∧ b ≠ w_rate ∧ b ≠ w_fund ∧ b ≠ w_leave ∧ b ≠ w_annuity ∧ b ≠ w_scenario ∧ b ≠ w_bonus ∧ b ≠ w_price ∧ b ≠ w_table ∧ b ≠ w_year := by
 subst h
 decide
theorem only_leave {b : ByteArray} (h : b = w_leave) : b ≠ w_list ∧ b ≠ w_reserve ∧ b ≠ w_premiums ∧ b ≠ w_claims ∧ b ≠ w_quote ∧ b ≠ w_hold ∧ b ≠ w_rate ∧ b ≠ w_fund ∧ b ≠ w_drop ∧ b ≠ w_annuity ∧ b ≠ w_scenario ∧ b ≠ w_bonus ∧ b ≠ w_price ∧ b ≠ w_table ∧ b ≠ w_year := by
 subst h
 decide
theorem only_annuity {b : ByteArray} (h : b = w_annuity) : b ≠ w_list ∧ b ≠ w_reserve ∧ b ≠ w_premiums ∧ b ≠ w_claims ∧ b ≠ w_quote ∧ b ≠ w_hold ∧ b ≠ w_rate ∧ b ≠ w_fund ∧ b ≠ w_drop ∧ b ≠ w_leave ∧ b ≠ w_scenario ∧ b ≠ w_bonus ∧ b ≠ w_price ∧ b ≠ w_table ∧ b ≠ w_year := by
 subst h
 decide
theorem only_scenario {b : ByteArray} (h : b = w_scenario) : b ≠ w_list ∧ b ≠ w_reserve ∧ b ≠ w_premiums ∧ b ≠ w_claims ∧ b ≠ w_quote ∧ b ≠ w_hold ∧ b ≠ w_rate ∧ b ≠ w_fund ∧ b ≠ w_drop ∧ b ≠ w_leave ∧ b ≠ w_annuity ∧ b ≠ w_bonus ∧ b ≠ w_price ∧ b ≠ w_table ∧ b ≠ w_year := by
 subst h
 decide
theorem only_bonus {b : ByteArray} (h : b = w_bonus) : b ≠ w_list ∧ b ≠ w_reserve ∧ b ≠ w_premiums ∧ b ≠ w_claims ∧ b ≠ w_quote ∧ b ≠ w_hold ∧ b ≠ w_rate ∧ b ≠ w_fund ∧ b ≠ w_drop ∧ b ≠ w_leave ∧ b ≠ w_annuity ∧ b ≠ w_scenario ∧ b ≠ w_price ∧ b ≠ w_table ∧ b ≠ w_year := by
 subst h
 decide
theorem only_price {b : ByteArray} (h : b = w_price) : b ≠ w_list ∧ b ≠ w_reserve ∧ b ≠ w_premiums ∧ b ≠ w_claims ∧ b ≠ w_quote ∧ b ≠ w_hold ∧ b ≠ w_rate ∧ b ≠ w_fund ∧ b ≠ w_drop ∧ b ≠ w_leave ∧ b ≠ w_annuity ∧ b ≠ w_scenario ∧ b ≠ w_bonus ∧ b ≠ w_table ∧ b ≠ w_year := by
 subst h
 decide
theorem only_table {b : ByteArray} (h : b = w_table) : b ≠ w_list ∧ b ≠ w_reserve ∧ b ≠ w_premiums ∧ b ≠ w_claims ∧ b ≠ w_quote ∧ b ≠ w_hold ∧ b ≠ w_rate ∧ b ≠ w_fund ∧ b ≠ w_drop ∧ b ≠ w_leave ∧ b ≠ w_annuity ∧ b ≠ w_scenario ∧ b ≠ w_bonus ∧ b ≠ w_price ∧ b ≠ w_year := by
 subst h
 decide
theorem only_year {b : ByteArray} (h : b = w_year) : b ≠ w_list ∧ b ≠ w_reserve ∧ b ≠ w_premiums ∧ b ≠ w_claims ∧ b ≠ w_quote ∧ b ≠ w_hold ∧ b ≠ w_rate ∧ b ≠ w_fund ∧ b ≠ w_drop ∧ b ≠ w_leave ∧ b ≠ w_annuity ∧ b ≠ w_scenario ∧ b ≠ w_bonus ∧ b ≠ w_price ∧ b ≠ w_table := by
 subst h
 decide
end Go.Proofs.YtglbamncajileaaGreatDoor
