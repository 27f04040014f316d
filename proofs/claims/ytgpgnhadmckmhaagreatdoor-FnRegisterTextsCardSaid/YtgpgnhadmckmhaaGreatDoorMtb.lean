/-
  Months read from texts by the program: what the functions return. No conditions but those in the statements.
-/
import Derived.Test.YtgpgnhadmckmhaaGreatDoorMta
set_option linter.unusedVariables false
set_option linter.unusedSimpArgs false
namespace Go.Proofs.YtgpgnhadmckmhaaGreatDoor
open Go.AE Go.Lib

attribute [local irreducible] CallA LoopA DrawA CallQ arithK quoK remK eqK
open Classical in
noncomputable def rmN (l : List UInt8) : Int := if h : ∃ n, mon n ∧ l = mt n then h.choose else 0
open Classical in
noncomputable def rmB (l : List UInt8) : Bool := if ∃ n, mon n ∧ l = mt n then true else false
theorem rm_yes {l : List UInt8} {n : Int} (h : mon n) (e : l = mt n) : rmN l = n ∧ rmB l = true := by
  have he : ∃ n, mon n ∧ l = mt n := ⟨n, h, e⟩
  refine ⟨?_, if_pos he⟩
  unfold rmN
  rw [dif_pos he]
  exact mt_inj he.choose_spec.1 h (he.choose_spec.2.symm.trans e)
theorem rm_no {l : List UInt8} (h : ∀ n, mon n → l ≠ mt n) : rmN l = 0 ∧ rmB l = false := by
  have he : ¬ ∃ n, mon n ∧ l = mt n := fun ⟨n, h1, h2⟩ => h n h1 h2
  exact ⟨dif_neg he, if_neg he⟩
theorem rmB_inv {l : List UInt8} (h : rmB l = true) : ∃ n, mon n ∧ l = mt n ∧ rmN l = n := by
  by_cases he : ∃ n, mon n ∧ l = mt n
  · obtain ⟨n, h1, h2⟩ := he
    exact ⟨n, h1, h2, (rm_yes h1 h2).1⟩
  · rw [(rm_no fun n h1 h2 => he ⟨n, h1, h2⟩).2] at h
    cases h
theorem rmN_in (l : List UInt8) : mon (rmN l) := by
  by_cases he : ∃ n, mon n ∧ l = mt n
  · obtain ⟨n, h1, h2⟩ := he
    rw [(rm_yes h1 h2).1]; exact h1
  · rw [(rm_no fun n h1 h2 => he ⟨n, h1, h2⟩).1]; unfold mon; omega
attribute [local irreducible] rmN rmB
theorem ifc_tupI {β : Nat → Option Nat} {n : Nat} {S : Nat → Prop} {w : World} (x : Int) (te : TypeId) (p : Value) : VR β n S w (.tup [I x, .ifc]) (.tuple #[.int .i64 x, .iface te p]) :=
  .tup _ _ rfl fun i c hc => by
    match i, hc with
    | 0, hc => cases hc; exact .v _ rfl
    | 1, hc => cases hc; exact .ifc te p
theorem parse_err (l : List UInt8) (hn : l.length ≤ 281474976710656) (h : ∀ v, parseIntB 64 l ≠ .ok v) : ∃ x : Int, Ret Tryz.prog G2 104 [Sv l, I 10, I 64] (.tup [I x, .ifc]) := by
  cases hp : parseIntB 64 l with
  | ok v => exact absurd hp (h v)
  | range =>
    refine ⟨intSat 64 l, ret_of_calls (xs := [.string (B l), .int .i64 10, .int .i64 64]) ⟨_, Tryz.func104, by kernel_rfl, by kernel_rfl⟩ fun S w hw => ?_⟩
    obtain ⟨u, hu, hi⟩ := hw.cell (g := 4) rfl
    exact (Tryz.strconv_ParseInt_10_at64_range (B l) hn hp u w hu (err_of hi)).mono fun e w' ⟨N, h1, _, _, h2⟩ => ⟨⟨_, h1, fun _ _ _ _ => ifc_tupI _ _ _⟩, Cl.of_below h2⟩
  | _ =>
    refine ⟨0, ret_of_calls (xs := [.string (B l), .int .i64 10, .int .i64 64]) ⟨_, Tryz.func104, by kernel_rfl, by kernel_rfl⟩ fun S w hw => ?_⟩
    obtain ⟨u, hu, hi⟩ := hw.cell (g := 3) rfl
    exact (Tryz.strconv_ParseInt_10_at64_syntax (B l) hn hp u w hu (err_of hi)).mono fun e w' ⟨N, h1, _, _, h2⟩ => ⟨⟨_, h1, fun _ _ _ _ => ifc_tupI _ _ _⟩, Cl.of_below h2⟩
def moOk (y m : Int) : Prop := (0 ≤ y ∧ y ≤ 2999) ∧ 1 ≤ m ∧ m ≤ 12
set_option maxRecDepth 100000 in
theorem monthOf_yes (y m : Int) (h : moOk y m) : Ret Tryz.prog G 109 [I y, I m] (.tup [I (12 * y + m - 1), I 0]) := by
  unfold moOk at h
  refine ret_of_body hT Tryz.func109 rfl ?_ rfl
  repeat' ((first | (conv => whnf) | skip); (first | ((with_reducible intro h); first | contradiction | omega | (conv => whnf) | skip) | (with_reducible refine And.intro ?_ ?_) | ((with_reducible show arithK _ _ _); refine arith_ok ⟨by omega, by omega⟩ ?_) | ((with_reducible show quoK _ _ _ _); refine quo_ok ⟨by omega, by omega⟩ (by omega) (by omega) ?_) | ((with_reducible show remK _ _ _ _); refine rem_ok (by omega) (by omega) ?_) | ((first | (with_reducible show CallA _ _ _ _ _ _) | (with_reducible show CallQ _ _ _ _ _ _)); first | (refine Ret.goP (inRange_ret _ _ _) rfl ?_) | (refine Ret.goQP (inRange_ret _ _ _) rfl ?_)) | ((with_reducible show DrawA _ _ _ _ _ _); first | (refine draw_hard hT mixed (by decide +kernel) ?_))))
  all_goals first | rfl | omega | trace_state
set_option maxRecDepth 100000 in
theorem monthOf_no (y m : Int) (h : ¬ moOk y m) : Ret Tryz.prog G 109 [I y, I m] (.tup [I 0, I 2]) := by
  unfold moOk at h
  refine ret_of_body hT Tryz.func109 rfl ?_ rfl
  repeat' ((first | (conv => whnf) | skip); (first | ((with_reducible intro h); first | contradiction | omega | (conv => whnf) | skip) | (with_reducible refine And.intro ?_ ?_) | ((with_reducible show arithK _ _ _); refine arith_ok ⟨by omega, by omega⟩ ?_) | ((with_reducible show quoK _ _ _ _); refine quo_ok ⟨by omega, by omega⟩ (by omega) (by omega) ?_) | ((with_reducible show remK _ _ _ _); refine rem_ok (by omega) (by omega) ?_) | ((first | (with_reducible show CallA _ _ _ _ _ _) | (with_reducible show CallQ _ _ _ _ _ _)); first | (refine Ret.goP (inRange_ret _ _ _) rfl ?_) | (refine Ret.goQP (inRange_ret _ _ _) rfl ?_)) | ((with_reducible show DrawA _ _ _ _ _ _); first | (refine draw_hard hT mixed (by decide +kernel) ?_))))
  all_goals first | rfl | omega | trace_state
/-- What a part of a text is read as. -/
theorem parse_any (l : List UInt8) (hn : l.length ≤ 281474976710656) : ∃ (x : Int) (a : AV), (a = .v .nilIface ∨ a = .ifc) ∧ Ret Tryz.prog G2 104 [Sv l, I 10, I 64] (.tup [I x, a]) := by
  by_cases hv : ∃ v, parseIntB 64 l = .ok v
  · obtain ⟨v, hv⟩ := hv
    exact ⟨v, _, .inl rfl, parse_ok l hn v hv⟩
  · obtain ⟨x, hx⟩ := parse_err l hn fun v h => hv ⟨v, h⟩
    exact ⟨x, _, .inr rfl, hx⟩
set_option maxHeartbeats 1000000 in
set_option maxRecDepth 100000 in
theorem readMonth_ret (l : List UInt8) (hn : l.length ≤ 1048576) : Ret Tryz.prog G2 93 [Sv l] (.tup [I (rmN l), Bo (rmB l)]) := by
  have hz := B_size l
  have x4 : (B l).extract 0 4 = B (l.take 4) := by rw [B_extract]; rfl
  have x5 : (B l).extract 5 l.length = B (l.drop 5) := by rw [B_extract, take_all (Nat.le_refl _)]
  have l4 : (l.take 4).length ≤ 4 := by rw [List.length_take]; omega
  have l5 : (l.drop 5).length ≤ 1048576 := by rw [List.length_drop]; omega
  refine ret_of_body hT Tryz.func93 rfl ?_ rfl
  by_cases hx : ∃ n, mon n ∧ l = mt n
  · obtain ⟨n, hm, he⟩ := hx
    obtain ⟨e1, e2⟩ := rm_yes hm he
    have h7 : l.length = 7 := by rw [he]; rfl
    rw [e1, e2]
    have p4 := parse_ok (l.take 4) (by omega) (n / 12) (by rw [he]; exact mt_parse4 hm)
    have p5 := parse_ok (l.drop 5) (by omega) (n % 12 + 1) (by rw [he]; exact mt_parse2 hm)
    rw [show Sv (l.take 4) = .v (.string ((B l).extract 0 4)) from by rw [x4]] at p4
    rw [show Sv (l.drop 5) = .v (.string ((B l).extract 5 l.length)) from by rw [x5]] at p5
    have ho := (monthOf_yes (n / 12) (n % 12 + 1) (by unfold mon at hm; unfold moOk; omega)).weak G_G2
    rw [show 12 * (n / 12) + (n % 12 + 1) - 1 = n by omega] at ho
    have ht := (monthText_ret n hm).weak G_G2
    rw [← he] at ht
    repeat' ((first | (conv => whnf) | skip); (first | ((with_reducible intro h); first | contradiction | omega | (conv => whnf) | skip) | (with_reducible refine And.intro ?_ ?_) | ((with_reducible show arithK _ _ _); refine arith_ok ⟨by omega, by omega⟩ ?_) | ((with_reducible show quoK _ _ _ _); refine quo_ok ⟨by omega, by omega⟩ (by omega) (by omega) ?_) | ((with_reducible show remK _ _ _ _); refine rem_ok (by omega) (by omega) ?_) | ((first | (with_reducible show CallA _ _ _ _ _ _) | (with_reducible show CallQ _ _ _ _ _ _)); first | (refine Ret.go (p4) rfl rfl ?_) | (refine Ret.goQ (p4) rfl rfl ?_) | (refine Ret.go (p5) rfl rfl ?_) | (refine Ret.goQ (p5) rfl rfl ?_) | (refine Ret.go (ho) rfl rfl ?_) | (refine Ret.goQ (ho) rfl rfl ?_) | (refine Ret.go (ht) rfl rfl ?_) | (refine Ret.goQ (ht) rfl rfl ?_)) | ((with_reducible show DrawA _ _ _ _ _ _); first | (refine draw_hard hT mixed (by decide +kernel) ?_))))
    all_goals first | rfl | omega | contradiction | (exfalso; (try simp at *); omega) | trace_state
  · obtain ⟨e1, e2⟩ := rm_no fun n h1 h2 => hx ⟨n, h1, h2⟩
    rw [e1, e2]
    by_cases h7 : l.length = 7
    · obtain ⟨x, a, ha, p4⟩ := parse_any (l.take 4) (by omega)
      obtain ⟨y, b, hb, p5⟩ := parse_any (l.drop 5) (by omega)
      rw [show Sv (l.take 4) = .v (.string ((B l).extract 0 4)) from by rw [x4]] at p4
      rw [show Sv (l.drop 5) = .v (.string ((B l).extract 5 l.length)) from by rw [x5]] at p5
      by_cases ho : moOk x y
      · have hm : mon (12 * x + y - 1) := by unfold moOk at ho; unfold mon; omega
        have hne : ¬ B (mt (12 * x + y - 1)) = B l := fun e => hx ⟨_, hm, (B_inj.1 e).symm⟩
        have ht := (monthText_ret _ hm).weak G_G2
        have ho := (monthOf_yes x y ho).weak G_G2
        rcases ha with rfl | rfl
        · rcases hb with rfl | rfl
          · repeat' ((first | (conv => whnf) | skip); (first | ((with_reducible intro h); first | contradiction | omega | (conv => whnf) | skip) | (with_reducible refine And.intro ?_ ?_) | ((with_reducible show arithK _ _ _); refine arith_ok ⟨by omega, by omega⟩ ?_) | ((with_reducible show quoK _ _ _ _); refine quo_ok ⟨by omega, by omega⟩ (by omega) (by omega) ?_) | ((with_reducible show remK _ _ _ _); refine rem_ok (by omega) (by omega) ?_) | ((first | (with_reducible show CallA _ _ _ _ _ _) | (with_reducible show CallQ _ _ _ _ _ _)); first | (refine Ret.use (p4) (by first | ((repeat' (first | exact rfl | exact trivial | (with_reducible assumption) | refine And.intro ?_ ?_ | omega | assumption)); done) | fail) ?_) | (refine Ret.useQ (p4) (by first | ((repeat' (first | exact rfl | exact trivial | (with_reducible assumption) | refine And.intro ?_ ?_ | omega | assumption)); done) | fail) rfl ?_) | (refine Ret.use (p5) (by first | ((repeat' (first | exact rfl | exact trivial | (with_reducible assumption) | refine And.intro ?_ ?_ | omega | assumption)); done) | fail) ?_) | (refine Ret.useQ (p5) (by first | ((repeat' (first | exact rfl | exact trivial | (with_reducible assumption) | refine And.intro ?_ ?_ | omega | assumption)); done) | fail) rfl ?_) | (refine Ret.go (ho) rfl rfl ?_) | (refine Ret.goQ (ho) rfl rfl ?_) | (refine Ret.go (ht) rfl rfl ?_) | (refine Ret.goQ (ht) rfl rfl ?_)) | ((with_reducible show DrawA _ _ _ _ _ _); first | (refine draw_hard hT mixed (by decide +kernel) ?_))))
            all_goals first | rfl | omega | contradiction | trace_state
          · repeat' ((first | (conv => whnf) | skip); (first | ((with_reducible intro h); first | contradiction | omega | (conv => whnf) | skip) | (with_reducible refine And.intro ?_ ?_) | ((with_reducible show arithK _ _ _); refine arith_ok ⟨by omega, by omega⟩ ?_) | ((with_reducible show quoK _ _ _ _); refine quo_ok ⟨by omega, by omega⟩ (by omega) (by omega) ?_) | ((with_reducible show remK _ _ _ _); refine rem_ok (by omega) (by omega) ?_) | ((first | (with_reducible show CallA _ _ _ _ _ _) | (with_reducible show CallQ _ _ _ _ _ _)); first | (refine Ret.use (p4) (by first | ((repeat' (first | exact rfl | exact trivial | (with_reducible assumption) | refine And.intro ?_ ?_ | omega | assumption)); done) | fail) ?_) | (refine Ret.useQ (p4) (by first | ((repeat' (first | exact rfl | exact trivial | (with_reducible assumption) | refine And.intro ?_ ?_ | omega | assumption)); done) | fail) rfl ?_) | (refine Ret.use (p5) (by first | ((repeat' (first | exact rfl | exact trivial | (with_reducible assumption) | refine And.intro ?_ ?_ | omega | assumption)); done) | fail) ?_) | (refine Ret.useQ (p5) (by first | ((repeat' (first | exact rfl | exact trivial | (with_reducible assumption) | refine And.intro ?_ ?_ | omega | assumption)); done) | fail) rfl ?_) | (refine Ret.go (ho) rfl rfl ?_) | (refine Ret.goQ (ho) rfl rfl ?_) | (refine Ret.go (ht) rfl rfl ?_) | (refine Ret.goQ (ht) rfl rfl ?_)) | ((with_reducible show DrawA _ _ _ _ _ _); first | (refine draw_hard hT mixed (by decide +kernel) ?_))))
            all_goals first | rfl | omega | contradiction | trace_state
        · rcases hb with rfl | rfl
          · repeat' ((first | (conv => whnf) | skip); (first | ((with_reducible intro h); first | contradiction | omega | (conv => whnf) | skip) | (with_reducible refine And.intro ?_ ?_) | ((with_reducible show arithK _ _ _); refine arith_ok ⟨by omega, by omega⟩ ?_) | ((with_reducible show quoK _ _ _ _); refine quo_ok ⟨by omega, by omega⟩ (by omega) (by omega) ?_) | ((with_reducible show remK _ _ _ _); refine rem_ok (by omega) (by omega) ?_) | ((first | (with_reducible show CallA _ _ _ _ _ _) | (with_reducible show CallQ _ _ _ _ _ _)); first | (refine Ret.use (p4) (by first | ((repeat' (first | exact rfl | exact trivial | (with_reducible assumption) | refine And.intro ?_ ?_ | omega | assumption)); done) | fail) ?_) | (refine Ret.useQ (p4) (by first | ((repeat' (first | exact rfl | exact trivial | (with_reducible assumption) | refine And.intro ?_ ?_ | omega | assumption)); done) | fail) rfl ?_) | (refine Ret.use (p5) (by first | ((repeat' (first | exact rfl | exact trivial | (with_reducible assumption) | refine And.intro ?_ ?_ | omega | assumption)); done) | fail) ?_) | (refine Ret.useQ (p5) (by first | ((repeat' (first | exact rfl | exact trivial | (with_reducible assumption) | refine And.intro ?_ ?_ | omega | assumption)); done) | fail) rfl ?_) | (refine Ret.go (ho) rfl rfl ?_) | (refine Ret.goQ (ho) rfl rfl ?_) | (refine Ret.go (ht) rfl rfl ?_) | (refine Ret.goQ (ht) rfl rfl ?_)) | ((with_reducible show DrawA _ _ _ _ _ _); first | (refine draw_hard hT mixed (by decide +kernel) ?_))))
            all_goals first | rfl | omega | contradiction | trace_state
          · repeat' ((first | (conv => whnf) | skip); (first | ((with_reducible intro h); first | contradiction | omega | (conv => whnf) | skip) | (with_reducible refine And.intro ?_ ?_) | ((with_reducible show arithK _ _ _); refine arith_ok ⟨by omega, by omega⟩ ?_) | ((with_reducible show quoK _ _ _ _); refine quo_ok ⟨by omega, by omega⟩ (by omega) (by omega) ?_) | ((with_reducible show remK _ _ _ _); refine rem_ok (by omega) (by omega) ?_) | ((first | (with_reducible show CallA _ _ _ _ _ _) | (with_reducible show CallQ _ _ _ _ _ _)); first | (refine Ret.use (p4) (by first | ((repeat' (first | exact rfl | exact trivial | (with_reducible assumption) | refine And.intro ?_ ?_ | omega | assumption)); done) | fail) ?_) | (refine Ret.useQ (p4) (by first | ((repeat' (first | exact rfl | exact trivial | (with_reducible assumption) | refine And.intro ?_ ?_ | omega | assumption)); done) | fail) rfl ?_) | (refine Ret.use (p5) (by first | ((repeat' (first | exact rfl | exact trivial | (with_reducible assumption) | refine And.intro ?_ ?_ | omega | assumption)); done) | fail) ?_) | (refine Ret.useQ (p5) (by first | ((repeat' (first | exact rfl | exact trivial | (with_reducible assumption) | refine And.intro ?_ ?_ | omega | assumption)); done) | fail) rfl ?_) | (refine Ret.go (ho) rfl rfl ?_) | (refine Ret.goQ (ho) rfl rfl ?_) | (refine Ret.go (ht) rfl rfl ?_) | (refine Ret.goQ (ht) rfl rfl ?_)) | ((with_reducible show DrawA _ _ _ _ _ _); first | (refine draw_hard hT mixed (by decide +kernel) ?_))))
            all_goals first | rfl | omega | contradiction | trace_state
      · have ho := (monthOf_no x y ho).weak G_G2
        rcases ha with rfl | rfl
        · rcases hb with rfl | rfl
          · repeat' ((first | (conv => whnf) | skip); (first | ((with_reducible intro h); first | contradiction | omega | (conv => whnf) | skip) | (with_reducible refine And.intro ?_ ?_) | ((with_reducible show arithK _ _ _); refine arith_ok ⟨by omega, by omega⟩ ?_) | ((with_reducible show quoK _ _ _ _); refine quo_ok ⟨by omega, by omega⟩ (by omega) (by omega) ?_) | ((with_reducible show remK _ _ _ _); refine rem_ok (by omega) (by omega) ?_) | ((first | (with_reducible show CallA _ _ _ _ _ _) | (with_reducible show CallQ _ _ _ _ _ _)); first | (refine Ret.use (p4) (by first | ((repeat' (first | exact rfl | exact trivial | (with_reducible assumption) | refine And.intro ?_ ?_ | omega | assumption)); done) | fail) ?_) | (refine Ret.useQ (p4) (by first | ((repeat' (first | exact rfl | exact trivial | (with_reducible assumption) | refine And.intro ?_ ?_ | omega | assumption)); done) | fail) rfl ?_) | (refine Ret.use (p5) (by first | ((repeat' (first | exact rfl | exact trivial | (with_reducible assumption) | refine And.intro ?_ ?_ | omega | assumption)); done) | fail) ?_) | (refine Ret.useQ (p5) (by first | ((repeat' (first | exact rfl | exact trivial | (with_reducible assumption) | refine And.intro ?_ ?_ | omega | assumption)); done) | fail) rfl ?_) | (refine Ret.go (ho) rfl rfl ?_) | (refine Ret.goQ (ho) rfl rfl ?_)) | ((with_reducible show DrawA _ _ _ _ _ _); first | (refine draw_hard hT mixed (by decide +kernel) ?_))))
            all_goals first | rfl | omega | contradiction | trace_state
          · repeat' ((first | (conv => whnf) | skip); (first | ((with_reducible intro h); first | contradiction | omega | (conv => whnf) | skip) | (with_reducible refine And.intro ?_ ?_) | ((with_reducible show arithK _ _ _); refine arith_ok ⟨by omega, by omega⟩ ?_) | ((with_reducible show quoK _ _ _ _); refine quo_ok ⟨by omega, by omega⟩ (by omega) (by omega) ?_) | ((with_reducible show remK _ _ _ _); refine rem_ok (by omega) (by omega) ?_) | ((first | (with_reducible show CallA _ _ _ _ _ _) | (with_reducible show CallQ _ _ _ _ _ _)); first | (refine Ret.use (p4) (by first | ((repeat' (first | exact rfl | exact trivial | (with_reducible assumption) | refine And.intro ?_ ?_ | omega | assumption)); done) | fail) ?_) | (refine Ret.useQ (p4) (by first | ((repeat' (first | exact rfl | exact trivial | (with_reducible assumption) | refine And.intro ?_ ?_ | omega | assumption)); done) | fail) rfl ?_) | (refine Ret.use (p5) (by first | ((repeat' (first | exact rfl | exact trivial | (with_reducible assumption) | refine And.intro ?_ ?_ | omega | assumption)); done) | fail) ?_) | (refine Ret.useQ (p5) (by first | ((repeat' (first | exact rfl | exact trivial | (with_reducible assumption) | refine And.intro ?_ ?_ | omega | assumption)); done) | fail) rfl ?_) | (refine Ret.go (ho) rfl rfl ?_) | (refine Ret.goQ (ho) rfl rfl ?_)) | ((with_reducible show DrawA _ _ _ _ _ _); first | (refine draw_hard hT mixed (by decide +kernel) ?_))))
            all_goals first | rfl | omega | contradiction | trace_state
        · rcases hb with rfl | rfl
          · repeat' ((first | (conv => whnf) | skip); (first | ((with_reducible intro h); first | contradiction | omega | (conv => whnf) | skip) | (with_reducible refine And.intro ?_ ?_) | ((with_reducible show arithK _ _ _); refine arith_ok ⟨by omega, by omega⟩ ?_) | ((with_reducible show quoK _ _ _ _); refine quo_ok ⟨by omega, by omega⟩ (by omega) (by omega) ?_) | ((with_reducible show remK _ _ _ _); refine rem_ok (by omega) (by omega) ?_) | ((first | (with_reducible show CallA _ _ _ _ _ _) | (with_reducible show CallQ _ _ _ _ _ _)); first | (refine Ret.use (p4) (by first | ((repeat' (first | exact rfl | exact trivial | (with_reducible assumption) | refine And.intro ?_ ?_ | omega | assumption)); done) | fail) ?_) | (refine Ret.useQ (p4) (by first | ((repeat' (first | exact rfl | exact trivial | (with_reducible assumption) | refine And.intro ?_ ?_ | omega | assumption)); done) | fail) rfl ?_) | (refine Ret.use (p5) (by first | ((repeat' (first | exact rfl | exact trivial | (with_reducible assumption) | refine And.intro ?_ ?_ | omega | assumption)); done) | fail) ?_) | (refine Ret.useQ (p5) (by first | ((repeat' (first | exact rfl | exact trivial | (with_reducible assumption) | refine And.intro ?_ ?_ | omega | assumption)); done) | fail) rfl ?_) | (refine Ret.go (ho) rfl rfl ?_) | (refine Ret.goQ (ho) rfl rfl ?_)) | ((with_reducible show DrawA _ _ _ _ _ _); first | (refine draw_hard hT mixed (by decide +kernel) ?_))))
            all_goals first | rfl | omega | contradiction | trace_state
          · repeat' ((first | (conv => whnf) | skip); (first | ((with_reducible intro h); first | contradiction | omega | (conv => whnf) | skip) | (with_reducible refine And.intro ?_ ?_) | ((with_reducible show arithK _ _ _); refine arith_ok ⟨by omega, by omega⟩ ?_) | ((with_reducible show quoK _ _ _ _); refine quo_ok ⟨by omega, by omega⟩ (by omega) (by omega) ?_) | ((with_reducible show remK _ _ _ _); refine rem_ok (by omega) (by omega) ?_) | ((first | (with_reducible show CallA _ _ _ _ _ _) | (with_reducible show CallQ _ _ _ _ _ _)); first | (refine Ret.use (p4) (by first | ((repeat' (first | exact rfl | exact trivial | (with_reducible assumption) | refine And.intro ?_ ?_ | omega | assumption)); done) | fail) ?_) | (refine Ret.useQ (p4) (by first | ((repeat' (first | exact rfl | exact trivial | (with_reducible assumption) | refine And.intro ?_ ?_ | omega | assumption)); done) | fail) rfl ?_) | (refine Ret.use (p5) (by first | ((repeat' (first | exact rfl | exact trivial | (with_reducible assumption) | refine And.intro ?_ ?_ | omega | assumption)); done) | fail) ?_) | (refine Ret.useQ (p5) (by first | ((repeat' (first | exact rfl | exact trivial | (with_reducible assumption) | refine And.intro ?_ ?_ | omega | assumption)); done) | fail) rfl ?_) | (refine Ret.go (ho) rfl rfl ?_) | (refine Ret.goQ (ho) rfl rfl ?_)) | ((with_reducible show DrawA _ _ _ _ _ _); first | (refine draw_hard hT mixed (by decide +kernel) ?_))))
            all_goals first | rfl | omega | contradiction | trace_state
    · repeat' ((first | (conv => whnf) | skip); (first | ((with_reducible intro h); first | contradiction | omega | (conv => whnf) | skip) | (with_reducible refine And.intro ?_ ?_) | ((with_reducible show arithK _ _ _); refine arith_ok ⟨by omega, by omega⟩ ?_) | ((with_reducible show quoK _ _ _ _); refine quo_ok ⟨by omega, by omega⟩ (by omega) (by omega) ?_) | ((with_reducible show remK _ _ _ _); refine rem_ok (by omega) (by omega) ?_) | ((first | (with_reducible show CallA _ _ _ _ _ _) | (with_reducible show CallQ _ _ _ _ _ _)); first | fail) | ((with_reducible show DrawA _ _ _ _ _ _); first | (refine draw_hard hT mixed (by decide +kernel) ?_))))
      all_goals first | rfl | omega | contradiction | (exfalso; (try simp at *); omega) | trace_state
end Go.Proofs.YtgpgnhadmckmhaaGreatDoor
