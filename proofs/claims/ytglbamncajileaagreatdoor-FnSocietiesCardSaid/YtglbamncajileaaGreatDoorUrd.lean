/-
  A command of the console, read by the program: the same word and the same numbers as the reference's. No conditions but those in the statements.
-/
import Derived.Test.YtglbamncajileaaGreatDoorCmc
set_option linter.unusedVariables false
set_option linter.unusedSimpArgs false
set_option maxRecDepth 100000
set_option maxHeartbeats 400000
namespace Go.Proofs.YtglbamncajileaaGreatDoor
open Go.AE Go.Lib
attribute [local irreducible] CallA LoopA DrawA CallQ arithK quoK remK eqK
theorem kd_shp (b : ByteArray) : (kd b = (0, 0, 0) ∧ shp b = (B [], false)) ∨ (kd b = (1, 0, 0) ∧ shp b = (B [], true)) ∨ (kd b = (1, 1, 1) ∧ shp b = (B [105], true)) ∨ (kd b = (1, 2, 2) ∧ shp b = (B [105, 105], true)) ∨ (kd b = (1, 4, 4) ∧ shp b = (B [105, 105, 105, 105], true)) ∨ (kd b = (1, 2, 1000) ∧ shp b = (B [105, 105, 46], true)) ∨ (kd b = (2, 0, 0) ∧ shp b = (B [119], true)) ∨ (kd b = (2, 1, 1) ∧ shp b = (B [119, 105], true)) := by
 by_cases h0 : b = ⟨#[108, 105, 115, 116]⟩
 · subst h0; decide
 by_cases h1 : b = ⟨#[114, 101, 115, 101, 114, 118, 101]⟩
 · subst h1; decide
 by_cases h2 : b = ⟨#[112, 114, 101, 109, 105, 117, 109, 115]⟩
 · subst h2; decide
 by_cases h3 : b = ⟨#[99, 108, 97, 105, 109, 115]⟩
 · subst h3; decide
 by_cases h4 : b = ⟨#[113, 117, 111, 116, 101]⟩
 · subst h4; decide
 by_cases h5 : b = ⟨#[104, 111, 108, 100]⟩
 · subst h5; decide
 by_cases h6 : b = ⟨#[114, 97, 116, 101]⟩
 · subst h6; decide
 by_cases h7 : b = ⟨#[102, 117, 110, 100]⟩
 · subst h7; decide
 by_cases h8 : b = ⟨#[100, 114, 111, 112]⟩
 · subst h8; decide
 by_cases h9 : b = ⟨#[108, 101, 97, 118, 101]⟩
 · subst h9; decide
 by_cases h10 : b = ⟨#[97, 110, 110, 117, 105, 116, 121]⟩
 · subst h10; decide
 by_cases h11 : b = ⟨#[115, 99, 101, 110, 97, 114, 105, 111]⟩
 · subst h11; decide
 by_cases h12 : b = ⟨#[98, 111, 110, 117, 115]⟩
 · subst h12; decide
 by_cases h13 : b = ⟨#[112, 114, 105, 99, 101]⟩
 · subst h13; decide
 by_cases h14 : b = ⟨#[116, 97, 98, 108, 101]⟩
 · subst h14; decide
 by_cases h15 : b = ⟨#[121, 101, 97, 114]⟩
 · subst h15; decide
 exact .inl ⟨by unfold kd; simp only [h0, h1, h2, h3, h4, h5, h6, h7, h8, h9, h10, h11, h12, h13, h14, h15, if_false], by unfold shp; simp only [h0, h1, h2, h3, h4, h5, h6, h7, h8, h9, h10, h11, h12, h13, h14, h15, if_false]⟩
def cmdS (l : List UInt8) : Prop := ∃ w0 vs, sp 32 l = w0 :: vs ∧ cmdP (B w0) vs
theorem sp_cons (l : List UInt8) : ∃ w0 vs, sp 32 l = w0 :: vs := by
 cases h : sp 32 l with
 | nil => exact absurd h (sp_ne 32 l)
 | cons w0 vs => exact ⟨w0, vs, rfl⟩
theorem imp_plain {more : Bool} {m : Nat} {vs : List (List UInt8)} : impP true more false m vs ↔ (allN vs ∧ m ≤ vs.length ∧ (vs.length ≤ m ∨ more = true) ∧ vs.length ≤ 1000) := by
 unfold impP
 constructor
 · rintro ⟨⟨_, h1, h2⟩, _, h3, h4⟩
   exact ⟨h3, h1, h2, h4⟩
 · rintro ⟨h3, h1, h2, h4⟩
   exact ⟨⟨rfl, h1, h2⟩, fun h => (by cases h), h3, h4⟩
theorem imp_word {m : Nat} {vs : List (List UInt8)} (hm : 0 < m) (hm2 : m ≤ 2) : impP true false true m vs ↔ ((vs ≠ [] ∧ vs.getD 0 [] ≠ []) ∧ allN (vs.drop 1) ∧ vs.length = m) := by
 unfold impP
 constructor
 · rintro ⟨⟨_, h1, h2⟩, h3, h4, h5⟩
   have h6 : vs.length ≤ m := by
     rcases h2 with h | h
     · exact h
     · cases h
   exact ⟨⟨fun e => by rw [e] at h1; exact absurd h1 (by show ¬ m ≤ 0; omega), h3 rfl⟩, h4, by omega⟩
 · rintro ⟨⟨_, h3⟩, h4, h5⟩
   exact ⟨⟨rfl, by omega, .inl (by omega)⟩, fun _ => h3, h4, by show vs.length ≤ 1001; omega⟩
theorem map_rn {ws : List (List UInt8)} (h : allN ws) : ws.map rnN = numX ws := by
 unfold numX
 rw [if_pos h]
 exact List.map_congr_left fun w hw => by unfold rnN; rw [if_pos (h w hw)]
abbrev RdOut (b : ByteArray) (vs : List (List UInt8)) (v : AV) (J : List Blk) : Prop := ∃ (x : ByteArray × ByteArray × List Int) (a s : Int), v = .tup [.agg [.v (.string x.1), .sl 0 1 x.2.2.length, .v (.string x.2.1)], Bo (decide (cmdP b vs))] ∧ J = [.data (.ints .i64 x.2.2)] ∧ ((a = 0 ∧ s = 0) ∧ (cmdP b vs → x = (b, cmdW b vs, cmdN b vs)))
theorem rd_of {b : ByteArray} {vs : List (List UInt8)} {k lo hi : Nat} (w : Bool) (hk : kd b = (k, lo, hi)) (hw : w = true ↔ k = 2) : cmdP b vs → impW w vs = cmdW b vs ∧ (vs.drop (wn w)).map rnN = cmdN b vs := fun hp => by
 have h := (kd_cases hk).1 hp
 have hk1 : (kd b).1 = k := by rw [hk]
 unfold impW cmdW wn cmdN
 rw [hk1]
 rcases h with ⟨e, ha, -⟩ | ⟨e, -, ha, -⟩
 · have hwf : w = false := by cases w; rfl; exact absurd (hw.1 rfl) (by omega)
   subst hwf
   have h2 : ¬ k = 2 := by omega
   refine ⟨?_, ?_⟩
   · rw [if_neg (by decide), if_neg h2]
   · rw [if_neg (by decide), if_neg h2]; exact map_rn ha
 · have hwt : w = true := hw.2 e
   subst hwt
   refine ⟨?_, ?_⟩
   · rw [if_pos rfl, if_pos e]
   · rw [if_pos rfl, if_pos e]; exact map_rn ha
theorem out_of {b : ByteArray} {there more w : Bool} {m : Nat} {vs : List (List UInt8)} {v : AV} {J : List Blk} (h : ImpOut b there more w m vs v J) (hi : impP there more w m vs ↔ cmdP b vs) (he : cmdP b vs → impW w vs = cmdW b vs ∧ (vs.drop (wn w)).map rnN = cmdN b vs) : RdOut b vs v J := by
 obtain ⟨x, a, s, h1, h2, h3, h4⟩ := h
 refine ⟨x, a, s, ?_, h2, h3, fun hp => ?_⟩
 · rw [h1, decide_eq_decide.2 hi]
 · rw [h4 (hi.2 hp), (he hp).1, (he hp).2]
attribute [local irreducible] cmdP impP
theorem readC_call (l : List UInt8) (hn : l.length ≤ 1048576) (w0 : List UInt8) (vs : List (List UInt8)) (hws : sp 32 l = w0 :: vs) : Ca 40 [Sv l] [] (RdOut (B w0) vs) := by
 have hd1 : (vs.drop 1).length = vs.length - 1 := List.length_drop
 rcases kd_shp (B w0) with ⟨hk, hs⟩ | ⟨hk, hs⟩ | ⟨hk, hs⟩ | ⟨hk, hs⟩ | ⟨hk, hs⟩ | ⟨hk, hs⟩ | ⟨hk, hs⟩ | ⟨hk, hs⟩
 · have h2 := command_call l hn w0 vs hws [] [] false false false hs (by decide) (by decide) (by decide) (by decide) (by decide)
   have e : impP false false false ([] : List UInt8).length vs ↔ cmdP (B w0) vs := by
     rw [kd_cases hk]
     constructor
     · intro h
       unfold impP at h
       exact absurd h.1.1 (by decide)
     · rintro (⟨h, _⟩ | ⟨h, _⟩) <;> exact absurd h (by decide)
   exact h2.mono fun v J h => out_of h e (rd_of false hk (by decide))
 · have h2 := command_call l hn w0 vs hws [] [] true false false hs (by decide) (by decide) (by decide) (by decide) (by decide)
   have e : impP true false false ([] : List UInt8).length vs ↔ cmdP (B w0) vs := by
     rw [kd_cases hk]
     rw [show ([] : List UInt8).length = 0 from rfl, imp_plain]
     constructor
     · rintro ⟨a1, a2, a3, a4⟩
       exact .inl ⟨rfl, a1, by omega, by rcases a3 with h | h; exact h; cases h⟩
     · rintro (⟨_, a1, a2, a3⟩ | ⟨h, _⟩)
       · exact ⟨a1, by omega, .inl a3, by omega⟩
       · exact absurd h (by decide)
   exact h2.mono fun v J h => out_of h e (rd_of false hk (by decide))
 · have h2 := command_call l hn w0 vs hws [105] [105] true false false hs (by decide) (by decide) (by decide) (by decide) (by decide)
   have e : impP true false false ([105] : List UInt8).length vs ↔ cmdP (B w0) vs := by
     rw [kd_cases hk]
     rw [show ([105] : List UInt8).length = 1 from rfl, imp_plain]
     constructor
     · rintro ⟨a1, a2, a3, a4⟩
       exact .inl ⟨rfl, a1, by omega, by rcases a3 with h | h; exact h; cases h⟩
     · rintro (⟨_, a1, a2, a3⟩ | ⟨h, _⟩)
       · exact ⟨a1, by omega, .inl a3, by omega⟩
       · exact absurd h (by decide)
   exact h2.mono fun v J h => out_of h e (rd_of false hk (by decide))
 · have h2 := command_call l hn w0 vs hws [105, 105] [105, 105] true false false hs (by decide) (by decide) (by decide) (by decide) (by decide)
   have e : impP true false false ([105, 105] : List UInt8).length vs ↔ cmdP (B w0) vs := by
     rw [kd_cases hk]
     rw [show ([105, 105] : List UInt8).length = 2 from rfl, imp_plain]
     constructor
     · rintro ⟨a1, a2, a3, a4⟩
       exact .inl ⟨rfl, a1, by omega, by rcases a3 with h | h; exact h; cases h⟩
     · rintro (⟨_, a1, a2, a3⟩ | ⟨h, _⟩)
       · exact ⟨a1, by omega, .inl a3, by omega⟩
       · exact absurd h (by decide)
   exact h2.mono fun v J h => out_of h e (rd_of false hk (by decide))
 · have h2 := command_call l hn w0 vs hws [105, 105, 105, 105] [105, 105, 105, 105] true false false hs (by decide) (by decide) (by decide) (by decide) (by decide)
   have e : impP true false false ([105, 105, 105, 105] : List UInt8).length vs ↔ cmdP (B w0) vs := by
     rw [kd_cases hk]
     rw [show ([105, 105, 105, 105] : List UInt8).length = 4 from rfl, imp_plain]
     constructor
     · rintro ⟨a1, a2, a3, a4⟩
       exact .inl ⟨rfl, a1, by omega, by rcases a3 with h | h; exact h; cases h⟩
     · rintro (⟨_, a1, a2, a3⟩ | ⟨h, _⟩)
       · exact ⟨a1, by omega, .inl a3, by omega⟩
       · exact absurd h (by decide)
   exact h2.mono fun v J h => out_of h e (rd_of false hk (by decide))
 · have h2 := command_call l hn w0 vs hws [105, 105, 46] [105, 105] true true false hs (by decide) (by decide) (by decide) (by decide) (by decide)
   have e : impP true true false ([105, 105] : List UInt8).length vs ↔ cmdP (B w0) vs := by
     rw [kd_cases hk]
     rw [show ([105, 105] : List UInt8).length = 2 from rfl, imp_plain]
     constructor
     · rintro ⟨a1, a2, a3, a4⟩
       exact .inl ⟨rfl, a1, by omega, by omega⟩
     · rintro (⟨_, a1, a2, a3⟩ | ⟨h, _⟩)
       · exact ⟨a1, by omega, .inr rfl, by omega⟩
       · exact absurd h (by decide)
   exact h2.mono fun v J h => out_of h e (rd_of false hk (by decide))
 · have h2 := command_call l hn w0 vs hws [119] [119] true false true hs (by decide) (by decide) (by decide) (by decide) (by decide)
   have e : impP true false true ([119] : List UInt8).length vs ↔ cmdP (B w0) vs := by
     rw [kd_cases hk]
     rw [show ([119] : List UInt8).length = 1 from rfl, imp_word (by decide) (by decide)]
     constructor
     · rintro ⟨a1, a2, a3⟩
       exact .inr ⟨rfl, a1, a2, by omega, by omega⟩
     · rintro (⟨h, _⟩ | ⟨_, a1, a2, a3, a4⟩)
       · exact absurd h (by decide)
       · have := List.length_pos_iff.2 a1.1
         exact ⟨a1, a2, by omega⟩
   exact h2.mono fun v J h => out_of h e (rd_of true hk (by decide))
 · have h2 := command_call l hn w0 vs hws [119, 105] [119, 105] true false true hs (by decide) (by decide) (by decide) (by decide) (by decide)
   have e : impP true false true ([119, 105] : List UInt8).length vs ↔ cmdP (B w0) vs := by
     rw [kd_cases hk]
     rw [show ([119, 105] : List UInt8).length = 2 from rfl, imp_word (by decide) (by decide)]
     constructor
     · rintro ⟨a1, a2, a3⟩
       exact .inr ⟨rfl, a1, a2, by omega, by omega⟩
     · rintro (⟨h, _⟩ | ⟨_, a1, a2, a3, a4⟩)
       · exact absurd h (by decide)
       · have := List.length_pos_iff.2 a1.1
         exact ⟨a1, a2, by omega⟩
   exact h2.mono fun v J h => out_of h e (rd_of true hk (by decide))
end Go.Proofs.YtglbamncajileaaGreatDoor
