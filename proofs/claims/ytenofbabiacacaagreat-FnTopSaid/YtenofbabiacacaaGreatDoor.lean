/-
  Closed facts on this seat's program. No conditions but those in the statements.
-/
import Derived.Test.YtenofbabiacacaaGreatRows
import Derived.Test.YtenofbabiacacaaGreatTy
import Derived.Test.YtenofbabiacacaaGreatAeOpen
import Derived.Test.YtenofbabiacacaaGreatAeList
set_option linter.unusedVariables false
set_option linter.unusedSimpArgs false
namespace Go.Proofs.YtenofbabiacacaaGreat
open Go.AE Go.RowKit Go.WideShapes Go.ChangeShapes
theorem own : ownKnob Tryz.prog.godebug = none := by kernel_rfl
theorem laid : laidOutB Tryz.prog = true := by kernel_rfl
theorem openB3 {W : World} {l : List Value} (h : All2 (CellOk W) [.int .i64, .ints .i64, .int .i64] l) : ∃ (f : Int) (ls : List Int) (c : Value) (r : Int), l = [.int .i64 f, c, .int .i64 r] ∧ SlD (allB W) W (.ints .i64 ls) c := by
  obtain ⟨_, _, rfl, ⟨a, rfl, _⟩, q0⟩ := h.cons_inv
  obtain ⟨c, _, rfl, ⟨ls, hc, _⟩, q1⟩ := q0.cons_inv
  obtain ⟨_, _, rfl, ⟨b, rfl, _⟩, q2⟩ := q1.cons_inv
  obtain rfl := q2.nil_inv
  exact ⟨a, ls, c, b, rfl, hc⟩
theorem vrB3 {β : Nat → Option Nat} {n : Nat} {S : Nat → Prop} {W : World} {ls : List Int} {c : Value} (f r : Int) (hc : SlD S W (.ints .i64 ls) c) : VR β n S W (.agg [.v (.int .i64 f), .ro (.ints .i64 ls), .v (.int .i64 r)]) (.agg #[.int .i64 f, c, .int .i64 r]) :=
  vr_agg (cs := [.int .i64 f, c, .int .i64 r]) (.cons (.v _ rfl) (.cons (.ro _ _ hc) (.cons (.v _ rfl) .nil)))
theorem openS5 {W : World} {l : List Value} (h : All2 (CellOk W) [.int .i64, .ints .i64, .int .i64, .recs 7, .int .i64] l) : ∃ (f : Int) (ls : List Int) (c : Value) (r : Int) (hs : List (List Int)) (e : Value) (d : Int), l = [.int .i64 f, c, .int .i64 r, e, .int .i64 d] ∧ SlD (allB W) W (.ints .i64 ls) c ∧ SlD (allB W) W (.recs 7 hs) e ∧ ∀ h ∈ hs, h.length = 7 := by
  obtain ⟨_, _, rfl, ⟨a, rfl, _⟩, q0⟩ := h.cons_inv
  obtain ⟨c, _, rfl, ⟨ls, hc, _⟩, q1⟩ := q0.cons_inv
  obtain ⟨_, _, rfl, ⟨b, rfl, _⟩, q2⟩ := q1.cons_inv
  obtain ⟨e, _, rfl, ⟨hs, he, hb⟩, q3⟩ := q2.cons_inv
  obtain ⟨_, _, rfl, ⟨d, rfl, _⟩, q4⟩ := q3.cons_inv
  obtain rfl := q4.nil_inv
  exact ⟨a, ls, c, b, hs, e, d, rfl, hc, he, fun h hm => (hb h hm).1⟩
theorem vrS5 {β : Nat → Option Nat} {n : Nat} {S : Nat → Prop} {W : World} {ls : List Int} {hs : List (List Int)} {c e : Value} (f r d : Int) (hc : SlD S W (.ints .i64 ls) c) (he : SlD S W (.recs 7 hs) e) : VR β n S W (.agg [.v (.int .i64 f), .ro (.ints .i64 ls), .v (.int .i64 r), .ro (.recs 7 hs), .v (.int .i64 d)]) (.agg #[.int .i64 f, c, .int .i64 r, e, .int .i64 d]) :=
  vr_agg (cs := [.int .i64 f, c, .int .i64 r, e, .int .i64 d]) (.cons (.v _ rfl) (.cons (.ro _ _ hc) (.cons (.v _ rfl) (.cons (.ro _ _ he) (.cons (.v _ rfl) .nil)))))
theorem vr5 {S : Nat → Prop} {W : World} {a b c d e : AV} {x y z u v : Value} (h1 : VR (fun _ => none) 0 S W a x) (h2 : VR (fun _ => none) 0 S W b y) (h3 : VR (fun _ => none) 0 S W c z) (h4 : VR (fun _ => none) 0 S W d u) (h5 : VR (fun _ => none) 0 S W e v) : ∀ i t, [a, b, c, d, e][i]? = some t → VR (fun _ => none) 0 S W t (#[x, y, z, u, v].getD i undef) := by
  intro i t hi
  match i, hi with
  | 0, hi => simp at hi; subst hi; exact h1
  | 1, hi => simp at hi; subst hi; exact h2
  | 2, hi => simp at hi; subst hi; exact h3
  | 3, hi => simp at hi; subst hi; exact h4
  | 4, hi => simp at hi; subst hi; exact h5
theorem vr6 {S : Nat → Prop} {W : World} {a b c d e f : AV} {x y z u v w : Value} (h1 : VR (fun _ => none) 0 S W a x) (h2 : VR (fun _ => none) 0 S W b y) (h3 : VR (fun _ => none) 0 S W c z) (h4 : VR (fun _ => none) 0 S W d u) (h5 : VR (fun _ => none) 0 S W e v) (h6 : VR (fun _ => none) 0 S W f w) : ∀ i t, [a, b, c, d, e, f][i]? = some t → VR (fun _ => none) 0 S W t (#[x, y, z, u, v, w].getD i undef) := by
  intro i t hi
  match i, hi with
  | 0, hi => simp at hi; subst hi; exact h1
  | 1, hi => simp at hi; subst hi; exact h2
  | 2, hi => simp at hi; subst hi; exact h3
  | 3, hi => simp at hi; subst hi; exact h4
  | 4, hi => simp at hi; subst hi; exact h5
  | 5, hi => simp at hi; subst hi; exact h6
end Go.Proofs.YtenofbabiacacaaGreat
