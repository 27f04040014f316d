/-
  What came in, as the abstract evaluator sees it: cells by their types; and a law's statement from its call, with package-level variables besides. No conditions but those in the statements.
-/
import Derived.Test.YtenofbabiacacaaGreatAeLaw
import Derived.Deep.Slices
import Derived.Deep.Fields
import Derived.LaidMore
import Derived.OpenShut
import Derived.MakeChecks
import Derived.Lib.LaidTab
set_option linter.unusedVariables false
set_option linter.unusedSimpArgs false
namespace Go.AE
open Go.RowKit Go.WideShapes Go.ChangeShapes

inductive All2 {α β : Type} (R : α → β → Prop) : List α → List β → Prop where
  | nil : All2 R [] []
  | cons {x : α} {y : β} {l : List α} {r : List β} (h : R x y) (t : All2 R l r) : All2 R (x :: l) (y :: r)
theorem All2.append {α β : Type} {R : α → β → Prop} {a b : List α} {c d : List β} (h : All2 R a c) (k : All2 R b d) : All2 R (a ++ b) (c ++ d) := by
  induction h with
  | nil => exact k
  | cons h _ ih => exact .cons h ih
/-- What a cell is. -/
inductive Sh where
  | int (k : IntKind)
  | bool
  | str
  | ints (k : IntKind)
  | recs (n : Nat)
  | strs
  | nest
def Sh.isI64 : Sh → Bool
  | .int .i64 => true
  | _ => false
/-- The cells of a type. -/
def shapeC (P : Program) : Nat → TypeId → Option (List Sh)
  | 0, _ => none
  | n + 1, t => match P.underlying t with
    | some (.int k) => some [.int k]
    | some .bool => some [.bool]
    | some .string => some [.str]
    | some (.slice e) => match P.underlying e with
      | some (.int k) => if P.cellsOf e = 1 then some [.ints k] else none
      | some .string => if P.cellsOf e = 1 then some [.strs] else none
      | some (.slice e2) => match P.underlying e2 with
        | some (.int .i64) => if P.cellsOf e = 1 ∧ P.cellsOf e2 = 1 then some [.nest] else none
        | _ => none
      | some (.struct _) => match shapeC P n e with
        | some l => if l.all Sh.isI64 = true ∧ P.cellsOf e = l.length ∧ 0 < l.length then some [.recs l.length] else none
        | none => none
      | _ => none
    | some (.struct fs) => match fs.toList.foldl (fun acc f => match acc with
        | none => none
        | some l => match shapeC P n f.type with
          | some s => if f.offset = l.length ∧ P.cellsOf f.type = s.length then some (l ++ s) else none
          | none => none) (some []) with
      | some l => if P.cellsOf t = l.length then some l else none
      | none => none
    | _ => none
/-- Every block that there is. -/
def allB (W : World) (b : Nat) : Prop := b < W.heap.size
def CellOk (W : World) (s : Sh) (c : Value) : Prop :=
  match s with
  | .int k => ∃ n, c = .int k n ∧ inb k n
  | .bool => ∃ b, c = .bool b
  | .str => ∃ s : ByteArray, c = .string s ∧ s.size ≤ maxLen
  | .ints k => ∃ xs, SlD (allB W) W (.ints k xs) c ∧ ∀ x ∈ xs, inb k x
  | .recs n => ∃ xss : List (List Int), SlD (allB W) W (.recs n xss) c ∧ ∀ r ∈ xss, r.length = n ∧ ∀ x ∈ r, inb .i64 x
  | .strs => ∃ ss : List ByteArray, SlD (allB W) W (.strs ss) c ∧ ∀ s ∈ ss, s.size ≤ maxLen
  | .nest => ∃ xss : List (List Int), SlD (allB W) W (.nest xss) c
theorem inb_of_wf {k : IntKind} {n : Int} (h : (Lit.int k n).wf = true) : inb k n := by
  simp only [Lit.wf, Bool.and_eq_true, decide_eq_true_eq] at h
  cases k <;> simp [IntKind.min, IntKind.max, IntKind.signed, IntKind.bits] at h <;> simp only [inb] <;> omega

section
variable {H : Type} {enc : TypeId × Value → H} {P : Program} {W : World} {base : Nat} {spare : Nat → Bool} {held : Bool}
theorem slOf_len {At : Nat → Nat → Prop} {x : Value} {n : Nat} (h : SlOf At x n) : n ≤ maxLen := by
  obtain ⟨a, cap, _, h2, h3, _⟩ := h
  omega
/-- The cells behind a slice, row by row. -/
theorem open_rows {e : TypeId} {c len n : Nat} {a : Addr} {elems : List (DataW H × List MemPlace)} (hC : P.cellsOf e = c) (hlen : elems.length = len) (hc : 0 < c)
    (hel : ∀ i, i < len → (W.cells? base (a.add (i * P.cellsOf e)) (P.cellsOf e)).bind (DataW.trod enc P W base spare held n e) = elems[i]?) (hpos : 0 < len) :
    ∃ b off, a = ⟨b, off, none⟩ ∧ b < W.heap.size ∧ ∀ i, i < len → ∃ cs y, cs.length = c ∧ DataW.trod enc P W base spare held n e cs = some y ∧ ∀ j, j < c → W.cell? ⟨b, off + i * c + j, none⟩ = cs[j]? := by
  have each : ∀ i, i < len → ∃ cs y, cs.length = c ∧ DataW.trod enc P W base spare held n e cs = some y ∧ ∀ j, j < c → W.cell? ((a.add (i * c)).add j) = cs[j]? := fun i hi => by
    have h1 := hel i hi
    rw [List.getElem?_eq_getElem (by omega)] at h1
    obtain ⟨cs, h2, h3⟩ := Option.bind_eq_some_iff.1 h1
    obtain ⟨_, hcl, hat⟩ := World.cells?_some h2
    rw [hC] at hcl hat
    exact ⟨cs, _, hcl, h3, fun j hj => hat j hj⟩
  obtain ⟨cs0, y0, l0, _, h0⟩ := each 0 hpos
  have h00 := h0 0 hc
  rw [Nat.zero_mul] at h00
  have e0 : a.add 0 = a := by simp [Addr.add]
  rw [e0, e0, List.getElem?_eq_getElem (by omega)] at h00
  obtain ⟨b, off, spot⟩ := a
  have hs : spot = none := by
    simp only [World.cell?] at h00
    split at h00
    · split at h00
      · cases h00
      · rename_i h; simpa using h
    · cases h00
  subst hs
  refine ⟨b, off, rfl, World.block_lt_of_cell? W _ h00, fun i hi => ?_⟩
  obtain ⟨cs, y, h1, h2, h3⟩ := each i hi
  refine ⟨cs, y, h1, h2, fun j hj => ?_⟩
  have := h3 j hj
  rwa [Addr.add_lit, Addr.add_lit] at this
theorem forall2_i64 {W : World} : ∀ {l : List Sh} {cs : List Value}, All2 (CellOk W) l cs → l.all Sh.isI64 = true → ∃ r : List Int, r.length = l.length ∧ (∀ x ∈ r, inb .i64 x) ∧ ∀ j, j < l.length → cs[j]? = some (.int .i64 (r.getD j 0))
  | [], [], _, _ => ⟨[], rfl, by simp, fun j h => by simp at h⟩
  | s :: l, c :: cs, .cons h1 h2, ha => by
    simp only [List.all_cons, Bool.and_eq_true] at ha
    obtain ⟨r, h3, h4, h5⟩ := forall2_i64 h2 ha.2
    cases s with
    | int k =>
      cases k <;> simp [Sh.isI64] at ha
      obtain ⟨n, rfl, hn⟩ := h1
      refine ⟨n :: r, by simp [h3], fun x hx => ?_, fun j hj => ?_⟩
      · rcases List.mem_cons.1 hx with rfl | hx
        · exact hn
        · exact h4 x hx
      · cases j with
        | zero => rfl
        | succ j => simpa using h5 j (by simpa using hj)
    | _ => simp [Sh.isI64] at ha
theorem pick_rows {α : Type} {Q : Nat → α → Prop} {len : Nat} (d : α) (h : ∀ i, i < len → ∃ x, Q i x) : ∃ l : List α, l.length = len ∧ (∀ i, i < len → Q i (l.getD i d)) ∧ ∀ x ∈ l, ∃ i, i < len ∧ Q i x := by
  have h' : ∀ i, ∃ x, i < len → Q i x := fun i => by
    by_cases hi : i < len
    · obtain ⟨x, hx⟩ := h i hi; exact ⟨x, fun _ => hx⟩
    · exact ⟨d, fun h => absurd h hi⟩
  obtain ⟨f, hf⟩ := Classical.axiomOfChoice h'
  refine ⟨(List.range len).map f, by simp, fun i hi => ?_, fun x hx => ?_⟩
  · rw [List.getD_eq_getElem?_getD, List.getElem?_map, List.getElem?_range hi]
    exact hf i hi
  · obtain ⟨i, hi, rfl⟩ := List.mem_map.1 hx
    have hi := List.mem_range.1 hi
    exact ⟨i, hi, hf i hi⟩
/-- The cells of a datum. -/
theorem shape_sound : ∀ (f : Nat) (t : TypeId) (l : List Sh), shapeC P f t = some l → ∀ {fuel : Nat} {cs : List Value} {x : DataW H × List MemPlace}, DataW.trod enc P W base spare held fuel t cs = some x → All2 (CellOk W) l cs := by
  intro f
  induction f with
  | zero => intro t l h; simp [shapeC] at h
  | succ f ih =>
    intro t l h fuel cs x hx
    unfold shapeC at h
    split at h
    · rename_i k hu
      cases h
      obtain ⟨n, rfl, _, hw⟩ := DataW.trod_int hu hx
      exact .cons ⟨n, rfl, inb_of_wf hw⟩ .nil
    · rename_i hu
      cases h
      obtain ⟨b, rfl, _⟩ := DataW.trod_bool hu hx
      exact .cons ⟨b, rfl⟩ .nil
    · rename_i hu
      cases h
      obtain ⟨s, rfl, _, hs⟩ := DataW.trod_string hu hx
      exact .cons ⟨s, rfl, hs⟩ .nil
    · rename_i e hu
      have nilOk : ∀ {At : Nat → Nat → Prop}, SlOf At (.slice none 0 0) 0 := ⟨none, 0, rfl, Nat.le_refl _, Nat.zero_le _, fun h => by omega⟩
      split at h
      · rename_i k hue
        split at h
        · rename_i hC
          cases h
          rcases DataW.trod_slice hu hx with ⟨rfl, _⟩ | ⟨a, len, cap, elems, rest, n, _, rfl, _, _, hl, hm, hlen, hel, _, _⟩
          · exact .cons ⟨[], nilOk, by simp⟩ .nil
          · refine .cons ?_ .nil
            by_cases hp : 0 < len
            · obtain ⟨b, off, rfl, hb, hr⟩ := open_rows hC hlen (by decide) hel hp
              obtain ⟨xs, h1, h2, h3⟩ := pick_rows (Q := fun i x => W.cell? ⟨b, off + i, none⟩ = some (.int k x) ∧ inb k x) (len := len) (0 : Int) fun i hi => by
                obtain ⟨cs, y, g1, g2, g3⟩ := hr i hi
                obtain ⟨m, rfl, _, hw⟩ := DataW.trod_int hue g2
                have := g3 0 (by decide)
                exact ⟨m, by simpa using this, inb_of_wf hw⟩
              refine ⟨xs, ⟨_, cap, by simp [D.len, h1], by simp [D.len, h1]; exact hl, hm, fun _ => ⟨b, off, rfl, hb, fun i hi j hj => ?_⟩⟩, fun x hx => ?_⟩
              · simp only [D.sz] at hj
                have : j = 0 := by omega
                subst this
                exact ⟨_, by simpa [D.sz, D.cv] using (h2 i (by simpa [D.len, h1] using hi)).1, rfl⟩
              · obtain ⟨i, _, hq⟩ := h3 x hx; exact hq.2
            · have h0 : len = 0 := by omega
              subst h0
              exact ⟨[], ⟨_, cap, rfl, by simp [D.len], hm, fun h => by simp [D.len] at h⟩, by simp⟩
        · cases h
      · rename_i hue
        split at h
        · rename_i hC
          cases h
          rcases DataW.trod_slice hu hx with ⟨rfl, _⟩ | ⟨a, len, cap, elems, rest, n, _, rfl, _, _, hl, hm, hlen, hel, _, _⟩
          · exact .cons ⟨[], nilOk, by simp⟩ .nil
          · refine .cons ?_ .nil
            by_cases hp : 0 < len
            · obtain ⟨b, off, rfl, hb, hr⟩ := open_rows hC hlen (by decide) hel hp
              obtain ⟨xs, h1, h2, h3⟩ := pick_rows (Q := fun i x => W.cell? ⟨b, off + i, none⟩ = some (.string x) ∧ x.size ≤ maxLen) (len := len) ByteArray.empty fun i hi => by
                obtain ⟨cs, y, g1, g2, g3⟩ := hr i hi
                obtain ⟨m, rfl, _, hw⟩ := DataW.trod_string hue g2
                have := g3 0 (by decide)
                exact ⟨m, by simpa using this, hw⟩
              refine ⟨xs, ⟨_, cap, by simp [D.len, h1], by simp [D.len, h1]; exact hl, hm, fun _ => ⟨b, off, rfl, hb, fun i hi j hj => ?_⟩⟩, fun x hx => ?_⟩
              · simp only [D.sz] at hj
                have : j = 0 := by omega
                subst this
                exact ⟨_, by simpa [D.sz, D.cv] using (h2 i (by simpa [D.len, h1] using hi)).1, rfl⟩
              · obtain ⟨i, _, hq⟩ := h3 x hx; exact hq.2
            · have h0 : len = 0 := by omega
              subst h0
              exact ⟨[], ⟨_, cap, rfl, by simp [D.len], hm, fun h => by simp [D.len] at h⟩, by simp⟩
        · cases h
      · rename_i e2 hue
        split at h
        · rename_i hue2
          split at h
          · rename_i hC
            cases h
            rcases DataW.trod_slice hu hx with ⟨rfl, _⟩ | ⟨a, len, cap, elems, rest, n, _, rfl, _, _, hl, hm, hlen, hel, _, _⟩
            · exact .cons ⟨[], nilOk⟩ .nil
            · refine .cons ?_ .nil
              by_cases hp : 0 < len
              · obtain ⟨b, off, rfl, hb, hr⟩ := open_rows hC.1 hlen (by decide) hel hp
                obtain ⟨xss, h1, h2, _⟩ := pick_rows (Q := fun i xs => ∃ u, W.cell? ⟨b, off + i, none⟩ = some u ∧ SlInts (allB W) W .i64 xs u) (len := len) ([] : List Int) fun i hi => by
                  obtain ⟨cs, y, g1, g2, g3⟩ := hr i hi
                  have h00 := g3 0 (by decide)
                  rcases DataW.trod_slice hue g2 with ⟨rfl, _⟩ | ⟨a2, len2, cap2, elems2, rest2, n2, _, rfl, _, _, hl2, hm2, hlen2, hel2, _, _⟩
                  · exact ⟨[], _, by simpa using h00, nilOk⟩
                  · by_cases hp2 : 0 < len2
                    · obtain ⟨b2, off2, rfl, hb2, hr2⟩ := open_rows hC.2 hlen2 (by decide) hel2 hp2
                      obtain ⟨xs, k1, k2, _⟩ := pick_rows (Q := fun i x => W.cell? ⟨b2, off2 + i, none⟩ = some (.int .i64 x)) (len := len2) (0 : Int) fun i hi => by
                        obtain ⟨cs, y, g1, g2, g3⟩ := hr2 i hi
                        obtain ⟨m, rfl, _, hw⟩ := DataW.trod_int hue2 g2
                        have := g3 0 (by decide)
                        exact ⟨m, by simpa using this⟩
                      exact ⟨xs, _, by simpa using h00, _, cap2, by rw [k1], by rw [k1]; exact hl2, hm2, fun _ => ⟨b2, off2, rfl, hb2, fun i hi => k2 i (k1 ▸ hi)⟩⟩
                    · have h0 : len2 = 0 := by omega
                      subst h0
                      exact ⟨[], _, by simpa using h00, _, cap2, rfl, by simp, hm2, fun h => by simp at h⟩
                refine ⟨xss, _, cap, by simp [D.len, h1], by simp [D.len, h1]; exact hl, hm, fun _ => ⟨b, off, rfl, hb, fun i hi j hj => ?_⟩⟩
                simp only [D.sz] at hj
                have : j = 0 := by omega
                subst this
                obtain ⟨u, k1, k2⟩ := h2 i (by simpa [D.len, h1] using hi)
                exact ⟨u, by simpa [D.sz] using k1, k2⟩
              · have h0 : len = 0 := by omega
                subst h0
                exact ⟨[], _, cap, rfl, by simp [D.len], hm, fun h => by simp [D.len] at h⟩
          · cases h
        · cases h
      · rename_i fs hue
        split at h
        · rename_i le hle
          split at h
          · rename_i hC
            cases h
            obtain ⟨ha, hC, hc0⟩ := hC
            rcases DataW.trod_slice hu hx with ⟨rfl, _⟩ | ⟨a, len, cap, elems, rest, n, _, rfl, _, _, hl, hm, hlen, hel, _, _⟩
            · exact .cons ⟨[], nilOk, by simp⟩ .nil
            · refine .cons ?_ .nil
              by_cases hp : 0 < len
              · obtain ⟨b, off, rfl, hb, hr⟩ := open_rows hC hlen hc0 hel hp
                obtain ⟨xss, h1, h2, h3⟩ := pick_rows (Q := fun i r => (∀ j, j < le.length → W.cell? ⟨b, off + i * le.length + j, none⟩ = some (.int .i64 (r.getD j 0))) ∧ r.length = le.length ∧ ∀ x ∈ r, inb .i64 x) (len := len) ([] : List Int) fun i hi => by
                  obtain ⟨cs, y, g1, g2, g3⟩ := hr i hi
                  obtain ⟨r, k1, k2, k3⟩ := forall2_i64 (ih e le hle g2) ha
                  exact ⟨r, fun j hj => (g3 j hj).trans (k3 j hj), k1, k2⟩
                refine ⟨xss, ⟨_, cap, by simp [D.len, h1], by simp [D.len, h1]; exact hl, hm, fun _ => ⟨b, off, rfl, hb, fun i hi j hj => ?_⟩⟩, fun r hr => ?_⟩
                · exact ⟨_, (h2 i (by simpa [D.len, h1] using hi)).1 j hj, rfl⟩
                · obtain ⟨i, _, hq⟩ := h3 r hr; exact hq.2
              · have h0 : len = 0 := by omega
                subst h0
                exact ⟨[], ⟨_, cap, rfl, by simp [D.len], hm, fun h => by simp [D.len] at h⟩, by simp⟩
          · cases h
        · cases h
      · cases h
    · rename_i fs hu
      obtain ⟨xs, n, _, _, hcl, hxl, hfs⟩ := DataW.trod_struct hu hx
      split at h
      · rename_i l' hfold
        split at h
        · rename_i hC
          cases h
          have gen : ∀ (gs : List Field) (acc l : List Sh), gs.foldl (fun acc f' => match acc with
              | none => none
              | some l => match shapeC P f f'.type with
                | some s => if f'.offset = l.length ∧ P.cellsOf f'.type = s.length then some (l ++ s) else none
                | none => none) (some acc) = some l → (∀ g ∈ gs, ∃ y, DataW.trod enc P W base spare held n g.type ((cs.drop g.offset).take (P.cellsOf g.type)) = some y) →
              All2 (CellOk W) acc (cs.take acc.length) → l.length ≤ cs.length → All2 (CellOk W) l (cs.take l.length) ∧ acc.length ≤ l.length := by
            intro gs
            induction gs with
            | nil => intro acc l hf _ ha _; simp only [List.foldl_nil, Option.some.injEq] at hf; subst hf; exact ⟨ha, Nat.le_refl _⟩
            | cons g gs ihg =>
              intro acc l hf hg ha hlen
              simp only [List.foldl_cons] at hf
              have none_fold : ∀ gs : List Field, gs.foldl (fun acc f' => match acc with
                  | none => none
                  | some l => match shapeC P f f'.type with
                    | some s => if f'.offset = l.length ∧ P.cellsOf f'.type = s.length then some (l ++ s) else none
                    | none => none) (none : Option (List Sh)) = none := fun gs => by
                induction gs with
                | nil => rfl
                | cons _ _ ih => exact ih
              split at hf
              · rename_i s hs
                split at hf
                · rename_i hoff
                  obtain ⟨y, hy⟩ := hg g (by simp)
                  have h1 := ih g.type s hs hy
                  have h2 : All2 (CellOk W) (acc ++ s) (cs.take (acc ++ s).length) := by
                    rw [List.length_append, List.take_add]
                    refine All2.append ha ?_
                    rw [hoff.1, hoff.2] at h1
                    exact h1
                  obtain ⟨h3, h4⟩ := ihg (acc ++ s) l hf (fun g' hg' => hg g' (by simp [hg'])) h2 hlen
                  exact ⟨h3, by simp at h4; omega⟩
                · rw [none_fold] at hf; cases hf
              · rw [none_fold] at hf; cases hf
          have := (gen fs.toList [] l hfold (fun g hg => by
            obtain ⟨i, hi⟩ := List.getElem?_of_mem hg
            have hi' : fs[i]? = some g := by simpa using hi
            have hlt : i < fs.size := (Array.getElem?_eq_some_iff.1 hi').1
            have h1 := hfs i g hi'
            rw [List.getElem?_eq_getElem (by omega)] at h1
            exact ⟨_, h1⟩) .nil (by omega)).1
          rwa [← hC, ← hcl, List.take_length] at this
        · cases h
      · cases h
    · cases h
/-- An argument that is one cell. -/
def flat1 (P : Program) (t : TypeId) : Bool := match P.underlying t with
  | some (.struct _) => false
  | some (.array _ _) => false
  | _ => true
theorem open_cell {r : Reach} {b0 : Nat} {t : TypeId} {s : Sh} {v : Value} {d : DataW H} {p : List MemPlace} (hs : shapeC P 9 t = some [s]) (hf : flat1 P t = true) (hv : Value.okWide P W r b0 t v) (h : DataW.Trod enc P W base spare held t v d p) : CellOk W s v := by
  obtain ⟨fuel, h⟩ := h
  have h1 := shape_sound 9 t _ hs h
  have hc : v.cells.toList = [v] := by
    unfold flat1 at hf
    cases v with
    | agg cs =>
      exfalso
      unfold shapeC at hs
      split at hs
      · rename_i k hu; obtain ⟨n, e⟩ := okWide_int hu hv; cases e
      · rename_i hu; obtain ⟨n, e⟩ := okWide_bool hu hv; cases e
      · rename_i hu; obtain ⟨n, e⟩ := okWide_string hu hv; cases e
      · rename_i e hu
        simp only [Value.okWide, hu] at hv
        simp [Cell.okWide, hu, Cell.ok] at hv
      · rename_i fs hu; rw [hu] at hf; cases hf
      · cases hs
    | _ => rfl
  rw [hc] at h1
  cases h1 with
  | cons h _ => exact h
/-- An argument that is a struct. -/
theorem open_agg {r : Reach} {b0 : Nat} {t : TypeId} {fs : Array Field} {l : List Sh} {v : Value} {d : DataW H} {p : List MemPlace} (hs : shapeC P 9 t = some l) (hu : P.underlying t = some (.struct fs)) (hv : Value.okWide P W r b0 t v) (h : DataW.Trod enc P W base spare held t v d p) :
    ∃ vs : Array Value, v = .agg vs ∧ All2 (CellOk W) l vs.toList := by
  obtain ⟨cs, rfl, _⟩ := okWide_struct hu hv
  obtain ⟨fuel, h⟩ := h
  exact ⟨cs, rfl, shape_sound 9 t _ hs h⟩
theorem All2.cons_inv {α β : Type} {R : α → β → Prop} {x : α} {l : List α} {r : List β} (h : All2 R (x :: l) r) : ∃ y r', r = y :: r' ∧ R x y ∧ All2 R l r' := by
  cases h with
  | cons h t => exact ⟨_, _, rfl, h, t⟩
theorem All2.nil_inv {α β : Type} {R : α → β → Prop} {r : List β} (h : All2 R [] r) : r = [] := by cases h; rfl
theorem vr_of_list {β : Nat → Option Nat} {n : Nat} {S : Nat → Prop} : ∀ {avs : List AV} {cs : List Value}, All2 (fun a c => VR β n S W a c) avs cs → ∀ i c, avs[i]? = some c → VR β n S W c (cs.toArray.getD i undef)
  | [], [], _, i, c, h => by simp at h
  | a :: avs, c :: cs, .cons h t, i, x, hx => by
    cases i with
    | zero => simp at hx; subst hx; simpa using h
    | succ i =>
      have := vr_of_list t i x (by simpa using hx)
      simpa using this
theorem All2.length_eq {α β : Type} {R : α → β → Prop} {l : List α} {r : List β} (h : All2 R l r) : l.length = r.length := by
  induction h with
  | nil => rfl
  | cons _ _ ih => simp [ih]
theorem vr_agg {β : Nat → Option Nat} {n : Nat} {S : Nat → Prop} {avs : List AV} {cs : List Value} (h : All2 (fun a c => VR β n S W a c) avs cs) : VR β n S W (.agg avs) (.agg cs.toArray) :=
  .agg _ _ (by simpa using h.length_eq) (vr_of_list h)
end

/-! ### The statement from the call -/
theorem trodVars_cl {H : Type} {enc : TypeId × Value → H} {P : Program} (hl : laidOutB P = true) {W W' : World} (hb : Below W.heap.size W W') (sp : Nat → Bool) :
    ∀ {ns : List String} {gs : List (DataW H)} {q : List MemPlace}, (∀ n ∈ ns, ∃ g t, P.globalNamed n = some g ∧ (P.globals[g]?).map (·.type) = some t ∧ P.readableRec t = true ∧ t < P.types.size) → DataW.TrodVars enc P W (fun _ => true) ns gs q → (∀ x ∈ q, x.block < W.heap.size) → (∀ x ∈ q, sp x.block = true) →
      DataW.TrodVars enc P W' sp ns gs q
  | [], [], _, _, h, _, _ => h
  | n :: ns, d :: ds, _, hr, h, hlt, hsp => by
    obtain ⟨g, t, cs, fuel, p, q, h1, h2, h3, h4, h5, rfl⟩ := h
    obtain ⟨g', t', e1, e2, r1, r2⟩ := hr n (by simp)
    obtain rfl := Option.some.inj (h1.symm.trans e1)
    obtain rfl := Option.some.inj (h2.symm.trans e2)
    have hblk : ∃ c t f, W.heap[g]? = some (.cells c t f) ∧ c = cs := by
      simp only [World.var?, h1, Option.bind_some] at h3
      split at h3
      · rename_i c t f hh; cases h3; exact ⟨_, _, _, hh, rfl⟩
      · cases h3
    obtain ⟨c, t', f', hh, rfl⟩ := hblk
    have hg : g < W.heap.size := (Array.getElem?_eq_some_iff.1 hh).1
    refine ⟨g, t, c, fuel, p, q, h1, h2, ?_, ?_, trodVars_cl hl hb sp (fun n hn => hr n (by simp [hn])) h5 (fun x hx => hlt x (by simp [hx])) (fun x hx => hsp x (by simp [hx])), rfl⟩
    · simp only [World.var?, h1, Option.bind_some]
      have := hb.5 g hg
      rw [this, hh]
    · exact DataW.trod_stays (kids_book hl r1) (book_sized r1) (fun h => by cases h) ⟨r2, book_self t⟩ h4 (fun x hx => hb.same (hlt x (by simp [hx]))) (fun x hx => hsp x (by simp [hx]))
  | [], _ :: _, _, _, h, _, _ => h.elim
  | _ :: _, [], _, _, h, _, _ => h.elim
/-- The contract of a law, with package-level variables. -/
theorem law_postv {H : Type} {enc : TypeId × Value → H} {P : Program} {f : Func} {s : ChangeSpec} {apart fresh handsOn : Bool} {W W' : World} {args : Array Value} {ds gs : List (DataW H)} {before : List MemPlace} {tb : TypeId}
    (hl : laidOutB P = true) (hr : (f.params.toList.all fun t => P.readableRec t && decide (t < P.types.size)) = true) (hres : f.resultTypes = #[tb]) (htb : P.underlying tb = some .bool)
    (hvars : ∀ n ∈ s.vars, ∃ g t, P.globalNamed n = some g ∧ (P.globals[g]?).map (·.type) = some t ∧ P.readableRec t = true ∧ t < P.types.size)
    (hfn : s.fn H (ds ++ gs) = { results := [.lit (.bool true)], args := ds, vars := gs }) (hW : DataW.Whole enc P f.params.toList s.vars apart W args.toList ds gs before) (hc : Cl W W') : s.post enc P f apart fresh handsOn false W args (.bool true) W' := by
  have hb := hc.below
  have hlt : ∀ x ∈ before, x.block < W.heap.size := fun x hx => by simpa using hW.lt x hx
  have hW0 := hW
  obtain ⟨p, q, hA, hV, rfl, hz, hn⟩ := hW
  refine ⟨ds, gs, p ++ q, [], p, q, hW0, ?_, ?_, ?_, World.keptBut_mono (fun x hx => ⟨hx, .inr (by simpa using hx)⟩) (hb.frame (· ∈ p ++ q)), fun h => by cases h⟩
  · rw [hfn, hres]; exact trodAll_mk1 (trod_true htb true)
  · rw [hfn]; exact trodAll_cl hl hb _ hr hA (fun x hx => hlt x (by simp [hx])) fun x hx => by simpa using hlt x (by simp [hx])
  · rw [hfn]; exact trodVars_cl hl hb _ hvars hV (fun x hx => hlt x (by simp [hx])) fun x hx => by simpa using hlt x (by simp [hx])
end Go.AE
