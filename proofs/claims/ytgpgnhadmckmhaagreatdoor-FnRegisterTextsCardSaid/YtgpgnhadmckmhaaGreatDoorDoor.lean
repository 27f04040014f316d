/-
  The variables of the library that this seat's laws read: what the condition on them gives, and a world that meets it. No conditions but those in the statements.
-/
import Derived.Test.YtgpgnhadmckmhaaGreatDoorRows
import Derived.Test.YtgpgnhadmckmhaaGreatDoorTie
import Derived.Test.YtgpgnhadmckmhaaGreatDoorCards
import Derived.Test.YtgpgnhadmckmhaaGreatDoorTy
import Derived.Test.YtgpgnhadmckmhaaGreatDoorAeC
import Derived.Stop.LaidErr
import Derived.Lib.LaidTab
import Derived.Lib.LaidU8
import Derived.Shelf.Vars
set_option linter.unusedVariables false
set_option linter.unusedSimpArgs false
namespace Go.Proofs.YtgpgnhadmckmhaaGreatDoor
open Go.AE Go.RowKit Go.WideShapes Go.ChangeShapes

theorem own : ownKnob Tryz.prog.godebug = none := by kernel_rfl
theorem laid : laidOutB Tryz.prog = true := by kernel_rfl
/-- A law over listed variables, the world's shape kept. -/
theorem wrap {H : Type} {enc : TypeId × Value → H} {a : Assume} {C : Checked} {os : Os} {f : FuncId} {fn : Func} {s : ChangeSpec} {conds : List PathCond} {apart fresh handsOn again : Bool} {X : World → Array Value → Prop}
    (hX : ∀ (w w' : World) (args : Array Value), w.heap = w'.heap → X w args → X w' args)
    (own : ownKnob C.prog.godebug = none) (started : os.Started) (noInit : C.prog.inits.idxOf? f = none) (hfn : C.prog.funcs[f]? = some fn)
    (witness : ∃ (w : World) (tape : Tape) (i : Input), w.os = os ∧ (w.forCall tape i).Shaped C.prog ∧ i.vars = [] ∧ Input.okWide C.prog (w.forCall tape i) .any w.heap.size f i ∧
      ((s.pre enc C.prog fn conds apart (w.forCall tape i).memory i.args ∧ X (w.forCall tape i).memory i.args) ∧ sizedMet enc C.prog fn (OpenSpec.ofChange s) apart (w.forCall tape i).memory i.args) ∧ a.holds C.prog (lone (Frame.enter C.prog f i.args .normal) [] (w.forCall tape i)))
    (contract : ∀ (W : World) (base : Nat) (args : Array Value) (ds gs : List (DataW H)) (before : List MemPlace),
      (∀ (j : Nat) t v, fn.params[j]? = some t → args[j]? = some v → Value.okWide C.prog W .any base t v) →
      DataW.Whole enc C.prog fn.params.toList s.vars apart W args.toList ds gs before → X W args → W.ShapedOpen C.prog →
      Calls C.prog f args W fun e W' => ∃ v, e = .returned v ∧ s.post enc C.prog fn apart fresh handsOn again W args v W') :
    ReturnsInHanded a C os f .any (fun w args => (s.pre enc C.prog fn conds apart w args ∧ X w args) ∧ sizedMet enc C.prog fn (OpenSpec.ofChange s) apart w args) (s.post enc C.prog fn apart fresh handsOn again) := by
  refine returnsInHanded_of_calls own started noInit witness ?_
  intro w tape i _ hsh _ hok hpre _
  obtain ⟨_, _, _, fn', hfn', _, _, _, _, hval⟩ := hok
  have e : fn' = fn := Option.some.inj (hfn'.symm.trans hfn)
  subst e
  obtain ⟨⟨⟨ds, gs, before, hw, _⟩, hx⟩, _⟩ := hpre
  have hw' := DataW.Whole.of_heap (w' := w.forCall tape i) (by rfl) hw
  refine (contract (w.forCall tape i) w.heap.size i.args ds gs before hval hw' (hX _ _ _ (by rfl) hx) hsh).mono fun e W' ⟨v, he, hp⟩ => ?_
  subst he
  exact ChangeSpec.post_blind hp
abbrev laid3 : List (String × DataW Unit) := [("math/bits.deBruijn32tab", Rows.laid_math_bits_deBruijn32tab), ("math/bits.deBruijn64tab", Rows.laid_math_bits_deBruijn64tab), ("internal/strconv.uint64pow10", Rows.laid_internal_strconv_uint64pow10)]
abbrev laid5 : List (String × DataW Unit) := [("math/bits.deBruijn32tab", Rows.laid_math_bits_deBruijn32tab), ("math/bits.deBruijn64tab", Rows.laid_math_bits_deBruijn64tab), ("internal/strconv.uint64pow10", Rows.laid_internal_strconv_uint64pow10), ("unicode/utf8.acceptRanges", Rows.laid_unicode_utf8_acceptRanges), ("unicode/utf8.first", Rows.laid_unicode_utf8_first)]
abbrev laid7 : List (String × DataW Unit) := [("math/bits.deBruijn32tab", Rows.laid_math_bits_deBruijn32tab), ("math/bits.deBruijn64tab", Rows.laid_math_bits_deBruijn64tab), ("internal/strconv.uint64pow10", Rows.laid_internal_strconv_uint64pow10), ("unicode/utf8.acceptRanges", Rows.laid_unicode_utf8_acceptRanges), ("strconv.ErrRange", Rows.laid_strconv_ErrRange), ("strconv.ErrSyntax", Rows.laid_strconv_ErrSyntax), ("unicode/utf8.first", Rows.laid_unicode_utf8_first)]
/-- A start: what the program's own text lays, and the one table that it pins. -/
noncomputable def startW (os : Os) : World := { World.doorLaid Tryz.prog 72 os with heap := (World.doorLaid Tryz.prog 72 os).heap.modify 1 fun
  | .cells _ t fz => .cells (Go.Lib.firstTab.map fun z => Value.int .u8 z).toArray t fz
  | o => o }
theorem door3 (os : Os) (args : Array Value) : laidMetH Tryz.prog laid3 ((startW os).forCall (fun _ _ => 0) ⟨#[], args, []⟩).memory :=
  laidMetH_of_parts3 (fuel := 8) (laidMet_of_run' 8 (by kernel_rfl) (by kernel_rfl)) (by kernel_rfl) (by kernel_rfl)
theorem door5 (os : Os) (args : Array Value) : laidMetH Tryz.prog laid5 ((startW os).forCall (fun _ _ => 0) ⟨#[], args, []⟩).memory :=
  laidMetH_of_parts3 (fuel := 8) (laidMet_of_run' 8 (by kernel_rfl) (by kernel_rfl)) (by kernel_rfl) (by kernel_rfl)
theorem door7 (os : Os) (args : Array Value) : laidMetH Tryz.prog laid7 ((startW os).forCall (fun _ _ => 0) ⟨#[], args, []⟩).memory :=
  laidMetH_of_parts3 (fuel := 8) (laidMet_of_run' 8 (by kernel_rfl) (by kernel_rfl)) (by kernel_rfl) (by kernel_rfl)
theorem row_of_var {W : World} {name : String} {g : Nat} {cs : Array Value} (hn : Tryz.prog.globalNamed name = some g) (h : W.var? Tryz.prog name = some cs) : ∃ e fz, W.heap[g]? = some (.cells cs e fz) := by
  unfold World.var? at h
  rw [hn] at h
  simp only [Option.bind_some] at h
  split at h
  · cases h; exact ⟨_, _, ‹_›⟩
  · cases h
theorem told_at {W : World} {g : Nat} {p : Value → Bool} {v : Value} {e : TypeId} {fz : Nat × Nat} (hh : W.heap[g]? = some (.cells #[v] e fz)) (hp : p v = true) (ho : v.oneCell' = true) : allB W g ∧ GlobAt (allB W) W (.told p 1) g := by
  refine ⟨(Array.getElem?_eq_some_iff.1 hh).1, fun i hi j hj => ?_, _, e, fz, hh, rfl⟩
  have hi : i < 1 := hi
  have hj : j < 1 := hj
  obtain rfl : i = 0 := by omega
  obtain rfl : j = 0 := by omega
  exact ⟨v, by simp [World.cell?, hh], hp, ho⟩
theorem ints_at {W : World} {g : Nat} {k : IntKind} {zs : List Int} {e : TypeId} {fz : Nat × Nat} (hh : W.heap[g]? = some (.cells (zs.map fun z => Value.int k z).toArray e fz)) : allB W g ∧ GlobAt (allB W) W (.ints k zs) g := by
  refine ⟨(Array.getElem?_eq_some_iff.1 hh).1, fun i hi j hj => ?_, _, e, fz, hh, by simp [D.len, D.sz]⟩
  have hi : i < zs.length := hi
  have hj : j < 1 := hj
  obtain rfl : j = 0 := by omega
  refine ⟨.int k (zs.getD i 0), ?_, rfl⟩
  simp [World.cell?, hh, D.sz, hi]
theorem max_at {W : World} (h : W.ShapedOpen Tryz.prog) : allB W 0 ∧ GlobAt (allB W) W (.told isI64 1) 0 := by
  have hlt : 0 < Tryz.prog.globals.size := of_decide_eq_true (by kernel_rfl)
  have hz : ((begin Tryz.prog (fun _ _ => 0) default).world.heap[0]?).bind Obj.row? = some (#[.int .i64 0], 3) := by kernel_rfl
  obtain ⟨m, hm⟩ := Go.Proofs.cell_of_shapedOpen_int h hlt hz rfl (by kernel_rfl) (by kernel_rfl) Tryz.underlying3
  obtain ⟨cs, hh, hs, _⟩ := h.1 _ _ _ hlt hz
  obtain ⟨v, rfl⟩ : ∃ v, cs = #[v] := by
    obtain ⟨l⟩ := cs
    match l, hs with
    | [v], _ => exact ⟨v, rfl⟩
  have hv : v = .int .i64 m := by
    simp only [World.cell?, hh] at hm
    simpa using hm
  subst hv
  exact told_at hh rfl rfl
theorem pow_at {W : World} {a b : String × DataW Unit} {r : List (String × DataW Unit)} (h : laidMet Tryz.prog (a :: b :: ("internal/strconv.uint64pow10", Rows.laid_internal_strconv_uint64pow10) :: r) W) : allB W 5 ∧ GlobAt (allB W) W (.ints .u64 Go.Lib.pow10Tab) 5 := by
  have hn : Tryz.prog.globalNamed "internal/strconv.uint64pow10" = some 5 := by kernel_rfl
  have ht := Lib.tabIs_of_head (k := .u64) (zs := Go.Lib.pow10Tab) hn (t := 166) (by kernel_rfl) Tryz.underlying166 Tryz.underlying133 (by kernel_rfl) (by kernel_rfl) (rest := r) h.tail.tail
  obtain ⟨e, fz, hh⟩ := row_of_var hn ht
  exact ints_at hh
theorem glob_G {W : World} {a b : String × DataW Unit} {r : List (String × DataW Unit)} (h : laidMet Tryz.prog (a :: b :: ("internal/strconv.uint64pow10", Rows.laid_internal_strconv_uint64pow10) :: r) W) (hs : W.ShapedOpen Tryz.prog) : ∀ g d, G g = some d → allB W g ∧ GlobAt (allB W) W d g := by
  intro g d hg
  unfold G at hg
  split at hg
  · cases hg; exact pow_at h
  · cases hg; exact max_at hs
  · cases hg
theorem of3 {W : World} (h : laidMetH Tryz.prog laid3 W) (hs : W.ShapedOpen Tryz.prog) : ∀ g d, G g = some d → allB W g ∧ GlobAt (allB W) W d g := by
  rw [MakeChecks.laidMetH_plain _ _ _ (by kernel_rfl)] at h
  exact glob_G h hs
theorem of5 {W : World} (h : laidMetH Tryz.prog laid5 W) (hs : W.ShapedOpen Tryz.prog) : ∀ g d, G g = some d → allB W g ∧ GlobAt (allB W) W d g := by
  rw [MakeChecks.laidMetH_plain _ _ _ (by kernel_rfl)] at h
  exact glob_G h hs
theorem star : "*" ++ "errors.errorString" = "*errors.errorString" := by decide
theorem rowErr (u : TypeId) (h : Tryz.prog.typeName? 3 u = some "*errors.errorString") : u = 170 :=
  typeName_ptr_named (nm := "errors.errorString") (by rw [star]; kernel_rfl) (by kernel_rfl) (by decide) u (by rw [star]; exact h)
theorem err_at {W : World} {n : String} {g : Nat} {text : List UInt8} {r : List (String × DataW Unit)} (h : laidMet Tryz.prog ((n, .iface "*errors.errorString" (.ptr (.agg [.lit (.string text)]))) :: r) W)
    (hg : Tryz.prog.globalNamed n = some g) (ht : (Tryz.prog.globals[g]?).map (·.type) = some 106) : allB W g ∧ GlobAt (allB W) W (.told isErr 1) g := by
  obtain ⟨a, s, hv, _⟩ := laid_sentinel h hg ht Tryz.underlying106 rowErr Tryz.underlying170 Tryz.underlying172 rfl rfl Tryz.underlying9 (by kernel_rfl) (by kernel_rfl)
  obtain ⟨e, fz, hh⟩ := row_of_var hg hv
  exact told_at hh rfl rfl
theorem of7 {W : World} (h : laidMetH Tryz.prog laid7 W) (hs : W.ShapedOpen Tryz.prog) : ∀ g d, G2 g = some d → allB W g ∧ GlobAt (allB W) W d g := by
  rw [MakeChecks.laidMetH_plain _ _ _ (by kernel_rfl)] at h
  intro g d hg
  unfold G2 at hg
  split at hg
  · cases hg; exact pow_at h
  · cases hg; exact max_at hs
  · cases hg; exact err_at (n := "strconv.ErrSyntax") h.tail.tail.tail.tail.tail (by kernel_rfl) (by kernel_rfl)
  · cases hg; exact err_at (n := "strconv.ErrRange") h.tail.tail.tail.tail (by kernel_rfl) (by kernel_rfl)
  · cases hg
theorem stand {P : Program} {fn : Func} (h : (fn.params.toList.all fun t => !P.wantsStandIn t) = true) : ∀ (j : Nat) t, fn.params[j]? = some t → P.wantsStandIn t = false := fun j t ht => by
  have := List.all_eq_true.1 h t (List.mem_of_getElem? (l := fn.params.toList) (i := j) (by simpa using ht))
  simpa using this
end Go.Proofs.YtgpgnhadmckmhaaGreatDoor
