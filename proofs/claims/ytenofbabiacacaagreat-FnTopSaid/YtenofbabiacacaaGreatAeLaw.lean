/-
  A law that returns true and leaves what was there: the statement's form from the call. No conditions but those in the statements.
-/
import Derived.Test.YtenofbabiacacaaGreatAeB
import Derived.ProofKit
set_option linter.unusedVariables false
set_option linter.unusedSimpArgs false
namespace Go.AE
open Go.RowKit Go.WideShapes Go.ChangeShapes

theorem Cl.below {W W' : World} (h : Cl W W') : Below W.heap.size W W' := ⟨h.os, h.tape, h.output, h.size, fun k hk => h.keep k hk id⟩
theorem trodAll_cl {H : Type} {enc : TypeId × Value → H} {P : Program} (hl : laidOutB P = true) {W W' : World} (hb : Below W.heap.size W W') (sp : Nat → Bool) :
    ∀ {ts : List TypeId} {vs : List Value} {ds : List (DataW H)} {ps : List MemPlace}, (ts.all fun t => P.readableRec t && decide (t < P.types.size)) = true → DataW.TrodAll enc P W 0 (fun _ => true) true ts vs ds ps → (∀ x ∈ ps, x.block < W.heap.size) → (∀ x ∈ ps, sp x.block = true) →
      DataW.TrodAll enc P W' 0 sp true ts vs ds ps
  | [], _, _, _, _, h, _, _ => by
    obtain ⟨rfl, rfl, rfl⟩ := trodAll_nil h
    rfl
  | t :: ts, _, _, _, hr, h, hlt, hsp => by
    obtain ⟨v, vs, d, ds, p, q, rfl, rfl, rfl, h1, h2⟩ := trodAll_cons h
    simp only [List.all_cons, Bool.and_eq_true, decide_eq_true_eq] at hr
    obtain ⟨⟨hr1, hr2⟩, hr3⟩ := hr
    exact ⟨p, q, WideElems.Trod_stays hl hr1 hr2 h1 (fun x hx => hb.same (hlt x (List.mem_append_left _ hx))) (fun x hx => hsp x (List.mem_append_left _ hx)),
      trodAll_cl hl hb sp hr3 h2 (fun x hx => hlt x (List.mem_append_right _ hx)) (fun x hx => hsp x (List.mem_append_right _ hx)), rfl⟩
theorem trod_true {H : Type} {enc : TypeId × Value → H} {P : Program} {w : World} {base : Nat} {spare : Nat → Bool} {held : Bool} {t : TypeId} (ht : P.underlying t = some .bool) (b : Bool) : DataW.Trod enc P w base spare held t (.bool b) (.lit (.bool b)) [] :=
  ⟨1, by simp [DataW.trod, ht, Value.cells]⟩
/-- The contract of a law. -/
theorem law_post {H : Type} {enc : TypeId × Value → H} {P : Program} {f : Func} {s : ChangeSpec} {apart fresh handsOn again : Bool} {W W' : World} {args : Array Value} {ds gs : List (DataW H)} {before : List MemPlace} {tb : TypeId}
    (hl : laidOutB P = true) (hr : (f.params.toList.all fun t => P.readableRec t && decide (t < P.types.size)) = true) (hres : f.resultTypes = #[tb]) (htb : P.underlying tb = some .bool) (hvars : s.vars = [])
    (hfn : s.fn H ds = { results := [.lit (.bool true)], args := ds }) (hW : DataW.Whole enc P f.params.toList s.vars apart W args.toList ds gs before) (hc : Cl W W') : s.post enc P f apart fresh handsOn again W args (.bool true) W' := by
  have hb := hc.below
  have hlt : ∀ x ∈ before, x.block < W.heap.size := fun x hx => by simpa using hW.lt x hx
  have hW0 := hW
  obtain ⟨p, q, hA, hV, rfl, hz, hn⟩ := hW
  rw [hvars] at hV
  obtain ⟨rfl, rfl⟩ := trodVars_none hV
  simp only [List.append_nil] at hlt hz hn hW0
  have hA' := fun (sp : Nat → Bool) (hsp : ∀ x ∈ p, sp x.block = true) => trodAll_cl hl hb sp hr hA hlt hsp
  have hz' : ∀ (ps : List MemPlace), (∀ x ∈ ps, x ∈ p) → W'.noneFrozen ps := fun ps hps b off hx => by rw [hb.frozen (hlt _ (hps _ hx))]; exact hz b off (hps _ hx)
  have hresT : ∀ (base : Nat) (sp : Nat → Bool) (hd : Bool), DataW.TrodAll enc P W' base sp hd f.resultTypes.toList ((Value.bool true).resultList f.resultTypes.size) [.lit (.bool true)] [] := fun base sp hd => by
    rw [hres]
    exact trodAll_mk1 (trod_true htb true)
  refine ⟨ds, [], p, [], p, [], hW0, ?_, ?_, ?_, World.keptBut_mono (fun x hx => ⟨hx, .inr (.inl hx)⟩) (hb.frame (· ∈ p)), fun _ => ⟨?_, ?_⟩⟩
  · rw [List.append_nil, hfn]; exact hresT _ _ _
  · rw [List.append_nil, hfn]; exact hA' _ fun x hx => by simpa using hlt x hx
  · rw [List.append_nil, hfn, hvars]; rfl
  · exact ok_one hres rfl (by simp [Value.okWide, htb, Cell.okWide, Cell.ok])
  · refine ⟨_, [], [] ++ p, ⟨[] ++ p, [], trodAll_append (hA' _ fun _ _ => rfl) (hresT _ _ _), by rw [hvars]; rfl, by simp, ?_, fun ha => ?_⟩, fun x hx _ => by simpa using hx⟩
    · exact hz' _ fun x hx => by simpa using hx
    · simpa using hn ha
theorem law_calls {P : Program} {G : Nat → Option D} {f : FuncId} {dargs : List AV} (h : Ret P G f dargs (.v (.bool true))) {S : Nat → Prop} {W : World} {args : Array Value} (hS : ∀ b, S b → b < W.heap.size) (hG : ∀ g d, G g = some d → S g ∧ GlobAt S W d g)
    (hl : dargs.length = args.size) (hv : ∀ i c, dargs[i]? = some c → VR (fun _ => none) 0 S W c (args.getD i undef)) : Calls P f args W fun e W' => e = .returned (.bool true) ∧ Cl W W' := by
  have hr : Rel G (fun _ => none) S [] W := ⟨fun k b hk => by simp at hk, fun k k' b b' r hk => by simp at hk, fun k b r hk => by simp at hk, hS, hG⟩
  refine (h.2 _ S W args hr hl hv).mono fun e W' ⟨β', S', H', v, x, h1, ⟨h2, h2'⟩, h3, h4⟩ => ?_
  subst h2
  have hx := h3.v_inv.1
  subst hx
  exact ⟨h1, h4.evo.os, h4.evo.tape, h4.evo.output, h4.evo.size, fun b hb _ => h4.evo.keep b hb fun ⟨k, b', h0, _⟩ => by simp at h0⟩
theorem vr3 {S : Nat → Prop} {W : World} {a b c : AV} {x y z : Value} (h1 : VR (fun _ => none) 0 S W a x) (h2 : VR (fun _ => none) 0 S W b y) (h3 : VR (fun _ => none) 0 S W c z) : ∀ i v, [a, b, c][i]? = some v → VR (fun _ => none) 0 S W v (#[x, y, z].getD i undef) := by
  intro i v hi
  match i, hi with
  | 0, hi => simp at hi; subst hi; exact h1
  | 1, hi => simp at hi; subst hi; exact h2
  | 2, hi => simp at hi; subst hi; exact h3
theorem vr2 {S : Nat → Prop} {W : World} {a b : AV} {x y : Value} (h1 : VR (fun _ => none) 0 S W a x) (h2 : VR (fun _ => none) 0 S W b y) : ∀ i v, [a, b][i]? = some v → VR (fun _ => none) 0 S W v (#[x, y].getD i undef) := by
  intro i v hi
  match i, hi with
  | 0, hi => simp at hi; subst hi; exact h1
  | 1, hi => simp at hi; subst hi; exact h2
theorem vr1 {S : Nat → Prop} {W : World} {a : AV} {x : Value} (h1 : VR (fun _ => none) 0 S W a x) : ∀ i v, [a][i]? = some v → VR (fun _ => none) 0 S W v (#[x].getD i undef) := by
  intro i v hi
  match i, hi with
  | 0, hi => simp at hi; subst hi; exact h1
end Go.AE
