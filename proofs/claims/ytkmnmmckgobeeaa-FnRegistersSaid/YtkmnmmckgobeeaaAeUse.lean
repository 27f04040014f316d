/-
  Over the abstract evaluator: the forms in which contracts are used. No conditions.
-/
import Derived.Test.YtkmnmmckgobeeaaAeDraw3
namespace Go.AE

section
variable {P : Program} {G : Nat → Option D} {T : TypeId → TD}

/-- Nothing of the caller's heap stands in it. -/
def self1 : AV → Bool
  | .v _ => true
  | .no => true
  | .un => true
  | .nilsl => true
  | .ro _ => true
  | .rop _ _ _ => true
  | .rpc _ _ => true
  | .gl _ => true
  | .ifc => true
  | .fn _ [] => true
  | _ => false
def selfE (v : AV) : Bool :=
  match v with
  | .agg cs => cs.all self1
  | v => self1 v
def selfV (v : AV) : Bool :=
  match v with
  | .agg cs => cs.all self1
  | .tup cs => cs.all selfE
  | .fn _ cs => cs.all selfE
  | v => self1 v
theorem kindEq_refl (k : IntKind) : kindEq k k = true := by cases k <;> rfl
theorem veq_refl (x : Value) : veq x x := by
  cases x with
  | int k n => exact ⟨kindEq_refl k, rfl⟩
  | bool a => exact (rfl : a = a)
  | string a => exact (rfl : a = a)
  | _ => exact rfl
theorem am1_self {conv : Bool} {ids : List Nat} {H : List Blk} {v : AV} (h : self1 v = true) : am1 conv ids H v v := by
  cases v with
  | un => trivial
  | no => trivial
  | v x => exact veq_refl x
  | nilsl => trivial
  | ro d => exact (rfl : d = d)
  | rop d i j => exact ⟨rfl, rfl, rfl⟩
  | rpc cs j => exact ⟨rfl, rfl⟩
  | gl g => exact (rfl : g = g)
  | ifc => trivial
  | fn f cs =>
    cases cs with
    | nil => exact (rfl : f = f)
    | cons _ _ => simp [self1] at h
  | _ => simp [self1] at h
theorem vmL_self {f : AV → AV → Prop} {p : AV → Bool} (hf : ∀ v, p v = true → f v v) : ∀ {l : List AV}, l.all p = true → vmL f l l
  | [], _ => trivial
  | x :: r, h => by
    simp only [List.all_cons, Bool.and_eq_true] at h
    exact ⟨hf x h.1, vmL_self hf h.2⟩
theorem amE_self {conv : Bool} {ids : List Nat} {H : List Blk} {v : AV} (h : selfE v = true) : amE conv ids H v v := by
  cases v with
  | agg cs => exact vmL_self (p := self1) (fun _ h => am1_self h) h
  | tup cs => simp [selfE, self1] at h
  | un => trivial
  | no => trivial
  | v x => exact am1_self (conv := conv) (ids := ids) (H := H) (v := .v x) h
  | nilsl => exact am1_self (conv := conv) (ids := ids) (H := H) (v := .nilsl) h
  | ro d => exact am1_self (conv := conv) (ids := ids) (H := H) (v := .ro d) h
  | rop d i j => exact am1_self (conv := conv) (ids := ids) (H := H) (v := .rop d i j) h
  | rpc cs j => exact am1_self (conv := conv) (ids := ids) (H := H) (v := .rpc cs j) h
  | gl g => exact am1_self (conv := conv) (ids := ids) (H := H) (v := .gl g) h
  | ifc => exact am1_self (conv := conv) (ids := ids) (H := H) (v := .ifc) h
  | fn f cs => exact am1_self (conv := conv) (ids := ids) (H := H) (v := .fn f cs) h
  | _ => simp [selfE, self1] at h
theorem amV_self {conv : Bool} {ids : List Nat} {H : List Blk} {v : AV} (h : selfV v = true) : amV conv ids H v v := by
  cases v with
  | agg cs => exact vmL_self (p := self1) (fun _ h => am1_self h) h
  | tup cs => exact vmL_self (p := selfE) (fun _ h => amE_self h) h
  | fn f cs => exact ⟨rfl, vmL_self (p := selfE) (fun _ h => amE_self h) h⟩
  | un => trivial
  | no => trivial
  | v x => exact am1_self (conv := conv) (ids := ids) (H := H) (v := .v x) h
  | nilsl => exact am1_self (conv := conv) (ids := ids) (H := H) (v := .nilsl) h
  | ptr k j => exact am1_self (conv := conv) (ids := ids) (H := H) (v := .ptr k j) h
  | eptr k sz i j => exact am1_self (conv := conv) (ids := ids) (H := H) (v := .eptr k sz i j) h
  | sl k sz len => exact am1_self (conv := conv) (ids := ids) (H := H) (v := .sl k sz len) h
  | sub k sz lo len => exact am1_self (conv := conv) (ids := ids) (H := H) (v := .sub k sz lo len) h
  | ro d => exact am1_self (conv := conv) (ids := ids) (H := H) (v := .ro d) h
  | rop d i j => exact am1_self (conv := conv) (ids := ids) (H := H) (v := .rop d i j) h
  | rpc cs j => exact am1_self (conv := conv) (ids := ids) (H := H) (v := .rpc cs j) h
  | gl g => exact am1_self (conv := conv) (ids := ids) (H := H) (v := .gl g) h
  | ifc => exact am1_self (conv := conv) (ids := ids) (H := H) (v := .ifc) h
theorem vm1_self {ne : Nat} {sel : List (Option Nat)} {v : AV} (h : self1 v = true) : vm1 ne sel v v := by
  cases v with
  | un => trivial
  | no => trivial
  | v x => exact veq_refl x
  | nilsl => trivial
  | ro d => exact (rfl : d = d)
  | rop d i j => exact ⟨rfl, rfl, rfl⟩
  | rpc cs j => exact ⟨rfl, rfl⟩
  | gl g => exact (rfl : g = g)
  | ifc => trivial
  | fn f cs =>
    cases cs with
    | nil => exact (rfl : f = f)
    | cons _ _ => simp [self1] at h
  | _ => simp [self1] at h
theorem vmE_self {ne : Nat} {sel : List (Option Nat)} {v : AV} (h : selfE v = true) : vmE ne sel v v := by
  unfold vmE
  split
  · exact vmL_self (p := self1) (fun _ h => vm1_self h) h
  · rename_i h1
    refine vm1_self ?_
    cases v with
    | agg cs => exact absurd rfl (h1 cs cs rfl)
    | _ => exact h
/-- What a function literal has captured. -/
def capsOk (caps : List AV) : Bool := caps.all fun c => selfE c && selfV c
theorem caps_vm {ne : Nat} {sel : List (Option Nat)} {caps : List AV} (h : capsOk caps = true) : vmL (vmE ne sel) caps caps :=
  vmL_self (p := selfE) (fun _ h => vmE_self h) (List.all_eq_true.2 fun c hc => by have := List.all_eq_true.1 h c hc; simp only [Bool.and_eq_true] at this; exact this.1)
theorem caps_self {caps : List AV} (h : capsOk caps = true) : caps.all selfV = true :=
  List.all_eq_true.2 fun c hc => by have := List.all_eq_true.1 h c hc; simp only [Bool.and_eq_true] at this; exact this.2
theorem args_self {conv : Bool} {ids : List Nat} {H : List Blk} {args : List AV} (h : args.all selfV = true) : vmL (amV conv ids H) args args := vmL_self (p := selfV) (fun _ h => amV_self h) h
theorem sh1_self {conv : Bool} {ids : List Nat} {nb : Nat} {x : Value} : sh1 conv ids nb (.v x) = .v x := rfl
theorem map_solid {g : AV → AV} {f : AV → Option Value} (one : ∀ c x, f c = some x → g c = c) : ∀ {cs : List AV} {xs : List Value}, solids f cs = some xs → cs.map g = cs := by
  intro cs
  induction cs with
  | nil => intro xs _; rfl
  | cons c r ih =>
    intro xs h
    obtain ⟨x, ys, hx, h1, _⟩ := solids_cons h
    simp only [List.map_cons, ih h1, one _ _ hx]
theorem sh1_solid {conv : Bool} {ids : List Nat} {nb : Nat} {c : AV} {x : Value} (h : solid1 c = some x) : sh1 conv ids nb c = c := by
  unfold solid1 at h
  split at h
  · rfl
  · cases h
theorem shE_solid {conv : Bool} {ids : List Nat} {nb : Nat} {c : AV} {x : Value} (h : solidE c = some x) : shE conv ids nb c = c := by
  unfold solidE at h
  split at h
  · rfl
  · rw [Option.map_eq_some_iff] at h
    obtain ⟨xs, h1, _⟩ := h
    simp only [shE, map_solid (fun _ _ h => sh1_solid h) h1]
  · cases h
theorem shV_solid {conv : Bool} {ids : List Nat} {nb : Nat} {v : AV} {x : Value} (h : solid v = some x) : shV conv ids nb v = v := by
  unfold solid at h
  split at h
  · rfl
  · rw [Option.map_eq_some_iff] at h
    obtain ⟨xs, h1, _⟩ := h
    simp only [shV, map_solid (fun _ _ h => sh1_solid h) h1]
  · rw [Option.map_eq_some_iff] at h
    obtain ⟨xs, h1, _⟩ := h
    simp only [shV, map_solid (fun _ _ h => shE_solid h) h1]
  · cases h

/-! ### Drawn regions -/
/-- All calls are quiet. -/
theorem draw_quiet (hT : TabOK P T) (hm : P.follows .mixedOrders = true) {ops : List Oper} {fr : List AV} {H : List Blk} {K : List AV → List Blk → Prop} (hB : treeOk ops.toArray (hardOf ops.toArray (allOf ops 0)) (autoT (allOf ops 0) ops) = true)
    (h : treeA T G (CallQ P G) (CallA P G) ops (allOf ops 0) (autoT (allOf ops 0) ops) fr H K) : DrawA P G ops fr H K := draw_tree hT hm _ _ hB h
/-- All calls are hard. -/
theorem draw_hard (hT : TabOK P T) (hm : P.follows .mixedOrders = true) {ops : List Oper} {fr : List AV} {H : List Blk} {K : List AV → List Blk → Prop} (hB : treeOk ops.toArray (hardOf ops.toArray []) (autoT [] ops) = true)
    (h : treeA T G (CallQ P G) (CallA P G) ops [] (autoT [] ops) fr H K) : DrawA P G ops fr H K := draw_tree hT hm _ _ hB h

/-! ### Arithmetic -/
theorem arith_ok {k : IntKind} {m : Int} {K : Value → Prop} (hi : inb k m) (h : K (.int k m)) : arithK k m K := fun n h1 _ => by rw [h1 hi]; exact h
theorem arith_any {k : IntKind} {m : Int} {K : Value → Prop} (h : ∀ n : Int, (inb k m → n = m) → n = k.wrap m → K (.int k n)) : arithK k m K := h
theorem quo_ok {k : IntKind} {a b : Int} {K : Value → Prop} (hi : inb k a) (ha : 0 ≤ a) (hb : 0 < b) (h : K (.int k (a / b))) : quoK k a b K := ⟨by omega, fun n h1 _ => by rw [h1 hi ha hb]; exact h⟩
theorem rem_ok {k : IntKind} {a b : Int} {K : Value → Prop} (ha : 0 ≤ a) (hb : 0 < b) (h : K (.int k (a % b))) : remK k a b K := ⟨by omega, fun n h1 _ => by rw [h1 ha hb]; exact h⟩
theorem quo_any {k : IntKind} {a b : Int} {K : Value → Prop} (hb : b ≠ 0) (h : ∀ n : Int, (inb k a → 0 ≤ a → 0 < b → n = a / b) → n = k.wrap (a.tdiv b) → K (.int k n)) : quoK k a b K := ⟨hb, h⟩
theorem rem_any {k : IntKind} {a b : Int} {K : Value → Prop} (hb : b ≠ 0) (h : ∀ n : Int, (0 ≤ a → 0 < b → n = a % b) → n = a.tmod b → K (.int k n)) : remK k a b K := ⟨hb, h⟩
theorem eq_ok {k : IntKind} {v : Int} {K : Value → Prop} (h : K (.int k v)) : eqK k v K := fun n h1 => by rw [h1]; exact h
theorem mul_in {a b A B : Int} (h1 : 0 ≤ a) (h2 : a ≤ A) (h3 : 0 ≤ b) (h4 : b ≤ B) : 0 ≤ a * b ∧ a * b ≤ A * B := ⟨Int.mul_nonneg h1 h3, Int.mul_le_mul h2 h4 h3 (Int.le_trans h1 h2)⟩

/-! ### Ends -/
theorem bv_true {p : Prop} [Decidable p] (h : p) : AV.v (.bool true) = AV.v (.bool (decide p)) := by rw [decide_eq_true h]
theorem bv_false {p : Prop} [Decidable p] (h : ¬ p) : AV.v (.bool false) = AV.v (.bool (decide p)) := by rw [decide_eq_false h]
theorem bv {a b : Bool} (h : a = b) : AV.v (.bool a) = AV.v (.bool b) := by rw [h]
theorem iv {k : IntKind} {a b : Int} (h : a = b) : AV.v (.int k a) = AV.v (.int k b) := by rw [h]
theorem tup_bi {a b : Bool} {k : IntKind} {c d : Int} (h1 : a = b) (h2 : c = d) : AV.tup [.v (.bool a), .v (.int k c)] = AV.tup [.v (.bool b), .v (.int k d)] := by rw [h1, h2]
theorem tup_ii {k k' : IntKind} {a b c d : Int} (h1 : a = b) (h2 : c = d) : AV.tup [.v (.int k' a), .v (.int k c)] = AV.tup [.v (.int k' b), .v (.int k d)] := by rw [h1, h2]

/-! ### Contracts whose arguments are the caller's own values -/
theorem Ret.go {f : FuncId} {args : List AV} {H : List Blk} {r : AV} {K : AV → List Blk → Prop} (h : Ret P G f args r) (ha : args.all selfV = true) (hr : (solid r).isSome = true) (hk : K r H) : CallA P G f args H K := by
  obtain ⟨x, hx⟩ := Option.isSome_iff_exists.1 hr
  exact h.use (args_self ha) (by rw [shV_solid hx]; exact hk)
theorem Ret.goB {f : FuncId} {args : List AV} {H : List Blk} {b : Bool} {K : AV → List Blk → Prop} (h : Ret P G f args (.v (.bool b))) (ha : args.all selfV = true) (hk : (b = true → K (.v (.bool true)) H) ∧ (b = false → K (.v (.bool false)) H)) : CallA P G f args H K :=
  h.go ha rfl (by cases b; exact hk.2 rfl; exact hk.1 rfl)
theorem Ret.goP {f : FuncId} {args : List AV} {H : List Blk} {p : Prop} [Decidable p] {K : AV → List Blk → Prop} (h : Ret P G f args (.v (.bool (decide p)))) (ha : args.all selfV = true) (hk : (p → K (.v (.bool true)) H) ∧ (¬ p → K (.v (.bool false)) H)) : CallA P G f args H K :=
  h.goB ha ⟨fun e => hk.1 (of_decide_eq_true e), fun e => hk.2 (of_decide_eq_false e)⟩
theorem Ret.goQ {f : FuncId} {args : List AV} {H : List Blk} {r : AV} {K : AV → List Blk → Prop} (h : Ret P G f args r) (ha : args.all selfV = true) (hr : (solid r).isSome = true) (hk : K r H) : CallQ P G f args H K := by
  obtain ⟨x, hx⟩ := Option.isSome_iff_exists.1 hr
  exact h.quiet hx (args_self ha) hk
theorem Ret.goQB {f : FuncId} {args : List AV} {H : List Blk} {b : Bool} {K : AV → List Blk → Prop} (h : Ret P G f args (.v (.bool b))) (ha : args.all selfV = true) (hk : (b = true → K (.v (.bool true)) H) ∧ (b = false → K (.v (.bool false)) H)) : CallQ P G f args H K :=
  h.goQ ha rfl (by cases b; exact hk.2 rfl; exact hk.1 rfl)
theorem Ret.goQP {f : FuncId} {args : List AV} {H : List Blk} {p : Prop} [Decidable p] {K : AV → List Blk → Prop} (h : Ret P G f args (.v (.bool (decide p)))) (ha : args.all selfV = true) (hk : (p → K (.v (.bool true)) H) ∧ (¬ p → K (.v (.bool false)) H)) : CallQ P G f args H K :=
  h.goQB ha ⟨fun e => hk.1 (of_decide_eq_true e), fun e => hk.2 (of_decide_eq_false e)⟩
theorem Ret.useB {f : FuncId} {args dargs : List AV} {H : List Blk} {b : Bool} {K : AV → List Blk → Prop} (h : Ret P G f dargs (.v (.bool b))) (ha : vmL (amV true [] H) args dargs) (hk : (b = true → K (.v (.bool true)) H) ∧ (b = false → K (.v (.bool false)) H)) : CallA P G f args H K :=
  h.use ha (by cases b; exact hk.2 rfl; exact hk.1 rfl)
theorem Ret.useP {f : FuncId} {args dargs : List AV} {H : List Blk} {p : Prop} [Decidable p] {K : AV → List Blk → Prop} (h : Ret P G f dargs (.v (.bool (decide p)))) (ha : vmL (amV true [] H) args dargs) (hk : (p → K (.v (.bool true)) H) ∧ (¬ p → K (.v (.bool false)) H)) : CallA P G f args H K :=
  h.useB ha ⟨fun e => hk.1 (of_decide_eq_true e), fun e => hk.2 (of_decide_eq_false e)⟩
theorem Ret.useQ {f : FuncId} {args dargs : List AV} {H : List Blk} {r : AV} {K : AV → List Blk → Prop} (h : Ret P G f dargs r) (ha : vmL (amV true [] H) args dargs) (hr : (solid r).isSome = true) (hk : K r H) : CallQ P G f args H K := by
  obtain ⟨x, hx⟩ := Option.isSome_iff_exists.1 hr
  exact h.quiet hx ha hk
theorem Ret.useQB {f : FuncId} {args dargs : List AV} {H : List Blk} {b : Bool} {K : AV → List Blk → Prop} (h : Ret P G f dargs (.v (.bool b))) (ha : vmL (amV true [] H) args dargs) (hk : (b = true → K (.v (.bool true)) H) ∧ (b = false → K (.v (.bool false)) H)) : CallQ P G f args H K :=
  h.useQ ha rfl (by cases b; exact hk.2 rfl; exact hk.1 rfl)
theorem Ret.useQP {f : FuncId} {args dargs : List AV} {H : List Blk} {p : Prop} [Decidable p] {K : AV → List Blk → Prop} (h : Ret P G f dargs (.v (.bool (decide p)))) (ha : vmL (amV true [] H) args dargs) (hk : (p → K (.v (.bool true)) H) ∧ (¬ p → K (.v (.bool false)) H)) : CallQ P G f args H K :=
  h.useQB ha ⟨fun e => hk.1 (of_decide_eq_true e), fun e => hk.2 (of_decide_eq_false e)⟩
/-- Proved at its body. -/
theorem ret_of_body (hT : TabOK P T) {f : FuncId} {fn : Func} {args : List AV} {r : AV} (hf : P.funcs[f]? = some fn) (hn : (fn.name == "runtime.NumGoroutine") = false)
    (h : bodyA T G (CallA P G) (LoopA P G) (DrawA P G) fn args [] fun v _ => v = r) (hr : (solid r).isSome = true) : Ret P G f args r := by
  obtain ⟨x, hx⟩ := Option.isSome_iff_exists.1 hr
  have h1 := callA_of_body hT hf hn h
  refine ⟨h1.1, fun β S w vs hr' hl hv => (h1.2 β S w vs hr' hl hv).mono fun e w' ⟨β', S', H', v, y, g1, g2, g3, g4⟩ => ?_⟩
  subst g2
  have hy := solid_eq hx g3
  subst hy
  have hc : Cl w w' := ⟨g4.evo.os, g4.evo.tape, g4.evo.output, g4.evo.size, fun b hb _ => g4.evo.keep b hb fun ⟨k, b', h0, _⟩ => by simp at h0⟩
  exact ⟨β, S, [], v, y, g1, ⟨rfl, rfl⟩, solid_vr hx, (HS.start hr').cl hc⟩
end
end Go.AE
