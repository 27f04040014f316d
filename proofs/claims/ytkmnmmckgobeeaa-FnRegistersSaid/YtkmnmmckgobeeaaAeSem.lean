/-
  What the abstract evaluator's states mean: values, heaps and frames held against the model's; how they are kept as the world grows. No conditions.
-/
import Derived.Test.YtkmnmmckgobeeaaAeRun
namespace Go.AE

def D.cv : D → Nat → Nat → Value
  | .ints k xs, i, _ => .int k (xs.getD i 0)
  | .recs _ xss, i, j => .int .i64 ((xss.getD i []).getD j 0)
  | .bools bs, i, _ => .bool (bs.getD i false)
  | .strs ss, i, _ => .string (ss.getD i ByteArray.empty)
  | .nest _, _, _ => undef
  | .told _ _, _, _ => undef
/-- The slice x has n elements; where there is one, it begins at a place of which At holds. -/
def SlOf (At : Nat → Nat → Prop) (x : Value) (n : Nat) : Prop :=
  ∃ a cap, x = .slice a n cap ∧ n ≤ cap ∧ cap ≤ maxLen ∧ (0 < n → ∃ b off, a = some ⟨b, off, none⟩ ∧ At b off)
def IntsAt (w : World) (k : IntKind) (xs : List Int) (b off : Nat) : Prop := ∀ i, i < xs.length → w.cell? ⟨b, off + i, none⟩ = some (.int k (xs.getD i 0))
def SlInts (S : Nat → Prop) (w : World) (k : IntKind) (xs : List Int) (x : Value) : Prop := SlOf (fun b off => S b ∧ IntsAt w k xs b off) x xs.length
/-- The value u is what cell j of row i says. -/
def cellR (S : Nat → Prop) (w : World) (d : D) (i j : Nat) (u : Value) : Prop :=
  match d with
  | .nest xss => SlInts S w .i64 (xss.getD i []) u
  | .told p _ => p u = true ∧ u.oneCell' = true
  | d => u = d.cv i j
def DataAt (S : Nat → Prop) (w : World) (d : D) (b off : Nat) : Prop :=
  ∀ i, i < d.len → ∀ j, j < d.sz → ∃ u, w.cell? ⟨b, off + i * d.sz + j, none⟩ = some u ∧ cellR S w d i j u
def SlD (S : Nat → Prop) (w : World) (d : D) (x : Value) : Prop := SlOf (fun b off => S b ∧ DataAt S w d b off) x d.len

/-- A package's variable: all of its cells. -/
def GlobAt (S : Nat → Prop) (w : World) (d : D) (g : Nat) : Prop := DataAt S w d g 0 ∧ ∃ cs e fz, w.heap[g]? = some (.cells cs e fz) ∧ cs.size = d.len * d.sz
inductive VR (β : Nat → Option Nat) (n : Nat) (S : Nat → Prop) (w : World) : AV → Value → Prop
  | un (x : Value) : VR β n S w .un x
  | no : VR β n S w .no undef
  | v (x : Value) (h : scal x = true) : VR β n S w (.v x) x
  | agg (cs : List AV) (vs : Array Value) (hl : cs.length = vs.size) (h : ∀ i c, cs[i]? = some c → VR β n S w c (vs.getD i undef)) : VR β n S w (.agg cs) (.agg vs)
  | tup (cs : List AV) (vs : Array Value) (hl : cs.length = vs.size) (h : ∀ i c, cs[i]? = some c → VR β n S w c (vs.getD i undef)) : VR β n S w (.tup cs) (.tuple vs)
  | nilsl : VR β n S w .nilsl (.slice none 0 0)
  | ptr (k j r : Nat) (hk : k < n) (hb : β k = some r) : VR β n S w (.ptr k j) (.pointer (some ⟨r, j, none⟩))
  | eptr (k sz i j r : Nat) (hk : k < n) (hb : β k = some r) : VR β n S w (.eptr k sz i j) (.pointer (some ⟨r, i * sz + j, none⟩))
  | sl (k sz len r cap : Nat) (hk : k < n) (hb : β k = some r) (hc : len ≤ cap) (hm : cap ≤ maxLen) (arr : Array Value) (e : TypeId)
      (hh : ∃ fz, w.heap[r]? = some (.cells arr e fz)) (hs : cap * sz ≤ arr.size) : VR β n S w (.sl k sz len) (.slice (some ⟨r, 0, none⟩) len cap)
  | sl0 (k sz : Nat) (a : Option Addr) : VR β n S w (.sl k sz 0) (.slice a 0 0)
  | sub (k sz lo len r cap : Nat) (hk : k < n) (hb : β k = some r) (hc : len ≤ cap) (hm : cap ≤ maxLen) (arr : Array Value) (e : TypeId)
      (hh : ∃ fz, w.heap[r]? = some (.cells arr e fz)) (hs : (lo + cap) * sz ≤ arr.size) : VR β n S w (.sub k sz lo len) (.slice (some ⟨r, lo * sz, none⟩) len cap)
  | sub0 (k sz lo : Nat) (a : Option Addr) : VR β n S w (.sub k sz lo 0) (.slice a 0 0)
  | ro (d : D) (x : Value) (h : SlD S w d x) : VR β n S w (.ro d) x
  | rop (d : D) (i j b off : Nat) (hS : S b) (hd : DataAt S w d b off) : VR β n S w (.rop d i j) (.pointer (some ⟨b, off + i * d.sz + j, none⟩))
  | rpc (cs : List AV) (j b : Nat) (hS : S b) (arr : Array Value) (e : TypeId) (hh : w.heap[b]? = some (.cells arr e (0, 0))) (hl : cs.length ≤ arr.size) (ho : cs.all rpcOk = true)
      (h : ∀ i c, cs[i]? = some c → VR β n S w c (arr.getD i undef)) : VR β n S w (.rpc cs j) (.pointer (some ⟨b, j, none⟩))
  | gl (g : Nat) : VR β n S w (.gl g) (.pointer (some ⟨g, 0, none⟩))
  | fn (f : FuncId) (cs : List AV) (vs : Array Value) (hl : cs.length = vs.size) (h : ∀ i c, cs[i]? = some c → VR β n S w c (vs.getD i undef)) : VR β n S w (.fn f cs) (.func (.func f) #[] vs)
  | ifc (te : TypeId) (p : Value) : VR β n S w .ifc (.iface te p)

/-- A block of the abstract heap and the block that stands for it. -/
inductive BlkR (β : Nat → Option Nat) (n : Nat) (S : Nat → Prop) (w : World) : Option Nat → Blk → Prop
  | dead (r : Option Nat) : BlkR β n S w r .dead
  | obj (r : Nat) (arr : Array Value) (e : TypeId) (p : Nat → Array Value → TypeId → Prop) (hh : w.heap[r]? = some (.cells arr e (0, 0))) (h : p r arr e) : BlkR β n S w (some r) (.obj p)
  | cells (r : Nat) (arr : Array Value) (e : TypeId) (cs : List AV) (hh : w.heap[r]? = some (.cells arr e (0, 0))) (hl : cs.length ≤ arr.size)
      (h : ∀ i c, cs[i]? = some c → VR β n S w c (arr.getD i undef)) : BlkR β n S w (some r) (.cells cs)
  | data0 (d : D) (h : d.len = 0) : BlkR β n S w none (.data d)
  | data (r : Nat) (arr : Array Value) (e : TypeId) (d : D) (hh : w.heap[r]? = some (.cells arr e (0, 0))) (hl : d.len * d.sz ≤ arr.size)
      (h : ∀ i, i < d.len → ∀ j, j < d.sz → cellR S w d i j (arr.getD (i * d.sz + j) undef)) : BlkR β n S w (some r) (.data d)

structure Rel (G : Nat → Option D) (β : Nat → Option Nat) (S : Nat → Prop) (H : List Blk) (w : World) : Prop where
  blk : ∀ k b, H[k]? = some b → BlkR β H.length S w (β k) b
  sep : ∀ k k' b b' r, H[k]? = some b → H[k']? = some b' → b ≠ .dead → b' ≠ .dead → β k = some r → β k' = some r → k = k'
  off : ∀ k b r, H[k]? = some b → b ≠ .dead → β k = some r → ¬ S r
  lt : ∀ r, S r → r < w.heap.size
  glob : ∀ g d, G g = some d → S g ∧ GlobAt S w d g

/-- A way on. -/
structure Tr (n : Nat) (β : Nat → Option Nat) (S : Nat → Prop) (w : World) (n' : Nat) (β' : Nat → Option Nat) (S' : Nat → Prop) (w' : World) : Prop where
  agree : ∀ k, k < n → β' k = β k
  le : n ≤ n'
  sub : ∀ b, S b → S' b
  keep : ∀ b, S b → w'.heap[b]? = w.heap[b]?
  phys : ∀ (b : Nat) (arr : Array Value) (e : TypeId) (fz : Nat × Nat), w.heap[b]? = some (.cells arr e fz) → ∃ arr' fz', w'.heap[b]? = some (.cells arr' e fz') ∧ arr'.size = arr.size

theorem Tr.refl (n : Nat) (β : Nat → Option Nat) (S : Nat → Prop) (w : World) : Tr n β S w n β S w :=
  ⟨fun _ _ => rfl, Nat.le_refl _, fun _ h => h, fun _ _ => rfl, fun _ arr _ fz h => ⟨arr, fz, h, rfl⟩⟩
theorem Tr.trans {n n1 n2 : Nat} {β β1 β2 : Nat → Option Nat} {S S1 S2 : Nat → Prop} {w w1 w2 : World} (h : Tr n β S w n1 β1 S1 w1) (k : Tr n1 β1 S1 w1 n2 β2 S2 w2) : Tr n β S w n2 β2 S2 w2 where
  agree := fun i hi => (k.agree i (Nat.lt_of_lt_of_le hi h.le)).trans (h.agree i hi)
  le := Nat.le_trans h.le k.le
  sub := fun b hb => k.sub b (h.sub b hb)
  keep := fun b hb => (k.keep b (h.sub b hb)).trans (h.keep b hb)
  phys := fun b arr e fz hb => by
    obtain ⟨a1, z1, h1, s1⟩ := h.phys b arr e fz hb
    obtain ⟨a2, z2, h2, s2⟩ := k.phys b a1 e z1 h1
    exact ⟨a2, z2, h2, s2.trans s1⟩

section
variable {n n' : Nat} {β β' : Nat → Option Nat} {S S' : Nat → Prop} {w w' : World}
theorem SlOf.mono {At At' : Nat → Nat → Prop} {x : Value} {m : Nat} (h : SlOf At x m) (hm : ∀ b off, At b off → At' b off) : SlOf At' x m := by
  obtain ⟨a, cap, h1, h2, h3, h4⟩ := h
  refine ⟨a, cap, h1, h2, h3, fun hp => ?_⟩
  obtain ⟨b, off, h5, h6⟩ := h4 hp
  exact ⟨b, off, h5, hm _ _ h6⟩
theorem SlInts.keep {k : IntKind} {xs : List Int} {x : Value} (h : SlInts S w k xs x) (hs : ∀ b, S b → S' b) (hk : ∀ b, S b → w'.heap[b]? = w.heap[b]?) : SlInts S' w' k xs x :=
  h.mono fun b off hb => ⟨hs b hb.1, fun i hi => by rw [World.cell?_of_block (w := w) (hk b hb.1)]; exact hb.2 i hi⟩
theorem cellR.keep {d : D} {i j : Nat} {u : Value} (h : cellR S w d i j u) (hs : ∀ b, S b → S' b) (hk : ∀ b, S b → w'.heap[b]? = w.heap[b]?) : cellR S' w' d i j u := by
  cases d <;> first | exact SlInts.keep h hs hk | exact h
theorem DataAt.keep {d : D} {b off : Nat} (hb : S b) (h : DataAt S w d b off) (hs : ∀ b, S b → S' b) (hk : ∀ b, S b → w'.heap[b]? = w.heap[b]?) : DataAt S' w' d b off := by
  intro i hi j hj
  obtain ⟨u, h1, h2⟩ := h i hi j hj
  exact ⟨u, by rw [World.cell?_of_block (w := w) (hk b hb)]; exact h1, h2.keep hs hk⟩
theorem GlobAt.keep {d : D} {g : Nat} (hb : S g) (h : GlobAt S w d g) (hs : ∀ b, S b → S' b) (hk : ∀ b, S b → w'.heap[b]? = w.heap[b]?) : GlobAt S' w' d g := by
  obtain ⟨h1, cs, e, fz, h2, h3⟩ := h
  exact ⟨DataAt.keep hb h1 hs hk, cs, e, fz, (hk g hb).trans h2, h3⟩
theorem SlD.keep {d : D} {x : Value} (h : SlD S w d x) (hs : ∀ b, S b → S' b) (hk : ∀ b, S b → w'.heap[b]? = w.heap[b]?) : SlD S' w' d x :=
  h.mono fun b _ hb => ⟨hs b hb.1, DataAt.keep hb.1 hb.2 hs hk⟩
theorem VR.tr (t : Tr n β S w n' β' S' w') {a : AV} {x : Value} (h : VR β n S w a x) : VR β' n' S' w' a x := by
  induction h with
  | un x => exact .un x
  | no => exact .no
  | v x h => exact .v x h
  | agg cs vs hl _ ih => exact .agg cs vs hl ih
  | tup cs vs hl _ ih => exact .tup cs vs hl ih
  | nilsl => exact .nilsl
  | ptr k j r hk hb => exact .ptr k j r (Nat.lt_of_lt_of_le hk t.le) ((t.agree k hk).trans hb)
  | eptr k sz i j r hk hb => exact .eptr k sz i j r (Nat.lt_of_lt_of_le hk t.le) ((t.agree k hk).trans hb)
  | sl k sz len r cap hk hb hc hm arr e hh hs =>
    obtain ⟨fz, hh⟩ := hh
    obtain ⟨arr', fz', h1, h2⟩ := t.phys r arr e fz hh
    exact .sl k sz len r cap (Nat.lt_of_lt_of_le hk t.le) ((t.agree k hk).trans hb) hc hm arr' e ⟨fz', h1⟩ (by omega)
  | sl0 k sz a => exact .sl0 k sz a
  | sub k sz lo len r cap hk hb hc hm arr e hh hs =>
    obtain ⟨fz, hh⟩ := hh
    obtain ⟨arr', fz', h1, h2⟩ := t.phys r arr e fz hh
    exact .sub k sz lo len r cap (Nat.lt_of_lt_of_le hk t.le) ((t.agree k hk).trans hb) hc hm arr' e ⟨fz', h1⟩ (by omega)
  | sub0 k sz lo a => exact .sub0 k sz lo a
  | ro d x h => exact .ro d x (h.keep t.sub t.keep)
  | rop d i j b off hS hd => exact .rop d i j b off (t.sub b hS) (DataAt.keep hS hd t.sub t.keep)
  | rpc cs j b hS arr e hh hl ho _ ih => exact .rpc cs j b (t.sub b hS) arr e ((t.keep b hS).trans hh) hl ho ih
  | gl g => exact .gl g
  | fn f cs vs hl _ ih => exact .fn f cs vs hl ih
  | ifc te p => exact .ifc te p

theorem VR.fixed {a : AV} {x : Value} (h : VR β n S w a x) (ha : rpcOk a = true) (hs : ∀ b, S b → S' b) : VR β' n' S' w a x := by
  cases h with
  | un x => exact .un x
  | v x h => exact .v x h
  | nilsl => exact .nilsl
  | ro d x h => exact .ro d x (h.keep hs fun _ _ => rfl)
  | rop d i j b off hS hd => exact .rop d i j b off (hs b hS) (DataAt.keep hS hd hs fun _ _ => rfl)
  | gl g => exact .gl g
  | _ => simp [rpcOk] at ha
theorem VR.rpc_fixed {cs : List AV} {j : Nat} {x : Value} (h : VR β n S w (.rpc cs j) x) (hs : ∀ b, S b → S' b) : VR β' n' S' w (.rpc cs j) x := by
  cases h with
  | rpc _ _ b hS arr e hh hl ho h => exact .rpc cs j b (hs b hS) arr e hh hl ho fun i c hc => (h i c hc).fixed (List.all_eq_true.1 ho c (List.mem_of_getElem? hc)) hs
theorem cellR.vr {d : D} {i j : Nat} {u : Value} (h : cellR S w d i j u) : VR β n S w (d.cell i j) u := by
  cases d with
  | nest xss =>
    refine .ro _ _ (SlOf.mono (At := fun b off => S b ∧ IntsAt w .i64 (xss.getD i []) b off) h fun b off hb => ⟨hb.1, fun i' hi j' hj => ⟨_, ?_, rfl⟩⟩)
    simp only [D.sz] at hj
    have : j' = 0 := by omega
    subst this
    simpa [D.sz, D.cv] using hb.2 i' hi
  | ints k xs => simp only [cellR] at h; subst h; exact .v _ rfl
  | recs sz xss => simp only [cellR] at h; subst h; exact .v _ rfl
  | bools bs => simp only [cellR] at h; subst h; exact .v _ rfl
  | strs ss => simp only [cellR] at h; subst h; exact .v _ rfl
  | told p n => exact .un _
end

/-! ### Blocks kept over a way -/
/-- As Tr, and the block r besides has not turned. -/
theorem BlkR.tr {n n' : Nat} {β β' : Nat → Option Nat} {S S' : Nat → Prop} {w w' : World} (t : Tr n β S w n' β' S' w') {r : Option Nat} {b : Blk} (h : BlkR β n S w r b)
    (hk : ∀ q, r = some q → q < w.heap.size → w'.heap[q]? = w.heap[q]?) : BlkR β' n' S' w' r b := by
  cases h with
  | dead => exact .dead _
  | obj _ arr e p hh h => exact .obj _ arr e p ((hk _ rfl (Array.getElem?_eq_some_iff.1 hh).1).trans hh) h
  | cells _ arr e cs hh hl h => exact .cells _ arr e cs ((hk _ rfl (Array.getElem?_eq_some_iff.1 hh).1).trans hh) hl fun i c hc => (h i c hc).tr t
  | data0 d h => exact .data0 d h
  | data _ arr e d hh hl h => exact .data _ arr e d ((hk _ rfl (Array.getElem?_eq_some_iff.1 hh).1).trans hh) hl fun i hi j hj => (h i hi j hj).keep t.sub t.keep

/-- Where a call began. -/
structure Ctx where
  w0 : World
  M : Nat → Prop
  n0 : Nat
  β0 : Nat → Option Nat
  S0 : Nat → Prop
structure Evo (w w' : World) (M : Nat → Prop) : Prop where
  os : w'.os = w.os
  tape : w'.tape = w.tape
  output : w'.output = w.output
  size : w.heap.size ≤ w'.heap.size
  keep : ∀ b, b < w.heap.size → ¬ M b → w'.heap[b]? = w.heap[b]?
theorem Evo.refl (w : World) (M : Nat → Prop) : Evo w w M := ⟨rfl, rfl, rfl, Nat.le_refl _, fun _ _ _ => rfl⟩
structure HS (G : Nat → Option D) (C : Ctx) (β : Nat → Option Nat) (S : Nat → Prop) (H : List Blk) (w : World) : Prop where
  rel : Rel G β S H w
  evo : Evo C.w0 w C.M
  new : ∀ k b r, H[k]? = some b → b ≠ .dead → β k = some r → C.w0.heap.size ≤ r ∨ C.M r
  tr : Tr C.n0 C.β0 C.S0 C.w0 H.length β S w
  fix : ∀ b, S b → C.S0 b ∨ C.w0.heap.size ≤ b ∨ C.M b
/-- The context of a call that begins now. -/
def ctxOf (β : Nat → Option Nat) (S : Nat → Prop) (H : List Blk) (w : World) : Ctx := ⟨w, fun r => ∃ k b, H[k]? = some b ∧ b ≠ .dead ∧ β k = some r, H.length, β, S⟩
theorem HS.start {G : Nat → Option D} {β : Nat → Option Nat} {S : Nat → Prop} {H : List Blk} {w : World} (h : Rel G β S H w) : HS G (ctxOf β S H w) β S H w :=
  ⟨h, Evo.refl _ _, fun k b _ h1 h2 h3 => .inr ⟨k, b, h1, h2, h3⟩, Tr.refl _ _ _ _, fun _ h => .inl h⟩
/-- Behind a call, in the caller's context. -/
theorem HS.back {G : Nat → Option D} {C : Ctx} {β β' : Nat → Option Nat} {S S' : Nat → Prop} {H H' : List Blk} {w w' : World} (h : HS G C β S H w) (h' : HS G (ctxOf β S H w) β' S' H' w') : HS G C β' S' H' w' where
  rel := h'.rel
  evo := ⟨h'.evo.os.trans h.evo.os, h'.evo.tape.trans h.evo.tape, h'.evo.output.trans h.evo.output, Nat.le_trans h.evo.size h'.evo.size, fun b hb hm => by
    refine (h'.evo.keep b (Nat.lt_of_lt_of_le hb h.evo.size) ?_).trans (h.evo.keep b hb hm)
    rintro ⟨k, b', h1, h2, h3⟩
    rcases h.new k b' b h1 h2 h3 with h4 | h4
    · omega
    · exact hm h4⟩
  new := fun k b r h1 h2 h3 => by
    rcases h'.new k b r h1 h2 h3 with h4 | ⟨k', b', h5, h6, h7⟩
    · exact .inl (Nat.le_trans h.evo.size h4)
    · exact h.new k' b' r h5 h6 h7
  tr := h.tr.trans h'.tr
  fix := fun b hb => by
    rcases h'.fix b hb with h1 | h1 | ⟨k, b', h1, h2, h3⟩
    · exact h.fix b h1
    · exact .inr (.inl (Nat.le_trans h.evo.size h1))
    · exact .inr (h.new k b' b h1 h2 h3)

/-- A function that can be entered. -/
def Enters (P : Program) (f : FuncId) : Prop := ∃ fn, P.funcs[f]? = some fn ∧ fn.body.isNone = false ∧ (fn.name == "runtime.NumGoroutine") = false
def CallA (P : Program) (G : Nat → Option D) (f : FuncId) (args : List AV) (H : List Blk) (K : AV → List Blk → Prop) : Prop :=
  Enters P f ∧ ∀ (β : Nat → Option Nat) (S : Nat → Prop) (w : World) (vs : Array Value), Rel G β S H w → args.length = vs.size → (∀ i c, args[i]? = some c → VR β H.length S w c (vs.getD i undef)) →
    Calls P f vs w fun e w' => ∃ β' S' H' v x, e = .returned x ∧ K v H' ∧ VR β' H'.length S' w' v x ∧ HS G (ctxOf β S H w) β' S' H' w'
def FR (β : Nat → Option Nat) (n : Nat) (S : Nat → Prop) (w : World) (fr : List AV) (a : Act) : Prop :=
  a.defers = [] ∧ fr.length = a.tmps.size ∧ ∀ i v, fr[i]? = some v → VR β n S w v (a.tmps.getD i undef)
def Post (G : Nat → Option D) (C : Ctx) (K : Ex → List AV → List Blk → Prop) : Exit → Act → World → Prop
  | .normal, a, w => ∃ β S fr H, FR β H.length S w fr a ∧ HS G C β S H w ∧ K .normal fr H
  | .exit id, a, w => ∃ β S fr H, FR β H.length S w fr a ∧ HS G C β S H w ∧ K (.exit id) fr H
  | .ret, a, w => ∃ β S fr H, FR β H.length S w fr a ∧ HS G C β S H w ∧ K .ret fr H
  | _, _, _ => False
def WpA (P : Program) (G : Nat → Option D) (c : Code) (fr : List AV) (H : List Blk) (K : Ex → List AV → List Blk → Prop) : Prop :=
  ∀ C β S a w, FR β H.length S w fr a → HS G C β S H w → c.wp P (Post G C K) a w
def LoopA (P : Program) (G : Nat → Option D) (c : Code) (fr : List AV) (H : List Blk) (K : Ex → List AV → List Blk → Prop) : Prop := WpA P G (.loop c) fr H K
def DrawA (P : Program) (G : Nat → Option D) (ops : List Oper) (fr : List AV) (H : List Blk) (K : List AV → List Blk → Prop) : Prop :=
  ∀ id, WpA P G (.region id ops.toArray true) fr H fun e fr' H' => match e with
    | .normal => K fr' H'
    | _ => False

theorem FR.tr {n n' : Nat} {β β' : Nat → Option Nat} {S S' : Nat → Prop} {w w' : World} (t : Tr n β S w n' β' S' w') {fr : List AV} {a : Act} (h : FR β n S w fr a) : FR β' n' S' w' fr a :=
  ⟨h.1, h.2.1, fun i v hv => (h.2.2 i v hv).tr t⟩
theorem FR.put {n : Nat} {β : Nat → Option Nat} {S : Nat → Prop} {w : World} {fr : List AV} {a : Act} (h : FR β n S w fr a) {d : Tmp} {v : AV} {x : Value} (hv : VR β n S w v x) : FR β n S w (fr.set d v) (a.put (some d) x) := by
  obtain ⟨h1, h2, h3⟩ := h
  refine ⟨h1, by simp [Act.put, h2], fun i u hu => ?_⟩
  by_cases hd : d = i
  · subst hd
    by_cases hlt : d < fr.length
    · rw [List.getElem?_set_self hlt] at hu
      cases hu
      have hd : d < a.tmps.size := h2 ▸ hlt
      simp only [Act.put]
      rw [Array.getD_eq_getD_getElem?, Array.getElem?_setIfInBounds_self_of_lt hd]
      exact hv
    · rw [List.getElem?_eq_none (by simpa using hlt)] at hu
      cases hu
  · rw [List.getElem?_set_ne hd] at hu
    have := h3 i u hu
    simp only [Act.put]
    rw [Array.getD_eq_getD_getElem?] at this ⊢
    rwa [Array.getElem?_setIfInBounds_ne hd]
theorem FR.putA {n : Nat} {β : Nat → Option Nat} {S : Nat → Prop} {w : World} {fr : List AV} {a : Act} (h : FR β n S w fr a) {dst : Option Tmp} {v : AV} {x : Value} (hv : VR β n S w v x)
    {K : List AV → Prop} (hk : Go.AE.putA fr dst v K) : ∃ fr', K fr' ∧ FR β n S w fr' (a.put dst x) := by
  cases dst with
  | none => exact ⟨fr, hk, h⟩
  | some d => simp only [Go.AE.putA, setK_eq] at hk; exact ⟨_, hk, h.put hv⟩
theorem const1_vr {n : Nat} {β : Nat → Option Nat} {S : Nat → Prop} {w : World} (x : Value) : VR β n S w (const1 x) x := by
  unfold const1
  split
  · exact .nilsl
  · cases hs : scal x
    · exact .un x
    · exact .v x hs
theorem constA_vr {n : Nat} {β : Nat → Option Nat} {S : Nat → Prop} {w : World} (x : Value) : VR β n S w (constA x) x := by
  unfold constA
  split
  · rename_i cs
    refine .agg _ _ (by simp) fun i c hc => ?_
    rw [List.getElem?_map, Option.map_eq_some_iff] at hc
    obtain ⟨y, hy, rfl⟩ := hc
    have : cs.getD i undef = y := by rw [Array.getD_eq_getD_getElem?]; simp at hy; simp [hy]
    rw [this]
    exact const1_vr y
  · exact const1_vr x
theorem nth_vr {n : Nat} {β : Nat → Option Nat} {S : Nat → Prop} {w : World} {fr : List AV} {tmps : Array Value} (hl : fr.length = tmps.size) (h : ∀ i v, fr[i]? = some v → VR β n S w v (tmps.getD i undef)) (t : Nat) :
    VR β n S w (nth fr t) (tmps.getD t undef) := by
  rw [nth_eq, List.getD_eq_getElem?_getD]
  cases hf : fr[t]? with
  | some v => exact h t v hf
  | none =>
    have : tmps.size ≤ t := by rw [List.getElem?_eq_none_iff] at hf; omega
    rw [Array.getD_eq_getD_getElem?, Array.getElem?_eq_none this]
    exact .no
theorem FR.rd {n : Nat} {β : Nat → Option Nat} {S : Nat → Prop} {w : World} {fr : List AV} {a : Act} (h : FR β n S w fr a) (x : Operand) : VR β n S w (rd fr x) (a.eval x) := by
  cases x with
  | tmp t => exact nth_vr h.2.1 h.2.2 t
  | const c => exact constA_vr c
  | global g => exact .gl g
  | func f => exact .fn f [] #[] rfl (fun i c hc => by simp at hc)
end Go.AE
