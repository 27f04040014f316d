/-
  Over the abstract evaluator: contracts of calls that make memory or change it, used at the caller's own heap, with what comes written out. No conditions.
-/
import Derived.Test.YtkmnmmckgobeeaaAeUse
namespace Go.AE

/-- A cell, its block's number written out. -/
def cellK (v : AV) (K : AV → Prop) : Prop :=
  match v with
  | .ptr k j => natK k fun k' => K (.ptr k' j)
  | .eptr k sz i j => natK k fun k' => K (.eptr k' sz i j)
  | .sl k sz len => natK k fun k' => K (.sl k' sz len)
  | .sub k sz lo len => natK k fun k' => K (.sub k' sz lo len)
  | .un => K .un
  | .no => K .no
  | .v x => K (.v x)
  | .agg cs => K (.agg cs)
  | .tup cs => K (.tup cs)
  | .nilsl => K .nilsl
  | .ro d => K (.ro d)
  | .rop d i j => K (.rop d i j)
  | .rpc cs j => K (.rpc cs j)
  | .gl g => K (.gl g)
  | .fn f caps => K (.fn f caps)
  | .ifc => K .ifc
theorem cellK_eq (v : AV) (K : AV → Prop) : cellK v K = K v := by cases v <;> simp [cellK, natK_eq]
noncomputable def cellsK (l : List AV) : (List AV → Prop) → Prop :=
  List.rec (motive := fun _ => (List AV → Prop) → Prop) (fun K => K []) (fun x _ ih K => cellK x fun x' => ih fun r' => K (x' :: r')) l
theorem cellsK_eq (l : List AV) : ∀ K : List AV → Prop, cellsK l K = K l := by
  induction l with
  | nil => intro K; rfl
  | cons x r ih => intro K; show cellK x (fun x' => cellsK r fun r' => K (x' :: r')) = _; rw [cellK_eq, ih]
noncomputable def partK (v : AV) (K : AV → Prop) : Prop :=
  match v with
  | .agg cs => cellsK cs fun l => K (.agg l)
  | v => cellK v K
theorem partK_eq (v : AV) (K : AV → Prop) : partK v K = K v := by cases v <;> simp [partK, cellK_eq, cellsK_eq]
noncomputable def partsK (l : List AV) : (List AV → Prop) → Prop :=
  List.rec (motive := fun _ => (List AV → Prop) → Prop) (fun K => K []) (fun x _ ih K => partK x fun x' => ih fun r' => K (x' :: r')) l
theorem partsK_eq (l : List AV) : ∀ K : List AV → Prop, partsK l K = K l := by
  induction l with
  | nil => intro K; rfl
  | cons x r ih => intro K; show partK x (fun x' => partsK r fun r' => K (x' :: r')) = _; rw [partK_eq, ih]
noncomputable def deepK (v : AV) (K : AV → Prop) : Prop :=
  match v with
  | .agg cs => cellsK cs fun l => K (.agg l)
  | .tup cs => partsK cs fun l => K (.tup l)
  | .fn f cs => partsK cs fun l => K (.fn f l)
  | v => cellK v K
theorem deepK_eq (v : AV) (K : AV → Prop) : deepK v K = K v := by cases v <;> simp [deepK, cellK_eq, cellsK_eq, partsK_eq]
noncomputable def blkK (b : Blk) (K : Blk → Prop) : Prop :=
  match b with
  | .dead => K .dead
  | .obj p => K (.obj p)
  | .cells cs => partsK cs fun l => K (.cells l)
  | .data d => K (.data d)
theorem blkK_eq (b : Blk) (K : Blk → Prop) : blkK b K = K b := by cases b <;> simp [blkK, partsK_eq]
/-- Blocks laid behind a heap. -/
noncomputable def appK (J : List Blk) (f : Blk → Blk) : List Blk → (List Blk → Prop) → Prop :=
  List.rec (motive := fun _ => List Blk → (List Blk → Prop) → Prop) (fun H K => K H) (fun b _ ih H K => blkK (f b) fun b' => snocB H b' fun H' => ih H' K) J
theorem appK_eq (J : List Blk) (f : Blk → Blk) : ∀ (H : List Blk) (K : List Blk → Prop), appK J f H K = K (H ++ J.map f) := by
  induction J with
  | nil => intro H K; show K H = _; simp
  | cons b r ih => intro H K; show blkK (f b) (fun b' => snocB H b' fun H' => appK r f H' K) = _; rw [blkK_eq, snocB_eq, ih]; simp
/-- The first blocks set at some places, the others laid behind. -/
noncomputable def mergeK (ids : List Nat) (f : Blk → Blk) : List Blk → List Blk → (List Blk → Prop) → Prop :=
  List.rec (motive := fun _ => List Blk → List Blk → (List Blk → Prop) → Prop) (fun J H K => appK J f H K)
    (fun q _ ih J H K => List.rec (motive := fun _ => Prop) (K H) (fun b r _ => blkK (f b) fun b' => setB H q b' fun H' => ih r H' K) J) ids
theorem mergeK_eq (f : Blk → Blk) : ∀ (ids : List Nat) (J H : List Blk) (K : List Blk → Prop), mergeK ids f J H K = K (mergeB f ids H J) := by
  intro ids
  induction ids with
  | nil => intro J H K; show appK J f H K = _; rw [appK_eq]; rfl
  | cons q r ih =>
    intro J H K
    cases J with
    | nil => rfl
    | cons b J => show blkK (f b) (fun b' => setB H q b' fun H' => mergeK r f J H' K) = _; rw [blkK_eq, setB_eq, ih]; rfl

section
variable {P : Program} {G : Nat → Option D}
/-- A call that makes new blocks, or changes those of ids. -/
theorem CallA.go {f : FuncId} {args dargs : List AV} {H H0 J0 : List Blk} {r : AV} {K : AV → List Blk → Prop} (ids : List Nat) (h : CallA P G f dargs H0 fun v J => v = r ∧ J = J0) (hi : idsOk H.length ids = true)
    (ha : vmL (amV true ids H) args dargs) (hh : heapA true ids H ids H0) (hk : lenB H 0 fun n => mergeK ids (shB true ids n) J0 H fun H' => deepK (shV true ids n r) fun v => K v H') : CallA P G f args H K :=
  h.use true ids hi ha hh fun v J ⟨h1, h2⟩ => by
    subst h1 h2
    rw [lenB_eq, mergeK_eq, deepK_eq, Nat.zero_add] at hk
    exact hk
/-- The same at a contract that leaves its answer open: there are values, within bounds. -/
theorem CallA.goE {α : Type} {f : FuncId} {args dargs : List AV} {H H0 : List Blk} {r : α → AV} {J0 : α → List Blk} {B : α → Prop} {K : AV → List Blk → Prop} (conv : Bool) (ids : List Nat) (h : CallA P G f dargs H0 fun v J => ∃ p, v = r p ∧ J = J0 p ∧ B p) (hi : idsOk H.length ids = true)
    (ha : vmL (amV conv ids H) args dargs) (hh : heapA conv ids H ids H0) (hk : ∀ p, B p → lenB H 0 fun n => mergeK ids (shB conv ids n) (J0 p) H fun H' => deepK (shV conv ids n (r p)) fun v => K v H') : CallA P G f args H K :=
  h.use conv ids hi ha hh fun v J ⟨p, h1, h2, h3⟩ => by
    subst h1 h2
    have hk := hk p h3
    rw [lenB_eq, mergeK_eq, deepK_eq, Nat.zero_add] at hk
    exact hk
theorem CallA.goE3 {α : Type} {f : FuncId} {args dargs : List AV} {H H0 : List Blk} {r : α → Int → Int → AV} {J0 : α → Int → Int → List Blk} {B : α → Int → Int → Prop} {K : AV → List Blk → Prop} (conv : Bool) (ids : List Nat) (h : CallA P G f dargs H0 fun v J => ∃ (x : α) (a s : Int), v = r x a s ∧ J = J0 x a s ∧ B x a s) (hi : idsOk H.length ids = true)
    (ha : vmL (amV conv ids H) args dargs) (hh : heapA conv ids H ids H0) (hk : ∀ x a s, B x a s → lenB H 0 fun n => mergeK ids (shB conv ids n) (J0 x a s) H fun H' => deepK (shV conv ids n (r x a s)) fun v => K v H') : CallA P G f args H K :=
  h.use conv ids hi ha hh fun v J ⟨x, a, s, h1, h2, h3⟩ => by
    subst h1 h2
    have hk := hk x a s h3
    rw [lenB_eq, mergeK_eq, deepK_eq, Nat.zero_add] at hk
    exact hk
end
end Go.AE
