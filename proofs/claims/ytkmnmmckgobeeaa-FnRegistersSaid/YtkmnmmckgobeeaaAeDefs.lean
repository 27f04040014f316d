/-
  The abstract evaluator: its definitions. A Go function's code, as the model loads it, is run by 'codeA' on abstract values and an abstract heap; what it asks is a proposition, reckoned by unfolding. No conditions.
-/
import Derived.WalkKit
import Derived.WalkLawsBesides
namespace Go.AE

/-- Plain data behind a slice. 'told': n cells of which p holds. -/
inductive D where
  | ints (k : IntKind) (xs : List Int)
  | recs (sz : Nat) (xss : List (List Int))
  | bools (bs : List Bool)
  | strs (ss : List ByteArray)
  | nest (xss : List (List Int))
  | told (p : Value → Bool) (n : Nat)

/-- Abstract values. 'un': nothing is known; 'no': the temporary that has not been written; 'ifc': a value of an interface's type that is not nil. -/
inductive AV where
  | un
  | no
  | v (x : Value)
  | agg (cs : List AV)
  | tup (cs : List AV)
  | nilsl
  | ptr (k j : Nat)
  | eptr (k sz i j : Nat)
  | sl (k sz len : Nat)
  | sub (k sz lo len : Nat)
  | ro (d : D)
  | rop (d : D) (i j : Nat)
  | rpc (cs : List AV) (j : Nat)
  | gl (g : Nat)
  | fn (f : FuncId) (caps : List AV)
  | ifc

/-- What does not hang on the heap's numbers. -/
def rpcOk : AV → Bool
  | .un => true
  | .v _ => true
  | .nilsl => true
  | .ro _ => true
  | .rop _ _ _ => true
  | .gl _ => true
  | _ => false
/-- Blocks of the abstract heap. 'obj': a block of the model of which p holds (its number, its cells, its type). -/
inductive Blk where
  | dead
  | obj (p : Nat → Array Value → TypeId → Prop)
  | cells (cs : List AV)
  | data (d : D)


/-! Strict evaluation: each of these is its argument handed on; so unfolding leaves written-out terms behind. -/
def natK (n : Nat) (K : Nat → Prop) : Prop :=
  match n with
  | 0 => K 0 | 1 => K 1 | 2 => K 2 | 3 => K 3 | 4 => K 4 | 5 => K 5 | 6 => K 6 | 7 => K 7 | 8 => K 8 | 9 => K 9 | 10 => K 10 | 11 => K 11
  | 12 => K 12 | 13 => K 13 | 14 => K 14 | 15 => K 15 | 16 => K 16 | 17 => K 17 | 18 => K 18 | 19 => K 19 | 20 => K 20 | n => K n
def avK (v : AV) (K : AV → Prop) : Prop :=
  match v with
  | .un => K .un
  | .no => K .no
  | .v x => K (.v x)
  | .agg cs => K (.agg cs)
  | .tup cs => K (.tup cs)
  | .nilsl => K .nilsl
  | .ptr k j => K (.ptr k j)
  | .eptr k sz i j => K (.eptr k sz i j)
  | .sl k sz len => K (.sl k sz len)
  | .sub k sz lo len => K (.sub k sz lo len)
  | .ro d => K (.ro d)
  | .rop d i j => K (.rop d i j)
  | .rpc cs j => K (.rpc cs j)
  | .gl g => K (.gl g)
  | .fn f caps => K (.fn f caps)
  | .ifc => K .ifc
noncomputable def avsK (l : List AV) : (List AV → Prop) → Prop :=
  List.rec (motive := fun _ => (List AV → Prop) → Prop) (fun K => K []) (fun x _ ih K => avK x fun x' => ih fun r' => K (x' :: r')) l
noncomputable def setK (l : List AV) : Nat → AV → (List AV → Prop) → Prop :=
  List.rec (motive := fun _ => Nat → AV → (List AV → Prop) → Prop) (fun _ _ K => K [])
    (fun x r ih n => Nat.rec (motive := fun _ => AV → (List AV → Prop) → Prop) (fun v K => K (v :: r)) (fun m _ v K => ih m v fun r' => K (x :: r')) n) l
noncomputable def nth (l : List AV) : Nat → AV :=
  List.rec (motive := fun _ => Nat → AV) (fun _ => .no) (fun x _ ih n => Nat.rec (motive := fun _ => AV) x (fun m _ => ih m) n) l
noncomputable def nthB (l : List Blk) : Nat → Blk :=
  List.rec (motive := fun _ => Nat → Blk) (fun _ => .dead) (fun x _ ih n => Nat.rec (motive := fun _ => Blk) x (fun m _ => ih m) n) l
noncomputable def setB (l : List Blk) : Nat → Blk → (List Blk → Prop) → Prop :=
  List.rec (motive := fun _ => Nat → Blk → (List Blk → Prop) → Prop) (fun _ _ K => K [])
    (fun x r ih n => Nat.rec (motive := fun _ => Blk → (List Blk → Prop) → Prop) (fun v K => K (v :: r)) (fun m _ v K => ih m v fun r' => K (x :: r')) n) l
noncomputable def snocB (l : List Blk) : Blk → (List Blk → Prop) → Prop :=
  List.rec (motive := fun _ => Blk → (List Blk → Prop) → Prop) (fun b K => K [b]) (fun x _ ih b K => ih b fun r' => K (x :: r')) l
noncomputable def lenB (l : List Blk) : Nat → (Nat → Prop) → Prop :=
  List.rec (motive := fun _ => Nat → (Nat → Prop) → Prop) (fun n K => natK n K) (fun _ _ ih n K => ih (n + 1) K) l
def req (b : Bool) (X : Prop) : Prop := match b with | true => X | false => False
theorem req_iff (b : Bool) (X : Prop) : req b X ↔ (b = true ∧ X) := by cases b <;> simp [req]
theorem natK_eq (n : Nat) (K : Nat → Prop) : natK n K = K n := by unfold natK; split <;> rfl
theorem avK_eq (v : AV) (K : AV → Prop) : avK v K = K v := by cases v <;> rfl
theorem avsK_eq (l : List AV) : ∀ K : List AV → Prop, avsK l K = K l := by
  induction l with
  | nil => intro K; rfl
  | cons x r ih => intro K; show avK x (fun x' => avsK r fun r' => K (x' :: r')) = _; rw [avK_eq, ih]
theorem setK_eq (l : List AV) : ∀ (n : Nat) (v : AV) (K : List AV → Prop), setK l n v K = K (l.set n v) := by
  induction l with
  | nil => intro n v K; rfl
  | cons x r ih =>
    intro n v K
    cases n with
    | zero => rfl
    | succ m => show setK r m v (fun r' => K (x :: r')) = _; rw [ih]; rfl
theorem nth_eq (l : List AV) : ∀ n, nth l n = l.getD n .no := by
  induction l with
  | nil => intro n; rfl
  | cons x r ih =>
    intro n
    cases n with
    | zero => rfl
    | succ m => show nth r m = _; rw [ih]; rfl
theorem nthB_eq (l : List Blk) : ∀ n, nthB l n = l.getD n .dead := by
  induction l with
  | nil => intro n; rfl
  | cons x r ih =>
    intro n
    cases n with
    | zero => rfl
    | succ m => show nthB r m = _; rw [ih]; rfl
theorem setB_eq (l : List Blk) : ∀ (n : Nat) (v : Blk) (K : List Blk → Prop), setB l n v K = K (l.set n v) := by
  induction l with
  | nil => intro n v K; rfl
  | cons x r ih =>
    intro n v K
    cases n with
    | zero => rfl
    | succ m => show setB r m v (fun r' => K (x :: r')) = _; rw [ih]; rfl
theorem snocB_eq (l : List Blk) : ∀ (b : Blk) (K : List Blk → Prop), snocB l b K = K (l ++ [b]) := by
  induction l with
  | nil => intro b K; rfl
  | cons x r ih => intro b K; show snocB r b (fun r' => K (x :: r')) = _; rw [ih]; rfl
theorem lenB_eq (l : List Blk) : ∀ (n : Nat) (K : Nat → Prop), lenB l n K = K (n + l.length) := by
  induction l with
  | nil => intro n K; exact natK_eq n K
  | cons x r ih => intro n K; show lenB r (n + 1) K = _; rw [ih, List.length_cons]; congr 1; omega
/-- A new block: its number, the heap with it. -/
noncomputable def newB (H : List Blk) (b : Blk) (K : Nat → List Blk → Prop) : Prop := lenB H 0 fun n => snocB H b fun H' => K n H'
theorem newB_eq (H : List Blk) (b : Blk) (K : Nat → List Blk → Prop) : newB H b K = K H.length (H ++ [b]) := by
  simp only [newB, lenB_eq, snocB_eq, Nat.zero_add]

def D.len : D → Nat
  | .ints _ xs => xs.length
  | .recs _ xss => xss.length
  | .bools bs => bs.length
  | .strs ss => ss.length
  | .nest xss => xss.length
  | .told _ n => n
/-- The length, handed on as a plain number. -/
def lenD (d : D) (K : Nat → Prop) : Prop :=
  match d with
  | .ints _ xs => K xs.length
  | .recs _ xss => K xss.length
  | .bools bs => K bs.length
  | .strs ss => K ss.length
  | .nest xss => K xss.length
  | .told _ n => K n
theorem lenD_eq (d : D) (K : Nat → Prop) : lenD d K = K d.len := by cases d <;> rfl
def D.sz : D → Nat
  | .recs sz _ => sz
  | _ => 1
def D.sub : D → Nat → Nat → D
  | .ints k xs, lo, n => .ints k ((xs.drop lo).take n)
  | .recs sz xss, lo, n => .recs sz ((xss.drop lo).take n)
  | .bools bs, lo, n => .bools ((bs.drop lo).take n)
  | .strs ss, lo, n => .strs ((ss.drop lo).take n)
  | .nest xss, lo, n => .nest ((xss.drop lo).take n)
  | .told p m, lo, n => .told p (min n (m - lo))
/-- Cell j of row i. -/
def D.cell : D → Nat → Nat → AV
  | .ints k xs, i, _ => .v (.int k (xs.getD i 0))
  | .recs _ xss, i, j => .v (.int .i64 ((xss.getD i []).getD j 0))
  | .bools bs, i, _ => .v (.bool (bs.getD i false))
  | .strs ss, i, _ => .v (.string (ss.getD i ByteArray.empty))
  | .nest xss, i, _ => .ro (.ints .i64 (xss.getD i []))
  | .told _ _, _, _ => .un
def kindEq : IntKind → IntKind → Bool
  | .i8, .i8 | .i16, .i16 | .i32, .i32 | .i64, .i64 | .u8, .u8 | .u16, .u16 | .u32, .u32 | .u64, .u64 => true
  | _, _ => false
/-- Two data of one make, one behind the other. -/
def D.app (d e : D) : Option D :=
  match d with
  | .ints k xs => (match e with
    | .ints k' ys => bif kindEq k k' then some (.ints k (xs ++ ys)) else none
    | _ => none)
  | .recs sz xss => (match e with
    | .recs sz' yss => bif Nat.beq sz sz' then some (.recs sz (xss ++ yss)) else none
    | _ => none)
  | .bools bs => (match e with
    | .bools cs => some (.bools (bs ++ cs))
    | _ => none)
  | .strs ss => (match e with
    | .strs ts => some (.strs (ss ++ ts))
    | _ => none)
  | .nest xss => (match e with
    | .nest yss => some (.nest (xss ++ yss))
    | _ => none)
  | .told _ _ => none

/-- What is known of a type: by a table that the seat lays. -/
inductive TD where
  | other
  | int (k : IntKind)
  | bool
  | str
  | flat
  | iface
  | slice (make : D) (sz bytes : Nat)
  | struct (cells : Nat) (offs : List (Nat × Nat × Bool)) (zero : List Value)
  | array (n sz : Nat)
  | obj (zero : List Value)

def scal : Value → Bool
  | .bool _ | .int _ _ | .float _ _ | .string _ | .nilFunc | .nilIface => true
  | .pointer none => true
  | .map none => true
  | _ => false
def const1 : Value → AV
  | .slice none 0 0 => .nilsl
  | x => bif scal x then .v x else .un
def constA : Value → AV
  | .agg cs => .agg (cs.toList.map const1)
  | x => const1 x
noncomputable def rd (fr : List AV) : Operand → AV
  | .tmp t => nth fr t
  | .const c => constA c
  | .global g => .gl g
  | .func f => .fn f []
noncomputable def rds (fr : List AV) : List Operand → List AV
  | [] => []
  | x :: r => rd fr x :: rds fr r
def cellsOf : AV → List AV
  | .agg cs => cs
  | .un | .no | .tup _ => []
  | x => [x]
/-- Which cells a value that is stored may have. -/
def plainCell : AV → Bool
  | .un | .no | .agg _ | .tup _ => false
  | _ => true
def setCells : List AV → Nat → List AV → List AV
  | cs, _, [] => cs
  | cs, j, v :: r => setCells (cs.set j v) (j + 1) r

/-- A number that fits its kind. -/
def inb : IntKind → Int → Prop
  | .i64, n => -9223372036854775808 ≤ n ∧ n ≤ 9223372036854775807
  | .u64, n => 0 ≤ n ∧ n ≤ 18446744073709551615
  | .i32, n => -2147483648 ≤ n ∧ n ≤ 2147483647
  | .u32, n => 0 ≤ n ∧ n ≤ 4294967295
  | .i16, n => -32768 ≤ n ∧ n ≤ 32767
  | .u16, n => 0 ≤ n ∧ n ≤ 65535
  | .i8, n => -128 ≤ n ∧ n ≤ 127
  | .u8, n => 0 ≤ n ∧ n ≤ 255
def arithK (k : IntKind) (m : Int) (K : Value → Prop) : Prop := ∀ n : Int, (inb k m → n = m) → n = k.wrap m → K (.int k n)
def boolK (p : Prop) (K : Value → Prop) : Prop := (p → K (.bool true)) ∧ (¬ p → K (.bool false))
def bitsI (op : BinOp) (k : IntKind) (x y : Int) : Int :=
  let a := BitVec.ofInt k.bits x
  let b := BitVec.ofInt k.bits y
  match op with
  | .and => k.wrap (a &&& b).toNat
  | .or => k.wrap (a ||| b).toNat
  | .xor => k.wrap (a ^^^ b).toNat
  | _ => k.wrap (a &&& ~~~b).toNat

def quoK (k : IntKind) (a b : Int) (K : Value → Prop) : Prop := b ≠ 0 ∧ ∀ n : Int, (inb k a → 0 ≤ a → 0 < b → n = a / b) → n = k.wrap (a.tdiv b) → K (.int k n)
def remK (k : IntKind) (a b : Int) (K : Value → Prop) : Prop := b ≠ 0 ∧ ∀ n : Int, (0 ≤ a → 0 < b → n = a % b) → n = a.tmod b → K (.int k n)
def eqK (k : IntKind) (v : Int) (K : Value → Prop) : Prop := ∀ n : Int, n = v → K (.int k n)
def binInt (op : BinOp) (k : IntKind) (a b : Int) (K : Value → Prop) : Prop :=
  match op with
  | .add => arithK k (a + b) K
  | .sub => arithK k (a - b) K
  | .mul => arithK k (a * b) K
  | .quo => quoK k a b K
  | .rem => remK k a b K
  | .eql => boolK (a = b) K
  | .neq => boolK (a ≠ b) K
  | .lss => boolK (a < b) K
  | .leq => boolK (a ≤ b) K
  | .gtr => boolK (b < a) K
  | .geq => boolK (b ≤ a) K
  | .and => eqK k (bitsI .and k a b) K
  | .or => eqK k (bitsI .or k a b) K
  | .xor => eqK k (bitsI .xor k a b) K
  | .andNot => eqK k (bitsI .andNot k a b) K
  | _ => False
def binA (td : TD) (op : BinOp) (x y : Value) (K : Value → Prop) : Prop :=
  match x, y with
  | .int k a, .int k' b =>
    match op with
    | .shl => 0 ≤ b ∧ arithK k (a * 2 ^ (min b.toNat k.bits)) K
    | .shr => 0 ≤ b ∧ eqK k (a.fdiv (2 ^ (min b.toNat k.bits))) K
    | _ => bif kindEq k k' then binInt op k a b K else False
  | .string a, .string b =>
    match op with
    | .add => a.size + b.size ≤ 9223372036854775807 ∧ K (.string (a ++ b))
    | .eql => boolK (a = b) K
    | .neq => boolK (a ≠ b) K
    | _ => False
  | .bool a, .bool b =>
    match td with
    | .bool => (match op with
      | .eql => boolK (a = b) K
      | .neq => boolK (a ≠ b) K
      | _ => False)
    | _ => False
  | _, _ => False
/-- Whether a slice is nil: known of nil itself; else only what holds elements is known not to be. -/
def nilEq (x : AV) (K : Bool → Prop) : Prop :=
  match x with
  | .nilsl => K true
  | .sl _ _ len => (len = 0 → K true) ∧ K false
  | .ro d => lenD d fun n => (n = 0 → K true) ∧ K false
  | _ => False
def nilA (td : TD) (op : BinOp) (x : AV) (K : Value → Prop) : Prop :=
  match td with
  | .slice _ _ _ => (match op with
    | .eql => nilEq x fun b => K (.bool b)
    | .neq => nilEq x fun b => K (.bool (!b))
    | _ => False)
  | _ => False
/-- Whether a value of an interface's type is nil, asked by the literal. -/
def ifcA (td : TD) (op : BinOp) (x : AV) (K : Value → Prop) : Prop :=
  match td with
  | .iface => (match op, x with
    | .eql, .ifc => K (.bool false)
    | .neq, .ifc => K (.bool true)
    | .eql, .v .nilIface => K (.bool true)
    | .neq, .v .nilIface => K (.bool false)
    | _, _ => False)
  | _ => False
def isNilC : Operand → Bool
  | .const .nilIface => true
  | _ => false
/-- The integers of a list of cells. -/
def i64s : List AV → Option (List Int)
  | [] => some []
  | .v (.int .i64 n) :: r => (i64s r).map (n :: ·)
  | _ => none
def isZ : Value → Bool
  | .int .i64 0 => true
  | _ => false
/-- A struct of nothing but int64. -/
def zerosI (c : Nat) (zero : List Value) : Bool := Nat.beq zero.length c && zero.all isZ
def cellsEqA (td : TD) (op : BinOp) (xs ys : List AV) (K : Value → Prop) : Prop :=
  match td with
  | .struct c _ zero => req (zerosI c zero) (match i64s xs, i64s ys with
    | some as, some bs => req (Nat.beq as.length c && Nat.beq bs.length c) (match op with
      | .eql => boolK (as = bs) K
      | .neq => boolK (as ≠ bs) K
      | _ => False)
    | _, _ => False)
  | _ => False
def unA (op : UnOp) (x : Value) (K : Value → Prop) : Prop :=
  match op, x with
  | .not, .bool true => K (.bool false)
  | .not, .bool false => K (.bool true)
  | .neg, .int k n => arithK k (0 - n) K
  | _, _ => False
def TD.size : TD → Nat
  | .struct c _ _ => c
  | .array n sz => n * sz
  | _ => 1
def TD.agg : TD → Bool
  | .struct _ _ _ => true
  | .array _ _ => true
  | _ => false
def TD.ok : TD → Bool
  | .other => false
  | .obj _ => false
  | _ => true

noncomputable def loadCells (t : TD) (cs : List AV) (j : Nat) (K : AV → Prop) : Prop :=
  match t with
  | .struct c _ _ => req (Nat.ble (j + c) cs.length) (avsK ((cs.drop j).take c) fun l => K (.agg l))
  | .array n sz => req (Nat.ble (j + n * sz) cs.length) (avsK ((cs.drop j).take (n * sz)) fun l => K (.agg l))
  | .other => False
  | .obj _ => False
  | _ => req (Nat.blt j cs.length) (avK (nth cs j) K)
/-- c cells of row i, from j on. -/
noncomputable def rowD (d : D) (i : Nat) : Nat → Nat → (List AV → Prop) → Prop
  | _, 0, K => K []
  | j, c + 1, K => natK j fun j' => avK (d.cell i j') fun v => rowD d i (j + 1) c fun r => K (v :: r)
noncomputable def loadData (t : TD) (d : D) (i j : Nat) (K : AV → Prop) : Prop :=
  match t with
  | .struct c _ _ => req (Nat.ble (j + c) d.sz) (rowD d i j c fun l => K (.agg l))
  | .array _ _ => False
  | .other => False
  | .obj _ => False
  | _ => req (Nat.blt j d.sz) (natK j fun j' => avK (d.cell i j') K)
def setInts : List Int → Nat → List Int → List Int
  | cs, _, [] => cs
  | cs, j, v :: r => setInts (cs.set j v) (j + 1) r
def storeData (d : D) (i j : Nat) (vs : List AV) (K : D → Prop) : Prop :=
  match d with
  | .ints k xs => match vs with
    | [.v (.int k' n)] => req (kindEq k k' && Nat.beq j 0) (K (.ints k (xs.set i n)))
    | _ => False
  | .bools bs => match vs with
    | [.v (.bool b)] => req (Nat.beq j 0) (K (.bools (bs.set i b)))
    | _ => False
  | .strs ss => match vs with
    | [.v (.string s)] => req (Nat.beq j 0) (K (.strs (ss.set i s)))
    | _ => False
  | .recs sz xss => match i64s vs with
    | some ns => req (Nat.ble (j + ns.length) sz) ((xss.getD i []).length = sz ∧ K (.recs sz (xss.set i (setInts (xss.getD i []) j ns))))
    | none => False
  | .nest xss => match vs with
    | [.ro (.ints .i64 ys)] => req (Nat.beq j 0) (K (.nest (xss.set i ys)))
    | _ => False
  | .told _ _ => False
/-- What stands behind a slice of rows of sz cells. -/
noncomputable def dataK (H : List Blk) (x : AV) (sz : Nat) (K : D → Prop) : Prop :=
  match x with
  | .sl k sz' len => match nthB H k with
    | .data d => req (Nat.beq sz' sz && Nat.beq d.sz sz) (lenD d fun n => len = n ∧ K d)
    | _ => False
  | .sub k sz' lo len => match nthB H k with
    | .data d => req (Nat.beq sz' sz && Nat.beq d.sz sz) (lenD d fun n => lo + len ≤ n ∧ K (d.sub lo len))
    | _ => False
  | .ro d => req (Nat.beq d.sz sz) (K d)
  | _ => False
def zeroD : D → Nat → D
  | .ints k _, n => .ints k (List.replicate n 0)
  | .recs sz _, n => .recs sz (List.replicate n (List.replicate sz 0))
  | .bools _, n => .bools (List.replicate n false)
  | .strs _, n => .strs (List.replicate n ByteArray.empty)
  | .nest _, n => .nest (List.replicate n [])
  | .told _ _, n => .told (fun _ => true) n
def lit1 (d : D) (c : AV) : Option D :=
  match d, c with
  | .ints k xs, .v (.int k' n) => bif kindEq k k' then some (.ints k (xs ++ [n])) else none
  | .bools bs, .v (.bool b) => some (.bools (bs ++ [b]))
  | .strs ss, .v (.string s) => some (.strs (ss ++ [s]))
  | .recs sz xss, .agg cs => match i64s cs with
    | some ns => bif Nat.beq ns.length sz then some (.recs sz (xss ++ [ns])) else none
    | none => none
  | .nest xss, .ro (.ints .i64 ys) => some (.nest (xss ++ [ys]))
  | _, _ => none
/-- A literal whose parts all stand, in order. -/
def litD (d : D) : Nat → List (Nat × AV) → Option D
  | _, [] => some d
  | i, (j, c) :: r => bif Nat.beq i j then (match lit1 d c with | some d' => litD d' (i + 1) r | none => none) else none
def emptyD : D → D
  | .ints k _ => .ints k []
  | .recs sz _ => .recs sz []
  | .bools _ => .bools []
  | .strs _ => .strs []
  | .nest _ => .nest []
  | .told p _ => .told p 0
noncomputable def rdParts (fr : List AV) : List (Nat × Operand) → List (Nat × AV)
  | [] => []
  | (i, x) :: r => (i, rd fr x) :: rdParts fr r
def fillA (offs : List (Nat × Nat × Bool)) : List AV → List (Nat × AV) → Option (List AV)
  | cs, [] => some cs
  | cs, (i, v) :: r => match offs[i]? with
    | some (off, size, _) => bif Nat.beq (cellsOf v).length size && Nat.ble (off + size) cs.length then fillA offs (setCells cs off (cellsOf v)) r else none
    | none => none

section
variable (T : TypeId → TD) (G : Nat → Option D)
variable (Call : FuncId → List AV → List Blk → (AV → List Blk → Prop) → Prop)

def lenA (t : TD) (x : AV) (K : AV → Prop) : Prop :=
  match t, x with
  | .slice _ _ _, .sl _ _ len => K (.v (.int .i64 len))
  | .slice _ _ _, .sub _ _ _ len => K (.v (.int .i64 len))
  | .slice _ _ _, .ro d => lenD d fun n => K (.v (.int .i64 n))
  | .slice _ _ _, .nilsl => K (.v (.int .i64 0))
  | .str, .v (.string s) => K (.v (.int .i64 s.size))
  | _, _ => False
noncomputable def appendA (t : TD) (s x : AV) (H : List Blk) (K : AV → List Blk → Prop) : Prop :=
  match t, s with
  | .slice _ sz bytes, .nilsl => match x with
    | .nilsl => K .nilsl H
    | x => dataK H x sz fun dx => lenD dx fun m => m * bytes ≤ 1099511627776 ∧ newB H (.data dx) fun n H' => K (.sl n sz m) H'
  | .slice _ sz bytes, .sl k sz' len => match x with
    | .nilsl => K (.sl k sz' len) H
    | x => match nthB H k with
      | .data d => req (Nat.beq sz' sz && Nat.beq d.sz sz) (lenD d fun n0 => len = n0 ∧ dataK H x sz fun dx => lenD dx fun m => (n0 + m) * bytes ≤ 1099511627776 ∧
        match d.app dx with
        | some d' => setB H k .dead fun H1 => newB H1 (.data d') fun n H' => lenD d' fun m' => K (.sl n sz m') H'
        | none => False)
      | _ => False
  | _, _ => False
/-- The cell at a place is a pointer. -/
noncomputable def ptAt (cs : List AV) (i : Nat) (K : AV → Prop) : Prop :=
  match nth cs i with
  | .ptr k j => K (.ptr k j)
  | _ => False
/-- The cell at a place is a slice. -/
def slAt (cs : List AV) (i : Nat) (K : AV → Prop) : Prop := ∃ k l : Nat, cs[i]? = some (.sl k 1 l) ∧ K (.sl k 1 l)
noncomputable def loadA (t : TD) (x : AV) (H : List Blk) (K : AV → Prop) : Prop :=
  match x with
  | .ptr k j => match nthB H k with
    | .cells cs => loadCells t cs j K
    | _ => False
  | .eptr k sz i j => match nthB H k with
    | .data d => req (Nat.beq sz d.sz) (lenD d fun n => i < n ∧ loadData t d i j K)
    | .cells cs => (match t with
      | .slice _ _ _ => req (Nat.beq sz 1 && Nat.beq j 0) (slAt cs i K)
      | .flat => req (Nat.beq sz 1 && Nat.beq j 0) (ptAt cs i K)
      | _ => False)
    | _ => False
  | .rop d i j => lenD d fun n => i < n ∧ loadData t d i j K
  | .rpc cs j => loadCells t cs j K
  | _ => False
noncomputable def storeA (t : TD) (x y : AV) (H : List Blk) (K : List Blk → Prop) : Prop :=
  match x with
  | .ptr k j => match nthB H k with
    | .cells cs => req (t.ok && Nat.blt 0 t.size && Nat.beq (cellsOf y).length t.size && Nat.ble (j + (cellsOf y).length) cs.length && (cellsOf y).all plainCell) (avsK (setCells cs j (cellsOf y)) fun l => setB H k (.cells l) K)
    | _ => False
  | .eptr k sz i j => match nthB H k with
    | .data d => req (t.ok && Nat.blt 0 t.size && Nat.beq (cellsOf y).length t.size && Nat.beq sz d.sz) (lenD d fun n => i < n ∧ storeData d i j (cellsOf y) fun d' => setB H k (.data d') K)
    | .cells cs => (match t, y with
      | .slice _ _ _, .sl k' sz' l => req (Nat.beq sz 1 && Nat.beq j 0) (i < cs.length ∧ setB H k (.cells (cs.set i (.sl k' sz' l))) K)
      | _, _ => False)
    | _ => False
  | _ => False
def zeroAt (xs : List Int) (lo len : Nat) : List Int := xs.take lo ++ List.replicate len 0 ++ xs.drop (lo + len)
noncomputable def clearA (t : TD) (x : AV) (H : List Blk) (K : List Blk → Prop) : Prop :=
  match t, x with
  | .slice (.ints k0 _) _ _, .sub k sz lo len => match nthB H k with
    | .data (.ints kd xs) => req (kindEq k0 kd && Nat.beq sz 1) (lo + len ≤ xs.length ∧ setB H k (.data (.ints kd (zeroAt xs lo len))) K)
    | _ => False
  | _, _ => False
noncomputable def fieldAddrA (t : TD) (x : AV) (f : Nat) (K : AV → Prop) : Prop :=
  match t with
  | .struct _ offs _ => match offs[f]? with
    | some (off, size, _) => req (Nat.blt 0 size) (match x with
      | .ptr k j => natK (j + off) fun j' => K (.ptr k j')
      | .eptr k sz i j => natK (j + off) fun j' => K (.eptr k sz i j')
      | .rop d i j => natK (j + off) fun j' => K (.rop d i j')
      | .rpc cs j => natK (j + off) fun j' => K (.rpc cs j')
      | _ => False)
    | none => False
  | _ => False
noncomputable def fieldA (t : TD) (x : AV) (f : Nat) (K : AV → Prop) : Prop :=
  match t, x with
  | .struct _ offs _, .agg cs => match offs[f]? with
    | some (off, size, ag) => req (Nat.blt 0 size && Nat.ble (off + size) cs.length) (bif ag then (avsK ((cs.drop off).take size) fun l => K (.agg l)) else avK (nth cs off) K)
    | none => False
  | _, _ => False
noncomputable def indexAddrA (t : TD) (x ix : AV) (K : AV → Prop) : Prop :=
  match t, x, ix with
  | .slice _ sz _, .sl k sz' len, .v (.int _ i) => req (Nat.beq sz sz') ((0 ≤ i ∧ i < len) ∧ K (.eptr k sz i.toNat 0))
  | .slice _ sz _, .sub k sz' lo len, .v (.int _ i) => req (Nat.beq sz sz') ((0 ≤ i ∧ i < len) ∧ K (.eptr k sz (lo + i.toNat) 0))
  | .slice _ sz _, .ro d, .v (.int _ i) => req (Nat.beq sz d.sz) (lenD d fun n => (0 ≤ i ∧ i < n) ∧ K (.rop d i.toNat 0))
  | .array n sz, .gl g, .v (.int _ i) => match G g with
    | some d => req (Nat.beq sz d.sz && Nat.beq n d.len) ((0 ≤ i ∧ i < n) ∧ K (.rop d i.toNat 0))
    | none => False
  | _, _, _ => False
/-- The string of some bytes. -/
def bytesOf (xs : List Int) : ByteArray := xs.foldl (fun r n => r.push (UInt8.ofNat n.toNat)) ByteArray.empty
noncomputable def strA (d : D) (K : AV → Prop) : Prop :=
  match d with
  | .ints .u8 xs => K (.v (.string (bytesOf xs)))
  | _ => False
noncomputable def convA (src dst : TD) (x : AV) (H : List Blk) (K : AV → Prop) : Prop :=
  match dst, x with
  | .int k, .v (.int _ n) => arithK k n fun v => K (.v v)
  | .str, .v (.string s) => K (.v (.string s))
  | .str, .nilsl => match src with
    | .slice (.ints .u8 _) _ _ => K (.v (.string ByteArray.empty))
    | _ => False
  | .str, x => match src with
    | .slice (.ints .u8 _) _ _ => dataK H x 1 fun d => strA d K
    | _ => False
  | _, _ => False
def byteAt (s : ByteArray) (i : Nat) : Int := ((s.data.toList.getD i 0).toNat : Int)
def indexA (t : TD) (x ix : AV) (K : AV → Prop) : Prop :=
  match t, x, ix with
  | .str, .v (.string s), .v (.int _ i) => (0 ≤ i ∧ i < s.size) ∧ K (.v (.int .u8 (byteAt s i.toNat)))
  | _, _, _ => False
def extA (big : Bool) (x y : AV) (K : AV → Prop) : Prop :=
  match x, y with
  | .v (.int k a), .v (.int k' b) => bif kindEq k k' then (bif big then K (.v (.int k (max a b))) else K (.v (.int k (min a b)))) else False
  | _, _ => False
noncomputable def makeSliceA (t : TD) (l c : AV) (H : List Blk) (K : AV → List Blk → Prop) : Prop :=
  match t, l, c with
  | .slice d sz bytes, .v (.int _ n), .v (.int _ m) => n = m ∧ 0 ≤ n ∧ n * bytes ≤ 1099511627776 ∧ newB H (.data (zeroD d n.toNat)) fun b H' => K (.sl b sz n.toNat) H'
  | _, _, _ => False
def lowA (lo : Option AV) (n : Nat) (K : Nat → Prop) : Prop :=
  match lo with
  | none => K 0
  | some (.v (.int _ l)) => (0 ≤ l ∧ l ≤ n) ∧ K l.toNat
  | _ => False
def highA (hi : Option AV) (n : Nat) (K : Nat → Prop) : Prop :=
  match hi with
  | none => K n
  | some (.v (.int _ h)) => (0 ≤ h ∧ h ≤ n) ∧ K h.toNat
  | _ => False
def sliceA (t : TD) (x : AV) (lo hi : Option AV) (K : AV → Prop) : Prop :=
  match t, x with
  | .slice _ sz' _, .sl k sz len => req (Nat.beq sz' sz) (highA hi len fun h => lowA lo h fun l => K (.sub k sz l (h - l)))
  | .slice _ sz' _, .sub k sz lo0 len => req (Nat.beq sz' sz) (highA hi len fun h => lowA lo h fun l => K (.sub k sz (lo0 + l) (h - l)))
  | .slice _ sz' _, .ro d => req (Nat.beq sz' d.sz) (lenD d fun n => highA hi n fun h => lowA lo h fun l => K (.ro (d.sub l (h - l))))
  | .slice _ _ _, .nilsl => highA hi 0 fun h => lowA lo h fun _ => K .nilsl
  | .str, .v (.string s) => highA hi s.size fun h => lowA lo h fun l => K (.v (.string (s.extract l h)))
  | _, _ => False
/-- The places of a slice's cells, one a row. -/
def offs1 : Nat → Nat → List (Nat × Nat × Bool)
  | _, 0 => []
  | i, n + 1 => (i, 1, false) :: offs1 (i + 1) n
noncomputable def buildSliceA (t : TD) (len : Nat) (parts : List (Nat × AV)) (H : List Blk) (K : AV → List Blk → Prop) : Prop :=
  match t with
  | .slice d sz _ => match d with
    | .told _ _ => req (Nat.beq parts.length len && Nat.ble len 16777216 && Nat.beq sz 1 && parts.all fun p => Nat.blt 0 (cellsOf p.2).length) (match fillA (offs1 0 len) (List.replicate len .un) parts with
      | some cs => avsK cs fun l => newB H (.cells l) fun b H' => K (.sl b 1 len) H'
      | none => False)
    | d => req (Nat.beq parts.length len && Nat.ble (len * sz) 16777216) (match litD (emptyD d) 0 parts with
      | some d' => newB H (.data d') fun b H' => K (.sl b sz len) H'
      | none => False)
  | _ => False
noncomputable def buildA (t : TD) (parts : List (Nat × AV)) (K : AV → Prop) : Prop :=
  match t with
  | .struct _ offs zero => match fillA offs (zero.map const1) parts with
    | some cs => req (parts.all fun p => Nat.blt 0 (cellsOf p.2).length) (avsK cs fun l => K (.agg l))
    | none => False
  | _ => False
noncomputable def zeroCellsA (t : TD) : Option (List AV) :=
  match t with
  | .struct _ _ zero => some (zero.map const1)
  | .int k => some [.v (.int k 0)]
  | .bool => some [.v (.bool false)]
  | .str => some [.v (.string ByteArray.empty)]
  | .slice _ _ _ => some [.nilsl]
  | .iface => some [.v .nilIface]
  | _ => none

/-- A list that is laid into a list of lists is given up: from here on it can be read only. -/
noncomputable def frzA (t : TD) (parts : List (Nat × Operand)) (fr : List AV) (H : List Blk) (K : List AV → List Blk → Prop) : Prop :=
  match t, parts with
  | .slice (.nest _) _ _, [(_, .tmp x)] => match nth fr x with
    | .sl k sz len => (match nthB H k with
      | .data (.ints .i64 ys) => req (Nat.beq sz 1) (len = ys.length ∧ setB H k .dead fun H' => setK fr x (.ro (.ints .i64 ys)) fun fr' => K fr' H')
      | _ => False)
    | _ => K fr H
  | _, _ => K fr H
noncomputable def opA (o : Oper) (fr : List AV) (H : List Blk) (K : AV → List Blk → Prop) : Prop :=
  match o.op with
  | .move x => avK (rd fr x) fun v => K v H
  | .assign x => avK (rd fr x) fun v => K v H
  | .nilCheck x => match rd fr x with
    | .ptr k j => natK j fun j' => K (.ptr k j') H
    | .eptr k sz i j => natK j fun j' => K (.eptr k sz i j') H
    | .rop d i j => natK j fun j' => K (.rop d i j') H
    | .rpc cs j => natK j fun j' => K (.rpc cs j') H
    | _ => False
  | .pick c a b => match rd fr c with
    | .v (.bool true) => avK (rd fr a) fun v => K v H
    | .v (.bool false) => avK (rd fr b) fun v => K v H
    | _ => False
  | .alloc t => match T t with
    | .obj z => newB H (.obj fun _ arr e => arr = z.toArray ∧ e = t) fun b H' => K (.ptr b 0) H'
    | td => match zeroCellsA td with
      | some cs => avsK cs fun l => newB H (.cells l) fun b H' => K (.ptr b 0) H'
      | none => False
  | .box _ x => avsK (cellsOf (rd fr x)) fun l => newB H (.cells l) fun b H' => K (.ptr b 0) H'
  | .build t parts => buildA (T t) (rdParts fr parts.toList) fun v => K v H
  | .buildSlice t len parts => frzA (T t) parts.toList fr H fun fr' H' => buildSliceA (T t) len (rdParts fr' parts.toList) H' K
  | .load t a => loadA (T t) (rd fr a) H fun v => K v H
  | .store t a x => storeA (T t) (rd fr a) (rd fr x) H fun H' => K .no H'
  | .binOp op t x y _ => match isNilC y with
    | true => ifcA (T t) op (rd fr x) fun r => K (.v r) H
    | false => match rd fr x, rd fr y with
      | .v a, .v b => binA (T t) op a b fun r => K (.v r) H
      | .agg as, .agg bs => cellsEqA (T t) op as bs fun r => K (.v r) H
      | a, .nilsl => nilA (T t) op a fun r => K (.v r) H
      | _, _ => False
  | .unOp op _ x => match rd fr x with
    | .v a => unA op a fun r => K (.v r) H
    | _ => False
  | .convert src dst x => req (T src).ok (convA (T src) (T dst) (rd fr x) H fun v => K v H)
  | .makeFunc (.func g) first captured => match first.toList with
    | [] => avsK (rds fr captured.toList) fun l => K (.fn g l) H
    | _ => False
  | .makeSlice t l c => makeSliceA (T t) (rd fr l) (rd fr c) H K
  | .slice t x lo hi mx => match mx with
    | none => sliceA (T t) (rd fr x) (lo.map (rd fr)) (hi.map (rd fr)) fun v => K v H
    | some _ => False
  | .fieldAddr s x f => fieldAddrA (T s) (rd fr x) f fun v => K v H
  | .field s x f => fieldA (T s) (rd fr x) f fun v => K v H
  | .indexAddr t x ix => indexAddrA G (T t) (rd fr x) (rd fr ix) fun v => K v H
  | .index t x ix => indexA (T t) (rd fr x) (rd fr ix) fun v => K v H
  | .extract x i => match rd fr x with
    | .tup vs => req (Nat.blt i vs.length) (avK (nth vs i) fun v => K v H)
    | _ => False
  | .call c => match c.callee with
    | .builtin .len => match c.args.toList, c.argTypes.toList with
      | [x], [t] => lenA (T t) (rd fr x) fun v => K v H
      | _, _ => False
    | .builtin .append => match c.args.toList, c.argTypes.toList with
      | [s, x], [t, t'] => req (Nat.beq t t') (appendA (T t) (rd fr s) (rd fr x) H K)
      | _, _ => False
    | .builtin .clear => match c.args.toList, c.argTypes.toList with
      | [x], [t] => clearA (T t) (rd fr x) H fun H' => K .un H'
      | _, _ => False
    | .builtin .max => match c.args.toList with
      | [x, y] => extA true (rd fr x) (rd fr y) fun v => K v H
      | _ => False
    | .builtin .min => match c.args.toList with
      | [x, y] => extA false (rd fr x) (rd fr y) fun v => K v H
      | _ => False
    | .value f => match rd fr f with
      | .fn g caps => avsK (rds fr c.args.toList) fun l => Call g (l ++ caps) H K
      | _ => False
    | _ => False
  | _ => False

noncomputable def putA (fr : List AV) (dst : Option Tmp) (v : AV) (K : List AV → Prop) : Prop :=
  match dst with
  | some d => setK fr d v K
  | none => K fr
/-- What a guard finds: the operation's Bool. -/
noncomputable def guardA (ops : List Oper) (fr : List AV) (j : Nat) : AV :=
  match ops[j]? with
  | some o => match o.dst with
    | some d => nth fr d
    | none => .no
  | none => .no
/-- A region in the order of its text. -/
noncomputable def opsA (ops : List Oper) (l : List Oper) : List AV → List Blk → (List AV → List Blk → Prop) → Prop :=
  List.rec (motive := fun _ => List AV → List Blk → (List AV → List Blk → Prop) → Prop) (fun fr H K => K fr H) (fun o _ ih fr H K => match o.guard with
    | none => opA T G Call o fr H fun v H' => putA fr o.dst v fun fr' => ih fr' H' K
    | some (j, want) => match guardA ops fr j with
      | .v (.bool true) => bif want then (opA T G Call o fr H fun v H' => putA fr o.dst v fun fr' => ih fr' H' K) else (putA fr o.dst .no fun fr' => ih fr' H K)
      | .v (.bool false) => bif want then (putA fr o.dst .no fun fr' => ih fr' H K) else (opA T G Call o fr H fun v H' => putA fr o.dst v fun fr' => ih fr' H' K)
      | .no => putA fr o.dst .no fun fr' => ih fr' H K
      | _ => False) l

/-- The ways out of a piece of code. -/
inductive Ex where
  | normal
  | exit (id : Nat)
  | ret

variable (Loop : Code → List AV → List Blk → (Ex → List AV → List Blk → Prop) → Prop)
variable (Draw : List Oper → List AV → List Blk → (List AV → List Blk → Prop) → Prop)
noncomputable def codeA (c : Code) : List AV → List Blk → (Ex → List AV → List Blk → Prop) → Prop :=
  Code.rec (motive := fun _ => List AV → List Blk → (Ex → List AV → List Blk → Prop) → Prop)
    (fun fr H K => K .normal fr H)
    (fun _ ops draw fr H K => match draw with
      | false => opsA T G Call ops.toList ops.toList fr H (K .normal)
      | true => Draw ops.toList fr H (K .normal))
    (fun _ _ iha ihb fr H K => iha fr H fun e fr' H' => match e with
      | .normal => ihb fr' H' K
      | .exit i => K (.exit i) fr' H'
      | .ret => K .ret fr' H')
    (fun c _ _ ihx ihy fr H K => match rd fr c with
      | .v (.bool true) => ihx fr H K
      | .v (.bool false) => ihy fr H K
      | _ => False)
    (fun id _ ih fr H K => ih fr H fun e fr' H' => match e with
      | .exit i => bif Nat.beq i id then K .normal fr' H' else K (.exit i) fr' H'
      | .normal => K .normal fr' H'
      | .ret => K .ret fr' H')
    (fun c _ fr H K => Loop c fr H K)
    (fun _ _ _ _ _ _ _ _ _ => False)
    (fun id fr H K => K (.exit id) fr H)
    (fun _ _ _ _ _ => False)
    (fun _ _ _ _ => False)
    (fun _ _ _ _ => False)
    (fun fr H K => K .ret fr H)
    (fun _ _ _ _ => False) c

/-- The results of a body that has come to its end. -/
noncomputable def resA (H : List Blk) (fr : List AV) (r : ResultVar) (K : AV → Prop) : Prop :=
  match r with
  | .tmp t => avK (nth fr t) K
  | .cell a t => loadA (T t) (nth fr a) H K
noncomputable def ressA (H : List Blk) (fr : List AV) (l : List ResultVar) : (List AV → Prop) → Prop :=
  List.rec (motive := fun _ => (List AV → Prop) → Prop) (fun K => K []) (fun r _ ih K => resA T H fr r fun v => ih fun vs => K (v :: vs)) l
noncomputable def resultsA (fn : Func) (H : List Blk) (fr : List AV) (K : AV → Prop) : Prop :=
  ressA T H fr fn.results.toList fun vs => match vs with
    | [v] => K v
    | vs => K (.tup vs)
noncomputable def bodyA (fn : Func) (args : List AV) (H : List Blk) (K : AV → List Blk → Prop) : Prop :=
  match fn.body with
  | some c => avsK (args ++ List.replicate (fn.ntmps - args.length) .no) fun fr => codeA T G Call Loop Draw c fr H fun e fr' H' => match e with
    | .exit _ => False
    | .normal => resultsA T fn H' fr' fun v => K v H'
    | .ret => resultsA T fn H' fr' fun v => K v H'
  | none => False
end
end Go.AE
