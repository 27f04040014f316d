/-
  Each operation that the abstract evaluator knows does what it says: numbers, loads, addresses, structs. No conditions.
-/
import Derived.Test.YtkmnmmckgobeeaaAeSem
namespace Go.AE

section
variable {β : Nat → Option Nat} {n : Nat} {S : Nat → Prop} {w : World}
theorem VR.v_inv {x y : Value} (h : VR β n S w (.v x) y) : y = x ∧ scal x = true := by cases h; exact ⟨rfl, ‹_›⟩
theorem VR.agg_inv {cs : List AV} {y : Value} (h : VR β n S w (.agg cs) y) : ∃ vs : Array Value, y = .agg vs ∧ cs.length = vs.size ∧ ∀ i c, cs[i]? = some c → VR β n S w c (vs.getD i undef) := by
  cases h with
  | agg _ vs hl h => exact ⟨vs, rfl, hl, h⟩
theorem VR.tup_inv {cs : List AV} {y : Value} (h : VR β n S w (.tup cs) y) : ∃ vs : Array Value, y = .tuple vs ∧ cs.length = vs.size ∧ ∀ i c, cs[i]? = some c → VR β n S w c (vs.getD i undef) := by
  cases h with
  | tup _ vs hl h => exact ⟨vs, rfl, hl, h⟩
theorem VR.nil_inv {y : Value} (h : VR β n S w .nilsl y) : y = .slice none 0 0 := by cases h; rfl
theorem VR.ptr_inv {k j : Nat} {y : Value} (h : VR β n S w (.ptr k j) y) : ∃ r, k < n ∧ β k = some r ∧ y = .pointer (some ⟨r, j, none⟩) := by
  cases h with
  | ptr _ _ r hk hb => exact ⟨r, hk, hb, rfl⟩
theorem VR.eptr_inv {k sz i j : Nat} {y : Value} (h : VR β n S w (.eptr k sz i j) y) : ∃ r, k < n ∧ β k = some r ∧ y = .pointer (some ⟨r, i * sz + j, none⟩) := by
  cases h with
  | eptr _ _ _ _ r hk hb => exact ⟨r, hk, hb, rfl⟩
theorem VR.rop_inv {d : D} {i j : Nat} {y : Value} (h : VR β n S w (.rop d i j) y) : ∃ b off, S b ∧ DataAt S w d b off ∧ y = .pointer (some ⟨b, off + i * d.sz + j, none⟩) := by
  cases h with
  | rop _ _ _ b off hS hd => exact ⟨b, off, hS, hd, rfl⟩
theorem VR.rpc_inv {cs : List AV} {j : Nat} {y : Value} (h : VR β n S w (.rpc cs j) y) : ∃ b arr e, S b ∧ w.heap[b]? = some (.cells arr e (0, 0)) ∧ cs.length ≤ arr.size ∧ cs.all rpcOk = true ∧ (∀ i c, cs[i]? = some c → VR β n S w c (arr.getD i undef)) ∧ y = .pointer (some ⟨b, j, none⟩) := by
  cases h with
  | rpc _ _ b hS arr e hh hl ho h => exact ⟨b, arr, e, hS, hh, hl, ho, h, rfl⟩
theorem VR.gl_inv {g : Nat} {y : Value} (h : VR β n S w (.gl g) y) : y = .pointer (some ⟨g, 0, none⟩) := by cases h; rfl
theorem VR.ro_inv {d : D} {y : Value} (h : VR β n S w (.ro d) y) : SlD S w d y := by cases h; assumption
theorem VR.fn_inv {f : FuncId} {cs : List AV} {y : Value} (h : VR β n S w (.fn f cs) y) : ∃ vs : Array Value, y = .func (.func f) #[] vs ∧ cs.length = vs.size ∧ ∀ i c, cs[i]? = some c → VR β n S w c (vs.getD i undef) := by
  cases h with
  | fn _ _ vs hl h => exact ⟨vs, rfl, hl, h⟩
theorem VR.sl_inv {k sz len : Nat} {y : Value} (h : VR β n S w (.sl k sz len) y) :
    (len = 0 ∧ ∃ a, y = .slice a 0 0) ∨ ∃ r cap arr e, k < n ∧ β k = some r ∧ len ≤ cap ∧ cap ≤ maxLen ∧ (∃ fz, w.heap[r]? = some (.cells arr e fz)) ∧ cap * sz ≤ arr.size ∧ y = .slice (some ⟨r, 0, none⟩) len cap := by
  cases h with
  | sl _ _ _ r cap hk hb hc hm arr e hh hs => exact .inr ⟨r, cap, arr, e, hk, hb, hc, hm, hh, hs, rfl⟩
  | sl0 _ _ a => exact .inl ⟨rfl, a, rfl⟩
theorem VR.sub_inv {k sz lo len : Nat} {y : Value} (h : VR β n S w (.sub k sz lo len) y) :
    (len = 0 ∧ ∃ a, y = .slice a 0 0) ∨ ∃ r cap arr e, k < n ∧ β k = some r ∧ len ≤ cap ∧ cap ≤ maxLen ∧ (∃ fz, w.heap[r]? = some (.cells arr e fz)) ∧ (lo + cap) * sz ≤ arr.size ∧ y = .slice (some ⟨r, lo * sz, none⟩) len cap := by
  cases h with
  | sub _ _ _ _ r cap hk hb hc hm arr e hh hs => exact .inr ⟨r, cap, arr, e, hk, hb, hc, hm, hh, hs, rfl⟩
  | sub0 _ _ _ a => exact .inl ⟨rfl, a, rfl⟩
end

/-! ### Numbers -/
theorem wrap_inb (k : IntKind) (m : Int) (h : inb k m) : k.wrap m = m := by
  cases k <;> simp only [inb] at h <;> simp [IntKind.wrap, IntKind.bits, IntKind.signed] <;> omega
theorem arithK_get {k : IntKind} {m : Int} {K : Value → Prop} (h : arithK k m K) : K (.int k (k.wrap m)) := h _ (wrap_inb k m) rfl
theorem kindEq_eq {k k' : IntKind} (h : kindEq k k' = true) : k = k' := by cases k <;> cases k' <;> first | rfl | (simp [kindEq] at h)
theorem boolK_get {p : Prop} [Decidable p] {K : Value → Prop} (h : boolK p K) : K (.bool (decide p)) := by
  by_cases hp : p
  · simpa [hp] using h.1 hp
  · simpa [hp] using h.2 hp
theorem boolK_get' {p : Prop} {K : Value → Prop} (h : boolK p K) {b : Bool} (hb : b = true ↔ p) : K (.bool b) := by
  cases b with
  | true => exact h.1 (hb.1 rfl)
  | false => exact h.2 (fun hp => by have := hb.2 hp; cases this)
theorem cond_false_elim {b : Bool} {X : Prop} (h : (bif b then X else False)) : b = true ∧ X := by cases b <;> simp_all
theorem binInt_sound {P : Program} {op : BinOp} {k : IntKind} {a b : Int} {K : Value → Prop} (h : binInt op k a b K) (t : TypeId) :
    ∃ r, scal r = true ∧ K r ∧ ∀ w, (binOp op t (.int k a) (.int k b)).run P w = .ok r w := by
  cases op <;> simp only [binInt] at h
  case add => exact ⟨_, rfl, arithK_get h, fun w => by simp [binOp, Op.intArith]⟩
  case sub => exact ⟨_, rfl, arithK_get h, fun w => by simp [binOp, Op.intArith]⟩
  case mul => exact ⟨_, rfl, arithK_get h, fun w => by simp [binOp, Op.intArith]⟩
  case quo =>
    obtain ⟨hb, h⟩ := h
    refine ⟨_, rfl, h (k.wrap (a.tdiv b)) (fun hi h0 h1 => ?_) rfl, fun w => by simp [binOp, Op.intDiv, hb]⟩
    rw [Int.tdiv_eq_ediv_of_nonneg h0]
    have h2 : 0 ≤ a / b := Int.ediv_nonneg h0 (by omega)
    have h3 : a / b ≤ a := Int.ediv_le_self b h0
    refine wrap_inb k _ ?_
    cases k <;> simp only [inb] at hi ⊢ <;> omega
  case rem =>
    obtain ⟨hb, h⟩ := h
    exact ⟨_, rfl, h (a.tmod b) (fun h0 _ => Int.tmod_eq_emod_of_nonneg h0) rfl, fun w => by simp [binOp, Op.intDiv, hb]⟩
  case eql => exact ⟨_, rfl, boolK_get' h (b := a == b) (by simp), fun w => by simp [binOp, Op.intCmp]⟩
  case neq => exact ⟨_, rfl, boolK_get' h (b := a != b) (by simp), fun w => by simp [binOp, Op.intCmp]⟩
  case lss => exact ⟨_, rfl, boolK_get h, fun w => by simp [binOp, Op.intCmp]⟩
  case leq => exact ⟨_, rfl, boolK_get h, fun w => by simp [binOp, Op.intCmp]⟩
  case gtr => exact ⟨_, rfl, boolK_get h, fun w => by simp [binOp, Op.intCmp]⟩
  case geq => exact ⟨_, rfl, boolK_get h, fun w => by simp [binOp, Op.intCmp]⟩
  case and => exact ⟨_, rfl, h _ rfl, fun w => by simp [binOp, Op.intBits, bitsI]⟩
  case or => exact ⟨_, rfl, h _ rfl, fun w => by simp [binOp, Op.intBits, bitsI]⟩
  case xor => exact ⟨_, rfl, h _ rfl, fun w => by simp [binOp, Op.intBits, bitsI]⟩
  case andNot => exact ⟨_, rfl, h _ rfl, fun w => by simp [binOp, Op.intBits, bitsI]⟩
theorem toList_eq_iff (a b : ByteArray) : (a.toList == b.toList) = true ↔ a = b := by
  simp only [beq_iff_eq]
  constructor
  · intro h
    have : a.data.toList = b.data.toList := by simpa [ByteArray.toList_eq] using h
    cases a; cases b; simpa using this
  · rintro rfl; rfl
theorem binA_sound {P : Program} {T : TypeId → TD} (hT : TabOK P T) (t : TypeId) {op : BinOp} {A B : Value} {K : Value → Prop} (h : binA (T t) op A B K) (x y : Operand) :
    ∃ r, scal r = true ∧ K r ∧ ∀ w, ((do eqGuard op t x y A B; binOp op t A B) : Sem Value).run P w = .ok r w := by
  unfold binA at h
  split at h
  · rename_i k a k' b
    have hg : ∀ w, (eqGuard op t x y (.int k a) (.int k' b)).run P w = .ok () w := fun w => by unfold eqGuard; split <;> rfl
    split at h
    · obtain ⟨h0, h⟩ := h
      exact ⟨_, rfl, arithK_get h, fun w => by simp [hg, binOp, Op.shift, show ¬ b < 0 by omega]⟩
    · obtain ⟨h0, h⟩ := h
      exact ⟨_, rfl, h _ rfl, fun w => by simp [hg, binOp, Op.shift, show ¬ b < 0 by omega]⟩
    · obtain ⟨hk, h'⟩ := cond_false_elim h
      obtain rfl := kindEq_eq hk
      obtain ⟨r, h1, h2, h3⟩ := binInt_sound (P := P) h' t
      exact ⟨r, h1, h2, fun w => by simp [hg, h3]⟩
  · rename_i a b
    have hg : ∀ w, (eqGuard op t x y (.string a) (.string b)).run P w = .ok () w := fun w => by unfold eqGuard; split <;> rfl
    split at h
    · obtain ⟨h0, h⟩ := h
      refine ⟨_, rfl, h, fun w => ?_⟩
      have : ¬ (((a.size + b.size : Nat) : Int) > IntKind.i64.max) := by simp [IntKind.max, IntKind.signed, IntKind.bits]; omega
      simp only [Sem.run_bind, hg, Result.andThen_ok, binOp, Op.stringOp, this, if_false]
      rfl
    · exact ⟨_, rfl, boolK_get' h (toList_eq_iff a b), fun w => by simp [hg, binOp, Op.stringOp]⟩
    · refine ⟨_, rfl, boolK_get' h (b := !(a.toList == b.toList)) ?_, fun w => by simp [hg, binOp, Op.stringOp]⟩
      have := toList_eq_iff a b
      cases hb : (a.toList == b.toList) <;> simp_all
    · exact h.elim
  · rename_i a b
    have hg : ∀ w, (eqGuard op t x y (.bool a) (.bool b)).run P w = .ok () w := fun w => by unfold eqGuard; split <;> rfl
    have hTt := hT t
    split at h
    · rename_i htd
      rw [htd] at hTt
      have heq : ∀ w, (Op.equal t (.bool a) (.bool b)).run P w = .ok (a == b) w := fun w => by
        unfold Op.equal
        rw [show Op.maxDepth = 9999 + 1 from rfl]
        exact run_equalIn_bool' w 9999 t a b hTt.2.1
      split at h
      · exact ⟨_, rfl, boolK_get' h (b := a == b) (by simp), fun w => by simp [hg, binOp, heq]⟩
      · exact ⟨_, rfl, boolK_get' h (b := !(a == b)) (by simp), fun w => by simp [hg, binOp, heq]⟩
      · exact h.elim
    · exact h.elim
  · exact h.elim
theorem unA_sound {P : Program} {op : UnOp} {A : Value} {K : Value → Prop} (h : unA op A K) : ∃ r, scal r = true ∧ K r ∧ ∀ w, (Op.unary op A).run P w = .ok r w := by
  unfold unA at h
  split at h
  · exact ⟨_, rfl, h, fun w => by simp [Op.unary]⟩
  · exact ⟨_, rfl, h, fun w => by simp [Op.unary]⟩
  · exact ⟨_, rfl, arithK_get h, fun w => by simp [Op.unary, Op.intArith]⟩
  · exact h.elim

/-! ### Lists of cells -/
theorem loadCells_iff {t : TD} {cs : List AV} {j : Nat} {K : AV → Prop} (h : loadCells t cs j K) :
    t.ok = true ∧ ((t.agg = false ∧ j < cs.length ∧ K (cs.getD j .no)) ∨ (t.agg = true ∧ j + t.size ≤ cs.length ∧ K (.agg ((cs.drop j).take t.size)))) := by
  cases t <;> simp only [loadCells, req_iff, avsK_eq, avK_eq, nth_eq, Nat.ble_eq, Nat.blt_eq] at h <;> simp [TD.ok, TD.agg, TD.size] <;> first | exact h | exact h.elim
theorem rowD_eq (d : D) (i : Nat) : ∀ (c j : Nat) (K : List AV → Prop), rowD d i j c K = K ((List.range c).map fun m => d.cell i (j + m))
  | 0, _, _ => rfl
  | c + 1, j, K => by
    simp only [rowD, natK_eq, avK_eq]
    rw [rowD_eq d i c (j + 1)]
    rw [List.range_succ_eq_map]
    simp [Function.comp_def, Nat.add_assoc, Nat.add_comm 1]
theorem loadData_iff {t : TD} {d : D} {i j : Nat} {K : AV → Prop} (h : loadData t d i j K) :
    t.ok = true ∧ ((t.agg = false ∧ j < d.sz ∧ K (d.cell i j)) ∨ (t.agg = true ∧ j + t.size ≤ d.sz ∧ K (.agg ((List.range t.size).map fun m => d.cell i (j + m))))) := by
  cases t <;> simp only [loadData, req_iff, rowD_eq, natK_eq, avK_eq, Nat.ble_eq, Nat.blt_eq] at h <;> simp [TD.ok, TD.agg, TD.size] <;> first | exact h | exact h.elim
theorem nthB_some {H : List Blk} {k : Nat} {b : Blk} (h : nthB H k = b) (hb : b ≠ .dead) : H[k]? = some b := by
  rw [nthB_eq, List.getD_eq_getElem?_getD] at h
  cases hk : H[k]? with
  | none => rw [hk] at h; exact absurd h.symm hb
  | some x => rw [hk] at h; simpa using h
theorem cell_row {w : World} {r i : Nat} {arr : Array Value} {e : TypeId} {fz : Nat × Nat} (h : w.heap[r]? = some (.cells arr e fz)) (hi : i < arr.size) : w.cell? ⟨r, i, none⟩ = some (arr.getD i undef) := by
  rw [cell_of_row w r i arr e fz h, Array.getD_eq_getD_getElem?, Array.getElem?_eq_getElem hi]
  rfl

section
variable {P : Program} {G : Nat → Option D} {T : TypeId → TD} {β : Nat → Option Nat} {S : Nat → Prop} {H : List Blk} {w : World}
/-- A load. -/
theorem loadA_sound (hT : TabOK P T) {t : TypeId} {a : AV} {x : Value} {K : AV → Prop} (h : loadA (T t) a H K) (hr : Rel G β S H w) (hv : VR β H.length S w a x) :
    ∃ v u, K v ∧ VR β H.length S w v u ∧ ∀ w', Evo w w' (fun _ => False) → (Instr.loadAt t x).run P w' = .ok u w' := by
  have hagg := (hT t).1
  -- from cells laid in a row
  have fin : ∀ (r o : Nat) (f : Nat → AV) (m : Nat), (∀ j, j < m → ∃ u, w.cell? ⟨r, o + j, none⟩ = some u ∧ VR β H.length S w (f j) u) → x = .pointer (some ⟨r, o, none⟩) →
      (T t).ok = true → (((T t).agg = false ∧ 0 < m ∧ K (f 0)) ∨ ((T t).agg = true ∧ (T t).size ≤ m ∧ K (.agg ((List.range (T t).size).map f)))) →
      ∃ v u, K v ∧ VR β H.length S w v u ∧ ∀ w', Evo w w' (fun _ => False) → (Instr.loadAt t x).run P w' = .ok u w' := by
    intro r o f m hc hx hok hcase
    have old : ∀ w', Evo w w' (fun _ => False) → ∀ j u, w.cell? ⟨r, j, none⟩ = some u → w'.cell? ⟨r, j, none⟩ = some u := fun w' he j u hu => by
      rw [World.cell?_of_block (w := w) (he.keep r (World.block_lt_of_cell? w _ hu) id)]; exact hu
    obtain ⟨h1, h2⟩ := hagg hok
    subst hx
    rcases hcase with ⟨ha, hm, hk⟩ | ⟨ha, hm, hk⟩
    · rw [ha] at h1
      obtain ⟨u, hu, hvu⟩ := hc 0 hm
      refine ⟨_, u, hk, hvu, fun w' he => ?_⟩
      simp only [Instr.loadAt, Instr.sureAddr, Sem.run_bind, Sem.run_pure, Result.andThen_ok]
      exact run_loadVar1 w' h1 (old w' he _ _ (by simpa using hu))
    · rw [ha] at h1
      have hall : ∀ j, ∃ u, j < m → w.cell? ⟨r, o + j, none⟩ = some u ∧ VR β H.length S w (f j) u := fun j => by
        by_cases hj : j < m
        · obtain ⟨u, hu⟩ := hc j hj; exact ⟨u, fun _ => hu⟩
        · exact ⟨undef, fun h => absurd h hj⟩
      obtain ⟨g, hg⟩ := Classical.axiomOfChoice hall
      refine ⟨_, .agg ((List.range (T t).size).map g).toArray, hk, .agg _ _ (by simp) fun i c hic => ?_, ?_⟩
      · rw [List.getElem?_map, Option.map_eq_some_iff] at hic
        obtain ⟨y, hy, rfl⟩ := hic
        have hlt : i < (T t).size := by
          rcases Nat.lt_or_ge i (T t).size with h | h
          · exact h
          · rw [List.getElem?_eq_none (by simpa using h)] at hy; cases hy
        rw [List.getElem?_range hlt] at hy
        cases hy
        have : ((List.range (T t).size).map g).toArray.getD i undef = g i := by
          rw [Array.getD_eq_getD_getElem?]; simp [hlt]
        rw [this]
        exact (hg i (by omega)).2
      · intro w' he
        simp only [Instr.loadAt, Instr.sureAddr, Sem.run_bind, Sem.run_pure, Result.andThen_ok]
        refine run_loadVarN w' h1 h2 (by simp) fun j v hj => ?_
        rw [List.getElem?_map, Option.map_eq_some_iff] at hj
        obtain ⟨y, hy, rfl⟩ := hj
        have hlt : j < (T t).size := by
          rcases Nat.lt_or_ge j (T t).size with h | h
          · exact h
          · rw [List.getElem?_eq_none (by simpa using h)] at hy; cases hy
        rw [List.getElem?_range hlt] at hy
        cases hy
        rw [Addr.add_lit]
        exact old w' he _ _ (hg j (by omega)).1
  cases a <;> simp only [loadA] at h
  case ptr k j =>
    split at h
    · rename_i cs hb
      have hk := nthB_some hb (by simp)
      obtain ⟨r, _, hβ, rfl⟩ := hv.ptr_inv
      have hB := hr.blk k _ hk
      rw [hβ] at hB
      cases hB with
      | cells _ arr e _ hh hl hcells =>
        obtain ⟨hok, hcase⟩ := loadCells_iff h
        have hcell : ∀ m, j + m < cs.length → ∃ u, w.cell? ⟨r, j + m, none⟩ = some u ∧ VR β H.length S w (cs.getD (j + m) .no) u := fun m hm =>
          ⟨_, cell_row hh (by omega), hcells _ _ (by rw [List.getD_eq_getElem?_getD, List.getElem?_eq_getElem hm]; simp)⟩
        refine fin r j (fun m => cs.getD (j + m) .no) (cs.length - j) (fun m hm => hcell m (by omega)) rfl hok ?_
        rcases hcase with ⟨ha, hj, hK⟩ | ⟨ha, hj, hK⟩
        · exact .inl ⟨ha, by omega, by simpa using hK⟩
        · refine .inr ⟨ha, by omega, ?_⟩
          have : (cs.drop j).take (T t).size = (List.range (T t).size).map fun m => cs.getD (j + m) .no := by
            apply List.ext_getElem?
            intro i
            by_cases hi : i < (T t).size
            · rw [List.getElem?_take_of_lt hi, List.getElem?_drop, List.getElem?_map, List.getElem?_range hi]
              simp [List.getElem?_eq_getElem (show j + i < cs.length by omega)]
            · rw [List.getElem?_eq_none (by simp; omega), List.getElem?_eq_none (by simp; omega)]
          rwa [this] at hK
    · exact h.elim
  case rpc cs j =>
    obtain ⟨b, arr, e, hS, hh, hl, ho, hcells, rfl⟩ := hv.rpc_inv
    obtain ⟨hok, hcase⟩ := loadCells_iff h
    have hcell : ∀ m, j + m < cs.length → ∃ u, w.cell? ⟨b, j + m, none⟩ = some u ∧ VR β H.length S w (cs.getD (j + m) .no) u := fun m hm =>
      ⟨_, cell_row hh (by omega), hcells _ _ (by rw [List.getD_eq_getElem?_getD, List.getElem?_eq_getElem hm]; simp)⟩
    refine fin b j (fun m => cs.getD (j + m) .no) (cs.length - j) (fun m hm => hcell m (by omega)) rfl hok ?_
    rcases hcase with ⟨ha, hj, hK⟩ | ⟨ha, hj, hK⟩
    · exact .inl ⟨ha, by omega, by simpa using hK⟩
    · refine .inr ⟨ha, by omega, ?_⟩
      have : (cs.drop j).take (T t).size = (List.range (T t).size).map fun m => cs.getD (j + m) .no := by
        apply List.ext_getElem?
        intro i
        by_cases hi : i < (T t).size
        · rw [List.getElem?_take_of_lt hi, List.getElem?_drop, List.getElem?_map, List.getElem?_range hi]
          simp [List.getElem?_eq_getElem (show j + i < cs.length by omega)]
        · rw [List.getElem?_eq_none (by simp; omega), List.getElem?_eq_none (by simp; omega)]
      rwa [this] at hK
  case eptr k sz i j =>
    split at h
    · rename_i d hb
      rw [req_iff, lenD_eq] at h
      obtain ⟨hsz, hi, h⟩ := h
      have hsz : sz = d.sz := Nat.eq_of_beq_eq_true hsz
      subst hsz
      have hk := nthB_some hb (by simp)
      obtain ⟨r, _, hβ, rfl⟩ := hv.eptr_inv
      have hB := hr.blk k _ hk
      rw [hβ] at hB
      cases hB with
      | data _ arr e _ hh hl hcells =>
        obtain ⟨hok, hcase⟩ := loadData_iff h
        have hcell : ∀ m, j + m < d.sz → ∃ u, w.cell? ⟨r, i * d.sz + j + m, none⟩ = some u ∧ VR β H.length S w (d.cell i (j + m)) u := fun m hm => by
          have hlt : i * d.sz + (j + m) < d.len * d.sz := by
            have : (i + 1) * d.sz ≤ d.len * d.sz := Nat.mul_le_mul_right _ hi
            rw [Nat.add_mul] at this
            omega
          exact ⟨_, by rw [Nat.add_assoc]; exact cell_row hh (by omega), (hcells i hi (j + m) hm).vr⟩
        refine fin r (i * d.sz + j) (fun m => d.cell i (j + m)) (d.sz - j) (fun m hm => hcell m (by omega)) rfl hok ?_
        rcases hcase with ⟨ha, hj, hK⟩ | ⟨ha, hj, hK⟩
        · exact .inl ⟨ha, by omega, by simpa using hK⟩
        · exact .inr ⟨ha, by omega, hK⟩
    · rename_i cs hb
      split at h
      · rename_i d1 s1 b1 htd
        simp only [req_iff, Bool.and_eq_true] at h
        obtain ⟨⟨hsz, hj⟩, k', l', hc, hK⟩ := h
        have hsz := Nat.eq_of_beq_eq_true hsz
        have hj := Nat.eq_of_beq_eq_true hj
        subst hsz hj
        have hk := nthB_some hb (by simp)
        obtain ⟨r, _, hβ, rfl⟩ := hv.eptr_inv
        have hB := hr.blk k _ hk
        rw [hβ] at hB
        cases hB with
        | cells _ arr e _ hh hl hcells =>
          have hi := (List.getElem?_eq_some_iff.1 hc).1
          refine fin r (i * 1 + 0) (fun _ => .sl k' 1 l') 1 (fun m hm => ⟨arr.getD i undef, ?_, hcells i _ hc⟩) rfl (by rw [htd]; rfl) (.inl ⟨by rw [htd]; rfl, by omega, hK⟩)
          have : i * 1 + 0 + m = i := by omega
          rw [this]
          exact cell_row hh (by omega)
      · rename_i htd
        simp only [req_iff, Bool.and_eq_true] at h
        obtain ⟨⟨hsz, hj⟩, hK⟩ := h
        have hsz := Nat.eq_of_beq_eq_true hsz
        have hj := Nat.eq_of_beq_eq_true hj
        subst hsz hj
        have hk := nthB_some hb (by simp)
        obtain ⟨r, _, hβ, rfl⟩ := hv.eptr_inv
        have hB := hr.blk k _ hk
        rw [hβ] at hB
        cases hB with
        | cells _ arr e _ hh hl hcells =>
          unfold ptAt at hK
          rw [nth_eq, List.getD_eq_getElem?_getD] at hK
          cases hc : cs[i]? with
          | none => rw [hc] at hK; exact hK.elim
          | some c =>
            rw [hc] at hK
            have hi := (List.getElem?_eq_some_iff.1 hc).1
            cases c with
            | ptr k' j' =>
              refine fin r (i * 1 + 0) (fun _ => .ptr k' j') 1 (fun m hm => ⟨arr.getD i undef, ?_, hcells i _ hc⟩) rfl (by rw [htd]; rfl) (.inl ⟨by rw [htd]; rfl, by omega, hK⟩)
              have : i * 1 + 0 + m = i := by omega
              rw [this]
              exact cell_row hh (by omega)
            | _ => exact False.elim hK
      · exact h.elim
    · exact h.elim
  case rop d i j =>
    obtain ⟨hi, h⟩ := cast (lenD_eq d (fun n => i < n ∧ loadData (T t) d i j K)) h
    obtain ⟨b, off, hS, hd, rfl⟩ := hv.rop_inv
    obtain ⟨hok, hcase⟩ := loadData_iff h
    have hcell : ∀ m, j + m < d.sz → ∃ u, w.cell? ⟨b, off + i * d.sz + j + m, none⟩ = some u ∧ VR β H.length S w (d.cell i (j + m)) u := fun m hm => by
      obtain ⟨u, h1, h2⟩ := hd i hi (j + m) hm
      exact ⟨u, by rw [Nat.add_assoc]; exact h1, h2.vr⟩
    refine fin b (off + i * d.sz + j) (fun m => d.cell i (j + m)) (d.sz - j) (fun m hm => hcell m (by omega)) rfl hok ?_
    rcases hcase with ⟨ha, hj, hK⟩ | ⟨ha, hj, hK⟩
    · exact .inl ⟨ha, by omega, by simpa using hK⟩
    · exact .inr ⟨ha, by omega, hK⟩
  all_goals exact h.elim

theorem structP_field {t : TypeId} {offs : List (Nat × Nat × Bool)} (h : structP P t = some offs) {f off size : Nat} {ag : Bool} (hf : offs[f]? = some (off, size, ag)) (hs : 0 < size) :
    ∃ fs fld, P.underlying t = some (.struct fs) ∧ fs[f]? = some fld ∧ fld.offset = off ∧ sizeP P fld.type = some size ∧ aggOf P fld.type = some ag := by
  unfold structP at h
  split at h
  · rename_i fs hu
    split at h
    case isFalse => cases h
    rename_i hall
    cases h
    rw [List.getElem?_map, Option.map_eq_some_iff] at hf
    obtain ⟨fld, h1, h2⟩ := hf
    simp only [Prod.mk.injEq] at h2
    have hm := List.all_eq_true.1 hall fld (List.mem_of_getElem? h1)
    refine ⟨fs, fld, hu, by simpa using h1, h2.1, ?_, ?_⟩
    · cases hi : sizeP P fld.type with
      | none => rw [hi] at h2; simp at h2; omega
      | some i => rw [hi] at h2; simpa using h2.2.1
    · cases hi : aggOf P fld.type with
      | none => rw [hi] at hm; cases hm
      | some i => rw [hi] at h2; simpa using h2.2.2
  · cases h
theorem run_fieldAt {t : TypeId} {offs : List (Nat × Nat × Bool)} (h : structP P t = some offs) {f off size : Nat} {ag : Bool} (hf : offs[f]? = some (off, size, ag)) (hs : 0 < size) (b o : Nat) :
    (Instr.fieldAt t (.pointer (some ⟨b, o, none⟩)) f).run P w = .ok (.pointer (some ⟨b, o + off, none⟩)) w := by
  obtain ⟨fs, fld, hu, h1, rfl, h3, _⟩ := structP_field h hf hs
  simp [Instr.fieldAt, run_underlying hu, h1, Instr.sureAddr, fieldPlace, run_sizeOf' w h3, show ¬ size = 0 by omega, Addr.add_lit]
theorem fieldAddrA_sound (hT : TabOK P T) {t : TypeId} {f : Nat} {a : AV} {x : Value} {K : AV → Prop} (h : fieldAddrA (T t) a f K) (hv : VR β H.length S w a x) :
    ∃ v u, K v ∧ VR β H.length S w v u ∧ ∀ w', (Instr.fieldAt t x f).run P w' = .ok u w' := by
  have hTt := hT t
  unfold fieldAddrA at h
  split at h
  · rename_i c offs zero htd
    rw [htd] at hTt
    obtain ⟨_, hst, _⟩ := hTt
    split at h
    · rename_i off size ag hoff
      rw [req_iff, Nat.blt_eq] at h
      obtain ⟨hs, h⟩ := h
      cases a <;> simp only [natK_eq] at h
      case ptr k j =>
        obtain ⟨r, hk, hβ, rfl⟩ := hv.ptr_inv
        exact ⟨_, _, h, .ptr k (j + off) r hk hβ, fun w' => run_fieldAt hst hoff hs r j⟩
      case eptr k sz i j =>
        obtain ⟨r, hk, hβ, rfl⟩ := hv.eptr_inv
        exact ⟨_, _, h, .eptr k sz i (j + off) r hk hβ, fun w' => by rw [← Nat.add_assoc]; exact run_fieldAt hst hoff hs r _⟩
      case rop d i j =>
        obtain ⟨b, o, hS, hd, rfl⟩ := hv.rop_inv
        exact ⟨_, _, h, .rop d i (j + off) b o hS hd, fun w' => by rw [← Nat.add_assoc]; exact run_fieldAt hst hoff hs b _⟩
      case rpc cs j =>
        obtain ⟨b, arr, e, hS, hh, hl, ho, hcells, rfl⟩ := hv.rpc_inv
        exact ⟨_, _, h, .rpc cs (j + off) b hS arr e hh hl ho hcells, fun w' => run_fieldAt hst hoff hs b _⟩
      all_goals exact h.elim
    · exact h.elim
  · exact h.elim
theorem fieldA_sound (hT : TabOK P T) {t : TypeId} {f : Nat} {a : AV} {x : Value} {K : AV → Prop} (h : fieldA (T t) a f K) (hv : VR β H.length S w a x) :
    ∃ v u, K v ∧ VR β H.length S w v u ∧ ∀ w', (Instr.field t x f).run P w' = .ok u w' := by
  have hTt := hT t
  unfold fieldA at h
  split at h
  · rename_i c offs zero cs htd
    rw [htd] at hTt
    obtain ⟨_, hst, _⟩ := hTt
    obtain ⟨vs, rfl, hl, hvs⟩ := hv.agg_inv
    split at h
    · rename_i off size ag hoff
      simp only [req_iff, Bool.and_eq_true, Nat.ble_eq, Nat.blt_eq, avsK_eq, avK_eq, nth_eq] at h
      obtain ⟨⟨h0, hlen⟩, h⟩ := h
      obtain ⟨fs, fld, hu, h1, rfl, h3, hag'⟩ := structP_field hst hoff h0
      cases ag
      · simp only [cond_false] at h
        have hlt : fld.offset < cs.length := by omega
        refine ⟨_, vs.getD fld.offset undef, h, hvs _ _ (by rw [List.getD_eq_getElem?_getD, List.getElem?_eq_getElem hlt]; simp), fun w' => ?_⟩
        have hx : vs[fld.offset]? = some (vs.getD fld.offset undef) := by rw [Array.getD_eq_getD_getElem?, Array.getElem?_eq_getElem (by omega)]; rfl
        simp only [Instr.field, Sem.run_bind, run_underlying hu, Result.andThen_ok, h1, asAgg, Sem.run_pure]
        exact run_part1 w' hag' hx
      · simp only [cond_true] at h
        refine ⟨_, .agg (vs.extract fld.offset (fld.offset + size)), h, .agg _ _ (by simp; omega) fun i c' hc => ?_, ?_⟩
        · have hi : i < size := by
            rcases Nat.lt_or_ge i size with h | h
            · exact h
            · rw [List.getElem?_eq_none (by simp; omega)] at hc; cases hc
          rw [List.getElem?_take_of_lt hi, List.getElem?_drop] at hc
          have := hvs _ _ hc
          have e : (vs.extract fld.offset (fld.offset + size)).getD i undef = vs.getD (fld.offset + i) undef := by
            rw [Array.getD_eq_getD_getElem?, Array.getD_eq_getD_getElem?, Array.getElem?_extract]
            rw [if_pos (by omega)]
          rw [e]; exact this
        · intro w'
          simp only [Instr.field, Sem.run_bind, run_underlying hu, Result.andThen_ok, h1, asAgg, Sem.run_pure]
          exact run_partN w' hag' h3
    · exact h.elim
  · exact h.elim
end
end Go.AE
