/-
  More of the operations that only read: conversions, bytes of a string, the greater and the lesser. No conditions.
-/
import Derived.Test.YtkmnmmckgobeeaaAeOps7
import Derived.Laws.BytesString
import Derived.Laws.Cells
namespace Go.AE

section
variable {P : Program} {G : Nat → Option D} {T : TypeId → TD} {β : Nat → Option Nat} {S : Nat → Prop} {H : List Blk} {w : World}
theorem underlying_some (hT : TabOK P T) {t : TypeId} (h : (T t).ok = true) : ∃ d, P.underlying t = some d := by
  have := ((hT t).1 h).1
  unfold aggOf at this
  rw [Option.map_eq_some_iff] at this
  obtain ⟨d, hd, _⟩ := this
  exact ⟨d, hd⟩
theorem run_bytes_of {w' : World} {a : Option Addr} {xs : List Int} {c : Nat} (hpos : 0 < xs.length → ∃ b off, a = some ⟨b, off, none⟩ ∧ ∀ i, i < xs.length → w'.cell? ⟨b, off + i, none⟩ = some (.int .u8 (xs.getD i 0))) :
    (Conv.bytesToString (.slice a xs.length c)).run P w' = .ok (.string (bytesOf xs)) w' := by
  cases a with
  | none =>
    have h0 : xs = [] := by
      cases xs with
      | nil => rfl
      | cons x r => obtain ⟨b, off, h, _⟩ := hpos (by simp); cases h
    subst h0
    rfl
  | some a =>
    refine run_bytesToString w' a _ c xs ?_
    have := run_loadCells_list (P := P) w' a (xs.map (Value.int .u8)) fun j v hj => ?_
    · simpa using this
    · rw [List.getElem?_map, Option.map_eq_some_iff] at hj
      obtain ⟨y, hy, rfl⟩ := hj
      have hlt := lt_of_get hy
      obtain ⟨b, off, h1, h2⟩ := hpos (by omega)
      cases h1
      rw [Addr.add_lit, h2 j hlt, List.getD_eq_getElem?_getD, hy]
      rfl
theorem convA_sound (hT : TabOK P T) {src dt : TypeId} {a : AV} {x : Value} {K : AV → Prop} (hsok : (T src).ok = true) (h : convA (T src) (T dt) a H K) (hr : Rel G β S H w) (hv : VR β H.length S w a x) :
    ∃ v u, K v ∧ VR β H.length S w v u ∧ ∀ w', Evo w w' (fun _ => False) → (convert src dt x).run P w' = .ok u w' := by
  have hTt := hT dt
  have hTs := hT src
  obtain ⟨ds, hds⟩ := underlying_some hT hsok
  unfold convA at h
  split at h
  · rename_i k k' m htd
    rw [htd] at hTt
    refine ⟨_, _, arithK_get h, .v _ rfl, fun w' _ => ?_⟩
    rw [hv.v_inv.1]
    simp only [convert, Sem.run_bind, run_underlying hds, run_underlying hTt.2.1, Result.andThen_ok]
    cases ds <;> rfl
  · rename_i s htd
    rw [htd] at hTt
    refine ⟨_, _, h, hv, fun w' _ => ?_⟩
    rw [hv.v_inv.1]
    simp only [convert, Sem.run_bind, run_underlying hds, run_underlying hTt.2.1, Result.andThen_ok]
    cases ds <;> rfl
  · rename_i htd
    rw [htd] at hTt
    split at h
    · rename_i xs sz by' hts
      rw [hts] at hTs
      obtain ⟨_, hsl, hdz, hpos, hbpos, hz, hel⟩ := hTs
      obtain ⟨e, i, hu, hi, _⟩ := sliceP_info hsl
      have he : P.underlying e = some (.int .u8) := by simpa [elemT, elemP, hu] using hel
      refine ⟨_, _, h, .v _ rfl, fun w' _ => ?_⟩
      rw [hv.nil_inv, run_convert_bytes_string w' src dt e none 0 0 hu he hTt.2.1]
      rfl
    · exact h.elim
  · rename_i htd _ _
    rw [htd] at hTt
    split at h
    · rename_i xs sz by' hts
      rw [hts] at hTs
      obtain ⟨_, hsl, hdz, hpos, hbpos, hz, hel⟩ := hTs
      obtain ⟨e, i, hu, hi, _⟩ := sliceP_info hsl
      have he : P.underlying e = some (.int .u8) := by simpa [elemT, elemP, hu] using hel
      obtain ⟨dx, hk, hsz, ad, c, rfl, hc, hcells⟩ := dataK_sound hr (by decide) h hv
      unfold strA at hk
      split at hk
      · rename_i ys
        refine ⟨_, _, hk, .v _ rfl, fun w' he' => ?_⟩
        rw [run_convert_bytes_string w' src dt e ad _ c hu he hTt.2.1]
        refine run_bytes_of (c := c) fun hp => ?_
        obtain ⟨b, off, h1, us, h2, h3, h4⟩ := hcells hp
        refine ⟨b, off, h1, fun i hi => ?_⟩
        have hlt : i < us.length := by simp [D.len] at h2; omega
        have hcell := h3 i _ (List.getElem?_eq_getElem hlt)
        rw [World.cell?_of_block (w := w) (he'.keep b (World.block_lt_of_cell? w _ hcell) id), hcell]
        have := h4 i hi 0 (by decide)
        rw [List.getD_eq_getElem?_getD, show i * 1 + 0 = i by omega, List.getElem?_eq_getElem hlt] at this
        simpa [cellR, D.cv] using this
      · exact hk.elim
    · exact h.elim
  · exact h.elim
theorem indexA_sound (hT : TabOK P T) {t : TypeId} {a b : AV} {x y : Value} {K : AV → Prop} (h : indexA (T t) a b K) (hv : VR β H.length S w a x) (hy : VR β H.length S w b y) :
    ∃ v u, K v ∧ VR β H.length S w v u ∧ ∀ w', (Instr.index t x y).run P w' = .ok u w' := by
  have hTt := hT t
  unfold indexA at h
  split at h
  · rename_i s k i htd
    rw [htd] at hTt
    obtain ⟨⟨h0, h1⟩, h⟩ := h
    refine ⟨_, _, h, .v _ rfl, fun w' => ?_⟩
    rw [hv.v_inv.1, hy.v_inv.1]
    have hlt : i.toNat < s.size := by omega
    have hg : s[i.toNat]? = some s[i.toNat] := getElem?_pos s i.toNat hlt
    have hb : byteAt s i.toNat = (s[i.toNat].toNat : Int) := by
      unfold byteAt
      rw [List.getD_eq_getElem?_getD, Array.getElem?_toList]
      have : s.data[i.toNat]? = some s[i.toNat] := by
        rw [Array.getElem?_eq_getElem (by simpa using hlt)]; rfl
      rw [this]; rfl
    simp only [Instr.index, asIntOf, Sem.run_bind, Sem.run_pure, Result.andThen_ok, run_underlying hTt.2.1, if_pos h0, hg, hb]
  · exact h.elim
theorem extA_get {big : Bool} {a b : AV} {K : AV → Prop} (h : extA big a b K) : ∃ k m n, a = .v (.int k m) ∧ b = .v (.int k n) ∧ K (.v (.int k (if big then max m n else min m n))) := by
  unfold extA at h
  split at h
  · rename_i k m k' n
    obtain ⟨hk, h2⟩ := cond_false_elim h
    obtain rfl := kindEq_eq hk
    refine ⟨k, m, n, rfl, rfl, ?_⟩
    cases big <;> exact h2
  · exact h.elim
theorem maxA_sound {tys : Array TypeId} {ty : TypeId} {a b : AV} {x y : Value} {K : AV → Prop} (h : extA true a b K) (hv : VR β H.length S w a x) (hy : VR β H.length S w b y) :
    ∃ v u, K v ∧ VR β H.length S w v u ∧ ∀ w', (Builtin.max_ tys ty #[x, y]).run P w' = .ok u w' := by
  obtain ⟨k, m, n, rfl, rfl, h2⟩ := extA_get h
  refine ⟨_, _, h2, .v _ rfl, fun w' => ?_⟩
  rw [hv.v_inv.1, hy.v_inv.1]
  have : (if n > m then n else m) = max m n := by rw [Int.max_def]; split <;> split <;> omega
  simp [Builtin.max_, Builtin.max2, this]
theorem minA_sound {tys : Array TypeId} {ty : TypeId} {a b : AV} {x y : Value} {K : AV → Prop} (h : extA false a b K) (hv : VR β H.length S w a x) (hy : VR β H.length S w b y) :
    ∃ v u, K v ∧ VR β H.length S w v u ∧ ∀ w', (Builtin.min_ tys ty #[x, y]).run P w' = .ok u w' := by
  obtain ⟨k, m, n, rfl, rfl, h2⟩ := extA_get h
  refine ⟨_, _, h2, .v _ rfl, fun w' => ?_⟩
  rw [hv.v_inv.1, hy.v_inv.1]
  have : (if n < m then n else m) = min m n := by rw [Int.min_def]; split <;> split <;> omega
  simp [Builtin.min_, Builtin.min2, this]
theorem sliceP_desc {t : TypeId} {x : Nat × Nat × Option Value} (h : sliceP P t = some x) : ∃ e, P.underlying t = some (.slice e) := by
  unfold sliceP at h
  split at h
  · rename_i e he; exact ⟨e, he⟩
  · cases h
theorem VR.nilsl_inv {n : Nat} {y : Value} (h : VR β n S w .nilsl y) : y = .slice none 0 0 := by cases h; rfl
theorem run_equalIn_slice {t e : TypeId} (he : P.underlying t = some (.slice e)) (a : Option Addr) (l c d : Nat) (w' : World) : (Op.equalIn (d + 1) t (.slice a l c) (.slice none 0 0)).run P w' = .ok a.isNone w' := by
  cases a <;> simp [Op.equalIn, run_underlying he]
theorem nilEq_sound {n : Nat} {X : AV} {A : Value} {K : Bool → Prop} (h : nilEq X K) (hv : VR β n S w X A) : ∃ a l c, A = .slice a l c ∧ K a.isNone := by
  cases X with
  | nilsl => cases hv; exact ⟨_, _, _, rfl, h⟩
  | sl k sz len =>
    obtain ⟨h1, h2⟩ := h
    cases hv with
    | sl => exact ⟨_, _, _, rfl, h2⟩
    | sl0 _ _ a =>
      cases a with
      | none => exact ⟨_, _, _, rfl, h1 rfl⟩
      | some a => exact ⟨_, _, _, rfl, h2⟩
  | ro d =>
    simp only [nilEq, lenD_eq] at h
    obtain ⟨h1, h2⟩ := h
    cases hv with
    | ro _ _ hs =>
      obtain ⟨a, cap, rfl, _, _, h3⟩ := hs
      cases a with
      | none =>
        refine ⟨_, _, _, rfl, h1 ?_⟩
        rcases Nat.eq_zero_or_pos d.len with h4 | h4
        · exact h4
        · obtain ⟨b, off, h5, _⟩ := h3 h4
          cases h5
      | some a => exact ⟨_, _, _, rfl, h2⟩
  | _ => exact False.elim h
theorem nilA_sound (hT : TabOK P T) {n : Nat} {t : TypeId} {op : BinOp} {X : AV} {A : Value} {K : Value → Prop} (h : nilA (T t) op X K) (hv : VR β n S w X A) (x y : Operand) :
    ∃ r, scal r = true ∧ K r ∧ ∀ w', ((do eqGuard op t x y A (.slice none 0 0); binOp op t A (.slice none 0 0)) : Sem Value).run P w' = .ok r w' := by
  unfold nilA at h
  have hTt := hT t
  split at h
  · rename_i d sz bytes htd
    rw [htd] at hTt
    obtain ⟨e, he⟩ := sliceP_desc hTt.2.1
    have heq : ∀ (a : Option Addr) (l c : Nat) (w' : World), (Op.equal t (.slice a l c) (.slice none 0 0)).run P w' = .ok a.isNone w' := fun a l c w' => by
      unfold Op.equal
      rw [show Op.maxDepth = 9999 + 1 from rfl]
      exact run_equalIn_slice he a l c 9999 w'
    split at h
    · obtain ⟨a, l, c, rfl, hk⟩ := nilEq_sound h hv
      refine ⟨_, rfl, hk, fun w' => ?_⟩
      have hg : (eqGuard .eql t x y (.slice a l c) (.slice none 0 0)).run P w' = .ok () w' := by unfold eqGuard; rfl
      simp [hg, binOp, heq]
    · obtain ⟨a, l, c, rfl, hk⟩ := nilEq_sound h hv
      refine ⟨_, rfl, hk, fun w' => ?_⟩
      have hg : (eqGuard .neq t x y (.slice a l c) (.slice none 0 0)).run P w' = .ok () w' := by unfold eqGuard; rfl
      simp [hg, binOp, heq]
    · exact h.elim
  · exact h.elim
theorem run_equalIn_iface {P : Program} {t : TypeId} {ms : Array (String × TypeId)} (ht : P.underlying t = some (.interface ms)) (te : TypeId) (p : Value) (d : Nat) (w' : World) :
    (Op.equalIn (d + 1) t (.iface te p) .nilIface).run P w' = .ok false w' ∧ (Op.equalIn (d + 1) t .nilIface .nilIface).run P w' = .ok true w' := by
  constructor <;> simp [Op.equalIn, run_underlying ht]
theorem ifcA_sound (hT : TabOK P T) {n : Nat} {t : TypeId} {op : BinOp} {X : AV} {A : Value} {K : Value → Prop} (h : ifcA (T t) op X K) (hv : VR β n S w X A) (x : Operand) :
    ∃ r, scal r = true ∧ K r ∧ ∀ w', ((do eqGuard op t x (.const .nilIface) A .nilIface; binOp op t A .nilIface) : Sem Value).run P w' = .ok r w' := by
  unfold ifcA at h
  have hTt := hT t
  split at h
  · rename_i htd
    rw [htd] at hTt
    obtain ⟨ms, hms⟩ := hTt.2.1
    have h1 : ∀ (te : TypeId) (p : Value) (w' : World), (Op.equal t (.iface te p) .nilIface).run P w' = .ok false w' := fun te p w' => by
      unfold Op.equal
      rw [show Op.maxDepth = 9999 + 1 from rfl]
      exact (run_equalIn_iface hms te p 9999 w').1
    have h2 : ∀ (w' : World), (Op.equal t .nilIface .nilIface).run P w' = .ok true w' := fun w' => by
      unfold Op.equal
      rw [show Op.maxDepth = 9999 + 1 from rfl]
      exact (run_equalIn_iface hms 0 .nilIface 9999 w').2
    split at h
    · cases hv with
      | ifc te p =>
        refine ⟨_, rfl, h, fun w' => ?_⟩
        have hg : (eqGuard .eql t x (.const .nilIface) (.iface te p) .nilIface).run P w' = .ok () w' := by unfold eqGuard; rfl
        simp [hg, binOp, h1]
    · cases hv with
      | ifc te p =>
        refine ⟨_, rfl, h, fun w' => ?_⟩
        have hg : (eqGuard .neq t x (.const .nilIface) (.iface te p) .nilIface).run P w' = .ok () w' := by unfold eqGuard; rfl
        simp [hg, binOp, h1]
    · have := hv.v_inv.1
      subst this
      refine ⟨_, rfl, h, fun w' => ?_⟩
      have hg : (eqGuard .eql t x (.const .nilIface) .nilIface .nilIface).run P w' = .ok () w' := by unfold eqGuard; simp
      simp [hg, binOp, h2]
    · have := hv.v_inv.1
      subst this
      refine ⟨_, rfl, h, fun w' => ?_⟩
      have hg : (eqGuard .neq t x (.const .nilIface) .nilIface .nilIface).run P w' = .ok () w' := by unfold eqGuard; simp
      simp [hg, binOp, h2]
    · exact h.elim
  · exact h.elim
/-! ### Structs compared -/
theorem i64s_cells {n : Nat} : ∀ {cs : List AV} {as : List Int} {vs : List Value}, i64s cs = some as → cs.length = vs.length → (∀ i c, cs[i]? = some c → VR β n S w c (vs.getD i undef)) → vs = as.map (Value.int .i64)
  | [], as, vs, h, hl, _ => by
    simp [i64s] at h
    subst h
    exact List.eq_nil_of_length_eq_zero hl.symm
  | c :: cs, as, vs, h, hl, hv => by
    unfold i64s at h
    split at h
    · rename_i heq; cases heq
    · rename_i k r heq
      cases heq
      rw [Option.map_eq_some_iff] at h
      obtain ⟨bs, h1, rfl⟩ := h
      match vs, hl with
      | v :: vs, hl =>
        have h0 := (hv 0 _ rfl).v_inv.1
        simp only [List.getD_cons_zero] at h0
        have := i64s_cells h1 (by simpa using hl) (fun i c hc => by simpa using hv (i + 1) c (by simpa using hc))
        simp [h0, this]
    · cases h
theorem fieldsDeep_le {ok : TypeId → Nat → Bool} {P : Program} {n : Nat} : ∀ {fs : List Field} {o : Nat}, fieldsDeep ok P fs o n = true → o ≤ n
  | [], o, h => Nat.le_of_eq (Nat.eq_of_beq_eq_true h)
  | f :: fs, o, h => by
    simp only [fieldsDeep, Bool.and_eq_true] at h
    obtain ⟨_, h⟩ := h
    split at h
    · rename_i s _
      simp only [Bool.and_eq_true] at h
      have := fieldsDeep_le h.2
      omega
    · cases h
/-- The value of a type of one int64, or of a struct. -/
def deepV (P : Program) (t : TypeId) (as : List Int) : Value := match aggOf P t with
  | some true => .agg (as.map (Value.int .i64)).toArray
  | _ => .int .i64 (as.getD 0 0)
theorem run_part_deep' {P : Program} {w : World} {t : TypeId} {as : List Int} {o s : Nat} {b : Bool} (hg : aggOf P t = some b) (hs : sizeP P t = some s) (ho : o + s ≤ as.length) (h1 : b = false → s = 1) :
    (part t (as.map (Value.int .i64)).toArray o).run P w = .ok (deepV P t ((as.drop o).take s)) w := by
  cases b with
  | true =>
    rw [run_partN w hg hs]
    unfold deepV
    rw [hg]
    congr 2
    apply Array.ext'
    simp [List.map_take, List.map_drop]
  | false =>
    have := h1 rfl
    subst this
    have hc : (as.map (Value.int .i64)).toArray[o]? = some (.int .i64 as[o]) := by simp [show o < as.length by omega]
    rw [run_part1 w hg hc]
    unfold deepV
    rw [hg]
    simp [List.getD_eq_getElem?_getD, List.getElem?_drop, List.getElem?_eq_getElem (show o < as.length by omega)]
theorem run_deep {P : Program} : ∀ (k d : Nat) (w : World) (t : TypeId) (n : Nat) (as bs : List Int), eqDeep P k t n = true → as.length = n → bs.length = n → k ≤ d →
    (∃ b, aggOf P t = some b ∧ (b = false → n = 1)) ∧ (Op.equalIn d t (deepV P t as) (deepV P t bs)).run P w = .ok (decide (as = bs)) w
  | 0, _, _, _, _, _, _, h, _, _, _ => by simp [eqDeep] at h
  | k + 1, d, w, t, n, as, bs, h, ha, hb, hd => by
    obtain ⟨d, rfl⟩ : ∃ d', d = d' + 1 := ⟨d - 1, by omega⟩
    unfold eqDeep at h
    split at h
    · rename_i hu
      have hn := Nat.eq_of_beq_eq_true h
      subst hn
      have hag : aggOf P t = some false := by simp [aggOf, hu, descAgg]
      refine ⟨⟨false, hag, fun _ => rfl⟩, ?_⟩
      unfold deepV
      rw [hag]
      show (Op.equalIn (d + 1) t (.int .i64 (as.getD 0 0)) (.int .i64 (bs.getD 0 0))).run P w = _
      rw [run_equalIn_int w d t .i64 .i64 _ _ hu]
      match as, ha, bs, hb with
      | [x], _, [y], _ =>
        have : (x == y) = decide (x = y) := by by_cases hxy : x = y <;> simp [hxy]
        simp [this]
    · rename_i fs hu
      simp only [Bool.and_eq_true, Bool.not_eq_true'] at h
      obtain ⟨hst, hf⟩ := h
      have hag : aggOf P t = some true := by simp [aggOf, hu, descAgg]
      refine ⟨⟨true, hag, fun e => by cases e⟩, ?_⟩
      have hfo : P.fieldsOf t = fs := by simp [Program.fieldsOf, hu]
      have go : ∀ (l : List Field) (o : Nat) (w : World), fieldsDeep (eqDeep P k) P l o n = true → (Op.eqFields d (as.map (Value.int .i64)).toArray (bs.map (Value.int .i64)).toArray l).run P w = .ok (decide (as.drop o = bs.drop o)) w := by
        intro l
        induction l with
        | nil =>
          intro o w hl
          have := Nat.eq_of_beq_eq_true hl
          subst this
          rw [List.drop_of_length_le (by omega), List.drop_of_length_le (by omega)]
          simp [Op.eqFields]
        | cons f l ih =>
          intro o w hl
          simp only [fieldsDeep, Bool.and_eq_true, decide_eq_true_eq] at hl
          obtain ⟨⟨hn, hof⟩, hl⟩ := hl
          have hof := Nat.eq_of_beq_eq_true hof
          split at hl
          · rename_i s hs
            simp only [Bool.and_eq_true] at hl
            obtain ⟨hd1, hl⟩ := hl
            have hle := fieldsDeep_le hl
            have hla : ((as.drop o).take s).length = s := by rw [List.length_take, List.length_drop]; omega
            have hlb : ((bs.drop o).take s).length = s := by rw [List.length_take, List.length_drop]; omega
            obtain ⟨⟨b, hg, hb1⟩, heq⟩ := run_deep k d w f.type s _ _ hd1 hla hlb (by omega)
            have p1 := run_part_deep' (w := w) (as := as) (o := o) hg hs (by omega) hb1
            have p2 := run_part_deep' (w := w) (as := bs) (o := o) hg hs (by omega) hb1
            simp only [Op.eqFields, hn, ne_eq, not_false_eq_true, if_true, Sem.run_bind, hof, p1, p2, Result.andThen_ok, heq]
            have hiff : (as.drop o = bs.drop o) ↔ ((as.drop o).take s = (bs.drop o).take s ∧ as.drop (o + s) = bs.drop (o + s)) := by
              rw [← List.drop_drop, ← List.drop_drop]
              refine ⟨fun e => by rw [e]; exact ⟨rfl, rfl⟩, fun e => ?_⟩
              rw [← List.take_append_drop s (as.drop o), ← List.take_append_drop s (bs.drop o), e.1, e.2]
            by_cases he : (as.drop o).take s = (bs.drop o).take s
            · have h3 : decide (as.drop o = bs.drop o) = decide (as.drop (o + s) = bs.drop (o + s)) := decide_eq_decide.2 (hiff.trans ⟨fun h => h.2, fun h => ⟨he, h⟩⟩)
              rw [h3, decide_eq_true he]
              simpa using ih (o + s) w hl
            · rw [show decide (as.drop o = bs.drop o) = false from decide_eq_false fun h => he (hiff.1 h).1, decide_eq_false he]
              simp
          · cases hl
      unfold deepV
      rw [hag]
      show (Op.equalIn (d + 1) t (.agg _) (.agg _)).run P w = _
      rw [run_equalIn_struct w d t _ _ (by rw [hfo]; exact hu) hst, hfo]
      have := go fs.toList 0 w hf
      simpa using this
    · cases h
theorem cellsEqA_sound (hT : TabOK P T) {n : Nat} {t : TypeId} {op : BinOp} {xs ys : List AV} {A B : Value} {K : Value → Prop} (h : cellsEqA (T t) op xs ys K) (hA : VR β n S w (.agg xs) A) (hB : VR β n S w (.agg ys) B) (x y : Operand) :
    ∃ r, scal r = true ∧ K r ∧ ∀ w', ((do eqGuard op t x y A B; binOp op t A B) : Sem Value).run P w' = .ok r w' := by
  unfold cellsEqA at h
  have hTt := hT t
  split at h
  · rename_i c offs zero htd
    rw [htd] at hTt
    rw [req_iff] at h
    obtain ⟨hflat, h⟩ := h
    have hp := hTt.2.2.2 hflat
    split at h
    · rename_i as bs has hbs
      simp only [req_iff, Bool.and_eq_true] at h
      obtain ⟨⟨hla, hlb⟩, h⟩ := h
      have hla := Nat.eq_of_beq_eq_true hla
      have hlb := Nat.eq_of_beq_eq_true hlb
      obtain ⟨vs, rfl, hl1, hv1⟩ := hA.agg_inv
      obtain ⟨us, rfl, hl2, hv2⟩ := hB.agg_inv
      have e1 : vs = (as.map (Value.int .i64)).toArray := by
        have := i64s_cells (vs := vs.toList) has (by simpa using hl1) (fun i c hc => by simpa [Array.getD_eq_getD_getElem?, List.getD_eq_getElem?_getD] using hv1 i c hc)
        rw [← this]
      have e2 : us = (bs.map (Value.int .i64)).toArray := by
        have := i64s_cells (vs := us.toList) hbs (by simpa using hl2) (fun i c hc => by simpa [Array.getD_eq_getD_getElem?, List.getD_eq_getElem?_getD] using hv2 i c hc)
        rw [← this]
      subst e1 e2
      unfold eqIntsP at hp
      simp only [Bool.and_eq_true, Bool.not_eq_true'] at hp
      obtain ⟨⟨hp1, hp2⟩, hp3⟩ := hp
      have heq : ∀ w', (Op.equal t (.agg (as.map (Value.int .i64)).toArray) (.agg (bs.map (Value.int .i64)).toArray)).run P w' = .ok (decide (as = bs)) w' := fun w' => by
        have h1 := (run_deep 6 Op.maxDepth w' t c as bs hp1 hla hlb (by decide)).2
        split at hp2
        · rename_i fs hu
          have hag : aggOf P t = some true := by simp [aggOf, hu, descAgg]
          unfold deepV at h1
          rw [hag] at h1
          exact h1
        · cases hp2
      split at h
      · refine ⟨_, rfl, boolK_get' h (b := decide (as = bs)) (by simp), fun w' => ?_⟩
        simp [run_eqGuard_agg w' .eql t x y _ _ hp3, binOp, heq]
      · refine ⟨_, rfl, boolK_get' h (b := !decide (as = bs)) (by simp), fun w' => ?_⟩
        simp [run_eqGuard_agg w' .neq t x y _ _ hp3, binOp, heq]
      · exact h.elim
    · exact h.elim
  · exact h.elim
end
end Go.AE
