/-
  More of the operations that only read: conversions, bytes of a string, the greater and the lesser. No conditions.
-/
import Derived.Test.YtflgpapdbaapdaaAeOps7
import Derived.Laws.BytesString
import Derived.Laws.Cells
namespace Go.AE

section
variable {P : Program} {G : Nat → Option D} {T : TypeId → TD} {β : Nat → Option Nat} {S : Nat → Prop} {H : List Blk} {w : World}
theorem underlying_some (hT : TabOK P T) {t : TypeId} (h : (T t).ok = true) : ∃ d, P.underlying t = some d := by
  have := ((hT t).1 h).1
  unfold aggOf at this
  rw [Option.map_eq_some_iff] at this
  obtain ⟨d, hd, _⟩ := this
  exact ⟨d, hd⟩
theorem run_bytes_of {w' : World} {a : Option Addr} {xs : List Int} {c : Nat} (hpos : 0 < xs.length → ∃ b off, a = some ⟨b, off, none⟩ ∧ ∀ i, i < xs.length → w'.cell? ⟨b, off + i, none⟩ = some (.int .u8 (xs.getD i 0))) :
    (Conv.bytesToString (.slice a xs.length c)).run P w' = .ok (.string (bytesOf xs)) w' := by
  cases a with
  | none =>
    have h0 : xs = [] := by
      cases xs with
      | nil => rfl
      | cons x r => obtain ⟨b, off, h, _⟩ := hpos (by simp); cases h
    subst h0
    rfl
  | some a =>
    refine run_bytesToString w' a _ c xs ?_
    have := run_loadCells_list (P := P) w' a (xs.map (Value.int .u8)) fun j v hj => ?_
    · simpa using this
    · rw [List.getElem?_map, Option.map_eq_some_iff] at hj
      obtain ⟨y, hy, rfl⟩ := hj
      have hlt := lt_of_get hy
      obtain ⟨b, off, h1, h2⟩ := hpos (by omega)
      cases h1
      rw [Addr.add_lit, h2 j hlt, List.getD_eq_getElem?_getD, hy]
      rfl
theorem convA_sound (hT : TabOK P T) {src dt : TypeId} {a : AV} {x : Value} {K : AV → Prop} (hsok : (T src).ok = true) (h : convA (T src) (T dt) a H K) (hr : Rel G β S H w) (hv : VR β H.length S w a x) :
    ∃ v u, K v ∧ VR β H.length S w v u ∧ ∀ w', Evo w w' (fun _ => False) → (convert src dt x).run P w' = .ok u w' := by
  have hTt := hT dt
  have hTs := hT src
  obtain ⟨ds, hds⟩ := underlying_some hT hsok
  unfold convA at h
  split at h
  · rename_i k k' m htd
    rw [htd] at hTt
    refine ⟨_, _, arithK_get h, .v _ rfl, fun w' _ => ?_⟩
    rw [hv.v_inv.1]
    simp only [convert, Sem.run_bind, run_underlying hds, run_underlying hTt.2.1, Result.andThen_ok]
    cases ds <;> rfl
  · rename_i s htd
    rw [htd] at hTt
    refine ⟨_, _, h, hv, fun w' _ => ?_⟩
    rw [hv.v_inv.1]
    simp only [convert, Sem.run_bind, run_underlying hds, run_underlying hTt.2.1, Result.andThen_ok]
    cases ds <;> rfl
  · rename_i htd
    rw [htd] at hTt
    split at h
    · rename_i xs sz by' hts
      rw [hts] at hTs
      obtain ⟨_, hsl, hdz, hpos, hbpos, hz, hel⟩ := hTs
      obtain ⟨e, i, hu, hi, _⟩ := sliceP_info hsl
      have he : P.underlying e = some (.int .u8) := by simpa [elemT, elemP, hu] using hel
      refine ⟨_, _, h, .v _ rfl, fun w' _ => ?_⟩
      rw [hv.nil_inv, run_convert_bytes_string w' src dt e none 0 0 hu he hTt.2.1]
      rfl
    · exact h.elim
  · rename_i htd _ _
    rw [htd] at hTt
    split at h
    · rename_i xs sz by' hts
      rw [hts] at hTs
      obtain ⟨_, hsl, hdz, hpos, hbpos, hz, hel⟩ := hTs
      obtain ⟨e, i, hu, hi, _⟩ := sliceP_info hsl
      have he : P.underlying e = some (.int .u8) := by simpa [elemT, elemP, hu] using hel
      obtain ⟨dx, hk, hsz, ad, c, rfl, hc, hcells⟩ := dataK_sound hr (by decide) h hv
      unfold strA at hk
      split at hk
      · rename_i ys
        refine ⟨_, _, hk, .v _ rfl, fun w' he' => ?_⟩
        rw [run_convert_bytes_string w' src dt e ad _ c hu he hTt.2.1]
        refine run_bytes_of (c := c) fun hp => ?_
        obtain ⟨b, off, h1, us, h2, h3, h4⟩ := hcells hp
        refine ⟨b, off, h1, fun i hi => ?_⟩
        have hlt : i < us.length := by simp [D.len] at h2; omega
        have hcell := h3 i _ (List.getElem?_eq_getElem hlt)
        rw [World.cell?_of_block (w := w) (he'.keep b (World.block_lt_of_cell? w _ hcell) id), hcell]
        have := h4 i hi 0 (by decide)
        rw [List.getD_eq_getElem?_getD, show i * 1 + 0 = i by omega, List.getElem?_eq_getElem hlt] at this
        simpa [cellR, D.cv] using this
      · exact hk.elim
    · exact h.elim
  · exact h.elim
theorem indexA_sound (hT : TabOK P T) {t : TypeId} {a b : AV} {x y : Value} {K : AV → Prop} (h : indexA (T t) a b K) (hv : VR β H.length S w a x) (hy : VR β H.length S w b y) :
    ∃ v u, K v ∧ VR β H.length S w v u ∧ ∀ w', (Instr.index t x y).run P w' = .ok u w' := by
  have hTt := hT t
  unfold indexA at h
  split at h
  · rename_i s k i htd
    rw [htd] at hTt
    obtain ⟨⟨h0, h1⟩, h⟩ := h
    refine ⟨_, _, h, .v _ rfl, fun w' => ?_⟩
    rw [hv.v_inv.1, hy.v_inv.1]
    have hlt : i.toNat < s.size := by omega
    have hg : s[i.toNat]? = some s[i.toNat] := getElem?_pos s i.toNat hlt
    have hb : byteAt s i.toNat = (s[i.toNat].toNat : Int) := by
      unfold byteAt
      rw [List.getD_eq_getElem?_getD, Array.getElem?_toList]
      have : s.data[i.toNat]? = some s[i.toNat] := by
        rw [Array.getElem?_eq_getElem (by simpa using hlt)]; rfl
      rw [this]; rfl
    simp only [Instr.index, asIntOf, Sem.run_bind, Sem.run_pure, Result.andThen_ok, run_underlying hTt.2.1, if_pos h0, hg, hb]
  · exact h.elim
theorem extA_get {big : Bool} {a b : AV} {K : AV → Prop} (h : extA big a b K) : ∃ k m n, a = .v (.int k m) ∧ b = .v (.int k n) ∧ K (.v (.int k (if big then max m n else min m n))) := by
  unfold extA at h
  split at h
  · rename_i k m k' n
    obtain ⟨hk, h2⟩ := cond_false_elim h
    obtain rfl := kindEq_eq hk
    refine ⟨k, m, n, rfl, rfl, ?_⟩
    cases big <;> exact h2
  · exact h.elim
theorem maxA_sound {tys : Array TypeId} {ty : TypeId} {a b : AV} {x y : Value} {K : AV → Prop} (h : extA true a b K) (hv : VR β H.length S w a x) (hy : VR β H.length S w b y) :
    ∃ v u, K v ∧ VR β H.length S w v u ∧ ∀ w', (Builtin.max_ tys ty #[x, y]).run P w' = .ok u w' := by
  obtain ⟨k, m, n, rfl, rfl, h2⟩ := extA_get h
  refine ⟨_, _, h2, .v _ rfl, fun w' => ?_⟩
  rw [hv.v_inv.1, hy.v_inv.1]
  have : (if n > m then n else m) = max m n := by rw [Int.max_def]; split <;> split <;> omega
  simp [Builtin.max_, Builtin.max2, this]
theorem minA_sound {tys : Array TypeId} {ty : TypeId} {a b : AV} {x y : Value} {K : AV → Prop} (h : extA false a b K) (hv : VR β H.length S w a x) (hy : VR β H.length S w b y) :
    ∃ v u, K v ∧ VR β H.length S w v u ∧ ∀ w', (Builtin.min_ tys ty #[x, y]).run P w' = .ok u w' := by
  obtain ⟨k, m, n, rfl, rfl, h2⟩ := extA_get h
  refine ⟨_, _, h2, .v _ rfl, fun w' => ?_⟩
  rw [hv.v_inv.1, hy.v_inv.1]
  have : (if n < m then n else m) = min m n := by rw [Int.min_def]; split <;> split <;> omega
  simp [Builtin.min_, Builtin.min2, this]
theorem sliceP_desc {t : TypeId} {x : Nat × Nat × Option Value} (h : sliceP P t = some x) : ∃ e, P.underlying t = some (.slice e) := by
  unfold sliceP at h
  split at h
  · rename_i e he; exact ⟨e, he⟩
  · cases h
theorem VR.nilsl_inv {n : Nat} {y : Value} (h : VR β n S w .nilsl y) : y = .slice none 0 0 := by cases h; rfl
theorem run_equalIn_slice {t e : TypeId} (he : P.underlying t = some (.slice e)) (a : Option Addr) (l c d : Nat) (w' : World) : (Op.equalIn (d + 1) t (.slice a l c) (.slice none 0 0)).run P w' = .ok a.isNone w' := by
  cases a <;> simp [Op.equalIn, run_underlying he]
theorem nilEq_sound {n : Nat} {X : AV} {A : Value} {K : Bool → Prop} (h : nilEq X K) (hv : VR β n S w X A) : ∃ a l c, A = .slice a l c ∧ K a.isNone := by
  cases X with
  | nilsl => cases hv; exact ⟨_, _, _, rfl, h⟩
  | sl k sz len =>
    obtain ⟨h1, h2⟩ := h
    cases hv with
    | sl => exact ⟨_, _, _, rfl, h2⟩
    | sl0 _ _ a =>
      cases a with
      | none => exact ⟨_, _, _, rfl, h1 rfl⟩
      | some a => exact ⟨_, _, _, rfl, h2⟩
  | ro d =>
    simp only [nilEq, lenD_eq] at h
    obtain ⟨h1, h2⟩ := h
    cases hv with
    | ro _ _ hs =>
      obtain ⟨a, cap, rfl, _, _, h3⟩ := hs
      cases a with
      | none =>
        refine ⟨_, _, _, rfl, h1 ?_⟩
        rcases Nat.eq_zero_or_pos d.len with h4 | h4
        · exact h4
        · obtain ⟨b, off, h5, _⟩ := h3 h4
          cases h5
      | some a => exact ⟨_, _, _, rfl, h2⟩
  | _ => exact False.elim h
theorem nilA_sound (hT : TabOK P T) {n : Nat} {t : TypeId} {op : BinOp} {X : AV} {A : Value} {K : Value → Prop} (h : nilA (T t) op X K) (hv : VR β n S w X A) (x y : Operand) :
    ∃ r, scal r = true ∧ K r ∧ ∀ w', ((do eqGuard op t x y A (.slice none 0 0); binOp op t A (.slice none 0 0)) : Sem Value).run P w' = .ok r w' := by
  unfold nilA at h
  have hTt := hT t
  split at h
  · rename_i d sz bytes htd
    rw [htd] at hTt
    obtain ⟨e, he⟩ := sliceP_desc hTt.2.1
    have heq : ∀ (a : Option Addr) (l c : Nat) (w' : World), (Op.equal t (.slice a l c) (.slice none 0 0)).run P w' = .ok a.isNone w' := fun a l c w' => by
      unfold Op.equal
      rw [show Op.maxDepth = 9999 + 1 from rfl]
      exact run_equalIn_slice he a l c 9999 w'
    split at h
    · obtain ⟨a, l, c, rfl, hk⟩ := nilEq_sound h hv
      refine ⟨_, rfl, hk, fun w' => ?_⟩
      have hg : (eqGuard .eql t x y (.slice a l c) (.slice none 0 0)).run P w' = .ok () w' := by unfold eqGuard; rfl
      simp [hg, binOp, heq]
    · obtain ⟨a, l, c, rfl, hk⟩ := nilEq_sound h hv
      refine ⟨_, rfl, hk, fun w' => ?_⟩
      have hg : (eqGuard .neq t x y (.slice a l c) (.slice none 0 0)).run P w' = .ok () w' := by unfold eqGuard; rfl
      simp [hg, binOp, heq]
    · exact h.elim
  · exact h.elim
end
end Go.AE
