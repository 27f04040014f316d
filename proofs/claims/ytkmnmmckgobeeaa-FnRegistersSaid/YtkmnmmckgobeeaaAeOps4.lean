/-
  Slices, literals, makes and appends of the abstract evaluator. No conditions.
-/
import Derived.Test.YtkmnmmckgobeeaaAeOps3
namespace Go.AE

section
variable {P : Program} {G : Nat → Option D} {T : TypeId → TD} {C : Ctx} {β : Nat → Option Nat} {S : Nat → Prop} {H : List Blk} {w : World}

theorem sliceP_info {t : TypeId} {sz bytes : Nat} {z : Option Value} (h : sliceP P t = some (sz, bytes, z)) : ∃ e i, P.underlying t = some (.slice e) ∧ P.info? e = some i ∧ i.size = sz ∧ i.bytes = bytes ∧ i.zero = z := by
  unfold sliceP at h
  split at h
  · rename_i e hu
    rw [Option.map_eq_some_iff] at h
    obtain ⟨i, h1, h2⟩ := h
    simp only [Prod.mk.injEq] at h2
    exact ⟨e, i, hu, h1, h2.1, h2.2.1, h2.2.2⟩
  · cases h
theorem arrayP_info {t : TypeId} {n sz : Nat} (h : arrayP P t = some (n, sz)) : ∃ e i, P.underlying t = some (.array n e) ∧ P.info? e = some i ∧ i.size = sz := by
  unfold arrayP at h
  split at h
  · rename_i m e hu
    rw [Option.map_eq_some_iff] at h
    obtain ⟨i, h1, h2⟩ := h
    simp only [Prod.mk.injEq] at h2
    obtain ⟨rfl, h2⟩ := h2
    exact ⟨e, i, hu, h1, h2⟩
  · cases h
theorem run_indexAt_slice {t e : TypeId} {i : TypeInfo} (hu : P.underlying t = some (.slice e)) (hi : P.info? e = some i) (b o len cap : Nat) (k : IntKind) (n : Int) (h0 : 0 ≤ n) (h1 : n < len) :
    (Instr.indexAt t (.slice (some ⟨b, o, none⟩) len cap) (.int k n)).run P w = .ok (.pointer (some ⟨b, o + n.toNat * i.size, none⟩)) w := by
  simp [Instr.indexAt, asIntOf, run_underlying hu, sizeOf, typeInfo, hi, h0, h1, Addr.add_lit]
theorem indexAddrA_sound (hT : TabOK P T) (hr : Rel G β S H w) {t : TypeId} {a ix : AV} {x y : Value} {K : AV → Prop} (h : indexAddrA G (T t) a ix K) (hv : VR β H.length S w a x) (hy : VR β H.length S w ix y) :
    ∃ v u, K v ∧ VR β H.length S w v u ∧ ∀ w', (Instr.indexAt t x y).run P w' = .ok u w' := by
  have hTt := hT t
  unfold indexAddrA at h
  simp only [lenD_eq] at h
  split at h
  · rename_i d0 sz bytes k sz' len ki n htd
    rw [htd] at hTt
    obtain ⟨_, hsl, _⟩ := hTt
    obtain ⟨e, i, hu, hi, hsz, _, _⟩ := sliceP_info hsl
    rw [req_iff] at h
    obtain ⟨hz, ⟨h0, h1⟩, h⟩ := h
    have hz := Nat.eq_of_beq_eq_true hz
    subst hz
    obtain rfl := hy.v_inv.1
    rcases hv.sl_inv with ⟨rfl, _⟩ | ⟨r, cap, arr, e', hk, hβ, hc, hm, hh, hs, rfl⟩
    · omega
    · refine ⟨_, _, h, .eptr k sz n.toNat 0 r hk hβ, fun w' => ?_⟩
      rw [run_indexAt_slice hu hi r 0 len cap ki n h0 h1, hsz]
      simp
  · rename_i d0 sz bytes k sz' lo len ki n htd
    rw [htd] at hTt
    obtain ⟨_, hsl, _⟩ := hTt
    obtain ⟨e, i, hu, hi, hsz, _, _⟩ := sliceP_info hsl
    rw [req_iff] at h
    obtain ⟨hz, ⟨h0, h1⟩, h⟩ := h
    have hz := Nat.eq_of_beq_eq_true hz
    subst hz
    obtain rfl := hy.v_inv.1
    rcases hv.sub_inv with ⟨rfl, _⟩ | ⟨r, cap, arr, e', hk, hβ, hc, hm, hh, hs, rfl⟩
    · omega
    · refine ⟨_, _, h, .eptr k sz (lo + n.toNat) 0 r hk hβ, fun w' => ?_⟩
      rw [run_indexAt_slice hu hi r (lo * sz) len cap ki n h0 h1, hsz]
      simp [Nat.add_mul]
  · rename_i d0 sz bytes d ki n htd
    rw [htd] at hTt
    obtain ⟨_, hsl, _⟩ := hTt
    obtain ⟨e, i, hu, hi, hsz, _, _⟩ := sliceP_info hsl
    rw [req_iff] at h
    obtain ⟨hz, ⟨h0, h1⟩, h⟩ := h
    have hz := Nat.eq_of_beq_eq_true hz
    subst hz
    obtain rfl := hy.v_inv.1
    obtain ⟨a, cap, rfl, hc, hm, hpos⟩ := hv.ro_inv
    obtain ⟨b, off, rfl, hS, hd⟩ := hpos (by omega)
    refine ⟨_, _, h, .rop d n.toNat 0 b off hS hd, fun w' => ?_⟩
    rw [run_indexAt_slice hu hi b off d.len cap ki n h0 h1, hsz]
    simp
  · rename_i m sz g ki n htd
    rw [htd] at hTt
    obtain ⟨_, harr⟩ := hTt
    obtain ⟨e, i, hu, hi, hsz⟩ := arrayP_info harr
    split at h
    · rename_i d hg
      simp only [req_iff, Bool.and_eq_true] at h
      obtain ⟨⟨hz, hn⟩, ⟨h0, h1⟩, h⟩ := h
      have hz := Nat.eq_of_beq_eq_true hz
      have hn := Nat.eq_of_beq_eq_true hn
      subst hz
      subst hn
      obtain rfl := hy.v_inv.1
      obtain rfl := hv.gl_inv
      obtain ⟨hS, hd, _⟩ := hr.glob g d hg
      refine ⟨_, _, h, .rop d n.toNat 0 g 0 hS hd, fun w' => ?_⟩
      simp [Instr.indexAt, Instr.sureAddr, asIntOf, run_underlying hu, sizeOf, typeInfo, hi, h0, h1, Addr.add_lit, hsz]
    · exact h.elim
  · exact h.elim
theorem lenA_sound (hT : TabOK P T) {t : TypeId} {ty : TypeId} {a : AV} {x : Value} {K : AV → Prop} (h : lenA (T t) a K) (hv : VR β H.length S w a x) :
    ∃ v u, K v ∧ VR β H.length S w v u ∧ ∀ w', (Builtin.len_ #[t] ty #[x]).run P w' = .ok u w' := by
  have hTt := hT t
  have fin : ∀ (a' : Option Addr) (n c : Nat) (d0 : D) (sz bytes : Nat), T t = .slice d0 sz bytes → x = .slice a' n c → ∀ w', (Builtin.len_ #[t] ty #[x]).run P w' = .ok (.int .i64 n) w' := fun a' n c d0 sz bytes htd hx w' => by
    rw [htd] at hTt
    obtain ⟨e, i, hu, _⟩ := sliceP_info hTt.2.1
    subst hx
    simp [Builtin.len_, run_underlying hu, goInt]
  unfold lenA at h
  simp only [lenD_eq] at h
  split at h
  · rename_i d0 sz' bytes k sz len htd
    rcases hv.sl_inv with ⟨rfl, a, rfl⟩ | ⟨r, cap, arr, e', hk, hβ, hc, hm, hh, hz, rfl⟩
    · exact ⟨_, _, h, .v _ rfl, fin _ _ _ _ _ _ htd rfl⟩
    · exact ⟨_, _, h, .v _ rfl, fin _ _ _ _ _ _ htd rfl⟩
  · rename_i d0 sz' bytes k sz lo len htd
    rcases hv.sub_inv with ⟨rfl, a, rfl⟩ | ⟨r, cap, arr, e', hk, hβ, hc, hm, hh, hz, rfl⟩
    · exact ⟨_, _, h, .v _ rfl, fin _ _ _ _ _ _ htd rfl⟩
    · exact ⟨_, _, h, .v _ rfl, fin _ _ _ _ _ _ htd rfl⟩
  · rename_i d0 sz' bytes d htd
    obtain ⟨a, cap, rfl, _⟩ := hv.ro_inv
    exact ⟨_, _, h, .v _ rfl, fin _ _ _ _ _ _ htd rfl⟩
  · rename_i d0 sz' bytes htd
    obtain rfl := hv.nil_inv
    exact ⟨_, _, h, .v _ rfl, fin _ _ _ _ _ _ htd rfl⟩
  · rename_i s htd
    rw [htd] at hTt
    obtain rfl := hv.v_inv.1
    exact ⟨_, _, h, .v _ rfl, fun w' => by simp [Builtin.len_, run_underlying hTt.2.1, goInt]⟩
  · exact h.elim

/-! ### Slices -/
theorem D.sub_sz (d : D) (lo n : Nat) : (d.sub lo n).sz = d.sz := by cases d <;> rfl
theorem D.sub_len (d : D) (lo n : Nat) (h : lo + n ≤ d.len) : (d.sub lo n).len = n := by cases d <;> simp only [D.len] at h <;> simp [D.sub, D.len] <;> omega
theorem getD_sub {α : Type} (xs : List α) (x0 : α) (lo n i : Nat) (hi : i < n) : ((xs.drop lo).take n).getD i x0 = xs.getD (lo + i) x0 := by
  rw [List.getD_eq_getElem?_getD, List.getD_eq_getElem?_getD, List.getElem?_take_of_lt hi, List.getElem?_drop]
theorem cellR_sub {d : D} {lo n i j : Nat} {u : Value} (hi : i < n) : cellR S w (d.sub lo n) i j u ↔ cellR S w d (lo + i) j u := by
  cases d <;> simp only [D.sub, cellR, D.cv, getD_sub _ _ _ _ _ hi]
theorem DataAt.sub {d : D} {b off lo n : Nat} (h : DataAt S w d b off) (hn : lo + n ≤ d.len) : DataAt S w (d.sub lo n) b (off + lo * d.sz) := by
  intro i hi j hj
  rw [D.sub_len d lo n hn] at hi
  rw [D.sub_sz] at hj ⊢
  obtain ⟨u, h1, h2⟩ := h (lo + i) (by omega) j hj
  exact ⟨u, by rw [← h1]; congr 2; rw [Nat.add_mul]; omega, (cellR_sub hi).2 h2⟩
/-- A bound, as the model gets it. -/
def BoundR (o : Option Value) (none_ n l : Nat) : Prop := (o = none ∧ l = none_) ∨ ∃ k i, o = some (.int k i) ∧ 0 ≤ i ∧ i ≤ n ∧ l = i.toNat
theorem lowA_get {lo : Option AV} {x : Option Value} {n : Nat} {K : Nat → Prop} (h : lowA lo n K) (hv : ∀ a, lo = some a → ∃ y, x = some y ∧ VR β H.length S w a y) (hn : lo = none → x = none) :
    ∃ l, K l ∧ BoundR x 0 n l ∧ l ≤ n := by
  unfold lowA at h
  split at h
  · exact ⟨0, h, .inl ⟨hn rfl, rfl⟩, Nat.zero_le _⟩
  · rename_i k l
    obtain ⟨⟨h0, h1⟩, h⟩ := h
    obtain ⟨y, rfl, hy⟩ := hv _ rfl
    obtain rfl := hy.v_inv.1
    exact ⟨_, h, .inr ⟨k, l, rfl, h0, h1, rfl⟩, by omega⟩
  · exact h.elim
theorem highA_get {hi : Option AV} {x : Option Value} {n : Nat} {K : Nat → Prop} (h : highA hi n K) (hv : ∀ a, hi = some a → ∃ y, x = some y ∧ VR β H.length S w a y) (hn : hi = none → x = none) :
    ∃ l, K l ∧ BoundR x n n l ∧ l ≤ n := by
  unfold highA at h
  split at h
  · exact ⟨n, h, .inl ⟨hn rfl, rfl⟩, Nat.le_refl _⟩
  · rename_i k l
    obtain ⟨⟨h0, h1⟩, h⟩ := h
    obtain ⟨y, rfl, hy⟩ := hv _ rfl
    obtain rfl := hy.v_inv.1
    exact ⟨_, h, .inr ⟨k, l, rfl, h0, h1, rfl⟩, by omega⟩
  · exact h.elim
theorem run_sliceBounds' {b : Bool} {len cap h l : Nat} {lo hi : Option Value} (hc : len ≤ cap) (hh : BoundR hi len len h) (hl : BoundR lo 0 h l) : (Instr.sliceBounds b len cap lo hi none).run P w = .ok (l, h, cap) w := by
  rcases hh with ⟨rfl, rfl⟩ | ⟨k, i, rfl, h0, h1, rfl⟩ <;> rcases hl with ⟨rfl, rfl⟩ | ⟨k', i', rfl, h0', h1', rfl⟩
  · simp [Instr.sliceBounds]
  · simp [Instr.sliceBounds, Instr.sliceBound, asIntOf, h0', h1']
  · have : i ≤ (cap : Int) := by omega
    simp [Instr.sliceBounds, Instr.sliceBound, asIntOf, h0, this]
  · have : i ≤ (cap : Int) := by omega
    have e : i' ≤ max i 0 := by omega
    simp [Instr.sliceBounds, Instr.sliceBound, asIntOf, h0, this, h0', e]
theorem run_slice_sl {t : TypeId} {e : TypeId} {i : TypeInfo} (hu : P.underlying t = some (.slice e)) (hi : P.info? e = some i) {a : Option Addr} {len cap h l : Nat} {lo hi' : Option Value} (hc : len ≤ cap)
    (hh : BoundR hi' len len h) (hl : BoundR lo 0 h l) :
    (Instr.sliceAt t (.slice a len cap) lo hi' none).run P w = .ok (.slice (if cap = l then a else a.map (·.add (l * i.size))) (h - l) (cap - l)) w := by
  simp [Instr.sliceAt, run_underlying hu, Instr.slice, run_sliceBounds' (P := P) (w := w) hc hh hl, sizeOf, typeInfo, hi]
theorem sliceA_sound (hT : TabOK P T) {t : TypeId} {a : AV} {x : Value} {lo hi : Option AV} {xl xh : Option Value} {K : AV → Prop} (h : sliceA (T t) a lo hi K) (hv : VR β H.length S w a x)
    (hl : ∀ a, lo = some a → ∃ y, xl = some y ∧ VR β H.length S w a y) (hln : lo = none → xl = none) (hh : ∀ a, hi = some a → ∃ y, xh = some y ∧ VR β H.length S w a y) (hhn : hi = none → xh = none) :
    ∃ v u, K v ∧ VR β H.length S w v u ∧ ∀ w', (Instr.sliceAt t x xl xh none).run P w' = .ok u w' := by
  have hTt := hT t
  unfold sliceA at h
  simp only [lenD_eq] at h
  split at h
  · rename_i d0 sz' bytes k sz len htd
    rw [htd] at hTt
    obtain ⟨e, i, hu, hi', hsz, _⟩ := sliceP_info hTt.2.1
    rw [req_iff] at h
    obtain ⟨hz, h⟩ := h
    obtain rfl := Nat.eq_of_beq_eq_true hz
    obtain ⟨h1, hK1, hb1, hle1⟩ := highA_get h hh hhn
    obtain ⟨l1, hK2, hb2, hle2⟩ := lowA_get hK1 hl hln
    rcases hv.sl_inv with ⟨rfl, a, rfl⟩ | ⟨r, cap, arr, e', hk, hβ, hc, hm, hhp, hzz, rfl⟩
    · have : h1 = 0 := by omega
      subst this
      have : l1 = 0 := by omega
      subst this
      refine ⟨_, _, hK2, .sub0 _ _ _ a, fun w' => ?_⟩
      rw [run_slice_sl hu hi' (Nat.le_refl 0) hb1 hb2]
      simp
    · refine ⟨_, _, hK2, ?_, fun w' => by rw [run_slice_sl hu hi' hc hb1 hb2, hsz]⟩
      by_cases hcl : cap = l1
      · have : h1 - l1 = 0 := by omega
        rw [if_pos hcl, this, show cap - l1 = 0 by omega]
        exact .sub0 _ _ _ _
      · rw [if_neg hcl]
        simp only [Option.map_some, Addr.add_lit, Nat.zero_add]
        exact .sub k sz' l1 (h1 - l1) r (cap - l1) hk hβ (by omega) (by omega) arr e' hhp (by rw [show l1 + (cap - l1) = cap by omega]; exact hzz)
  · rename_i d0 sz' bytes k sz lo0 len htd
    rw [htd] at hTt
    obtain ⟨e, i, hu, hi', hsz, _⟩ := sliceP_info hTt.2.1
    rw [req_iff] at h
    obtain ⟨hz, h⟩ := h
    obtain rfl := Nat.eq_of_beq_eq_true hz
    obtain ⟨h1, hK1, hb1, hle1⟩ := highA_get h hh hhn
    obtain ⟨l1, hK2, hb2, hle2⟩ := lowA_get hK1 hl hln
    rcases hv.sub_inv with ⟨rfl, a, rfl⟩ | ⟨r, cap, arr, e', hk, hβ, hc, hm, hhp, hzz, rfl⟩
    · have : h1 = 0 := by omega
      subst this
      have : l1 = 0 := by omega
      subst this
      refine ⟨_, _, hK2, .sub0 _ _ _ a, fun w' => ?_⟩
      rw [run_slice_sl hu hi' (Nat.le_refl 0) hb1 hb2]
      simp
    · refine ⟨_, _, hK2, ?_, fun w' => by rw [run_slice_sl hu hi' hc hb1 hb2, hsz]⟩
      by_cases hcl : cap = l1
      · have : h1 - l1 = 0 := by omega
        rw [if_pos hcl, this, show cap - l1 = 0 by omega]
        exact .sub0 _ _ _ _
      · rw [if_neg hcl]
        simp only [Option.map_some, Addr.add_lit]
        rw [← Nat.add_mul]
        exact .sub k sz' (lo0 + l1) (h1 - l1) r (cap - l1) hk hβ (by omega) (by omega) arr e' hhp (by rw [show lo0 + l1 + (cap - l1) = lo0 + cap by omega]; exact hzz)
  · rename_i d0 sz' bytes d htd
    rw [htd] at hTt
    obtain ⟨e, i, hu, hi', hsz, _⟩ := sliceP_info hTt.2.1
    rw [req_iff] at h
    obtain ⟨hz, h⟩ := h
    obtain rfl := Nat.eq_of_beq_eq_true hz
    obtain ⟨h1, hK1, hb1, hle1⟩ := highA_get h hh hhn
    obtain ⟨l1, hK2, hb2, hle2⟩ := lowA_get hK1 hl hln
    obtain ⟨a, cap, rfl, hc, hm, hpos⟩ := hv.ro_inv
    refine ⟨_, .slice (if cap = l1 then a else a.map (·.add (l1 * d.sz))) (h1 - l1) (cap - l1), hK2, .ro _ _ ⟨_, cap - l1, by rw [D.sub_len d l1 (h1 - l1) (by omega)], by rw [D.sub_len d l1 (h1 - l1) (by omega)]; omega, by omega, fun hp => ?_⟩, fun w' => by rw [run_slice_sl hu hi' hc hb1 hb2, hsz]⟩
    rw [D.sub_len d l1 (h1 - l1) (by omega)] at hp
    obtain ⟨b, off, rfl, hS, hd⟩ := hpos (by omega)
    rw [if_neg (by omega)]
    exact ⟨b, off + l1 * d.sz, by simp [Addr.add_lit], hS, hd.sub (by omega)⟩
  · rename_i d0 sz' bytes htd
    rw [htd] at hTt
    obtain ⟨e, i, hu, hi', hsz, _⟩ := sliceP_info hTt.2.1
    obtain ⟨h1, hK1, hb1, hle1⟩ := highA_get h hh hhn
    obtain ⟨l1, hK2, hb2, hle2⟩ := lowA_get hK1 hl hln
    obtain rfl := hv.nil_inv
    have : h1 = 0 := by omega
    subst this
    have : l1 = 0 := by omega
    subst this
    refine ⟨_, _, hK2, .nilsl, fun w' => ?_⟩
    rw [run_slice_sl hu hi' (Nat.le_refl 0) hb1 hb2]
    simp
  · rename_i s htd
    rw [htd] at hTt
    have hu := hTt.2.1
    obtain ⟨h1, hK1, hb1, hle1⟩ := highA_get h hh hhn
    obtain ⟨l1, hK2, hb2, hle2⟩ := lowA_get hK1 hl hln
    obtain rfl := hv.v_inv.1
    refine ⟨_, _, hK2, .v _ rfl, fun w' => ?_⟩
    simp [Instr.sliceAt, run_underlying hu, Instr.slice, run_sliceBounds' (P := P) (w := w') (Nat.le_refl s.size) hb1 hb2]
  · exact h.elim
end
end Go.AE
