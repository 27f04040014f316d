/-
  Appends of the abstract evaluator. No conditions.
-/
import Derived.Test.YtkmnmmckgobeeaaAeOps6
namespace Go.AE

section
variable {P : Program} {G : Nat → Option D} {T : TypeId → TD} {C : Ctx} {β : Nat → Option Nat} {S : Nat → Prop} {H : List Blk} {w : World}

theorem cellR_one {d : D} {i j : Nat} {u : Value} (h : cellR S w d i j u) : u.oneCell' = true := by
  cases d with
  | nest xss => obtain ⟨a, c, rfl, _⟩ := h; rfl
  | ints k xs => simp only [cellR] at h; subst h; rfl
  | recs sz xss => simp only [cellR] at h; subst h; rfl
  | bools bs => simp only [cellR] at h; subst h; rfl
  | strs ss => simp only [cellR] at h; subst h; rfl
  | told p n => exact h.2
/-- A block is told otherwise. -/
theorem HS.retell (h : HS G C β S H w) {k : Nat} {b b' : Blk} (hk : H[k]? = some b) (hb : b ≠ .dead) (hb' : BlkR β H.length S w (β k) b') : HS G C β S (H.set k b') w := by
  have hlen : (H.set k b').length = H.length := by simp
  have hget : ∀ k' b1, (H.set k b')[k']? = some b1 → b1 ≠ Blk.dead → ∃ c, H[k']? = some c ∧ c ≠ Blk.dead := fun k' b1 hk' hn => by
    by_cases he : k = k'
    · subst he; exact ⟨b, hk, hb⟩
    · rw [List.getElem?_set_ne he] at hk'; exact ⟨b1, hk', hn⟩
  refine ⟨⟨?_, ?_, ?_, h.rel.lt, h.rel.glob⟩, h.evo, ?_, by rw [hlen]; exact h.tr, h.fix⟩
  · intro k1 b1 h1
    rw [hlen]
    by_cases he : k = k1
    · subst he
      rw [List.getElem?_set_self (lt_of_get hk)] at h1
      cases h1; exact hb'
    · rw [List.getElem?_set_ne he] at h1; exact h.rel.blk k1 b1 h1
  · intro k1 k2 b1 b2 q g1 g2 n1 n2 e1 e2
    obtain ⟨c1, f1, m1⟩ := hget k1 b1 g1 n1
    obtain ⟨c2, f2, m2⟩ := hget k2 b2 g2 n2
    exact h.rel.sep k1 k2 c1 c2 q f1 f2 m1 m2 e1 e2
  · intro k1 b1 q g1 n1 e1
    obtain ⟨c1, f1, m1⟩ := hget k1 b1 g1 n1
    exact h.rel.off k1 c1 q f1 m1 e1
  · intro k1 b1 q g1 n1 e1
    obtain ⟨c1, f1, m1⟩ := hget k1 b1 g1 n1
    exact h.new k1 c1 q f1 m1 e1
theorem run_append_zero {t ty e : TypeId} {i : TypeInfo} (ht : P.underlying t = some (.slice e)) (hi : P.info? e = some i) (base : Option Addr) (sLen sCap : Nat) (hc : sLen ≤ sCap) (a : Option Addr) (c : Nat) :
    (Builtin.append_ #[t, t] ty #[.slice base sLen sCap, .slice a 0 c]).run P w = .ok (.slice base sLen sCap) w := by
  cases a <;> cases base <;> simp [Builtin.append_, run_underlying ht, sizeOf, typeInfo, hi, Builtin.lenOf, hc, Builtin.firstCells, Go.loadCells, loadCellsFrom, storeCells]
theorem run_append_room' {t ty e e' : TypeId} {i : TypeInfo} (ht : P.underlying t = some (.slice e)) (hi : P.info? e = some i)
    {g sLen sCap : Nat} {cur : Array Value} (hg : w.heap[g]? = some (.cells cur e' (0, 0)))
    {a : Addr} {m c : Nat} {news : List Value} (hl : news.length = m * i.size) (hnews : ∀ j u, news[j]? = some u → w.cell? (a.add j) = some u) (h1 : ∀ u ∈ news, u.oneCell' = true)
    (hroom : sLen + m ≤ sCap) (hfit : sLen * i.size + news.length ≤ cur.size) :
    (Builtin.append_ #[t, t] ty #[.slice (some ⟨g, 0, none⟩) sLen sCap, .slice (some a) m c]).run P w =
      .ok (.slice (some ⟨g, 0, none⟩) (sLen + m) sCap) (w.setRow g (cur.toList.take (sLen * i.size) ++ news ++ cur.toList.drop (sLen * i.size + news.length)).toArray) := by
  have hf := run_firstCells_some (P := P) w i.size m a m c news hl hnews
  have hst := run_storeCells_at P g (sLen * i.size) e' news 0 cur w hg (by simpa using hfit) h1
  simp only [Nat.add_zero] at hst
  simp [Builtin.append_, run_underlying ht, sizeOf, typeInfo, hi, Builtin.lenOf, hroom, hf, Addr.add_lit, hst]
/-- The row that an append makes anew. -/
theorem BlkR.grown {n : Nat} {β : Nat → Option Nat} {w' : World} {d dx d' : D} {sz : Nat} (hd : d.sz = sz) (happ : d.app dx = some d') {olds news : List Value} {r : Nat} {arr : Array Value} {e : TypeId}
    (ho : olds.length = d.len * sz) (_hn : news.length = dx.len * sz) (hco : ∀ i, i < d.len → ∀ j, j < sz → cellR S w' d i j (olds.getD (i * sz + j) undef)) (hcn : ∀ i, i < dx.len → ∀ j, j < sz → cellR S w' dx i j (news.getD (i * sz + j) undef))
    (hh : w'.heap[r]? = some (.cells arr e (0, 0))) (hsz : (d.len + dx.len) * sz ≤ arr.size) (hget : ∀ p, p < (d.len + dx.len) * sz → arr.getD p undef = (olds ++ news).getD p undef) : BlkR β n S w' (some r) (.data d') := by
  obtain ⟨l1, z1, c1, c2⟩ := app_sound (S := S) (w := w') happ
  refine .data r arr e d' hh (by rw [l1, z1, hd]; exact hsz) fun i hi j hj => ?_
  rw [l1] at hi
  rw [z1, hd] at hj ⊢
  have hlt : i * sz + j < (d.len + dx.len) * sz := by
    have : (i + 1) * sz ≤ (d.len + dx.len) * sz := Nat.mul_le_mul_right _ hi
    rw [Nat.add_mul i 1] at this
    omega
  rw [hget _ hlt, List.getD_eq_getElem?_getD]
  rcases Nat.lt_or_ge i d.len with hi' | hi'
  · have h2 : i * sz + j < d.len * sz := by
      have : (i + 1) * sz ≤ d.len * sz := Nat.mul_le_mul_right _ hi'
      rw [Nat.add_mul i 1] at this
      omega
    rw [List.getElem?_append_left (by omega), ← List.getD_eq_getElem?_getD]
    exact c1 i hi' j _ (hco i hi' j hj)
  · have h2 : d.len * sz ≤ i * sz := Nat.mul_le_mul_right _ hi'
    rw [List.getElem?_append_right (by omega), ← List.getD_eq_getElem?_getD]
    have h3 : i * sz + j - olds.length = (i - d.len) * sz + j := by rw [ho, Nat.sub_mul]; omega
    rw [h3]
    have := c2 (i - d.len) (by omega) j _ (hcn (i - d.len) (by omega) j hj)
    rwa [show d.len + (i - d.len) = i by omega] at this
theorem arr_get3 (olds news rest : List Value) (p : Nat) (h : p < olds.length + news.length) : (olds ++ news ++ rest).toArray.getD p undef = (olds ++ news).getD p undef := by
  rw [Array.getD_eq_getD_getElem?, List.getD_eq_getElem?_getD]
  simp only [List.getElem?_toArray]
  rw [List.getElem?_append_left (by simpa using h)]
theorem appendA_sound (hT : TabOK P T) (hs : HS G C β S H w) {t ty : TypeId} {s x : AV} {xs xx : Value} {K : AV → List Blk → Prop} (h : appendA (T t) s x H K) (hvs : VR β H.length S w s xs) (hvx : VR β H.length S w x xx) :
    ∃ v H' β' w' u, K v H' ∧ HS G C β' S H' w' ∧ Tr H.length β S w H'.length β' S w' ∧ VR β' H'.length S w' v u ∧ (Builtin.append_ #[t, t] ty #[xs, xx]).run P w = .ok u w' := by
  have hTt := hT t
  unfold appendA at h
  simp only [lenD_eq] at h
  split at h
  · -- onto nil
    rename_i d0 sz bytes htd
    rw [htd] at hTt
    obtain ⟨_, hsl, hdz, hpos, hbpos, _⟩ := hTt
    obtain ⟨e, i, hu, hi, hsz, hby, hz⟩ := sliceP_info hsl
    subst hsz hby
    obtain rfl := hvs.nil_inv
    have main : ∀ {K' : D → Prop}, (∀ dx, K' dx → dx.len * i.bytes ≤ 1099511627776 ∧ K (.sl H.length i.size dx.len) (H ++ [.data dx])) → dataK H x i.size K' →
        ∃ v H' β' w' u, K v H' ∧ HS G C β' S H' w' ∧ Tr H.length β S w H'.length β' S w' ∧ VR β' H'.length S w' v u ∧ (Builtin.append_ #[t, t] ty #[.slice none 0 0, xx]).run P w = .ok u w' := by
      intro K' hK' hd
      obtain ⟨dx, hk, hdz, a, c, rfl, hc, hp⟩ := dataK_sound hs.rel hpos hd hvx
      obtain ⟨hb, hk⟩ := hK' dx hk
      rcases Nat.eq_zero_or_pos dx.len with h0 | h0
      · have hp := HS.push hs (Evo.refl w _) (q := none) (b := .data dx) (fun r hr => by cases hr) (.data0 dx h0)
        refine ⟨_, _, _, _, .slice none 0 0, hk, hp.1, hp.2, ?_, ?_⟩
        · rw [h0]; exact .sl0 _ _ _
        · rw [h0]; exact run_append_zero hu hi none 0 0 (Nat.le_refl _) a c
      · obtain ⟨b, off, rfl, us, hul, hcell, hcr⟩ := hp h0
        have hn1 : dx.len * 1 ≤ dx.len * i.bytes := Nat.mul_le_mul_left _ hbpos
        have hrun := run_append_nil (P := P) w t ty e i (zrow d0) hu hi hz ⟨b, off, none⟩ dx.len c us hul (fun j v hj => by rw [Addr.add_lit]; exact hcell j v hj) h0 (by omega) (by omega)
        have hge := grownCap_ge w dx.len 0 e
        have hcm : grownCap w dx.len 0 e ≤ maxLen := grownCap_le_maxLen w dx.len 0 e (by unfold maxLen; omega)
        have hge2 := evo_drew_alloc w (.cells (us.toArray ++ Builtin.zeroCells (zrow d0).cells (grownCap w dx.len 0 e - dx.len)) e)
        have hsize : (us.toArray ++ Builtin.zeroCells (zrow d0).cells (grownCap w dx.len 0 e - dx.len)).size = grownCap w dx.len 0 e * i.size := by
          have h1 : (grownCap w dx.len 0 e - dx.len) * i.size + dx.len * i.size = grownCap w dx.len 0 e * i.size := by rw [← Nat.add_mul]; congr 1; omega
          simp only [Array.size_append, List.size_toArray, size_zeroCells, zrow_size, hul]
          have : d0.sz = i.size := by assumption
          rw [this]; omega
        have hblk : BlkR (upd β H.length (some w.heap.size)) (H.length + 1) S (w.drew.alloc (.cells (us.toArray ++ Builtin.zeroCells (zrow d0).cells (grownCap w dx.len 0 e - dx.len)) e)) (some w.heap.size) (.data dx) := by
          refine .data _ _ e dx (heap_alloc_new w.drew _) (by rw [hdz, hsize]; exact Nat.mul_le_mul_right _ hge) fun i' hi' j' hj' => ?_
          rw [hdz] at hj' ⊢
          have hlt : i' * i.size + j' < us.length := by
            rw [hul]
            have : (i' + 1) * i.size ≤ dx.len * i.size := Nat.mul_le_mul_right _ hi'
            rw [Nat.add_mul i' 1] at this
            omega
          have : (us.toArray ++ Builtin.zeroCells (zrow d0).cells (grownCap w dx.len 0 e - dx.len)).getD (i' * i.size + j') undef = us.getD (i' * i.size + j') undef := by
            rw [Array.getD_eq_getD_getElem?, List.getD_eq_getElem?_getD, Array.getElem?_append_left (by simpa using hlt)]
            simp
          rw [this]
          exact (hcr i' hi' j' hj').keep (fun _ h => h) fun b hb => hge2.keep b (hs.rel.lt b hb) id
        have hp := HS.push hs hge2 (fun r hr => by cases hr; exact Nat.le_refl _) hblk
        refine ⟨_, _, _, _, _, hk, hp.1, hp.2, ?_, hrun⟩
        exact .sl H.length i.size dx.len w.heap.size _ (by simp) (upd_same _ _ _) hge hcm _ e ⟨_, heap_alloc_new w.drew _⟩ (by rw [hsize]; exact Nat.le_refl _)
    split at h
    · obtain rfl := hvx.nil_inv
      exact ⟨_, _, _, _, _, h, hs, Tr.refl _ _ _ _, .nilsl, run_append_zero hu hi none 0 0 (Nat.le_refl _) none 0⟩
    · exact main (fun dx hdx => by rw [newB_eq] at hdx; exact hdx) h
  · -- onto a row
    rename_i d0 sz bytes k sz' len htd
    rw [htd] at hTt
    obtain ⟨_, hsl, hdz0, hpos, hbpos, _⟩ := hTt
    obtain ⟨e, i, hu, hi, hsz, hby, hz⟩ := sliceP_info hsl
    subst hsz hby
    split at h
    · obtain rfl := hvx.nil_inv
      refine ⟨_, _, _, _, xs, h, hs, Tr.refl _ _ _ _, hvs, ?_⟩
      rcases hvs.sl_inv with ⟨rfl, a, rfl⟩ | ⟨r, cap, arr, e', hk, hβ, hc, hm, hh, hzz, rfl⟩
      · exact run_append_zero hu hi a 0 0 (Nat.le_refl _) none 0
      · exact run_append_zero hu hi _ len cap hc none 0
    · split at h
      · rename_i d hb
        have hk := nthB_some hb (by simp)
        simp only [req_iff, Bool.and_eq_true] at h
        obtain ⟨⟨hz1, hz2⟩, rfl, h⟩ := h
        obtain rfl := Nat.eq_of_beq_eq_true hz1
        have hz2 := Nat.eq_of_beq_eq_true hz2
        obtain ⟨dx, ⟨hbytes, hk'⟩, hdz, a, c, rfl, hc, hp⟩ := dataK_sound hs.rel hpos h hvx
        split at hk'
        case h_2 => exact hk'.elim
        rename_i d' happ
        rw [setB_eq, newB_eq] at hk'
        obtain ⟨l1, z1, c1, c2⟩ := app_sound (S := S) (w := w) happ
        have hkl := lt_of_get hk
        have hkill := hs.kill k
        have hlenk : (H.set k Blk.dead).length = H.length := by simp
        rcases Nat.eq_zero_or_pos dx.len with h0 | h0
        · -- nothing is appended
          have hb0 := hs.rel.blk k _ hk
          have hb1 : BlkR β H.length S w (β k) (.data d') := by
            generalize β k = q at hb0
            cases hb0 with
            | data0 _ h => exact .data0 _ (by omega)
            | data r arr e' _ hh hl hcells =>
              refine .data r arr e' _ hh (by rw [l1, z1, h0]; exact hl) (fun i' hi' j' hj' => ?_)
              rw [z1] at hj' ⊢
              exact c1 i' (by omega) j' _ (hcells i' (by omega) j' hj')
          have hret := hs.retell hk (by simp) hb1
          have hmv := hret.move (k := k) (b := .data d') (by rw [List.getElem?_set_self hkl]) (by simp)
          rw [List.set_set] at hmv
          rw [show (H.set k (Blk.data d')).length = H.length by simp] at hmv
          rw [hlenk] at hk'
          refine ⟨_, _, _, _, xs, hk', hmv.1, hmv.2, ?_, ?_⟩
          · rcases hvs.sl_inv with ⟨hl0, a, rfl⟩ | ⟨r, cap, arr, e', _, hβ, hc, hm, hh, hzz, rfl⟩
            · rw [show d'.len = 0 by omega]; exact .sl0 _ _ _
            · rw [show d'.len = d.len by omega]
              exact .sl _ _ _ r cap (by simp) (by rw [upd_same]; exact hβ) hc hm arr e' hh hzz
          · rw [h0]
            rcases hvs.sl_inv with ⟨hl0, a, rfl⟩ | ⟨r, cap, arr, e', _, hβ, hc, hm, hh, hzz, rfl⟩
            · exact run_append_zero hu hi _ 0 0 (Nat.le_refl _) _ _
            · exact run_append_zero hu hi _ _ cap hc _ _
        · obtain ⟨b, off, rfl, us, hul, hcell, hcr⟩ := hp h0
          have hn1 : (d.len + dx.len) * 1 ≤ (d.len + dx.len) * i.bytes := Nat.mul_le_mul_left _ hbpos
          have hcell' : ∀ j v, us[j]? = some v → w.cell? ((⟨b, off, none⟩ : Addr).add j) = some v := fun j v hj => by rw [Addr.add_lit]; exact hcell j v hj
          -- a new row
          have grow : ∀ (old : Nat) (olds : List Value) (arr : Array Value) (w' : World), old < d.len + dx.len → olds.length = d.len * i.size → (∀ i', i' < d.len → ∀ j, j < i.size → cellR S w d i' j (olds.getD (i' * i.size + j) undef)) →
              arr = (olds ++ us ++ (Builtin.zeroCells (zrow d0).cells (grownCap w (d.len + dx.len) old e - (d.len + dx.len))).toList).toArray → w' = w.drew.alloc (.cells arr e) →
              (Builtin.append_ #[t, t] ty #[xs, .slice (some ⟨b, off, none⟩) dx.len c]).run P w = .ok (.slice (some ⟨w.heap.size, 0, none⟩) (d.len + dx.len) (grownCap w (d.len + dx.len) old e)) w' →
              ∃ v H' β' w' u, K v H' ∧ HS G C β' S H' w' ∧ Tr H.length β S w H'.length β' S w' ∧ VR β' H'.length S w' v u ∧ (Builtin.append_ #[t, t] ty #[xs, .slice (some ⟨b, off, none⟩) dx.len c]).run P w = .ok u w' := by
            intro old olds arr w' hold holds hco harr hw' hrun
            have hge := grownCap_ge w (d.len + dx.len) old e
            have hcm : grownCap w (d.len + dx.len) old e ≤ maxLen := grownCap_le_maxLen w (d.len + dx.len) old e (by unfold maxLen; omega)
            have hev : Evo w w' fun _ => False := by rw [hw']; exact evo_drew_alloc w _
            have hnew : w'.heap[w.heap.size]? = some (.cells arr e (0, 0)) := by rw [hw']; exact heap_alloc_new w.drew _
            have hsize : arr.size = grownCap w (d.len + dx.len) old e * i.size := by
              have h1 : (grownCap w (d.len + dx.len) old e - (d.len + dx.len)) * i.size + (d.len + dx.len) * i.size = grownCap w (d.len + dx.len) old e * i.size := by rw [← Nat.add_mul]; congr 1; omega
              rw [Nat.add_mul d.len] at h1
              rw [harr]
              simp only [List.size_toArray, List.length_append, Array.length_toList, size_zeroCells, zrow_size, hul, holds, hdz0]
              omega
            have hblk : BlkR (upd β (H.set k .dead).length (some w.heap.size)) ((H.set k .dead).length + 1) S w' (some w.heap.size) (.data d') :=
              BlkR.grown hz2 happ holds hul (fun i' hi' j hj => (hco i' hi' j hj).keep (fun _ h => h) fun b hb => hev.keep b (hs.rel.lt b hb) id)
                (fun i' hi' j hj => (hcr i' hi' j hj).keep (fun _ h => h) fun b hb => hev.keep b (hs.rel.lt b hb) id) hnew (by rw [hsize]; exact Nat.mul_le_mul_right _ hge)
                (fun p hp => by rw [harr]; exact arr_get3 olds us _ p (by rw [holds, hul, ← Nat.add_mul]; exact hp))
            have hp := HS.push hkill hev (fun r hr => by cases hr; exact Nat.le_refl _) hblk
            have htr : Tr H.length β S w (H.set k .dead ++ [Blk.data d']).length (upd β (H.set k .dead).length (some w.heap.size)) S w' := by
              have := hp.2; rw [hlenk] at this ⊢; exact this
            refine ⟨_, _, _, _, _, hk', hp.1, htr, ?_, hrun⟩
            rw [show d'.len = d.len + dx.len from l1]
            exact .sl _ _ _ w.heap.size _ (by simp) (upd_same _ _ _) hge hcm arr e ⟨_, hnew⟩ (by rw [hsize]; exact Nat.le_refl _)
          have hfitg : ∀ old, old < d.len + dx.len → Builtin.nextslicecap (d.len + dx.len) old * i.bytes ≤ 281474976710656 := fun old ho => growslice_fits ho (by omega)
          rcases hvs.sl_inv with ⟨hl0, a, rfl⟩ | ⟨r, cap, arr, e', _, hβ, hcc, hm, hh, hzz, rfl⟩
          · have hd0 : d.len = 0 := hl0
            rcases a with _ | a
            · refine grow 0 [] _ _ (by omega) (by simp [hd0]) (fun i' hi' => by omega) rfl rfl ?_
              have hrun := run_append_nil (P := P) w t ty e i (zrow d0) hu hi hz ⟨b, off, none⟩ dx.len c us hul hcell' h0 (by omega) (by have := hbytes; rw [hd0, Nat.zero_add] at this; omega)
              rw [hd0, Nat.zero_add, hrun]
              congr 4
              simp
            · refine grow 0 [] _ _ (by omega) (by simp [hd0]) (fun i' hi' => by omega) rfl rfl ?_
              have hrun := run_append_grow (P := P) w t ty e i (zrow d0) hu hi hz a 0 0 [] (by simp) (by simp) ⟨b, off, none⟩ dx.len c us hul hcell' (by omega) (by omega) (by have := hfitg 0 (by omega); rwa [hd0] at this)
              rw [hd0, hrun]
              congr 4
              simp
          · have hB := hs.rel.blk k _ hk
            rw [hβ] at hB
            cases hB with
            | data _ arr1 e1 _ hh1 hl hcells =>
              obtain ⟨fz, hh⟩ := hh
              rw [hh] at hh1
              cases hh1
              rw [hz2] at hl hcells
              by_cases hroom : d.len + dx.len ≤ cap
              · have hfit : d.len * i.size + us.length ≤ arr.size := by
                  rw [hul, ← Nat.add_mul]
                  exact Nat.le_trans (Nat.mul_le_mul_right _ hroom) hzz
                have hone : ∀ u ∈ us, u.oneCell' = true := fun u hu' => by
                  obtain ⟨p, hp⟩ := List.getElem?_of_mem hu'
                  have hpl : p < dx.len * i.size := by rw [← hul]; exact lt_of_get hp
                  have h1 : p / i.size < dx.len := (Nat.div_lt_iff_lt_mul hpos).2 hpl
                  have h2 := hcr (p / i.size) h1 (p % i.size) (Nat.mod_lt _ hpos)
                  rw [Nat.mul_comm, Nat.div_add_mod, List.getD_eq_getElem?_getD, hp] at h2
                  exact cellR_one h2
                have hrun := run_append_room' (P := P) (ty := ty) hu hi hh hul hcell' hone hroom hfit (c := c)
                have hsize := splice_size arr (d.len * i.size) us hfit
                have ht := Tr.write hs hk (by simp) hβ hh hsize
                have hblk : BlkR β H.length S (w.setRow r (arr.toList.take (d.len * i.size) ++ us ++ arr.toList.drop (d.len * i.size + us.length)).toArray) (some r) (.data d') := by
                  refine BlkR.grown hz2 happ (olds := arr.toList.take (d.len * i.size)) (news := us) (by simp; omega) hul (fun i' hi' j hj => ?_) (fun i' hi' j hj => (hcr i' hi' j hj).keep ht.sub ht.keep) (setRow_heap w r arr _ _ _ hh) (by rw [hsize]; exact Nat.le_trans (Nat.mul_le_mul_right _ hroom) hzz)
                    (fun p hp => arr_get3 _ us _ p (by simp; rw [Nat.add_mul] at hp; omega))
                  have hlt : i' * i.size + j < d.len * i.size := by
                    have : (i' + 1) * i.size ≤ d.len * i.size := Nat.mul_le_mul_right _ hi'
                    rw [Nat.add_mul i' 1] at this
                    omega
                  have hg : (arr.toList.take (d.len * i.size)).getD (i' * i.size + j) undef = arr.getD (i' * i.size + j) undef := by
                    rw [List.getD_eq_getElem?_getD, List.getElem?_take_of_lt hlt, Array.getD_eq_getD_getElem?, Array.getElem?_toList]
                  rw [hg]
                  exact (hcells i' hi' j hj).keep ht.sub ht.keep
                have hw := HS.write hs hk (by simp) hβ hh hsize hblk
                have hmv := hw.1.move (k := k) (b := .data d') (by rw [List.getElem?_set_self hkl]) (by simp)
                rw [List.set_set] at hmv
                rw [show (H.set k (Blk.data d')).length = H.length by simp] at hmv
                rw [hlenk] at hk'
                have htr := hw.2
                rw [show (H.set k (Blk.data d')).length = H.length by simp] at htr
                refine ⟨_, _, _, _, _, hk', hmv.1, htr.trans hmv.2, ?_, hrun⟩
                rw [show d'.len = d.len + dx.len from l1]
                exact .sl _ _ _ r cap (by simp) (by rw [upd_same]; exact hβ) hroom hm _ _ ⟨_, setRow_heap w r arr _ _ _ hh⟩ (by rw [hsize]; exact hzz)
              · have holds : (arr.toList.take (d.len * i.size)).length = d.len * i.size := by simp; omega
                have hco : ∀ i', i' < d.len → ∀ j, j < i.size → cellR S w d i' j ((arr.toList.take (d.len * i.size)).getD (i' * i.size + j) undef) := fun i' hi' j hj => by
                  have hlt : i' * i.size + j < d.len * i.size := by
                    have : (i' + 1) * i.size ≤ d.len * i.size := Nat.mul_le_mul_right _ hi'
                    rw [Nat.add_mul i' 1] at this
                    omega
                  have hg : (arr.toList.take (d.len * i.size)).getD (i' * i.size + j) undef = arr.getD (i' * i.size + j) undef := by
                    rw [List.getD_eq_getElem?_getD, List.getElem?_take_of_lt hlt, Array.getD_eq_getD_getElem?, Array.getElem?_toList]
                  rw [hg]; exact hcells i' hi' j hj
                refine grow cap (arr.toList.take (d.len * i.size)) _ _ (by omega) holds hco rfl rfl ?_
                have hrun := run_append_grow (P := P) w t ty e i (zrow d0) hu hi hz ⟨r, 0, none⟩ d.len cap (arr.toList.take (d.len * i.size)) holds (fun j v hj => by
                  rw [Addr.add_lit, Nat.zero_add]
                  have hlt := lt_of_get hj
                  rw [holds] at hlt
                  rw [List.getElem?_take_of_lt hlt] at hj
                  rw [cell_of_row w r j arr _ _ hh]
                  simpa using hj) ⟨b, off, none⟩ dx.len c us hul hcell' (by omega) (by omega) (hfitg cap (by omega))
                rw [hrun]
                congr 3
                simp
      · exact h.elim
  · exact h.elim
end
end Go.AE
