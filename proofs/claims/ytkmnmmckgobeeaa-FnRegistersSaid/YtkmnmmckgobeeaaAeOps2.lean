/-
  The heap operations of the abstract evaluator: new blocks, stores, moves. No conditions.
-/
import Derived.Test.YtkmnmmckgobeeaaAeOps1
namespace Go.AE

def upd (β : Nat → Option Nat) (n : Nat) (q : Option Nat) : Nat → Option Nat := fun k => if k = n then q else β k
theorem upd_same (β : Nat → Option Nat) (n : Nat) (q : Option Nat) : upd β n q n = q := by simp [upd]
theorem upd_lt (β : Nat → Option Nat) {n k : Nat} (q : Option Nat) (h : k < n) : upd β n q k = β k := by simp [upd]; omega
theorem lt_of_get {α : Type} {l : List α} {k : Nat} {x : α} (h : l[k]? = some x) : k < l.length := by
  rcases Nat.lt_or_ge k l.length with h' | h'
  · exact h'
  · rw [List.getElem?_eq_none h'] at h; cases h
theorem lt_of_heap {w : World} {b : Nat} {o : Obj} (h : w.heap[b]? = some o) : b < w.heap.size := (Array.getElem?_eq_some_iff.1 h).1

section
variable {G : Nat → Option D} {C : Ctx} {β : Nat → Option Nat} {S : Nat → Prop} {H : List Blk} {w w' : World}
theorem BlkR.lt {n : Nat} {r : Nat} {b : Blk} (h : BlkR β n S w (some r) b) (hb : b ≠ .dead) : r < w.heap.size := by
  cases h with
  | dead => exact absurd rfl hb
  | obj _ arr e p hh => exact lt_of_heap hh
  | cells _ arr e cs hh => exact lt_of_heap hh
  | data _ arr e d hh => exact lt_of_heap hh
theorem Rel.blk_lt (h : Rel G β S H w) {k r : Nat} {b : Blk} (hk : H[k]? = some b) (hb : b ≠ .dead) (hr : β k = some r) : r < w.heap.size := by
  have := h.blk k b hk
  rw [hr] at this
  exact this.lt hb
theorem Evo.trans {w0 w1 w2 : World} {M M1 : Nat → Prop} (h : Evo w0 w1 M) (k : Evo w1 w2 M1) (hm : ∀ b, b < w0.heap.size → M1 b → M b) : Evo w0 w2 M :=
  ⟨k.os.trans h.os, k.tape.trans h.tape, k.output.trans h.output, Nat.le_trans h.size k.size,
    fun b hb hn => (k.keep b (Nat.lt_of_lt_of_le hb h.size) (fun hb' => hn (hm b hb hb'))).trans (h.keep b hb hn)⟩
/-- The world grows, nothing old turns. -/
theorem Tr.grow (hr : Rel G β S H w) (hg : Evo w w' fun _ => False) {n' : Nat} {β' : Nat → Option Nat} (hn : H.length ≤ n') (ha : ∀ k, k < H.length → β' k = β k) : Tr H.length β S w n' β' S w' where
  agree := ha
  le := hn
  sub := fun _ h => h
  keep := fun b hb => hg.keep b (hr.lt b hb) id
  phys := fun b arr _ fz hb => ⟨arr, fz, (hg.keep b (lt_of_heap hb) id).trans hb, rfl⟩
/-- A new block. -/
theorem HS.push (h : HS G C β S H w) (hg : Evo w w' fun _ => False) {q : Option Nat} (hq : ∀ r, q = some r → w.heap.size ≤ r) {b : Blk} (hb : BlkR (upd β H.length q) (H.length + 1) S w' q b) :
    HS G C (upd β H.length q) S (H ++ [b]) w' ∧ Tr H.length β S w (H ++ [b]).length (upd β H.length q) S w' := by
  have hlen : (H ++ [b]).length = H.length + 1 := by simp
  have ht : Tr H.length β S w (H ++ [b]).length (upd β H.length q) S w' := Tr.grow h.rel hg (by simp) fun k hk => upd_lt β q hk
  have hget : ∀ k b', (H ++ [b])[k]? = some b' → (k < H.length ∧ H[k]? = some b') ∨ (k = H.length ∧ b' = b) := fun k b' hk => by
    rcases Nat.lt_trichotomy k H.length with hlt | heq | hgt
    · rw [List.getElem?_append_left hlt] at hk; exact .inl ⟨hlt, hk⟩
    · subst heq; rw [List.getElem?_append_right (Nat.le_refl _)] at hk; simp at hk; exact .inr ⟨rfl, hk.symm⟩
    · rw [List.getElem?_eq_none (by simp; omega)] at hk; cases hk
  refine ⟨⟨⟨?_, ?_, ?_, ?_, ?_⟩, ?_, ?_, h.tr.trans ht, h.fix⟩, ht⟩
  · intro k b' hk
    rcases hget k b' hk with ⟨hlt, hk'⟩ | ⟨rfl, rfl⟩
    · rw [upd_lt β q hlt]
      exact (h.rel.blk k b' hk').tr ht fun q' _ hq' => hg.keep q' hq' id
    · rw [upd_same, hlen]; exact hb
  · intro k k' b1 b2 r h1 h2 n1 n2 e1 e2
    rcases hget k b1 h1 with ⟨l1, g1⟩ | ⟨rfl, rfl⟩ <;> rcases hget k' b2 h2 with ⟨l2, g2⟩ | ⟨rfl, rfl⟩
    · rw [upd_lt β q l1] at e1; rw [upd_lt β q l2] at e2; exact h.rel.sep k k' b1 b2 r g1 g2 n1 n2 e1 e2
    · rw [upd_lt β q l1] at e1; rw [upd_same] at e2
      have := h.rel.blk_lt g1 n1 e1; have := hq r e2; omega
    · rw [upd_lt β q l2] at e2; rw [upd_same] at e1
      have := h.rel.blk_lt g2 n2 e2; have := hq r e1; omega
    · rfl
  · intro k b' r hk hn he hs
    rcases hget k b' hk with ⟨hlt, hk'⟩ | ⟨rfl, rfl⟩
    · rw [upd_lt β q hlt] at he; exact h.rel.off k b' r hk' hn he hs
    · rw [upd_same] at he; have := hq r he; have := h.rel.lt r hs; omega
  · exact fun r hs => Nat.lt_of_lt_of_le (h.rel.lt r hs) hg.size
  · intro g d hgd
    obtain ⟨h1, h2⟩ := h.rel.glob g d hgd
    exact ⟨h1, GlobAt.keep h1 h2 ht.sub ht.keep⟩
  · exact h.evo.trans hg (fun _ _ hf => hf.elim)
  · intro k b' r hk hn he
    rcases hget k b' hk with ⟨hlt, hk'⟩ | ⟨rfl, rfl⟩
    · rw [upd_lt β q hlt] at he; exact h.new k b' r hk' hn he
    · rw [upd_same] at he; exact .inl (Nat.le_trans h.evo.size (hq r he))
theorem Tr.write (h : HS G C β S H w) {k r : Nat} {b : Blk} {arr arr' : Array Value} {e : TypeId} (hk : H[k]? = some b) (hb : b ≠ .dead) (hr : β k = some r)
    (hh : w.heap[r]? = some (.cells arr e (0, 0))) (hs : arr'.size = arr.size) : Tr H.length β S w H.length β S (w.setRow r arr') :=
  ⟨fun _ _ => rfl, Nat.le_refl _, fun _ h => h, fun q hq => setRow_other w r q arr' (fun e => h.rel.off k b r hk hb hr (e ▸ hq)), fun q arr1 e1 fz hq => by
      by_cases hqr : q = r
      · subst hqr
        rw [hh] at hq
        cases hq
        exact ⟨arr', _, setRow_heap w q arr arr' e _ hh, hs⟩
      · exact ⟨arr1, fz, (setRow_other w r q arr' hqr).trans hq, rfl⟩⟩
/-- A block is written. -/
theorem HS.write (h : HS G C β S H w) {k r : Nat} {b b' : Blk} {arr arr' : Array Value} {e : TypeId} (hk : H[k]? = some b) (hb : b ≠ .dead) (hr : β k = some r)
    (hh : w.heap[r]? = some (.cells arr e (0, 0))) (hs : arr'.size = arr.size) (hb' : BlkR β H.length S (w.setRow r arr') (some r) b') :
    HS G C β S (H.set k b') (w.setRow r arr') ∧ Tr H.length β S w (H.set k b').length β S (w.setRow r arr') := by
  have hlen : (H.set k b').length = H.length := by simp
  have hne : ∀ q, q ≠ r → (w.setRow r arr').heap[q]? = w.heap[q]? := fun q hq => setRow_other w r q arr' hq
  have hself : (w.setRow r arr').heap[r]? = some (.cells arr' e (0, 0)) := setRow_heap w r arr arr' e _ hh
  have ht : Tr H.length β S w (H.set k b').length β S (w.setRow r arr') :=
    ⟨fun _ _ => rfl, by rw [hlen]; exact Nat.le_refl _, fun _ h => h, fun q hq => hne q (fun e => h.rel.off k b r hk hb hr (e ▸ hq)), fun q arr1 e1 fz hq => by
      by_cases hqr : q = r
      · subst hqr
        rw [hh] at hq
        cases hq
        exact ⟨arr', _, hself, hs⟩
      · exact ⟨arr1, fz, (hne q hqr).trans hq, rfl⟩⟩
  have hevo : Evo w (w.setRow r arr') (fun q => q = r) := ⟨rfl, rfl, rfl, by simp, fun q _ hq => hne q hq⟩
  have hget : ∀ k' b1, (H.set k b')[k']? = some b1 → (k' ≠ k ∧ H[k']? = some b1) ∨ (k' = k ∧ b1 = b') := fun k' b1 hk' => by
    by_cases he : k = k'
    · subst he
      rw [List.getElem?_set_self (lt_of_get hk)] at hk'
      cases hk'; exact .inr ⟨rfl, rfl⟩
    · rw [List.getElem?_set_ne he] at hk'; exact .inl ⟨fun e => he e.symm, hk'⟩
  refine ⟨⟨⟨?_, ?_, ?_, ?_, ?_⟩, ?_, ?_, h.tr.trans ht, h.fix⟩, ht⟩
  · intro k' b1 hk'
    rcases hget k' b1 hk' with ⟨hkk, hk1⟩ | ⟨rfl, rfl⟩
    · by_cases hd : b1 = .dead
      · subst hd; exact .dead _
      · refine (h.rel.blk k' b1 hk1).tr ht fun q hq _ => hne q fun e => hkk ?_
        subst e
        exact h.rel.sep k' k b1 b _ hk1 hk hd hb hq hr
    · rw [hr, hlen]; exact hb'
  · intro k1 k2 b1 b2 q h1 h2 n1 n2 e1 e2
    have a1 : ∃ c, H[k1]? = some c ∧ c ≠ .dead := by
      rcases hget k1 b1 h1 with ⟨_, g⟩ | ⟨rfl, _⟩
      · exact ⟨_, g, n1⟩
      · exact ⟨_, hk, hb⟩
    have a2 : ∃ c, H[k2]? = some c ∧ c ≠ .dead := by
      rcases hget k2 b2 h2 with ⟨_, g⟩ | ⟨rfl, _⟩
      · exact ⟨_, g, n2⟩
      · exact ⟨_, hk, hb⟩
    obtain ⟨c1, g1, m1⟩ := a1
    obtain ⟨c2, g2, m2⟩ := a2
    exact h.rel.sep k1 k2 c1 c2 q g1 g2 m1 m2 e1 e2
  · intro k1 b1 q h1 n1 e1 hs1
    rcases hget k1 b1 h1 with ⟨_, g⟩ | ⟨rfl, _⟩
    · exact h.rel.off k1 b1 q g n1 e1 hs1
    · exact h.rel.off _ b q hk hb e1 hs1
  · intro q hq; simpa using h.rel.lt q hq
  · intro g d hgd
    obtain ⟨h1, h2⟩ := h.rel.glob g d hgd
    exact ⟨h1, GlobAt.keep h1 h2 ht.sub ht.keep⟩
  · refine h.evo.trans hevo fun q hq hqr => ?_
    subst hqr
    rcases h.new k b q hk hb hr with h1 | h1
    · omega
    · exact h1
  · intro k1 b1 q h1 n1 e1
    rcases hget k1 b1 h1 with ⟨_, g⟩ | ⟨rfl, _⟩
    · exact h.new k1 b1 q g n1 e1
    · exact h.new _ b q hk hb e1
/-- A block dies. -/
theorem HS.kill (h : HS G C β S H w) (k : Nat) : HS G C β S (H.set k Blk.dead) w := by
  have hget : ∀ k' b1, (H.set k Blk.dead)[k']? = some b1 → b1 ≠ Blk.dead → H[k']? = some b1 := fun k' b1 hk' hn => by
    by_cases he : k = k'
    · subst he
      rcases Nat.lt_or_ge k H.length with hl | hl
      · rw [List.getElem?_set_self hl] at hk'; cases hk'; exact absurd rfl hn
      · rw [List.getElem?_eq_none (by simpa using hl)] at hk'; cases hk'
    · rwa [List.getElem?_set_ne he] at hk'
  have hlen : (H.set k Blk.dead).length = H.length := by simp
  refine ⟨⟨?_, ?_, ?_, h.rel.lt, h.rel.glob⟩, h.evo, fun k1 b1 q h1 n1 e1 => h.new k1 b1 q (hget k1 b1 h1 n1) n1 e1, by rw [hlen]; exact h.tr, h.fix⟩
  · intro k1 b1 h1
    by_cases hd : b1 = .dead
    · subst hd; exact .dead _
    · rw [hlen]; exact h.rel.blk k1 b1 (hget k1 b1 h1 hd)
  · exact fun k1 k2 b1 b2 q h1 h2 n1 n2 e1 e2 => h.rel.sep k1 k2 b1 b2 q (hget k1 b1 h1 n1) (hget k2 b2 h2 n2) n1 n2 e1 e2
  · exact fun k1 b1 q h1 n1 e1 => h.rel.off k1 b1 q (hget k1 b1 h1 n1) n1 e1
/-- A block gets a new number: the old one dies. -/
theorem HS.move (h : HS G C β S H w) {k : Nat} {b : Blk} (hk : H[k]? = some b) (hb : b ≠ .dead) :
    HS G C (upd β H.length (β k)) S (H.set k .dead ++ [b]) w ∧ Tr H.length β S w (H.set k Blk.dead ++ [b]).length (upd β H.length (β k)) S w := by
  have hkl := lt_of_get hk
  have h1 := h.kill k
  have hlen : (H.set k Blk.dead ++ [b]).length = H.length + 1 := by simp
  have ht : Tr H.length β S w (H.set k Blk.dead ++ [b]).length (upd β H.length (β k)) S w := Tr.grow h.rel (Evo.refl w _) (by simp) fun k hk => upd_lt β _ hk
  have hget : ∀ k' b', (H.set k Blk.dead ++ [b])[k']? = some b' → b' ≠ Blk.dead → (k' < H.length ∧ k' ≠ k ∧ H[k']? = some b') ∨ (k' = H.length ∧ b' = b) := fun k' b' hk' hn => by
    rcases Nat.lt_trichotomy k' H.length with hlt | heq | hgt
    · rw [List.getElem?_append_left (by simpa using hlt)] at hk'
      by_cases he : k = k'
      · subst he; rw [List.getElem?_set_self hkl] at hk'; cases hk'; exact absurd rfl hn
      · rw [List.getElem?_set_ne he] at hk'; exact .inl ⟨hlt, fun e => he e.symm, hk'⟩
    · subst heq
      rw [List.getElem?_append_right (by simp)] at hk'
      simp at hk'; exact .inr ⟨rfl, hk'.symm⟩
    · rw [List.getElem?_eq_none (by simp; omega)] at hk'; cases hk'
  refine ⟨⟨⟨?_, ?_, ?_, h.rel.lt, ?_⟩, h.evo, ?_, h.tr.trans ht, h.fix⟩, ht⟩
  · intro k' b' hk'
    by_cases hd : b' = .dead
    · subst hd; exact .dead _
    · rcases hget k' b' hk' hd with ⟨hlt, _, g⟩ | ⟨rfl, rfl⟩
      · rw [upd_lt β _ hlt]; exact (h.rel.blk k' b' g).tr ht fun _ _ _ => rfl
      · rw [upd_same]; exact (h.rel.blk k b' hk).tr ht fun _ _ _ => rfl
  · intro k1 k2 b1 b2 q g1 g2 n1 n2 e1 e2
    rcases hget k1 b1 g1 n1 with ⟨l1, d1, f1⟩ | ⟨rfl, rfl⟩ <;> rcases hget k2 b2 g2 n2 with ⟨l2, d2, f2⟩ | ⟨rfl, rfl⟩
    · rw [upd_lt β _ l1] at e1; rw [upd_lt β _ l2] at e2; exact h.rel.sep k1 k2 b1 b2 q f1 f2 n1 n2 e1 e2
    · rw [upd_lt β _ l1] at e1; rw [upd_same] at e2
      exact absurd (h.rel.sep k1 k b1 _ q f1 hk n1 hb e1 e2) d1
    · rw [upd_lt β _ l2] at e2; rw [upd_same] at e1
      exact absurd (h.rel.sep k2 k b2 _ q f2 hk n2 hb e2 e1) d2
    · rfl
  · intro k1 b1 q g1 n1 e1
    rcases hget k1 b1 g1 n1 with ⟨l1, _, f1⟩ | ⟨rfl, rfl⟩
    · rw [upd_lt β _ l1] at e1; exact h.rel.off k1 b1 q f1 n1 e1
    · rw [upd_same] at e1; exact h.rel.off k _ q hk hb e1
  · intro g d hgd
    obtain ⟨h1, h2⟩ := h.rel.glob g d hgd
    exact ⟨h1, GlobAt.keep h1 h2 ht.sub ht.keep⟩
  · intro k1 b1 q g1 n1 e1
    rcases hget k1 b1 g1 n1 with ⟨l1, _, f1⟩ | ⟨rfl, rfl⟩
    · rw [upd_lt β _ l1] at e1; exact h.new k1 b1 q f1 n1 e1
    · rw [upd_same] at e1; exact h.new k _ q hk hb e1
end

theorem evo_alloc (w : World) (o : Obj) : Evo w (w.alloc o) fun _ => False := ⟨rfl, rfl, rfl, by simp, fun b hb _ => by show (w.heap.push o)[b]? = _; rw [Array.getElem?_push, if_neg (Nat.ne_of_lt hb)]⟩
theorem evo_drew_alloc (w : World) (o : Obj) : Evo w (w.drew.alloc o) fun _ => False := ⟨rfl, rfl, rfl, by simp, fun b hb _ => by show (w.heap.push o)[b]? = _; rw [Array.getElem?_push, if_neg (Nat.ne_of_lt hb)]⟩
/-- The cells of a value. -/
theorem cellsOf_vr {β : Nat → Option Nat} {n : Nat} {S : Nat → Prop} {w : World} {a : AV} {x : Value} (h : VR β n S w a x) :
    (cellsOf a).length ≤ x.cells.size ∧ (∀ i c, (cellsOf a)[i]? = some c → VR β n S w c (x.cells.getD i undef)) ∧ (0 < (cellsOf a).length → x.cells.size = (cellsOf a).length) := by
  have one : ∀ {a : AV} {x : Value}, cellsOf a = [a] → x.cells = #[x] → VR β n S w a x →
      (cellsOf a).length ≤ x.cells.size ∧ (∀ i c, (cellsOf a)[i]? = some c → VR β n S w c (x.cells.getD i undef)) ∧ (0 < (cellsOf a).length → x.cells.size = (cellsOf a).length) := by
    intro a x h1 h2 hv
    rw [h1, h2]
    refine ⟨by simp, fun i c hc => ?_, fun _ => by simp⟩
    cases i with
    | zero => simp at hc; subst hc; exact hv
    | succ i => simp at hc
  cases h with
  | un x => exact ⟨Nat.zero_le _, fun i c hc => by simp [cellsOf] at hc, fun h => absurd h (by simp [cellsOf])⟩
  | no => exact ⟨Nat.zero_le _, fun i c hc => by simp [cellsOf] at hc, fun h => absurd h (by simp [cellsOf])⟩
  | tup cs vs hl h => exact ⟨Nat.zero_le _, fun i c hc => by simp [cellsOf] at hc, fun h => absurd h (by simp [cellsOf])⟩
  | agg cs vs hl h => exact ⟨by simp [cellsOf, Value.cells, hl], fun i c hc => h i c hc, fun _ => by simp [cellsOf, Value.cells, hl]⟩
  | v x h => exact one rfl (by cases x <;> first | rfl | (simp [scal] at h)) (.v x h)
  | nilsl => exact one rfl rfl .nilsl
  | ptr k j r hk hb => exact one rfl rfl (.ptr k j r hk hb)
  | eptr k sz i j r hk hb => exact one rfl rfl (.eptr k sz i j r hk hb)
  | sl k sz len r cap hk hb hc hm arr e hh hs => exact one rfl rfl (.sl k sz len r cap hk hb hc hm arr e hh hs)
  | sl0 k sz a => exact one rfl rfl (.sl0 k sz a)
  | sub k sz lo len r cap hk hb hc hm arr e hh hs => exact one rfl rfl (.sub k sz lo len r cap hk hb hc hm arr e hh hs)
  | sub0 k sz lo a => exact one rfl rfl (.sub0 k sz lo a)
  | ro d x h => exact one rfl (by obtain ⟨a, cap, rfl, _⟩ := h; rfl) (.ro d x h)
  | rop d i j b off hS hd => exact one rfl rfl (.rop d i j b off hS hd)
  | rpc cs j b hS arr e hh hl ho h => exact one rfl rfl (.rpc cs j b hS arr e hh hl ho h)
  | gl g => exact one rfl rfl (.gl g)
  | fn f cs vs hl h => exact one rfl rfl (.fn f cs vs hl h)
  | ifc te p => exact one rfl rfl (.ifc te p)
/-- Every cell that is known is the value of one cell. -/
theorem oneCell_vr {β : Nat → Option Nat} {n : Nat} {S : Nat → Prop} {w : World} {c : AV} {x : Value} (h : VR β n S w c x) (hc : ∀ cs, c ≠ .agg cs) (hu : c ≠ .un) (hn : c ≠ .no) (ht : ∀ cs, c ≠ .tup cs) : x.oneCell' = true := by
  cases h with
  | un => exact absurd rfl hu
  | no => exact absurd rfl hn
  | agg cs => exact absurd rfl (hc cs)
  | tup cs => exact absurd rfl (ht cs)
  | v x h => cases x <;> first | rfl | (simp [scal] at h)
  | ro d x h => obtain ⟨a, cap, rfl, _⟩ := h; rfl
  | _ => rfl
end Go.AE
