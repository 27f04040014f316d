/-
  The library's merge in place, walked: the general step, and the whole by induction. The library's insertion sort of a part of a list, walked. The library's stable sort of up to thirty numbers, walked. No conditions but those in the statements.
-/
import Derived.Test.YtglbamncajileaaGreatDoorSyf
set_option linter.unusedVariables false
set_option linter.unusedSimpArgs false
set_option maxRecDepth 100000
set_option maxHeartbeats 16000000
namespace Go.Proofs.YtglbamncajileaaGreatDoor
open Go.AE
section
attribute [local irreducible] CallA LoopA DrawA CallQ arithK quoK remK eqK
structure CutFor (r : Int → Int) (d : List Int) (a m b c s : Nat) : Prop where
 lo : a ≤ s
 hb : c + m ≤ s + b
 hm : s ≤ m
 hc : s ≤ c
 c1 : s = a ∨ c + m - s = b ∨ ¬ r (nt d (s - 1)) < r (nt d (c + m - s))
 c2 : s = m ∨ c + m - s = m ∨ r (nt d s) < r (nt d (c + m - s - 1))
abbrev SymOut (r : Int → Int) (a b : Nat) (d : List Int) (v : AV) (J : List Blk) : Prop := ∃ (e : List Int) (x s : Int), v = .tup [] ∧ J = [Di e] ∧ (Mv a b d e ∧ Srt r e a b) ∧ (x = 0 ∧ s = 0)
def SymOk (f : FuncId) (caps : List AV) (r : Int → Int) (n w : Nat) : Prop := ∀ (d : List Int) (a m b : Nat), InR n d → b - a ≤ w → a < m → m < b → b ≤ d.length → d.length ≤ 60 → Srt r d a m → Srt r d m b → Ahd d a m b →
 Ca 325 [.sl 0 1 d.length, I a, I m, I b, .fn f caps] [Di d] (SymOut r a b d)
theorem CutFor.facts {r : Int → Int} {d : List Int} {a m b c s : Nat} (h : CutFor r d a m b c s) (_ : a < m) (_ : m < b) (hc0 : a < c) (_ : c < b) (s1 : Srt r d a m) (s2 : Srt r d m b) : m ≤ c + m - s ∧ c + m - s ≤ b ∧ CutAt r d a m b s (c + m - s) := by
 have h1 := h.lo
 have h2 := h.hb
 have h3 := h.hm
 have h4 := h.hc
 exact ⟨by omega, by omega, cut_of s1 s2 h1 h3 (by omega) (by omega) h.c1 h.c2⟩
theorem sym_fin {r : Int → Int} {d e e1 e2 : List Int} {a m b c s : Nat} (h : CutFor r d a m b c s) (ham : a < m) (hmb : m < b) (hc0 : a < c) (hcb : c < b) (_ : b ≤ d.length) (s1 : Srt r d a m) (s2 : Srt r d m b) (s3 : Ahd d a m b)
   (he : e.length = d.length ∧ e.Perm d ∧ ∀ k, nt e k = rotp d s m (c + m - s) k) (m1 : Mv a c e e1) (q1 : Srt r e1 a c) (m2 : Mv c b e1 e2) (q2 : Srt r e2 c b) : Mv a b d e2 ∧ Srt r e2 a b := by
 obtain ⟨f1, f2, f3⟩ := h.facts ham hmb hc0 hcb s1 s2
 have hh := halves s1 s2 s3 h.lo h.hm f1 f2 (c := c) (by have := h.hm; omega) f3 he.2.2
 have hr := (Mv.rot h.hm f1 he.1 he.2.1 he.2.2).wide h.lo f2
 exact ⟨hr.trans ((m1.wide (Nat.le_refl _) (by omega)).trans (m2.wide (by omega) (Nat.le_refl _))), merged hh m1 q1 m2 q2⟩
theorem srt_out {r : Int → Int} {e e1 : List Int} {a c x y : Nat} (m1 : Mv a c e e1) (h : Srt r e x y) (hx : c ≤ x) : Srt r e1 x y := fun i j i1 i2 i3 => by
 rw [m1.out i (.inr (by omega)), m1.out j (.inr (by omega))]; exact h i j i1 i2 i3
theorem ahd_out {e e1 : List Int} {a c x y z : Nat} (m1 : Mv a c e e1) (h : Ahd e x y z) (hx : c ≤ x) (_ : x ≤ y) : Ahd e1 x y z := fun i j i1 i2 j1 j2 => by
 rw [m1.out i (.inr (by omega)), m1.out j (.inr (by omega))]; exact h i j i1 i2 j1 j2
theorem symGen_call (f : FuncId) (caps : List AV) (hc : capsOk caps = true) (r : Int → Int) (n w : Nat) (hcmp : CmpOk f caps r n) (ih : SymOk f caps r n w) (d : List Int) (hd : InR n d) (a m b : Nat) (hw : b - a ≤ w + 1) (h1 : a + 1 < m) (h2 : m + 1 < b) (h3 : b ≤ d.length)
   (hl : d.length ≤ 60) (s1 : Srt r d a m) (s2 : Srt r d m b) (s3 : Ahd d a m b) :
   Ca 325 [.sl 0 1 d.length, I a, I m, I b, .fn f caps] [Di d] (SymOut r a b d) := by
 refine cZ Tryz.func325 ?_
 obtain ⟨c, hcd⟩ : ∃ c, c = (a + b) / 2 := ⟨_, rfl⟩
 have c1 : a < c := by omega
 have c2 : c < b := by omega
 repeat' (conv => whnf); first | (intro h; try exact nZ) | apply And.intro | refine sZ ?_ | fail
 all_goals try exact rZ
 all_goals (refine half_ok ?_; rw [← hcd])
 by_cases hcm : c < m
 · obtain ⟨s0, hs0⟩ : ∃ s0, s0 = c + m - b := ⟨_, rfl⟩
   obtain ⟨r0, hr0⟩ : ∃ r0, r0 = c := ⟨_, rfl⟩
   have f1 : a ≤ s0 ∧ c + m ≤ s0 + b ∧ r0 ≤ m ∧ r0 ≤ c ∧ s0 ≤ r0 := ⟨by omega, by omega, by omega, by omega, by omega⟩
   have f2 : s0 = a ∨ c + m - s0 = b := by omega
   have f3 : r0 = m ∨ c + m - r0 = m := by omega
   obtain ⟨f4, f5, f6, f7, f8⟩ := f1
   repeat' (conv => whnf); first | (intro h; try exact nZ) | apply And.intro | refine sZ ?_ | fail
   all_goals try exact rZ
   (conv => whnf)
   refine loop_rule hT (fun q : Nat × Nat => (s0 ≤ q.1 ∧ q.1 ≤ q.2 ∧ q.2 ≤ r0) ∧ (q.1 = s0 ∨ ¬ r (nt d (q.1 - 1)) < r (nt d (c + m - q.1))) ∧ (q.2 = r0 ∨ r (nt d q.2) < r (nt d (c + m - q.2 - 1)))) 220 1 [0, 1, 2, 3, 4, 18, 19, 20, 21, 22] (fun q => [.sl 0 1 d.length, I a, I m, I b, .fn f caps, I c, I ((c : Int) + m), I q.1, I q.2, I ((c : Int) + m - 1)]) (fun _ => [Di d]) (fun q => q.2 - q.1) ((s0, r0)) (Nat.le_of_ble_eq_true rfl) ?_ ?_ ?_
   · exact ⟨⟨Nat.le_refl _, f8, Nat.le_refl _⟩, .inl rfl, .inl rfl⟩
   · (refine ⟨rfl, [], ?_, ?_⟩; (repeat' first | apply And.intro | exact xZ | first | exact caps_vm hc | (dsimp only; omega) | fail); done)
   · rintro ⟨s, t⟩ ⟨⟨g1, g2, g3⟩, g4, g5⟩
     dsimp only at g1 g2 g3 g4 g5 ⊢
     by_cases hst : s < t
     · obtain ⟨z, hz⟩ : ∃ z, z = (s + t) / 2 := ⟨_, rfl⟩
       have z1 : s ≤ z := by omega
       have z2 : z < t := by omega
       have z3 : ((c : Int) + m - 1 - z).toNat = c + m - z - 1 := by omega
       have z4 : c + m - z - 1 < d.length := by omega
       have k1 := hd.at (i := c + m - z - 1) z4
       have k2 := hd.at (i := z) (by omega)
       have hk : Rt f ([I (nt d ((c : Int) + m - 1 - z).toNat), I (nt d z)] ++ caps) (I (cI (r (nt d (c + m - z - 1))) (r (nt d z)))) := by rw [z3]; exact hcmp _ _ k1.1 k1.2 k2.1 k2.2
       have hneg := cI_neg (a := r (nt d (c + m - z - 1))) (b := r (nt d z))
       repeat' (conv => whnf); first | (intro h; try exact nZ) | apply And.intro | refine sZ ?_ | fail
       all_goals try omega
       all_goals (refine half_ok ?_; rw [← hz])
       repeat' (conv => whnf); first | (intro h; try exact nZ) | apply And.intro | refine sZ ?_ | (refine Ret.go hk (by simp [caps_self hc, selfV, self1]) rfl ?_) | fail
       all_goals first | omega | (show _ < List.length _; omega) | skip
       all_goals (conv => whnf)
       · refine ⟨(s, z), ⟨⟨g1, z1, by dsimp only; omega⟩, g4, .inr (hneg.1 ‹_›)⟩, ?_, by dsimp only; omega⟩
         (refine ⟨rfl, [], ?_, ?_⟩; (repeat' first | apply And.intro | exact xZ | first | exact caps_vm hc | (dsimp only; omega) | fail); done)
       · have hlt : ¬ r (nt d z) < r (nt d (c + m - z - 1)) := fun hh => absurd (hneg.2 hh) ‹_›
         refine ⟨(z + 1, t), ⟨⟨by dsimp only; omega, by dsimp only; omega, g3⟩, .inr ?_, g5⟩, ?_, by dsimp only; omega⟩
         · dsimp only
           rw [show z + 1 - 1 = z by omega, show c + m - (z + 1) = c + m - z - 1 by omega]
           exact hlt
         · (refine ⟨rfl, [], ?_, ?_⟩; (repeat' first | apply And.intro | exact xZ | first | exact caps_vm hc | (dsimp only; omega) | fail); done)
     · obtain rfl : s = t := by omega
       have cut : CutFor r d a m b c s := ⟨by omega, by omega, by omega, by omega, by
         rcases g4 with g | g
         · rw [g]; rcases f2 with k | k
           · exact .inl k
           · exact .inr (.inl k)
         · exact .inr (.inr g), by
         rcases g5 with g | g
         · rw [g]; rcases f3 with k | k
           · exact .inl k
           · exact .inr (.inl k)
         · exact .inr (.inr g)⟩
       clear g4 g5 f2 f3
       obtain ⟨t1, t2, hcut⟩ := cut.facts (by omega) (by omega) c1 c2 s1 s2
       have hct : ((c + m - s : Nat) : Int) = (c : Int) + m - s := by omega
       have hhv : ∀ e : List Int, (e.length = d.length ∧ e.Perm d ∧ ∀ k, nt e k = rotp d s m (c + m - s) k) → Halves r e a s c (c + m - s) b := fun e he => halves s1 s2 s3 cut.lo cut.hm t1 t2 (by have := cut.hm; omega) hcut he.2.2
       have hL : ∀ e : List Int, (e.length = d.length ∧ e.Perm d ∧ ∀ k, nt e k = rotp d s m (c + m - s) k) → a < s → s < c → Ca 325 [.sl 0 1 d.length, I a, I s, I c, .fn f caps] [Di e] (SymOut r a c e) := fun e he b1 b2 => by
         have hh := hhv e he
         have hk := ih e a s c (hd.perm he.2.1) (by omega) b1 b2 (by omega) (by omega) hh.l1 hh.l2 hh.l3
         rwa [he.1] at hk
       have hR : ∀ e e1 : List Int, (e.length = d.length ∧ e.Perm d ∧ ∀ k, nt e k = rotp d s m (c + m - s) k) → Mv a c e e1 → s < m → c + m - s < b → Ca 325 [.sl 0 1 d.length, I c, I ((c : Int) + m - s), I b, .fn f caps] [Di e1] (SymOut r c b e1) := fun e e1 he m1 b1 b2 => by
         have hh := hhv e he
         have hk := ih e1 c (c + m - s) b ((hd.perm he.2.1).perm m1.perm) (by omega) (by omega) b2 (by have := m1.len; omega) (by have := m1.len; omega) (srt_out m1 hh.r1 (Nat.le_refl _)) (srt_out m1 hh.r2 (by omega)) (ahd_out m1 hh.r3 (Nat.le_refl _) (by omega))
         rwa [m1.len, he.1, hct] at hk
       have nL : ∀ e : List Int, (e.length = d.length ∧ e.Perm d ∧ ∀ k, nt e k = rotp d s m (c + m - s) k) → ¬ (a < s ∧ s < c) → Srt r e a c := fun e he nb => by
         have hh := hhv e he
         by_cases q : s = a
         · have := hh.l2; rwa [q] at this
         · have q : s = c := by have := cut.lo; have := cut.hc; omega
           have := hh.l1; rwa [q] at this
       have nR : ∀ e e1 : List Int, (e.length = d.length ∧ e.Perm d ∧ ∀ k, nt e k = rotp d s m (c + m - s) k) → Mv a c e e1 → ¬ (s < m ∧ c + m - s < b) → Srt r e1 c b := fun e e1 he m1 nb => by
         have hh := hhv e he
         by_cases q : s = m
         · have := hh.r2; rw [show c + m - s = c by omega] at this; exact srt_out m1 this (Nat.le_refl _)
         · have q : c + m - s = b := by have := cut.hm; omega
           have := hh.r1; rw [q] at this; exact srt_out m1 this (Nat.le_refl _)
       have fin : ∀ e e1 e2 : List Int, (e.length = d.length ∧ e.Perm d ∧ ∀ k, nt e k = rotp d s m (c + m - s) k) → (Mv a c e e1 ∧ Srt r e1 a c) → (Mv c b e1 e2 ∧ Srt r e2 c b) → Mv a b d e2 ∧ Srt r e2 a b := fun e e1 e2 he h1' h2' => sym_fin cut (by omega) (by omega) c1 c2 h3 s1 s2 s3 he h1'.1 h1'.2 h2'.1 h2'.2
       have d1 := cut.lo
       have d2 := cut.hm
       have d3 := cut.hc
       clear hcut hhv
       have hca : vmL (amE false [0] [Di d]) caps caps := caps_am hc
       by_cases hA : s < m ∧ s < c
       · have hrot := rotate_call f caps hc d s m (c + m - s) hA.1 (by omega) (by omega) hl
         rw [hct] at hrot
         by_cases hB : a < s ∧ s < c
         · by_cases hC : s < m ∧ c + m - s < b
           · repeat' (conv => whnf); first | (intro h; try exact nZ) | apply And.intro | refine sZ ?_ | (refine CallA.gE [0] (hrot) ?_; rintro e x2 s2 ⟨he, _⟩; (try conv => whnf); have hca1 : vmL (amE false [0] [Di e]) caps caps := caps_am hc) | (refine CallA.gE [0] (hL e he hB.1 hB.2) ?_; rintro e1 x3 s3 ⟨⟨m1, q1⟩, _⟩; (try conv => whnf); have hca2 : vmL (amE false [0] [Di e1]) caps caps := caps_am hc) | (refine CallA.gE [0] (hR e e1 he m1 hC.1 hC.2) ?_; rintro e2 x4 s4 ⟨⟨m2, q2⟩, _⟩; (try conv => whnf)) | fail
             all_goals first | exact rZ | exact caps_vm hc | skip
             all_goals ((conv => whnf); refine ⟨[], .tup [], [Di e2], ?_, ?_, ⟨e2, 0, 0, rfl, rfl, fin e e1 e2 he ⟨m1, q1⟩ ⟨m2, q2⟩, rfl, rfl⟩⟩)
             all_goals (repeat' (first | exact rfl | exact trivial | refine And.intro ?_ ?_))
           · repeat' (conv => whnf); first | (intro h; try exact nZ) | apply And.intro | refine sZ ?_ | (refine CallA.gE [0] (hrot) ?_; rintro e x2 s2 ⟨he, _⟩; (try conv => whnf); have hca1 : vmL (amE false [0] [Di e]) caps caps := caps_am hc) | (refine CallA.gE [0] (hL e he hB.1 hB.2) ?_; rintro e1 x3 s3 ⟨⟨m1, q1⟩, _⟩; (try conv => whnf); have hca2 : vmL (amE false [0] [Di e1]) caps caps := caps_am hc) | fail
             all_goals first | exact rZ | exact caps_vm hc | skip
             all_goals ((conv => whnf); refine ⟨[], .tup [], [Di e1], ?_, ?_, ⟨e1, 0, 0, rfl, rfl, fin e e1 e1 he ⟨m1, q1⟩ ⟨Mv.refl _ _ _, nR e e1 he m1 hC⟩, rfl, rfl⟩⟩)
             all_goals (repeat' (first | exact rfl | exact trivial | refine And.intro ?_ ?_))
         · by_cases hC : s < m ∧ c + m - s < b
           · repeat' (conv => whnf); first | (intro h; try exact nZ) | apply And.intro | refine sZ ?_ | (refine CallA.gE [0] (hrot) ?_; rintro e x2 s2 ⟨he, _⟩; (try conv => whnf); have hca1 : vmL (amE false [0] [Di e]) caps caps := caps_am hc) | (refine CallA.gE [0] (hR e e he (Mv.refl _ _ _) hC.1 hC.2) ?_; rintro e2 x4 s4 ⟨⟨m2, q2⟩, _⟩; (try conv => whnf)) | fail
             all_goals first | exact rZ | exact caps_vm hc | skip
             all_goals ((conv => whnf); refine ⟨[], .tup [], [Di e2], ?_, ?_, ⟨e2, 0, 0, rfl, rfl, fin e e e2 he ⟨Mv.refl _ _ _, nL e he hB⟩ ⟨m2, q2⟩, rfl, rfl⟩⟩)
             all_goals (repeat' (first | exact rfl | exact trivial | refine And.intro ?_ ?_))
           · repeat' (conv => whnf); first | (intro h; try exact nZ) | apply And.intro | refine sZ ?_ | (refine CallA.gE [0] (hrot) ?_; rintro e x2 s2 ⟨he, _⟩; (try conv => whnf); have hca1 : vmL (amE false [0] [Di e]) caps caps := caps_am hc) | fail
             all_goals first | exact rZ | exact caps_vm hc | skip
             all_goals ((conv => whnf); refine ⟨[], .tup [], [Di e], ?_, ?_, ⟨e, 0, 0, rfl, rfl, fin e e e he ⟨Mv.refl _ _ _, nL e he hB⟩ ⟨Mv.refl _ _ _, nR e e he (Mv.refl _ _ _) hC⟩, rfl, rfl⟩⟩)
             all_goals (repeat' (first | exact rfl | exact trivial | refine And.intro ?_ ?_))
       · have he : d.length = d.length ∧ d.Perm d ∧ ∀ k, nt d k = rotp d s m (c + m - s) k := ⟨rfl, List.Perm.refl _, fun k => by
           by_cases q : s = m
           · rw [q]; exact rot_idl (by omega) k
           · rw [show c + m - s = m by omega]; exact rot_idr d2 k⟩
         by_cases hB : a < s ∧ s < c
         · by_cases hC : s < m ∧ c + m - s < b
           · exfalso; omega
           · repeat' (conv => whnf); first | (intro h; try exact nZ) | apply And.intro | refine sZ ?_ | (refine CallA.gE [0] (hL d he hB.1 hB.2) ?_; rintro e1 x3 s3 ⟨⟨m1, q1⟩, _⟩; (try conv => whnf); have hca2 : vmL (amE false [0] [Di e1]) caps caps := caps_am hc) | fail
             all_goals first | exact rZ | exact caps_vm hc | skip
             all_goals ((conv => whnf); refine ⟨[], .tup [], [Di e1], ?_, ?_, ⟨e1, 0, 0, rfl, rfl, fin d e1 e1 he ⟨m1, q1⟩ ⟨Mv.refl _ _ _, nR d e1 he m1 hC⟩, rfl, rfl⟩⟩)
             all_goals (repeat' (first | exact rfl | exact trivial | refine And.intro ?_ ?_))
         · by_cases hC : s < m ∧ c + m - s < b
           · repeat' (conv => whnf); first | (intro h; try exact nZ) | apply And.intro | refine sZ ?_ | (refine CallA.gE [0] (hR d d he (Mv.refl _ _ _) hC.1 hC.2) ?_; rintro e2 x4 s4 ⟨⟨m2, q2⟩, _⟩; (try conv => whnf)) | fail
             all_goals first | exact rZ | exact caps_vm hc | skip
             all_goals ((conv => whnf); refine ⟨[], .tup [], [Di e2], ?_, ?_, ⟨e2, 0, 0, rfl, rfl, fin d d e2 he ⟨Mv.refl _ _ _, nL d he hB⟩ ⟨m2, q2⟩, rfl, rfl⟩⟩)
             all_goals (repeat' (first | exact rfl | exact trivial | refine And.intro ?_ ?_))
           · repeat' (conv => whnf); first | (intro h; try exact nZ) | apply And.intro | refine sZ ?_ | fail
             all_goals first | exact rZ | exact caps_vm hc | skip
             all_goals ((conv => whnf); refine ⟨[], .tup [], [Di d], ?_, ?_, ⟨d, 0, 0, rfl, rfl, fin d d d he ⟨Mv.refl _ _ _, nL d he hB⟩ ⟨Mv.refl _ _ _, nR d d he (Mv.refl _ _ _) hC⟩, rfl, rfl⟩⟩)
             all_goals (repeat' (first | exact rfl | exact trivial | refine And.intro ?_ ?_))
 · obtain ⟨s0, hs0⟩ : ∃ s0, s0 = a := ⟨_, rfl⟩
   obtain ⟨r0, hr0⟩ : ∃ r0, r0 = m := ⟨_, rfl⟩
   have f1 : a ≤ s0 ∧ c + m ≤ s0 + b ∧ r0 ≤ m ∧ r0 ≤ c ∧ s0 ≤ r0 := ⟨by omega, by omega, by omega, by omega, by omega⟩
   have f2 : s0 = a ∨ c + m - s0 = b := by omega
   have f3 : r0 = m ∨ c + m - r0 = m := by omega
   obtain ⟨f4, f5, f6, f7, f8⟩ := f1
   repeat' (conv => whnf); first | (intro h; try exact nZ) | apply And.intro | refine sZ ?_ | fail
   all_goals try exact rZ
   (conv => whnf)
   refine loop_rule hT (fun q : Nat × Nat => (s0 ≤ q.1 ∧ q.1 ≤ q.2 ∧ q.2 ≤ r0) ∧ (q.1 = s0 ∨ ¬ r (nt d (q.1 - 1)) < r (nt d (c + m - q.1))) ∧ (q.2 = r0 ∨ r (nt d q.2) < r (nt d (c + m - q.2 - 1)))) 220 1 [0, 1, 2, 3, 4, 18, 19, 20, 21, 22] (fun q => [.sl 0 1 d.length, I a, I m, I b, .fn f caps, I c, I ((c : Int) + m), I q.1, I q.2, I ((c : Int) + m - 1)]) (fun _ => [Di d]) (fun q => q.2 - q.1) ((s0, r0)) (Nat.le_of_ble_eq_true rfl) ?_ ?_ ?_
   · exact ⟨⟨Nat.le_refl _, f8, Nat.le_refl _⟩, .inl rfl, .inl rfl⟩
   · (refine ⟨rfl, [], ?_, ?_⟩; (repeat' first | apply And.intro | exact xZ | first | exact caps_vm hc | (dsimp only; omega) | fail); done)
   · rintro ⟨s, t⟩ ⟨⟨g1, g2, g3⟩, g4, g5⟩
     dsimp only at g1 g2 g3 g4 g5 ⊢
     by_cases hst : s < t
     · obtain ⟨z, hz⟩ : ∃ z, z = (s + t) / 2 := ⟨_, rfl⟩
       have z1 : s ≤ z := by omega
       have z2 : z < t := by omega
       have z3 : ((c : Int) + m - 1 - z).toNat = c + m - z - 1 := by omega
       have z4 : c + m - z - 1 < d.length := by omega
       have k1 := hd.at (i := c + m - z - 1) z4
       have k2 := hd.at (i := z) (by omega)
       have hk : Rt f ([I (nt d ((c : Int) + m - 1 - z).toNat), I (nt d z)] ++ caps) (I (cI (r (nt d (c + m - z - 1))) (r (nt d z)))) := by rw [z3]; exact hcmp _ _ k1.1 k1.2 k2.1 k2.2
       have hneg := cI_neg (a := r (nt d (c + m - z - 1))) (b := r (nt d z))
       repeat' (conv => whnf); first | (intro h; try exact nZ) | apply And.intro | refine sZ ?_ | fail
       all_goals try omega
       all_goals (refine half_ok ?_; rw [← hz])
       repeat' (conv => whnf); first | (intro h; try exact nZ) | apply And.intro | refine sZ ?_ | (refine Ret.go hk (by simp [caps_self hc, selfV, self1]) rfl ?_) | fail
       all_goals first | omega | (show _ < List.length _; omega) | skip
       all_goals (conv => whnf)
       · refine ⟨(s, z), ⟨⟨g1, z1, by dsimp only; omega⟩, g4, .inr (hneg.1 ‹_›)⟩, ?_, by dsimp only; omega⟩
         (refine ⟨rfl, [], ?_, ?_⟩; (repeat' first | apply And.intro | exact xZ | first | exact caps_vm hc | (dsimp only; omega) | fail); done)
       · have hlt : ¬ r (nt d z) < r (nt d (c + m - z - 1)) := fun hh => absurd (hneg.2 hh) ‹_›
         refine ⟨(z + 1, t), ⟨⟨by dsimp only; omega, by dsimp only; omega, g3⟩, .inr ?_, g5⟩, ?_, by dsimp only; omega⟩
         · dsimp only
           rw [show z + 1 - 1 = z by omega, show c + m - (z + 1) = c + m - z - 1 by omega]
           exact hlt
         · (refine ⟨rfl, [], ?_, ?_⟩; (repeat' first | apply And.intro | exact xZ | first | exact caps_vm hc | (dsimp only; omega) | fail); done)
     · obtain rfl : s = t := by omega
       have cut : CutFor r d a m b c s := ⟨by omega, by omega, by omega, by omega, by
         rcases g4 with g | g
         · rw [g]; rcases f2 with k | k
           · exact .inl k
           · exact .inr (.inl k)
         · exact .inr (.inr g), by
         rcases g5 with g | g
         · rw [g]; rcases f3 with k | k
           · exact .inl k
           · exact .inr (.inl k)
         · exact .inr (.inr g)⟩
       clear g4 g5 f2 f3
       obtain ⟨t1, t2, hcut⟩ := cut.facts (by omega) (by omega) c1 c2 s1 s2
       have hct : ((c + m - s : Nat) : Int) = (c : Int) + m - s := by omega
       have hhv : ∀ e : List Int, (e.length = d.length ∧ e.Perm d ∧ ∀ k, nt e k = rotp d s m (c + m - s) k) → Halves r e a s c (c + m - s) b := fun e he => halves s1 s2 s3 cut.lo cut.hm t1 t2 (by have := cut.hm; omega) hcut he.2.2
       have hL : ∀ e : List Int, (e.length = d.length ∧ e.Perm d ∧ ∀ k, nt e k = rotp d s m (c + m - s) k) → a < s → s < c → Ca 325 [.sl 0 1 d.length, I a, I s, I c, .fn f caps] [Di e] (SymOut r a c e) := fun e he b1 b2 => by
         have hh := hhv e he
         have hk := ih e a s c (hd.perm he.2.1) (by omega) b1 b2 (by omega) (by omega) hh.l1 hh.l2 hh.l3
         rwa [he.1] at hk
       have hR : ∀ e e1 : List Int, (e.length = d.length ∧ e.Perm d ∧ ∀ k, nt e k = rotp d s m (c + m - s) k) → Mv a c e e1 → s < m → c + m - s < b → Ca 325 [.sl 0 1 d.length, I c, I ((c : Int) + m - s), I b, .fn f caps] [Di e1] (SymOut r c b e1) := fun e e1 he m1 b1 b2 => by
         have hh := hhv e he
         have hk := ih e1 c (c + m - s) b ((hd.perm he.2.1).perm m1.perm) (by omega) (by omega) b2 (by have := m1.len; omega) (by have := m1.len; omega) (srt_out m1 hh.r1 (Nat.le_refl _)) (srt_out m1 hh.r2 (by omega)) (ahd_out m1 hh.r3 (Nat.le_refl _) (by omega))
         rwa [m1.len, he.1, hct] at hk
       have nL : ∀ e : List Int, (e.length = d.length ∧ e.Perm d ∧ ∀ k, nt e k = rotp d s m (c + m - s) k) → ¬ (a < s ∧ s < c) → Srt r e a c := fun e he nb => by
         have hh := hhv e he
         by_cases q : s = a
         · have := hh.l2; rwa [q] at this
         · have q : s = c := by have := cut.lo; have := cut.hc; omega
           have := hh.l1; rwa [q] at this
       have nR : ∀ e e1 : List Int, (e.length = d.length ∧ e.Perm d ∧ ∀ k, nt e k = rotp d s m (c + m - s) k) → Mv a c e e1 → ¬ (s < m ∧ c + m - s < b) → Srt r e1 c b := fun e e1 he m1 nb => by
         have hh := hhv e he
         by_cases q : s = m
         · have := hh.r2; rw [show c + m - s = c by omega] at this; exact srt_out m1 this (Nat.le_refl _)
         · have q : c + m - s = b := by have := cut.hm; omega
           have := hh.r1; rw [q] at this; exact srt_out m1 this (Nat.le_refl _)
       have fin : ∀ e e1 e2 : List Int, (e.length = d.length ∧ e.Perm d ∧ ∀ k, nt e k = rotp d s m (c + m - s) k) → (Mv a c e e1 ∧ Srt r e1 a c) → (Mv c b e1 e2 ∧ Srt r e2 c b) → Mv a b d e2 ∧ Srt r e2 a b := fun e e1 e2 he h1' h2' => sym_fin cut (by omega) (by omega) c1 c2 h3 s1 s2 s3 he h1'.1 h1'.2 h2'.1 h2'.2
       have d1 := cut.lo
       have d2 := cut.hm
       have d3 := cut.hc
       clear hcut hhv
       have hca : vmL (amE false [0] [Di d]) caps caps := caps_am hc
       by_cases hA : s < m ∧ s < c
       · have hrot := rotate_call f caps hc d s m (c + m - s) hA.1 (by omega) (by omega) hl
         rw [hct] at hrot
         by_cases hB : a < s ∧ s < c
         · by_cases hC : s < m ∧ c + m - s < b
           · repeat' (conv => whnf); first | (intro h; try exact nZ) | apply And.intro | refine sZ ?_ | (refine CallA.gE [0] (hrot) ?_; rintro e x2 s2 ⟨he, _⟩; (try conv => whnf); have hca1 : vmL (amE false [0] [Di e]) caps caps := caps_am hc) | (refine CallA.gE [0] (hL e he hB.1 hB.2) ?_; rintro e1 x3 s3 ⟨⟨m1, q1⟩, _⟩; (try conv => whnf); have hca2 : vmL (amE false [0] [Di e1]) caps caps := caps_am hc) | (refine CallA.gE [0] (hR e e1 he m1 hC.1 hC.2) ?_; rintro e2 x4 s4 ⟨⟨m2, q2⟩, _⟩; (try conv => whnf)) | fail
             all_goals first | exact rZ | exact caps_vm hc | skip
             all_goals ((conv => whnf); refine ⟨[], .tup [], [Di e2], ?_, ?_, ⟨e2, 0, 0, rfl, rfl, fin e e1 e2 he ⟨m1, q1⟩ ⟨m2, q2⟩, rfl, rfl⟩⟩)
             all_goals (repeat' (first | exact rfl | exact trivial | refine And.intro ?_ ?_))
           · repeat' (conv => whnf); first | (intro h; try exact nZ) | apply And.intro | refine sZ ?_ | (refine CallA.gE [0] (hrot) ?_; rintro e x2 s2 ⟨he, _⟩; (try conv => whnf); have hca1 : vmL (amE false [0] [Di e]) caps caps := caps_am hc) | (refine CallA.gE [0] (hL e he hB.1 hB.2) ?_; rintro e1 x3 s3 ⟨⟨m1, q1⟩, _⟩; (try conv => whnf); have hca2 : vmL (amE false [0] [Di e1]) caps caps := caps_am hc) | fail
             all_goals first | exact rZ | exact caps_vm hc | skip
             all_goals ((conv => whnf); refine ⟨[], .tup [], [Di e1], ?_, ?_, ⟨e1, 0, 0, rfl, rfl, fin e e1 e1 he ⟨m1, q1⟩ ⟨Mv.refl _ _ _, nR e e1 he m1 hC⟩, rfl, rfl⟩⟩)
             all_goals (repeat' (first | exact rfl | exact trivial | refine And.intro ?_ ?_))
         · by_cases hC : s < m ∧ c + m - s < b
           · repeat' (conv => whnf); first | (intro h; try exact nZ) | apply And.intro | refine sZ ?_ | (refine CallA.gE [0] (hrot) ?_; rintro e x2 s2 ⟨he, _⟩; (try conv => whnf); have hca1 : vmL (amE false [0] [Di e]) caps caps := caps_am hc) | (refine CallA.gE [0] (hR e e he (Mv.refl _ _ _) hC.1 hC.2) ?_; rintro e2 x4 s4 ⟨⟨m2, q2⟩, _⟩; (try conv => whnf)) | fail
             all_goals first | exact rZ | exact caps_vm hc | skip
             all_goals ((conv => whnf); refine ⟨[], .tup [], [Di e2], ?_, ?_, ⟨e2, 0, 0, rfl, rfl, fin e e e2 he ⟨Mv.refl _ _ _, nL e he hB⟩ ⟨m2, q2⟩, rfl, rfl⟩⟩)
             all_goals (repeat' (first | exact rfl | exact trivial | refine And.intro ?_ ?_))
           · repeat' (conv => whnf); first | (intro h; try exact nZ) | apply And.intro | refine sZ ?_ | (refine CallA.gE [0] (hrot) ?_; rintro e x2 s2 ⟨he, _⟩; (try conv => whnf); have hca1 : vmL (amE false [0] [Di e]) caps caps := caps_am hc) | fail
             all_goals first | exact rZ | exact caps_vm hc | skip
             all_goals ((conv => whnf); refine ⟨[], .tup [], [Di e], ?_, ?_, ⟨e, 0, 0, rfl, rfl, fin e e e he ⟨Mv.refl _ _ _, nL e he hB⟩ ⟨Mv.refl _ _ _, nR e e he (Mv.refl _ _ _) hC⟩, rfl, rfl⟩⟩)
             all_goals (repeat' (first | exact rfl | exact trivial | refine And.intro ?_ ?_))
       · have he : d.length = d.length ∧ d.Perm d ∧ ∀ k, nt d k = rotp d s m (c + m - s) k := ⟨rfl, List.Perm.refl _, fun k => by
           by_cases q : s = m
           · rw [q]; exact rot_idl (by omega) k
           · rw [show c + m - s = m by omega]; exact rot_idr d2 k⟩
         by_cases hB : a < s ∧ s < c
         · by_cases hC : s < m ∧ c + m - s < b
           · exfalso; omega
           · repeat' (conv => whnf); first | (intro h; try exact nZ) | apply And.intro | refine sZ ?_ | (refine CallA.gE [0] (hL d he hB.1 hB.2) ?_; rintro e1 x3 s3 ⟨⟨m1, q1⟩, _⟩; (try conv => whnf); have hca2 : vmL (amE false [0] [Di e1]) caps caps := caps_am hc) | fail
             all_goals first | exact rZ | exact caps_vm hc | skip
             all_goals ((conv => whnf); refine ⟨[], .tup [], [Di e1], ?_, ?_, ⟨e1, 0, 0, rfl, rfl, fin d e1 e1 he ⟨m1, q1⟩ ⟨Mv.refl _ _ _, nR d e1 he m1 hC⟩, rfl, rfl⟩⟩)
             all_goals (repeat' (first | exact rfl | exact trivial | refine And.intro ?_ ?_))
         · by_cases hC : s < m ∧ c + m - s < b
           · repeat' (conv => whnf); first | (intro h; try exact nZ) | apply And.intro | refine sZ ?_ | (refine CallA.gE [0] (hR d d he (Mv.refl _ _ _) hC.1 hC.2) ?_; rintro e2 x4 s4 ⟨⟨m2, q2⟩, _⟩; (try conv => whnf)) | fail
             all_goals first | exact rZ | exact caps_vm hc | skip
             all_goals ((conv => whnf); refine ⟨[], .tup [], [Di e2], ?_, ?_, ⟨e2, 0, 0, rfl, rfl, fin d d e2 he ⟨Mv.refl _ _ _, nL d he hB⟩ ⟨m2, q2⟩, rfl, rfl⟩⟩)
             all_goals (repeat' (first | exact rfl | exact trivial | refine And.intro ?_ ?_))
           · repeat' (conv => whnf); first | (intro h; try exact nZ) | apply And.intro | refine sZ ?_ | fail
             all_goals first | exact rZ | exact caps_vm hc | skip
             all_goals ((conv => whnf); refine ⟨[], .tup [], [Di d], ?_, ?_, ⟨d, 0, 0, rfl, rfl, fin d d d he ⟨Mv.refl _ _ _, nL d he hB⟩ ⟨Mv.refl _ _ _, nR d d he (Mv.refl _ _ _) hC⟩, rfl, rfl⟩⟩)
             all_goals (repeat' (first | exact rfl | exact trivial | refine And.intro ?_ ?_))
theorem sym_call (f : FuncId) (caps : List AV) (hc : capsOk caps = true) (r : Int → Int) (n : Nat) (hcmp : CmpOk f caps r n) : ∀ w, SymOk f caps r n w
 | 0 => fun d a m b _ hw h1 h2 => by omega
 | w + 1 => fun d a m b hd hw h1 h2 h3 hl s1 s2 s3 => by
   by_cases c1 : m = a + 1
   · subst c1
     exact symOne_call f caps hc r n hcmp d hd a b (by omega) h3 hl s2 s3
   · by_cases c2 : b = m + 1
     · subst c2
       exact symLast_call f caps hc r n hcmp d hd a m (by omega) h3 hl s1 s3
     · exact symGen_call f caps hc r n w hcmp (sym_call f caps hc r n hcmp w) d hd a m b hw (by omega) (by omega) h3 hl s1 s2 s3
end
section
attribute [local irreducible] CallA LoopA DrawA CallQ arithK quoK remK eqK
def Up (d : List Int) (a b : Nat) : Prop := ∀ i j, a ≤ i → i < j → j < b → nt d i < nt d j
theorem ahd_of {d e : List Int} {a i b : Nat} (hu : Up d a b) (hm : Mv a i d e) (hi : i < b) : Ahd e a i (i + 1) := fun x y x1 x2 y1 y2 => by
 obtain rfl : y = i := by omega
 obtain ⟨j, j1, j2, j3⟩ := hm.seg x x1 x2
 rw [j3, hm.out y (.inr (Nat.le_refl _))]
 exact hu j y j1 j2 hi
theorem insertPart_call (f : FuncId) (caps : List AV) (hc : capsOk caps = true) (r : Int → Int) (n : Nat) (hcmp : CmpOk f caps r n) (d : List Int) (hd : InR n d) (a b : Nat) (h1 : a ≤ b) (h2 : b ≤ d.length) (hl : d.length ≤ 60) (hu : Up d a b) :
   Ca 324 [.sl 0 1 d.length, I a, I b, .fn f caps] [Di d] (fun v J => ∃ (e : List Int) (x s : Int), v = .tup [] ∧ J = [Di e] ∧ (Mv a b d e ∧ Srt r e a b) ∧ (x = 0 ∧ s = 0)) := by
 refine cZ Tryz.func324 ?_
 repeat' (conv => whnf); first | (intro h; try exact nZ) | apply And.intro | refine sZ ?_ | fail
 all_goals try exact rZ
 (conv => whnf)
 refine loop_rule hT (fun q : Nat × List Int => (a + 1 ≤ q.1 ∧ (q.1 ≤ b ∨ q.1 = a + 1)) ∧ Mv a q.1 d q.2 ∧ Srt r q.2 a q.1) 53 1 [0, 1, 2, 3, 8] (fun q => [.sl 0 1 d.length, I a, I b, .fn f caps, I q.1]) (fun q => [Di q.2]) (fun q => b - q.1) ((a + 1, d)) (Nat.le_of_ble_eq_true rfl) ?_ ?_ ?_
 · exact ⟨⟨Nat.le_refl _, .inr rfl⟩, Mv.refl _ _ _, fun i j i1 i2 i3 => by dsimp only at i3; omega⟩
 · (refine ⟨rfl, [], ?_, ?_⟩; (repeat' first | apply And.intro | exact xZ | first | exact caps_vm hc | (dsimp only; omega) | fail); done)
 · rintro ⟨i, e⟩ ⟨⟨g1, g2⟩, g3, g4⟩
   dsimp only at g1 g2 g3 g4 ⊢
   have hel := g3.len
   by_cases hi : i < b
   · have hah := ahd_of hu g3 hi
     have hie := hd.perm g3.perm
     repeat' (conv => whnf); first | (intro h; try exact nZ) | apply And.intro | refine sZ ?_ | fail
     all_goals try exact rZ
     (conv => whnf)
     refine loop_rule hT (fun q : Nat × List Int => (a ≤ q.1 ∧ q.1 ≤ i) ∧ (q.2.length = d.length ∧ q.2.Perm e ∧ ∀ x, nt q.2 x = rotp e q.1 i (i + 1) x) ∧ ∀ k, q.1 ≤ k → k < i → r (nt e k) < r (nt e i)) 53 1 [0, 1, 2, 3, 8, 9] (fun q => [.sl 0 1 d.length, I a, I b, .fn f caps, I i, I q.1]) (fun q => [Di q.2]) (fun q => q.1) ((i, e)) (Nat.le_of_ble_eq_true rfl) ?_ ?_ ?_
     · exact ⟨⟨by dsimp only; omega, Nat.le_refl _⟩, ⟨hel, List.Perm.refl _, rot_idl (Nat.le_succ i)⟩, fun k k1 k2 => by dsimp only at k1; omega⟩
     · (refine ⟨rfl, [], ?_, ?_⟩; (repeat' first | apply And.intro | exact xZ | first | exact caps_vm hc | (dsimp only; omega) | fail); done)
     · rintro ⟨j, g⟩ ⟨⟨j1, j2⟩, ⟨j3, j4, j5⟩, j6⟩
       dsimp only at j1 j2 j3 j4 j5 j6 ⊢
       have hfin : (j = a ∨ ¬ r (nt e (j - 1)) < r (nt e i)) → Mv a (i + 1) d g ∧ Srt r g a (i + 1) := fun hh =>
         ⟨(g3.wide (Nat.le_refl _) (Nat.le_succ i)).trans ((Mv.rot j2 (Nat.le_succ i) (by omega) j4 j5).wide j1 (Nat.le_refl _)), put_down g4 hah j1 j2 (fun k k1 k2 => by
           rcases hh with hh | hh
           · omega
           · by_cases q : k = j - 1
             · rw [q]; exact hh
             · have := (g4 k (j - 1) k1 (by omega) (by omega)).key
               omega) j6 j5⟩
       by_cases hj : a < j
       · have hx : nt g j = nt e i := by rw [j5, rotp, if_neg (by omega), if_pos (by omega)]; congr 1; omega
         have hy : nt g (j - 1) = nt e (j - 1) := by rw [j5, rotp, if_pos (by omega)]
         have htn : ((j : Int) - 1).toNat = j - 1 := by omega
         have v1 := hie.at (i := i) (by omega)
         have v2 := hie.at (i := j - 1) (by omega)
         have hk : Rt f ([I (nt g j), I (nt g ((j : Int) - 1).toNat)] ++ caps) (I (cI (r (nt e i)) (r (nt e (j - 1))))) := by
           rw [htn, hx, hy]; exact hcmp _ _ v1.1 v1.2 v2.1 v2.2
         have hneg := cI_neg (a := r (nt e i)) (b := r (nt e (j - 1)))
         have hn := down_step (show 0 < j by omega) j2 (show i < e.length by omega) (by omega) j5
         have hp := (sw_perm (d := g) (i := j) (j := j - 1) (by omega) (by omega)).trans j4
         obtain ⟨w1, w2⟩ := sw_int (e := g) (a := (j : Int)) (b := (j : Int) - 1) (x := j) (y := j - 1) rfl (by omega) (by omega)
         repeat' (conv => whnf); first | (intro h; try exact nZ) | apply And.intro | refine sZ ?_ | (refine Ret.go hk (by simp [caps_self hc, selfV, self1]) rfl ?_) | fail
         all_goals first | exact rZ | (show _ < List.length _; simp only [List.length_set]; omega) | skip
         all_goals ((conv => whnf); first
           | (refine ⟨(j - 1, sw g j (j - 1)), ⟨⟨by dsimp only; omega, by dsimp only; omega⟩, ⟨(sw_len ..).trans j3, hp, hn⟩, fun k k1 k2 => ?_⟩, ?_, by dsimp only; omega⟩
              · dsimp only at k1
                by_cases q : k = j - 1
                · rw [q]; exact hneg.1 ‹_›
                · exact j6 k (by omega) k2
              · first | (refine ⟨rfl, [], ?_, ?_⟩; (repeat' first | apply And.intro | exact xZ | first | exact caps_vm hc | (dsimp only; omega) | exact congrArg (D.ints .i64) w1 | fail); done) | (refine ⟨rfl, [], ?_, ?_⟩; (repeat' first | apply And.intro | exact xZ | first | exact caps_vm hc | (dsimp only; omega) | exact congrArg (D.ints .i64) w2 | fail); done))
           | (refine ⟨(i + 1, g), ⟨⟨by dsimp only; omega, by dsimp only; omega⟩, hfin (.inr fun hh => absurd (hneg.2 hh) ‹_›)⟩, ?_, by dsimp only; omega⟩
              (refine ⟨rfl, [], ?_, ?_⟩; (repeat' first | apply And.intro | exact xZ | first | exact caps_vm hc | (dsimp only; omega) | fail); done))
          )
       · repeat' (conv => whnf); first | (intro h; try exact nZ) | apply And.intro | refine sZ ?_ | fail
         all_goals try exact rZ
         all_goals ((conv => whnf); refine ⟨(i + 1, g), ⟨⟨by dsimp only; omega, by dsimp only; omega⟩, hfin (.inl (by omega))⟩, ?_, by dsimp only; omega⟩)
         all_goals (refine ⟨rfl, [], ?_, ?_⟩; (repeat' first | apply And.intro | exact xZ | first | exact caps_vm hc | (dsimp only; omega) | fail); done)
   · have hm : Mv a b d e ∧ Srt r e a b := by
       rcases g2 with g2 | g2
       · obtain rfl : i = b := by omega
         exact ⟨g3, g4⟩
       · by_cases hab : a = b
         · subst hab
           have := g3.seg
           refine ⟨⟨g3.len, g3.perm, fun k hk => ?_, fun k k1 k2 => absurd k2 (by omega)⟩, fun x y x1 x2 x3 => absurd x3 (by omega)⟩
           by_cases q : k = a
           · subst q
             obtain ⟨j, q1, q2, q3⟩ := g3.seg k (Nat.le_refl _) (by omega)
             rw [q3]; congr 1; omega
           · exact g3.out k (by omega)
         · obtain rfl : i = b := by omega
           exact ⟨g3, g4⟩
     repeat' (conv => whnf); first | (intro h; try exact nZ) | apply And.intro | refine sZ ?_ | fail
     all_goals try exact rZ
     all_goals ((conv => whnf); refine ⟨[], .tup [], [Di e], ?_, ?_, ⟨e, 0, 0, rfl, rfl, hm, rfl, rfl⟩⟩)
     all_goals (repeat' (first | exact rfl | exact trivial | refine And.intro ?_ ?_))
end
section
attribute [local irreducible] CallA LoopA DrawA CallQ arithK quoK remK eqK
abbrev SortOut (r : Int → Int) (d : List Int) (v : AV) (J : List Blk) : Prop := ∃ (e : List Int) (x s : Int), v = .tup [] ∧ J = [Di e] ∧ (Mv 0 d.length d e ∧ Srt r e 0 d.length) ∧ (x = 0 ∧ s = 0)
theorem up_wide {d e : List Int} {a b c : Nat} (hu : Up d a c) (hm : Mv a b d e) (hab : a ≤ b) : Up e b c := fun i j i1 i2 i3 => by
 rw [hm.out i (.inr i1), hm.out j (.inr (by omega))]
 exact hu i j (by omega) i2 i3
theorem up_part {d : List Int} {a b a' b' : Nat} (hu : Up d a b) (h1 : a ≤ a') (h2 : b' ≤ b) : Up d a' b' := fun i j i1 i2 i3 => hu i j (by omega) i2 (by omega)
theorem two_blocks {r : Int → Int} {d e g : List Int} {m b : Nat} (hu : Up d 0 b) (h1 : Mv 0 m d e) (s1 : Srt r e 0 m) (h2 : Mv m b e g) : Srt r g 0 m ∧ Ahd g 0 m b := by
 refine ⟨fun i j i1 i2 i3 => ?_, fun i j i1 i2 j1 j2 => ?_⟩
 · rw [h2.out i (.inl (by omega)), h2.out j (.inl i3)]; exact s1 i j i1 i2 i3
 · rw [h2.out i (.inl i2)]
   obtain ⟨p, p1, p2, p3⟩ := h1.seg i i1 i2
   obtain ⟨q, q1, q2, q3⟩ := h2.seg j j1 j2
   rw [p3, q3, h1.out q (.inr q1)]
   exact hu p q p1 (by omega) q2
structure PartA (r : Int → Int) (d e : List Int) : Prop where
 mv : Mv 0 d.length d e
 s1 : d.length ≤ 20 → Srt r e 0 d.length
 s2 : 20 < d.length → Srt r e 0 20 ∧ Srt r e 20 d.length ∧ Ahd e 0 20 d.length
theorem stablePart_call (f : FuncId) (caps : List AV) (hc : capsOk caps = true) (r : Int → Int) (n : Nat) (hcmp : CmpOk f caps r n) (d : List Int) (hd : InR n d) (hl : d.length ≤ 30) (hu : Up d 0 d.length) :
   Ca 323 [.sl 0 1 d.length, I d.length, .fn f caps] [Di d] (SortOut r d) := by
 refine cZ Tryz.func323 ?_
 repeat' (conv => whnf); first | (intro h; try exact nZ) | apply And.intro | refine sZ ?_ | fail
 all_goals try exact rZ
 (conv => whnf)
 refine loop_rule hT (fun q : Nat × List Int => (q.1 = 0 ∧ q.2 = d) ∨ (q.1 = 1 ∧ 20 ≤ d.length ∧ Mv 0 20 d q.2 ∧ Srt r q.2 0 20)) 63 1 [0, 1, 2, 6, 7, 8] (fun q => [.sl 0 1 d.length, I d.length, .fn f caps, I 20, I (20 * (q.1 : Int)), I (20 * (q.1 : Int) + 20)]) (fun q => [Di q.2]) (fun q => 2 - q.1) ((0, d)) (Nat.le_of_ble_eq_true rfl) ?_ ?_ ?_
 · exact .inl ⟨rfl, rfl⟩
 · (refine ⟨rfl, [], ?_, ?_⟩; (repeat' first | apply And.intro | exact xZ | first | exact caps_vm hc | (dsimp only; omega) | fail); done)
 · rintro ⟨k, e⟩ hs
   dsimp only at hs ⊢
   have hca : vmL (amE false [0] [Di e]) caps caps := caps_am hc
   rcases hs with ⟨rfl, rfl⟩ | ⟨rfl, h20, hm, hs⟩
   · by_cases h20 : 20 ≤ e.length
     · have hk := insertPart_call f caps hc r n hcmp e hd 0 20 (by omega) h20 (by omega) (up_part hu (Nat.le_refl _) h20)
       repeat' (conv => whnf); first | (intro h; try exact nZ) | apply And.intro | refine sZ ?_ | (refine CallA.gE [0] (hk) ?_; rintro e2 x2 s2 ⟨⟨hm, hs⟩, _⟩; (try conv => whnf)) | fail
       all_goals first | exact rZ | exact caps_vm hc | skip
       all_goals ((conv => whnf); refine ⟨(1, e2), .inr ⟨rfl, h20, hm, hs⟩, ?_, by dsimp only; omega⟩)
       all_goals (first | (refine ⟨rfl, [], ?_, ?_⟩; (repeat' first | apply And.intro | exact xZ | first | exact caps_vm hc | (dsimp only; omega) | fail); done))
     · have hk := insertPart_call f caps hc r n hcmp e hd 0 e.length (by omega) (Nat.le_refl _) (by omega) hu
       generalize hde : e = d at *
       repeat' (conv => whnf); first | (intro h; try exact nZ) | apply And.intro | refine sZ ?_ | (refine CallA.gE [0] (hk) ?_; rintro e2 x2 s2 ⟨⟨hm, hs⟩, _⟩; (try conv => whnf)) | fail
       all_goals first | exact rZ | exact caps_vm hc | skip
       (conv => whnf)
       refine loop_rule hT (fun _ : Nat => True) 63 1 [0, 1, 2, 6] (fun _ => [.sl 0 1 d.length, I d.length, .fn f caps, I 20]) (fun _ => [Di e2]) (fun _ => 0) (0) (Nat.le_of_ble_eq_true rfl) ?_ ?_ ?_
       · trivial
       · (refine ⟨rfl, [], ?_, ?_⟩; (repeat' first | apply And.intro | exact xZ | first | exact caps_vm hc | (dsimp only; omega) | fail); done)
       · intro i _
         repeat' (conv => whnf); first | (intro h; try exact nZ) | apply And.intro | refine sZ ?_ | fail
         all_goals try exact rZ
         all_goals ((conv => whnf); refine ⟨[], .tup [], [Di e2], ?_, ?_, ⟨e2, 0, 0, rfl, rfl, ⟨hm, hs⟩, rfl, rfl⟩⟩)
         all_goals (repeat' (first | exact rfl | exact trivial | refine And.intro ?_ ?_))
   · have hel : e.length = d.length := hm.len
     have hu2 : Up e 20 d.length := up_wide hu hm (Nat.zero_le _)
     have hk := insertPart_call f caps hc r n hcmp e (hd.perm hm.perm) 20 d.length h20 (by omega) (by omega) hu2
     rw [hel] at hk
     repeat' (conv => whnf); first | (intro h; try exact nZ) | apply And.intro | refine sZ ?_ | (refine CallA.gE [0] (hk) ?_; rintro e2 x2 s2 ⟨⟨hm2, hs2⟩, _⟩; (try conv => whnf)) | fail
     all_goals first | exact rZ | exact caps_vm hc | skip
     have hP : PartA r d e2 := ⟨(hm.wide (Nat.le_refl _) h20).trans (hm2.wide (by omega) (Nat.le_refl _)), fun h => by
       have h20' : d.length = 20 := by omega
       rw [h20']
       exact (two_blocks hu hm hs hm2).1, fun _ => ⟨(two_blocks hu hm hs hm2).1, hs2, (two_blocks hu hm hs hm2).2⟩⟩
     (conv => whnf)
     refine loop_rule hT (fun q : Nat × List Int => (q.1 = 0 ∧ PartA r d q.2) ∨ (q.1 = 1 ∧ Mv 0 d.length d q.2 ∧ Srt r q.2 0 d.length)) 63 1 [0, 1, 2, 6] (fun q => [.sl 0 1 d.length, I d.length, .fn f caps, I (20 * (q.1 : Int) + 20)]) (fun q => [Di q.2]) (fun q => 2 - q.1) ((0, e2)) (Nat.le_of_ble_eq_true rfl) ?_ ?_ ?_
     · exact .inl ⟨rfl, hP⟩
     · (refine ⟨rfl, [], ?_, ?_⟩; (repeat' first | apply And.intro | exact xZ | first | exact caps_vm hc | (dsimp only; omega) | fail); done)
     · rintro ⟨k, g⟩ hs
       dsimp only at hs ⊢
       have hca : vmL (amE false [0] [Di g]) caps caps := caps_am hc
       rcases hs with ⟨rfl, hA⟩ | ⟨rfl, hm, hs⟩
       · have hgl : g.length = d.length := hA.mv.len
         by_cases h20 : 20 < d.length
         · repeat' (conv => whnf); first | (intro h; try exact nZ) | apply And.intro | refine sZ ?_ | fail
           all_goals try exact rZ
           (conv => whnf)
           refine loop_rule hT (fun _ : Nat => True) 63 1 [0, 1, 2, 6, 7, 8] (fun _ => [.sl 0 1 d.length, I d.length, .fn f caps, I 20, I 0, I 40]) (fun _ => [Di g]) (fun _ => 0) (0) (Nat.le_of_ble_eq_true rfl) ?_ ?_ ?_
           · trivial
           · (refine ⟨rfl, [], ?_, ?_⟩; (repeat' first | apply And.intro | exact xZ | first | exact caps_vm hc | (dsimp only; omega) | fail); done)
           · intro i _
             have hk := sym_call f caps hc r n hcmp d.length g 0 20 d.length (hd.perm hA.mv.perm) (by omega) (by omega) h20 (by omega) (by omega) (hA.s2 h20).1 (hA.s2 h20).2.1 (hA.s2 h20).2.2
             rw [hgl] at hk
             repeat' (conv => whnf); first | (intro h; try exact nZ) | apply And.intro | refine sZ ?_ | (refine CallA.gE [0] (hk) ?_; rintro g2 x2 s2 ⟨⟨hm2, hs2⟩, _⟩; (try conv => whnf)) | fail
             all_goals first | exact rZ | exact caps_vm hc | skip
             all_goals ((conv => whnf); refine ⟨(1, g2), .inr ⟨rfl, hA.mv.trans hm2, hs2⟩, ?_, by dsimp only; omega⟩)
             all_goals (first | (refine ⟨rfl, [], ?_, ?_⟩; (repeat' first | apply And.intro | exact xZ | first | exact caps_vm hc | (dsimp only; omega) | fail); done))
         · have hs := hA.s1 (by omega)
           repeat' (conv => whnf); first | (intro h; try exact nZ) | apply And.intro | refine sZ ?_ | fail
           all_goals try exact rZ
           all_goals ((conv => whnf); refine ⟨[], .tup [], [Di g], ?_, ?_, ⟨g, 0, 0, rfl, rfl, ⟨hA.mv, hs⟩, rfl, rfl⟩⟩)
           all_goals (repeat' (first | exact rfl | exact trivial | refine And.intro ?_ ?_))
       · repeat' (conv => whnf); first | (intro h; try exact nZ) | apply And.intro | refine sZ ?_ | fail
         all_goals try exact rZ
         all_goals ((conv => whnf); refine ⟨[], .tup [], [Di g], ?_, ?_, ⟨g, 0, 0, rfl, rfl, ⟨hm, hs⟩, rfl, rfl⟩⟩)
         all_goals (repeat' (first | exact rfl | exact trivial | refine And.intro ?_ ?_))
theorem sortPart_call (f : FuncId) (caps : List AV) (hc : capsOk caps = true) (r : Int → Int) (n : Nat) (hcmp : CmpOk f caps r n) (d : List Int) (hd : InR n d) (hl : d.length ≤ 30) (hu : Up d 0 d.length) :
   Ca 313 [.sl 0 1 d.length, .fn f caps] [Di d] (SortOut r d) := by
 refine cZ Tryz.func313 ?_
 have hk := stablePart_call f caps hc r n hcmp d hd hl hu
 have hca : vmL (amE false [0] [Di d]) caps caps := caps_am hc
 repeat' (conv => whnf); first | (intro h; try exact nZ) | apply And.intro | refine sZ ?_ | (refine CallA.gE [0] (hk) ?_; rintro e2 x2 s2 ⟨⟨hm, hs⟩, _⟩; (try conv => whnf)) | fail
 all_goals first | exact rZ | exact caps_vm hc | skip
 all_goals ((conv => whnf); refine ⟨[], .tup [], [Di e2], ?_, ?_, ⟨e2, 0, 0, rfl, rfl, ⟨hm, hs⟩, rfl, rfl⟩⟩)
 all_goals (repeat' (first | exact rfl | exact trivial | refine And.intro ?_ ?_))
end
end Go.Proofs.YtglbamncajileaaGreatDoor
