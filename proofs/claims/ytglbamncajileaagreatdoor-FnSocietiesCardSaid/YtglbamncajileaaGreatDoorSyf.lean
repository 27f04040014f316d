/-
  Lists whose parts change places and are merged: plain facts for the library's stable sort. Shares of an amount by largest rests: what is picked one after the other is what stands first in the sorted list. Plain facts. The library's stable sort, walked: ranges that change places, a range that is turned. The library's merge in place, walked where one of the parts has one element. No conditions but those in the statements.
-/
import Derived.Test.YtglbamncajileaaGreatDoorAeC
import Derived.Test.YtglbamncajileaaGreatDoorIn
set_option linter.unusedVariables false
set_option linter.unusedSimpArgs false
set_option maxRecDepth 100000
set_option maxHeartbeats 4000000
namespace Go.Proofs.YtglbamncajileaaGreatDoor
open Go.AE
section
abbrev nt (d : List Int) (k : Nat) : Int := d.getD k 0
theorem nt_ge {d : List Int} {k : Nat} (h : d.length ≤ k) : nt d k = 0 := by simp [nt, List.getD_eq_getElem?_getD, List.getElem?_eq_none h]
theorem nt_set (d : List Int) (i k : Nat) (v : Int) : nt (d.set i v) k = if k = i ∧ i < d.length then v else nt d k := by
 simp only [nt, List.getD_eq_getElem?_getD]
 by_cases h : k = i
 · subst h
   by_cases hl : k < d.length
   · rw [if_pos ⟨rfl, hl⟩, List.getElem?_set_self hl]; rfl
   · rw [if_neg (by omega), List.getElem?_eq_none (by simp; omega), List.getElem?_eq_none (by omega)]
 · rw [if_neg (by omega), List.getElem?_set_ne (fun e => h e.symm)]
def sw (d : List Int) (i j : Nat) : List Int := (d.set i (nt d j)).set j (nt d i)
theorem sw_len (d : List Int) (i j : Nat) : (sw d i j).length = d.length := by simp [sw]
theorem sw_comm (d : List Int) {i j : Nat} (h : i ≠ j) : (d.set j (nt d i)).set i (nt d j) = sw d i j := List.set_comm _ _ (fun e => h e.symm)
theorem nt_sw {d : List Int} {i j : Nat} (hi : i < d.length) (hj : j < d.length) (k : Nat) : nt (sw d i j) k = if k = j then nt d i else if k = i then nt d j else nt d k := by
 unfold sw
 rw [nt_set, nt_set]
 by_cases h : k = j
 · rw [if_pos ⟨h, by simpa using hj⟩, if_pos h]
 · rw [if_neg (fun e => h e.1), if_neg h]
   by_cases h2 : k = i
   · rw [if_pos ⟨h2, hi⟩, if_pos h2]
   · rw [if_neg (fun e => h2 e.1), if_neg h2]
theorem nt_get {d : List Int} {i : Nat} (h : i < d.length) : nt d i = d[i] := by simp [nt, List.getD_eq_getElem?_getD, h]
theorem sw_perm {d : List Int} {i j : Nat} (hi : i < d.length) (hj : j < d.length) : (sw d i j).Perm d := by
 unfold sw
 rw [nt_get hi, nt_get hj]
 exact List.set_set_perm hi hj
structure SwAt (d : List Int) (a b i : Nat) (e : List Int) : Prop where
 len : e.length = d.length
 perm : e.Perm d
 at_ : ∀ k, nt e k = if a ≤ k ∧ k < a + i then nt d (k + (b - a)) else if b ≤ k ∧ k < b + i then nt d (k - (b - a)) else nt d k
theorem SwAt.zero (d : List Int) (a b : Nat) : SwAt d a b 0 d := ⟨rfl, List.Perm.refl _, fun k => by rw [if_neg (by omega), if_neg (by omega)]⟩
theorem SwAt.next {d e : List Int} {a b i : Nat} (h : SwAt d a b i e) (h1 : a + i < b) (h2 : b + i < d.length) : SwAt d a b (i + 1) (sw e (a + i) (b + i)) := by
 have hl := h.len
 refine ⟨by rw [sw_len, hl], (sw_perm (by omega) (by omega)).trans h.perm, fun k => ?_⟩
 rw [nt_sw (by omega) (by omega), h.at_, h.at_, h.at_]
 by_cases hb : k = b + i
 · rw [if_pos hb, if_neg (by omega), if_neg (by omega), if_neg (by omega), if_pos (by omega)]
   congr 1; omega
 · rw [if_neg hb]
   by_cases ha : k = a + i
   · rw [if_pos ha, if_neg (by omega), if_neg (by omega), if_pos (by omega)]
     congr 1; omega
   · rw [if_neg ha]
     by_cases c1 : a ≤ k ∧ k < a + i
     · rw [if_pos c1, if_pos (by omega)]
     · by_cases c2 : b ≤ k ∧ k < b + i
       · rw [if_neg c1, if_pos c2, if_neg (by omega), if_pos (by omega)]
       · rw [if_neg c1, if_neg c2, if_neg (by omega), if_neg (by omega)]
def rotp (d : List Int) (a m b k : Nat) : Int := if k < a ∨ b ≤ k then nt d k else if k < a + (b - m) then nt d (k + (m - a)) else nt d (k - (b - m))
structure RotAt (d : List Int) (a m b i j : Nat) (e : List Int) : Prop where
 len : e.length = d.length
 perm : e.Perm d
 bi : 0 < i ∧ i ≤ m - a
 bj : 0 < j ∧ j ≤ b - m
 at_ : ∀ k, rotp e (m - i) m (m + j) k = rotp d a m b k
theorem RotAt.start (d : List Int) {a m b : Nat} (h1 : a < m) (h2 : m < b) : RotAt d a m b (m - a) (b - m) d :=
 ⟨rfl, List.Perm.refl _, ⟨by omega, Nat.le_refl _⟩, ⟨by omega, Nat.le_refl _⟩, fun k => by rw [show m - (m - a) = a by omega, show m + (b - m) = b by omega]⟩
theorem RotAt.left {d e e' : List Int} {a m b i j : Nat} (h : RotAt d a m b i j e) (ham : a ≤ m) (hij : j < i) (hs : SwAt e (m - i) m j e') : RotAt d a m b (i - j) j e' := by
 obtain ⟨b1, b2⟩ := h.bi
 obtain ⟨b3, b4⟩ := h.bj
 refine ⟨hs.len.trans h.len, hs.perm.trans h.perm, ⟨by omega, by omega⟩, h.bj, fun k => ?_⟩
 rw [← h.at_ k]
 unfold rotp
 simp only [hs.at_]
 rw [show m - (m - i) = i by omega, show m + j - m = j by omega, show m - (m - (i - j)) = i - j by omega]
 by_cases c1 : k < m - i ∨ m + j ≤ k
 · rw [if_pos (by omega), if_neg (by omega), if_neg (by omega), if_pos c1]
 · rw [if_neg c1]
   by_cases c2 : k < m - i + j
   · rw [if_pos (by omega), if_pos (by omega), if_pos c2]
   · rw [if_neg (by omega), if_neg c2]
     by_cases c3 : k < m - (i - j) + j
     · rw [if_pos c3, if_neg (by omega), if_pos (by omega)]
       congr 1; omega
     · rw [if_neg c3, if_neg (by omega), if_neg (by omega)]
theorem RotAt.right {d e e' : List Int} {a m b i j : Nat} (h : RotAt d a m b i j e) (ham : a ≤ m) (hij : i < j) (hs : SwAt e (m - i) (m + j - i) i e') : RotAt d a m b i (j - i) e' := by
 obtain ⟨b1, b2⟩ := h.bi
 obtain ⟨b3, b4⟩ := h.bj
 refine ⟨hs.len.trans h.len, hs.perm.trans h.perm, h.bi, ⟨by omega, by omega⟩, fun k => ?_⟩
 rw [← h.at_ k]
 unfold rotp
 simp only [hs.at_]
 rw [show m + j - i - (m - i) = j by omega, show m + (j - i) - m = j - i by omega, show m + j - m = j by omega, show m - (m - i) = i by omega]
 by_cases c1 : k < m - i ∨ m + j ≤ k
 · rw [if_pos (by omega), if_neg (by omega), if_neg (by omega), if_pos c1]
 · rw [if_neg c1]
   by_cases c2 : m + j - i ≤ k
   · rw [if_pos (by omega), if_neg (by omega), if_pos (by omega), if_neg (by omega)]
   · rw [if_neg (by omega)]
     by_cases c3 : k < m - i + (j - i)
     · rw [if_pos c3, if_neg (by omega), if_neg (by omega), if_pos (by omega)]
     · rw [if_neg c3, if_pos (by omega), if_pos (by omega)]
       congr 1; omega
theorem RotAt.done {d e e' : List Int} {a m b i : Nat} (h : RotAt d a m b i i e) (ham : a ≤ m) (hs : SwAt e (m - i) m i e') : e'.length = d.length ∧ e'.Perm d ∧ ∀ k, nt e' k = rotp d a m b k := by
 obtain ⟨b1, b2⟩ := h.bi
 refine ⟨hs.len.trans h.len, hs.perm.trans h.perm, fun k => ?_⟩
 rw [← h.at_ k, hs.at_]
 unfold rotp
 rw [show m - (m - i) = i by omega, show m + i - m = i by omega]
 by_cases c1 : k < m - i ∨ m + i ≤ k
 · rw [if_neg (by omega), if_neg (by omega), if_pos c1]
 · rw [if_neg c1]
   by_cases c2 : k < m - i + i
   · rw [if_pos (by omega), if_pos c2]
   · rw [if_neg (by omega), if_pos (by omega), if_neg c2]
def Lf (r : Int → Int) (x y : Int) : Prop := r y < r x ∨ (r x = r y ∧ x < y)
theorem Lf.trans {r : Int → Int} {x y z : Int} (h : Lf r x y) (k : Lf r y z) : Lf r x z := by unfold Lf at *; omega
theorem Lf.key {r : Int → Int} {x y : Int} (h : Lf r x y) : r y ≤ r x := by unfold Lf at h; omega
theorem Lf.of {r : Int → Int} {x y : Int} (h : ¬ r x < r y) (hi : x < y) : Lf r x y := by unfold Lf; omega
def Srt (r : Int → Int) (d : List Int) (a b : Nat) : Prop := ∀ i j, a ≤ i → i < j → j < b → Lf r (nt d i) (nt d j)
def Ahd (d : List Int) (a m b : Nat) : Prop := ∀ i j, a ≤ i → i < m → m ≤ j → j < b → nt d i < nt d j
structure Mv (a b : Nat) (d d' : List Int) : Prop where
 len : d'.length = d.length
 perm : d'.Perm d
 out : ∀ k, (k < a ∨ b ≤ k) → nt d' k = nt d k
 seg : ∀ k, a ≤ k → k < b → ∃ j, a ≤ j ∧ j < b ∧ nt d' k = nt d j
theorem Mv.refl (a b : Nat) (d : List Int) : Mv a b d d := ⟨rfl, List.Perm.refl _, fun _ _ => rfl, fun k h1 h2 => ⟨k, h1, h2, rfl⟩⟩
theorem Mv.trans {a b : Nat} {d d' d'' : List Int} (h : Mv a b d d') (k : Mv a b d' d'') : Mv a b d d'' :=
 ⟨k.len.trans h.len, k.perm.trans h.perm, fun i hi => (k.out i hi).trans (h.out i hi), fun i h1 h2 => by
   obtain ⟨j, j1, j2, j3⟩ := k.seg i h1 h2
   obtain ⟨l, l1, l2, l3⟩ := h.seg j j1 j2
   exact ⟨l, l1, l2, j3.trans l3⟩⟩
theorem Mv.wide {a b a' b' : Nat} {d d' : List Int} (h : Mv a b d d') (h1 : a' ≤ a) (h2 : b ≤ b') : Mv a' b' d d' :=
 ⟨h.len, h.perm, fun k hk => h.out k (by omega), fun k k1 k2 => by
   by_cases hk : k < a ∨ b ≤ k
   · exact ⟨k, k1, k2, h.out k hk⟩
   · obtain ⟨j, j1, j2, j3⟩ := h.seg k (by omega) (by omega)
     exact ⟨j, by omega, by omega, j3⟩⟩
theorem Mv.rot {d e : List Int} {a m b : Nat} (ham : a ≤ m) (hmb : m ≤ b) (hl : e.length = d.length) (hp : e.Perm d) (h : ∀ k, nt e k = rotp d a m b k) : Mv a b d e :=
 ⟨hl, hp, fun k hk => by rw [h, rotp, if_pos hk], fun k h1 h2 => by
   rw [h, rotp, if_neg (by omega)]
   by_cases c : k < a + (b - m)
   · rw [if_pos c]; exact ⟨_, by omega, by omega, rfl⟩
   · rw [if_neg c]; exact ⟨_, by omega, by omega, rfl⟩⟩
structure CutAt (r : Int → Int) (d : List Int) (a m b s t : Nat) : Prop where
 lo : ∀ i j, a ≤ i → i < s → t ≤ j → j < b → ¬ r (nt d i) < r (nt d j)
 hi : ∀ i j, s ≤ i → i < m → m ≤ j → j < t → r (nt d i) < r (nt d j)
theorem cut_of {r : Int → Int} {d : List Int} {a m b s t : Nat} (h1 : Srt r d a m) (h2 : Srt r d m b) (has : a ≤ s) (hsm : s ≤ m) (hmt : m ≤ t) (htb : t ≤ b)
   (c1 : s = a ∨ t = b ∨ (¬ r (nt d (s - 1)) < r (nt d t))) (c2 : s = m ∨ t = m ∨ r (nt d s) < r (nt d (t - 1))) : CutAt r d a m b s t := by
 refine ⟨fun i j i1 i2 j1 j2 => ?_, fun i j i1 i2 j1 j2 => ?_⟩
 · rcases c1 with c | c | c
   · omega
   · omega
   · have e1 : r (nt d (s - 1)) ≤ r (nt d i) := by
       by_cases e : i = s - 1
       · rw [e]; exact Int.le_refl _
       · exact (h1 i (s - 1) i1 (by omega) (by omega)).key
     have e2 : r (nt d j) ≤ r (nt d t) := by
       by_cases e : j = t
       · rw [e]; exact Int.le_refl _
       · exact (h2 t j (by omega) (by omega) j2).key
     omega
 · rcases c2 with c | c | c
   · omega
   · omega
   · have e1 : r (nt d i) ≤ r (nt d s) := by
       by_cases e : i = s
       · rw [e]; exact Int.le_refl _
       · exact (h1 s i (by omega) (by omega) i2).key
     have e2 : r (nt d (t - 1)) ≤ r (nt d j) := by
       by_cases e : j = t - 1
       · rw [e]; exact Int.le_refl _
       · exact (h2 j (t - 1) j1 (by omega) (by omega)).key
     omega
structure Halves (r : Int → Int) (e : List Int) (a s c t b : Nat) : Prop where
 l1 : Srt r e a s
 l2 : Srt r e s c
 l3 : Ahd e a s c
 r1 : Srt r e c t
 r2 : Srt r e t b
 r3 : Ahd e c t b
 lr : ∀ i j, a ≤ i → i < c → c ≤ j → j < b → Lf r (nt e i) (nt e j)
theorem halves {r : Int → Int} {d e : List Int} {a m b s t c : Nat} (h1 : Srt r d a m) (h2 : Srt r d m b) (h3 : Ahd d a m b) (has : a ≤ s) (hsm : s ≤ m) (hmt : m ≤ t) (htb : t ≤ b) (hc : c + m = s + t)
   (hcut : CutAt r d a m b s t) (h : ∀ k, nt e k = rotp d s m t k) : Halves r e a s c t b := by
 have p1 : ∀ k, k < s → nt e k = nt d k := fun k hk => by rw [h, rotp, if_pos (.inl hk)]
 have p2 : ∀ k, s ≤ k → k < c → nt e k = nt d (k + (m - s)) := fun k k1 k2 => by rw [h, rotp, if_neg (by omega), if_pos (by omega)]
 have p3 : ∀ k, c ≤ k → k < t → nt e k = nt d (k - (t - m)) := fun k k1 k2 => by rw [h, rotp, if_neg (by omega), if_neg (by omega)]
 have p4 : ∀ k, t ≤ k → nt e k = nt d k := fun k hk => by rw [h, rotp, if_pos (.inr hk)]
 refine ⟨fun i j i1 i2 i3 => ?_, fun i j i1 i2 i3 => ?_, fun i j i1 i2 i3 i4 => ?_, fun i j i1 i2 i3 => ?_, fun i j i1 i2 i3 => ?_, fun i j i1 i2 i3 i4 => ?_, fun i j i1 i2 i3 i4 => ?_⟩
 · rw [p1 i (by omega), p1 j i3]; exact h1 i j i1 i2 (by omega)
 · rw [p2 i i1 (by omega), p2 j (by omega) i3]; exact h2 _ _ (by omega) (by omega) (by omega)
 · rw [p1 i i2, p2 j i3 i4]; exact h3 _ _ i1 (by omega) (by omega) (by omega)
 · rw [p3 i i1 (by omega), p3 j (by omega) i3]; exact h1 _ _ (by omega) (by omega) (by omega)
 · rw [p4 i i1, p4 j (by omega)]; exact h2 i j (by omega) i2 i3
 · rw [p3 i i1 i2, p4 j i3]; exact h3 _ _ (by omega) (by omega) (by omega) i4
 · by_cases ci : i < s
   · rw [p1 i ci]
     by_cases cj : j < t
     · rw [p3 j i3 cj]; exact h1 _ _ i1 (by omega) (by omega)
     · rw [p4 j (by omega)]; exact Lf.of (hcut.lo i j i1 ci (by omega) i4) (h3 i j i1 (by omega) (by omega) i4)
   · rw [p2 i (by omega) i2]
     by_cases cj : j < t
     · rw [p3 j i3 cj]; exact .inl (hcut.hi _ _ (by omega) (by omega) (by omega) (by omega))
     · rw [p4 j (by omega)]; exact h2 _ _ (by omega) (by omega) i4
theorem merged {r : Int → Int} {e e1 e2 : List Int} {a s c t b : Nat} (h : Halves r e a s c t b) (m1 : Mv a c e e1) (s1 : Srt r e1 a c) (m2 : Mv c b e1 e2) (s2 : Srt r e2 c b) : Srt r e2 a b := fun i j i1 i2 i3 => by
 by_cases cj : j < c
 · rw [m2.out i (by omega), m2.out j (by omega)]; exact s1 i j i1 i2 cj
 · by_cases ci : i < c
   · obtain ⟨j', q1, q2, q3⟩ := m2.seg j (by omega) i3
     obtain ⟨i', w1, w2, w3⟩ := m1.seg i i1 ci
     rw [m2.out i (by omega), w3, q3, m1.out j' (by omega)]
     exact h.lr i' j' w1 w2 q1 q2
   · exact s2 i j (by omega) i2 i3
theorem put_up {r : Int → Int} {d e : List Int} {a b i : Nat} (h2 : Srt r d (a + 1) b) (h3 : Ahd d a (a + 1) b) (hi : a + 1 ≤ i) (hib : i ≤ b) (c1 : ∀ k, a + 1 ≤ k → k < i → r (nt d a) < r (nt d k)) (c2 : ∀ k, i ≤ k → k < b → ¬ r (nt d a) < r (nt d k))
   (h : ∀ k, nt e k = rotp d a (a + 1) i k) : Srt r e a b := fun x y x1 x2 x3 => by
 have p1 : ∀ k, a ≤ k → k + 1 < i → nt e k = nt d (k + 1) := fun k k1 k2 => by rw [h, rotp, if_neg (by omega), if_pos (by omega)]; congr 1; omega
 have p2 : nt e (i - 1) = nt d a := by rw [h, rotp, if_neg (by omega), if_neg (by omega)]; congr 1; omega
 have p3 : ∀ k, i ≤ k → nt e k = nt d k := fun k hk => by rw [h, rotp, if_pos (.inr hk)]
 by_cases cx : x + 1 < i
 · rw [p1 x x1 cx]
   by_cases cy : y + 1 < i
   · rw [p1 y (by omega) cy]; exact h2 _ _ (by omega) (by omega) (by omega)
   · by_cases cz : y = i - 1
     · rw [cz, p2]; exact .inl (c1 _ (by omega) (by omega))
     · rw [p3 y (by omega)]; exact h2 _ _ (by omega) (by omega) x3
 · by_cases cz : x = i - 1
   · rw [cz, p2, p3 y (by omega)]; exact Lf.of (c2 y (by omega) x3) (h3 a y (Nat.le_refl _) (by omega) (by omega) x3)
   · rw [p3 x (by omega), p3 y (by omega)]; exact h2 x y (by omega) x2 x3
theorem put_down {r : Int → Int} {d e : List Int} {a m i : Nat} (h1 : Srt r d a m) (h3 : Ahd d a m (m + 1)) (hi : a ≤ i) (him : i ≤ m) (c1 : ∀ k, a ≤ k → k < i → ¬ r (nt d k) < r (nt d m)) (c2 : ∀ k, i ≤ k → k < m → r (nt d k) < r (nt d m))
   (h : ∀ k, nt e k = rotp d i m (m + 1) k) : Srt r e a (m + 1) := fun x y x1 x2 x3 => by
 have p1 : ∀ k, k < i → nt e k = nt d k := fun k hk => by rw [h, rotp, if_pos (.inl hk)]
 have p2 : nt e i = nt d m := by rw [h, rotp, if_neg (by omega), if_pos (by omega)]; congr 1; omega
 have p3 : ∀ k, i < k → k ≤ m → nt e k = nt d (k - 1) := fun k k1 k2 => by rw [h, rotp, if_neg (by omega), if_neg (by omega)]; congr 1; omega
 by_cases cx : x < i
 · rw [p1 x cx]
   by_cases cy : y < i
   · rw [p1 y cy]; exact h1 x y x1 x2 (by omega)
   · by_cases cz : y = i
     · rw [cz, p2]; exact Lf.of (c1 x x1 cx) (h3 x m x1 (by omega) (Nat.le_refl _) (by omega))
     · rw [p3 y (by omega) (by omega)]; exact h1 x _ x1 (by omega) (by omega)
 · by_cases cz : x = i
   · rw [cz, p2, p3 y (by omega) (by omega)]; exact .inl (c2 _ (by omega) (by omega))
   · rw [p3 x (by omega) (by omega), p3 y (by omega) (by omega)]; exact h1 _ _ (by omega) (by omega) (by omega)
end
section
def incL (out es : List Int) : List Int := es.foldl (fun o i => o.set i.toNat (nt o i.toNat + 1)) out
def strL (rs es : List Int) : List Int := es.foldl (fun o i => o.set i.toNat (-1)) rs
theorem incL_len (out es : List Int) : (incL out es).length = out.length := by
 unfold incL
 induction es generalizing out with
 | nil => rfl
 | cons x es ih => rw [List.foldl_cons, ih]; simp
theorem strL_len (rs es : List Int) : (strL rs es).length = rs.length := by
 unfold strL
 induction es generalizing rs with
 | nil => rfl
 | cons x es ih => rw [List.foldl_cons, ih]; simp
theorem strL_at {es : List Int} : ∀ {rs : List Int}, (∀ x ∈ es, 0 ≤ x) → ∀ i, i < rs.length → nt (strL rs es) i = if (i : Int) ∈ es then -1 else nt rs i := by
 induction es with
 | nil => intro rs _ i _; simp [strL]
 | cons x es ih =>
   intro rs h0 i hi
   have hx := h0 x (List.mem_cons_self ..)
   show nt (strL (rs.set x.toNat (-1)) es) i = _
   rw [ih (fun y hy => h0 y (List.mem_cons_of_mem _ hy)) i (by simpa using hi), nt_set]
   by_cases h1 : (i : Int) ∈ es
   · rw [if_pos h1, if_pos (List.mem_cons_of_mem _ h1)]
   · rw [if_neg h1]
     by_cases h2 : i = x.toNat
     · rw [if_pos ⟨h2, by omega⟩, if_pos (by rw [show (i : Int) = x by omega]; exact List.mem_cons_self ..)]
     · rw [if_neg (fun e => h2 e.1), if_neg fun hm => by
         rcases List.mem_cons.1 hm with hm | hm
         · exact h2 (by omega)
         · exact h1 hm]
theorem take_one {e : List Int} {k : Nat} (h : k < e.length) : e.take (k + 1) = e.take k ++ [nt e k] := by
 rw [List.take_add_one, nt, List.getD_eq_getElem?_getD, List.getElem?_eq_getElem h]; rfl
theorem incL_next (out : List Int) {e : List Int} {k : Nat} (h : k < e.length) : incL out (e.take (k + 1)) = (incL out (e.take k)).set (nt e k).toNat (nt (incL out (e.take k)) (nt e k).toNat + 1) := by
 rw [take_one h, incL, List.foldl_append]; rfl
theorem strL_next (rs : List Int) {e : List Int} {k : Nat} (h : k < e.length) : strL rs (e.take (k + 1)) = (strL rs (e.take k)).set (nt e k).toNat (-1) := by
 rw [take_one h, strL, List.foldl_append]; rfl
structure Ord (rs e : List Int) : Prop where
 len : e.length = rs.length
 mem : ∀ x, x ∈ e ↔ 0 ≤ x ∧ x < rs.length
 srt : Srt (fun x => nt rs x.toNat) e 0 e.length
theorem Ord.ne {rs e : List Int} (h : Ord rs e) {i j : Nat} (hij : i < j) (hj : j < e.length) : nt e i ≠ nt e j := fun he => by
 have := h.srt i j (Nat.zero_le _) hij hj
 unfold Lf at this
 rw [he] at this
 omega
theorem Ord.fresh {rs e : List Int} (h : Ord rs e) {k : Nat} (hk : k < e.length) : nt e k ∉ e.take k := fun hm => by
 obtain ⟨i, hi, he⟩ := List.getElem_of_mem hm
 have hi' : i < k := by simp at hi; omega
 rw [List.getElem_take] at he
 exact h.ne hi' hk (by rw [nt_get (by omega)]; exact he)
theorem Ord.best {rs e : List Int} (h : Ord rs e) (h0 : ∀ x ∈ rs, 0 ≤ x) {k b : Nat} (hk : k < e.length) (hb : b < rs.length) (hm : ∀ i, i < rs.length → nt (strL rs (e.take k)) i ≤ nt (strL rs (e.take k)) b)
   (hf : ∀ i, i < b → nt (strL rs (e.take k)) i < nt (strL rs (e.take k)) b) : (b : Int) = nt e k := by
 have hpos : ∀ x ∈ e.take k, 0 ≤ x := fun x hx => ((h.mem x).1 (List.mem_of_mem_take hx)).1
 have hx : nt e k ∈ e := getD_mem hk
 obtain ⟨x0, x1⟩ := (h.mem _).1 hx
 obtain ⟨x, hxe⟩ : ∃ x : Nat, (x : Int) = nt e k := ⟨(nt e k).toNat, by omega⟩
 have hxl : x < rs.length := by omega
 have hxn : nt (strL rs (e.take k)) x = nt rs x := by rw [strL_at hpos x hxl, if_neg (by rw [hxe]; exact h.fresh hk)]
 have hx0 : 0 ≤ nt rs x := h0 _ (getD_mem hxl)
 have hbn : (b : Int) ∉ e.take k := fun hbm => by
   have h1 := hm x hxl
   rw [hxn, strL_at hpos b hb, if_pos hbm] at h1
   omega
 have hbv : nt (strL rs (e.take k)) b = nt rs b := by rw [strL_at hpos b hb, if_neg hbn]
 have hbe : (b : Int) ∈ e := (h.mem _).2 ⟨by omega, by omega⟩
 obtain ⟨j, hj, hje⟩ := List.getElem_of_mem hbe
 have hje : nt e j = (b : Int) := by rw [nt_get hj]; exact hje
 rcases Nat.lt_trichotomy j k with c | c | c
 · refine absurd ?_ hbn
   rw [← hje, nt_get hj]
   exact List.mem_take_iff_getElem.2 ⟨j, by omega, rfl⟩
 · rw [← hje, c]
 · have hL := h.srt k j (Nat.zero_le _) c hj
   unfold Lf at hL
   rw [hje, ← hxe] at hL
   simp only [Int.toNat_natCast] at hL
   have h1 := hm x hxl
   rw [hxn, hbv] at h1
   rcases hL with hL | ⟨hL, hlt⟩
   · omega
   · have h2 := hf x (by omega)
     rw [hxn, hbv] at h2
     omega
end
section
attribute [local irreducible] CallA LoopA DrawA CallQ arithK quoK remK eqK
def cI (a b : Int) : Int := if b < a then -1 else if a < b then 1 else 0
theorem cI_neg {a b : Int} : cI a b < 0 ↔ b < a := by
 unfold cI
 split
 · omega
 · split <;> omega
theorem sw_int {e : List Int} {a b : Int} {x y : Nat} (ha : a = (x : Int)) (hb : b = (y : Int)) (h : x ≠ y) :
   (e.set a.toNat (e.getD b.toNat 0)).set b.toNat (e.getD a.toNat 0) = sw e x y ∧ (e.set b.toNat (e.getD a.toNat 0)).set a.toNat (e.getD b.toNat 0) = sw e x y := by
 subst ha hb
 exact ⟨rfl, sw_comm e h⟩
theorem swapRange_call (f : FuncId) (caps : List AV) (hc : capsOk caps = true) (d : List Int) (a b n : Nat) (h1 : a + n ≤ b) (h2 : b + n ≤ d.length) (hl : d.length ≤ 60) :
   Ca 327 [.sl 0 1 d.length, I a, I b, I n, .fn f caps] [Di d] (fun v J => ∃ (e : List Int) (x s : Int), v = .tup [] ∧ J = [Di e] ∧ SwAt d a b n e ∧ (x = 0 ∧ s = 0)) := by
 refine cZ Tryz.func327 ?_
 repeat' (conv => whnf); first | (intro h; try exact nZ) | apply And.intro | refine sZ ?_ | fail
 all_goals try exact rZ
 (conv => whnf)
 refine loop_rule hT (fun q : Nat × List Int => q.1 ≤ n ∧ SwAt d a b q.1 q.2) 38 1 [0, 1, 2, 3, 4, 10] (fun q => [.sl 0 1 d.length, I a, I b, I n, .fn f caps, I q.1]) (fun q => [Di q.2]) (fun q => n - q.1) ((0, d)) (Nat.le_of_ble_eq_true rfl) ?_ ?_ ?_
 · exact ⟨Nat.zero_le _, SwAt.zero d a b⟩
 · (refine ⟨rfl, [], ?_, ?_⟩; (repeat' first | apply And.intro | exact xZ | exact caps_vm hc | fail); done)
 · rintro ⟨i, e⟩ ⟨g1, g2⟩
   dsimp only at g1 g2 ⊢
   have hel := g2.len
   by_cases hi : i < n
   · have hn := g2.next (by omega) (by omega)
     obtain ⟨w1, w2⟩ := sw_int (e := e) (a := (a : Int) + i) (b := (b : Int) + i) (x := a + i) (y := b + i) (by omega) (by omega) (by omega)
     repeat' (conv => whnf); first | (intro h; try exact nZ) | apply And.intro | refine sZ ?_ | fail
     all_goals first | exact rZ | (show _ < List.length _; simp only [List.length_set]; omega) | skip
     all_goals ((conv => whnf); refine ⟨(i + 1, sw e (a + i) (b + i)), ⟨by dsimp only; omega, hn⟩, ?_, by dsimp only; omega⟩)
     all_goals (first | (refine ⟨rfl, [], ?_, ?_⟩; (repeat' first | apply And.intro | exact xZ | first | exact caps_vm hc | exact congrArg (D.ints .i64) w1 | fail); done) | (refine ⟨rfl, [], ?_, ?_⟩; (repeat' first | apply And.intro | exact xZ | first | exact caps_vm hc | exact congrArg (D.ints .i64) w2 | fail); done))
   · obtain rfl : i = n := by omega
     repeat' (conv => whnf); first | (intro h; try exact nZ) | apply And.intro | refine sZ ?_ | fail
     all_goals try exact rZ
     all_goals ((conv => whnf); refine ⟨[], .tup [], [Di e], ?_, ?_, ⟨e, 0, 0, rfl, rfl, g2, rfl, rfl⟩⟩)
     all_goals (repeat' (first | exact rfl | exact trivial | refine And.intro ?_ ?_))
theorem caps_am {conv : Bool} {ids : List Nat} {H : List Blk} {caps : List AV} (h : capsOk caps = true) : vmL (amE conv ids H) caps caps :=
 vmL_self (p := selfE) (fun _ h => amE_self h) (List.all_eq_true.2 fun c hc => by have := List.all_eq_true.1 h c hc; simp only [Bool.and_eq_true] at this; exact this.1)
theorem rotate_call (f : FuncId) (caps : List AV) (hc : capsOk caps = true) (d : List Int) (a m b : Nat) (h1 : a < m) (h2 : m < b) (h3 : b ≤ d.length) (hl : d.length ≤ 60) :
   Ca 326 [.sl 0 1 d.length, I a, I m, I b, .fn f caps] [Di d] (fun v J => ∃ (e : List Int) (x s : Int), v = .tup [] ∧ J = [Di e] ∧ (e.length = d.length ∧ e.Perm d ∧ ∀ k, nt e k = rotp d a m b k) ∧ (x = 0 ∧ s = 0)) := by
 refine cZ Tryz.func326 ?_
 repeat' (conv => whnf); first | (intro h; try exact nZ) | apply And.intro | refine sZ ?_ | fail
 all_goals try exact rZ
 (conv => whnf)
 refine loop_rule hT (fun q : Nat × Nat × List Int => RotAt d a m b q.1 q.2.1 q.2.2) 58 1 [0, 1, 2, 3, 4, 10, 11] (fun q => [.sl 0 1 d.length, I a, I m, I b, .fn f caps, I q.1, I q.2.1]) (fun q => [Di q.2.2]) (fun q => q.1 + q.2.1) ((m - a, b - m, d)) (Nat.le_of_ble_eq_true rfl) ?_ ?_ ?_
 · exact RotAt.start d h1 h2
 · (refine ⟨rfl, [], ?_, ?_⟩; (repeat' first | apply And.intro | exact xZ | first | exact caps_vm hc | (dsimp only; omega) | fail); done)
 · rintro ⟨i, j, e⟩ g
   dsimp only at g ⊢
   have hel := g.len
   obtain ⟨i1, i2⟩ := g.bi
   obtain ⟨j1, j2⟩ := g.bj
   have q1 : ((m - i : Nat) : Int) = (m : Int) - i := by omega
   have hca : vmL (amE false [0] [Di e]) caps caps := caps_am hc
   rcases Nat.lt_trichotomy i j with c | c | c
   · have q2 : ((m + j - i : Nat) : Int) = (m : Int) + j - i := by omega
     have hk := swapRange_call f caps hc e (m - i) (m + j - i) i (by omega) (by omega) (by omega)
     rw [q1, q2, hel] at hk
     repeat' (conv => whnf); first | (intro h; try exact nZ) | apply And.intro | refine sZ ?_ | (refine CallA.gE [0] (hk) ?_; rintro e2 x2 s2 ⟨he, _⟩; (try conv => whnf)) | fail
     all_goals first | exact rZ | exact caps_vm hc | skip
     all_goals ((conv => whnf); refine ⟨(i, j - i, e2), g.right (by omega) c he, ?_, by dsimp only; omega⟩)
     all_goals (first | (refine ⟨rfl, [], ?_, ?_⟩; (repeat' first | apply And.intro | exact xZ | first | exact caps_vm hc | (dsimp only; omega) | fail); done))
   · subst c
     have hk := swapRange_call f caps hc e (m - i) m i (by omega) (by omega) (by omega)
     rw [q1, hel] at hk
     repeat' (conv => whnf); first | (intro h; try exact nZ) | apply And.intro | refine sZ ?_ | (refine CallA.gE [0] (hk) ?_; rintro e2 x2 s2 ⟨he, _⟩; (try conv => whnf)) | fail
     all_goals first | exact rZ | exact caps_vm hc | skip
     all_goals ((conv => whnf); refine ⟨[], .tup [], [Di e2], ?_, ?_, ⟨e2, 0, 0, rfl, rfl, g.done (by omega) he, rfl, rfl⟩⟩)
     all_goals (repeat' (first | exact rfl | exact trivial | refine And.intro ?_ ?_))
   · have hk := swapRange_call f caps hc e (m - i) m j (by omega) (by omega) (by omega)
     rw [q1, hel] at hk
     repeat' (conv => whnf); first | (intro h; try exact nZ) | apply And.intro | refine sZ ?_ | (refine CallA.gE [0] (hk) ?_; rintro e2 x2 s2 ⟨he, _⟩; (try conv => whnf)) | fail
     all_goals first | exact rZ | exact caps_vm hc | skip
     all_goals ((conv => whnf); refine ⟨(i - j, j, e2), g.left (by omega) c he, ?_, by dsimp only; omega⟩)
     all_goals (first | (refine ⟨rfl, [], ?_, ?_⟩; (repeat' first | apply And.intro | exact xZ | first | exact caps_vm hc | (dsimp only; omega) | fail); done))
end
section
attribute [local irreducible] CallA LoopA DrawA CallQ arithK quoK remK eqK
def CmpOk (f : FuncId) (caps : List AV) (r : Int → Int) (n : Nat) : Prop := ∀ x y : Int, 0 ≤ x → x < n → 0 ≤ y → y < n → Rt f ([I x, I y] ++ caps) (I (cI (r x) (r y)))
def InR (n : Nat) (d : List Int) : Prop := ∀ x ∈ d, 0 ≤ x ∧ x < n
theorem InR.at {n : Nat} {d : List Int} (h : InR n d) {i : Nat} (hi : i < d.length) : 0 ≤ nt d i ∧ nt d i < n := h _ (getD_mem hi)
theorem half_eq {i j : Nat} : ((i : Int) + (j : Int)).fdiv (2 ^ min (Int.toNat 1) IntKind.u64.bits) = (((i + j) / 2 : Nat) : Int) := by
 have h : (2 : Int) ^ min (Int.toNat 1) IntKind.u64.bits = 2 := by decide
 rw [h, Int.fdiv_eq_ediv_of_nonneg _ (by decide)]
 omega
theorem half_ok {k : IntKind} {i j : Nat} {K : Value → Prop} (h : K (.int k (((i + j) / 2 : Nat) : Int))) : eqK k (((i : Int) + (j : Int)).fdiv (2 ^ min (Int.toNat 1) IntKind.u64.bits)) K := eq_ok (by rw [half_eq]; exact h)
theorem rot_idl {d : List Int} {m b : Nat} (h : m ≤ b) (k : Nat) : nt d k = rotp d m m b k := by
 unfold rotp
 by_cases c : k < m ∨ b ≤ k
 · rw [if_pos c]
 · rw [if_neg c, if_pos (by omega)]; congr 1; omega
theorem rot_idr {d : List Int} {a m : Nat} (_ : a ≤ m) (k : Nat) : nt d k = rotp d a m m k := by
 unfold rotp
 by_cases c : k < a ∨ m ≤ k
 · rw [if_pos c]
 · rw [if_neg c, if_neg (by omega)]; congr 1; omega
theorem up_step {d e : List Int} {a k : Nat} (hak : a ≤ k) (hk : k + 1 < d.length) (hl : e.length = d.length) (h : ∀ x, nt e x = rotp d a (a + 1) (k + 1) x) (x : Nat) : nt (sw e k (k + 1)) x = rotp d a (a + 1) (k + 1 + 1) x := by
 rw [nt_sw (by omega) (by omega), h, h, h]
 unfold rotp
 by_cases c1 : x = k + 1
 · rw [if_pos c1, if_neg (by omega), if_neg (by omega), if_neg (by omega), if_neg (by omega)]; congr 1; omega
 · rw [if_neg c1]
   by_cases c2 : x = k
   · rw [if_pos c2, if_pos (by omega), if_neg (by omega), if_pos (by omega)]; congr 1; omega
   · rw [if_neg c2]
     by_cases c3 : x < a ∨ k + 1 ≤ x
     · rw [if_pos c3, if_pos (by omega)]
     · rw [if_neg c3, if_pos (by omega), if_neg (by omega), if_pos (by omega)]
theorem down_step {d e : List Int} {k m : Nat} (hk : 0 < k) (hkm : k ≤ m) (hm : m < d.length) (hl : e.length = d.length) (h : ∀ x, nt e x = rotp d k m (m + 1) x) (x : Nat) : nt (sw e k (k - 1)) x = rotp d (k - 1) m (m + 1) x := by
 rw [nt_sw (by omega) (by omega), h, h, h]
 unfold rotp
 by_cases c1 : x = k - 1
 · rw [if_pos c1, if_neg (by omega), if_pos (by omega), if_neg (by omega), if_pos (by omega)]; congr 1; omega
 · rw [if_neg c1]
   by_cases c2 : x = k
   · rw [if_pos c2, if_pos (by omega), if_neg (by omega), if_neg (by omega)]; congr 1; omega
   · rw [if_neg c2]
     by_cases c3 : x < k ∨ m + 1 ≤ x
     · rw [if_pos c3, if_pos (by omega)]
     · rw [if_neg c3, if_neg (by omega), if_neg (by omega), if_neg (by omega)]
theorem InR.perm {n : Nat} {d e : List Int} (h : InR n d) (p : e.Perm d) : InR n e := fun x hx => h x (p.mem_iff.1 hx)
theorem symOne_call (f : FuncId) (caps : List AV) (hc : capsOk caps = true) (r : Int → Int) (n : Nat) (hcmp : CmpOk f caps r n) (d : List Int) (hd : InR n d) (a b : Nat) (h1 : a + 1 < b) (h2 : b ≤ d.length) (hl : d.length ≤ 60)
   (s2 : Srt r d (a + 1) b) (s3 : Ahd d a (a + 1) b) :
   Ca 325 [.sl 0 1 d.length, I a, I ((a : Int) + 1), I b, .fn f caps] [Di d] (fun v J => ∃ (e : List Int) (x s : Int), v = .tup [] ∧ J = [Di e] ∧ (Mv a b d e ∧ Srt r e a b) ∧ (x = 0 ∧ s = 0)) := by
 refine cZ Tryz.func325 ?_
 repeat' (conv => whnf); first | (intro h; try exact nZ) | apply And.intro | refine sZ ?_ | fail
 all_goals try exact rZ
 (conv => whnf)
 refine loop_rule hT (fun q : Nat × Nat => (a + 1 ≤ q.1 ∧ q.1 ≤ q.2 ∧ q.2 ≤ b) ∧ (∀ k, a + 1 ≤ k → k < q.1 → r (nt d a) < r (nt d k)) ∧ ∀ k, q.2 ≤ k → k < b → ¬ r (nt d a) < r (nt d k)) 220 1 [0, 1, 2, 3, 4, 10, 11] (fun q => [.sl 0 1 d.length, I a, I ((a : Int) + 1), I b, .fn f caps, I q.1, I q.2]) (fun _ => [Di d]) (fun q => q.2 - q.1) ((a + 1, b)) (Nat.le_of_ble_eq_true rfl) ?_ ?_ ?_
 · exact ⟨⟨Nat.le_refl _, by dsimp only; omega, Nat.le_refl _⟩, fun k k1 k2 => by dsimp only at k2; omega, fun k k1 k2 => by dsimp only at k1; omega⟩
 · (refine ⟨rfl, [], ?_, ?_⟩; (repeat' first | apply And.intro | exact xZ | first | exact caps_vm hc | (dsimp only; omega) | fail); done)
 · rintro ⟨i, j⟩ ⟨⟨g1, g2, g3⟩, g4, g5⟩
   dsimp only at g1 g2 g3 g4 g5 ⊢
   by_cases hij : i < j
   · obtain ⟨z, hz⟩ : ∃ z, z = (i + j) / 2 := ⟨_, rfl⟩
     have z1 : i ≤ z := by omega
     have z2 : z < j := by omega
     have k1 := hd.at (i := z) (by omega)
     have k2 := hd.at (i := a) (by omega)
     have hk := hcmp (nt d z) (nt d a) k1.1 k1.2 k2.1 k2.2
     have hneg := cI_neg (a := r (nt d z)) (b := r (nt d a))
     repeat' (conv => whnf); first | (intro h; try exact nZ) | apply And.intro | refine sZ ?_ | fail
     all_goals try omega
     all_goals (refine half_ok ?_; rw [← hz])
     repeat' (conv => whnf); first | (intro h; try exact nZ) | apply And.intro | refine sZ ?_ | (refine Ret.go hk (by simp [caps_self hc, selfV, self1]) rfl ?_) | fail
     all_goals first | omega | (show _ < List.length _; omega) | skip
     all_goals (conv => whnf)
     · refine ⟨(z + 1, j), ⟨⟨by dsimp only; omega, by dsimp only; omega, g3⟩, fun k k3 k4 => ?_, g5⟩, ?_, by dsimp only; omega⟩
       · have hlt := hneg.1 ‹_›
         dsimp only at k4
         by_cases e : k = z
         · rw [e]; exact hlt
         · have := (s2 k z k3 (by omega) (by omega)).key
           omega
       · (refine ⟨rfl, [], ?_, ?_⟩; (repeat' first | apply And.intro | exact xZ | first | exact caps_vm hc | (dsimp only; omega) | fail); done)
     · refine ⟨(i, z), ⟨⟨g1, z1, by dsimp only; omega⟩, g4, fun k k3 k4 => ?_⟩, ?_, by dsimp only; omega⟩
       · have hlt : ¬ r (nt d a) < r (nt d z) := fun hh => absurd (hneg.2 hh) ‹_›
         dsimp only at k3
         by_cases e : k = z
         · rw [e]; exact hlt
         · have := (s2 z k (by omega) (by omega) k4).key
           omega
       · (refine ⟨rfl, [], ?_, ?_⟩; (repeat' first | apply And.intro | exact xZ | first | exact caps_vm hc | (dsimp only; omega) | fail); done)
   · obtain rfl : i = j := by omega
     repeat' (conv => whnf); first | (intro h; try exact nZ) | apply And.intro | refine sZ ?_ | fail
     all_goals first | omega | rfl | skip
     (conv => whnf)
     refine loop_rule hT (fun q : Nat × List Int => (a ≤ q.1 ∧ q.1 + 1 ≤ i) ∧ q.2.length = d.length ∧ q.2.Perm d ∧ ∀ x, nt q.2 x = rotp d a (a + 1) (q.1 + 1) x) 220 1 [0, 1, 2, 3, 4, 10, 13] (fun q => [.sl 0 1 d.length, I a, I ((a : Int) + 1), I b, .fn f caps, I i, I q.1]) (fun q => [Di q.2]) (fun q => i - q.1) ((a, d)) (Nat.le_of_ble_eq_true rfl) ?_ ?_ ?_
     · exact ⟨⟨Nat.le_refl _, g1⟩, rfl, List.Perm.refl _, rot_idr (Nat.le_succ a)⟩
     · (refine ⟨rfl, [], ?_, ?_⟩; (repeat' first | apply And.intro | exact xZ | first | exact caps_vm hc | (dsimp only; omega) | fail); done)
     · rintro ⟨k, e⟩ ⟨⟨k1, k2⟩, k3, k4, k5⟩
       dsimp only at k1 k2 k3 k4 k5 ⊢
       by_cases hk : k + 1 < i
       · have hn := up_step k1 (show k + 1 < d.length by omega) k3 k5
         have hp := (sw_perm (d := e) (i := k) (j := k + 1) (by omega) (by omega)).trans k4
         obtain ⟨w1, w2⟩ := sw_int (e := e) (a := (k : Int)) (b := (k : Int) + 1) (x := k) (y := k + 1) rfl (by omega) (by omega)
         repeat' (conv => whnf); first | (intro h; try exact nZ) | apply And.intro | refine sZ ?_ | fail
         all_goals first | exact rZ | (show _ < List.length _; simp only [List.length_set]; omega) | skip
         all_goals ((conv => whnf); refine ⟨(k + 1, sw e k (k + 1)), ⟨⟨by dsimp only; omega, by dsimp only; omega⟩, (sw_len ..).trans k3, hp, hn⟩, ?_, by dsimp only; omega⟩)
         all_goals (first | (refine ⟨rfl, [], ?_, ?_⟩; (repeat' first | apply And.intro | exact xZ | first | exact caps_vm hc | exact congrArg (D.ints .i64) w1 | fail); done) | (refine ⟨rfl, [], ?_, ?_⟩; (repeat' first | apply And.intro | exact xZ | first | exact caps_vm hc | exact congrArg (D.ints .i64) w2 | fail); done))
       · obtain rfl : i = k + 1 := by omega
         have hm : Mv a b d e := (Mv.rot (Nat.le_succ a) (by omega) k3 k4 k5).wide (Nat.le_refl _) (by omega)
         have hs : Srt r e a b := put_up s2 s3 (by omega) (by omega) g4 g5 k5
         repeat' (conv => whnf); first | (intro h; try exact nZ) | apply And.intro | refine sZ ?_ | fail
         all_goals try exact rZ
         all_goals ((conv => whnf); refine ⟨[], .tup [], [Di e], ?_, ?_, ⟨e, 0, 0, rfl, rfl, ⟨hm, hs⟩, rfl, rfl⟩⟩)
         all_goals (repeat' (first | exact rfl | exact trivial | refine And.intro ?_ ?_))
theorem symLast_call (f : FuncId) (caps : List AV) (hc : capsOk caps = true) (r : Int → Int) (n : Nat) (hcmp : CmpOk f caps r n) (d : List Int) (hd : InR n d) (a m : Nat) (h1 : a + 1 < m) (h2 : m + 1 ≤ d.length) (hl : d.length ≤ 60)
   (s1 : Srt r d a m) (s3 : Ahd d a m (m + 1)) :
   Ca 325 [.sl 0 1 d.length, I a, I m, I ((m : Int) + 1), .fn f caps] [Di d] (fun v J => ∃ (e : List Int) (x s : Int), v = .tup [] ∧ J = [Di e] ∧ (Mv a (m + 1) d e ∧ Srt r e a (m + 1)) ∧ (x = 0 ∧ s = 0)) := by
 refine cZ Tryz.func325 ?_
 repeat' (conv => whnf); first | (intro h; try exact nZ) | apply And.intro | refine sZ ?_ | fail
 all_goals try exact rZ
 (conv => whnf)
 refine loop_rule hT (fun q : Nat × Nat => (a ≤ q.1 ∧ q.1 ≤ q.2 ∧ q.2 ≤ m) ∧ (∀ k, a ≤ k → k < q.1 → ¬ r (nt d k) < r (nt d m)) ∧ ∀ k, q.2 ≤ k → k < m → r (nt d k) < r (nt d m)) 220 1 [0, 1, 2, 3, 4, 14, 15] (fun q => [.sl 0 1 d.length, I a, I m, I ((m : Int) + 1), .fn f caps, I q.1, I q.2]) (fun _ => [Di d]) (fun q => q.2 - q.1) ((a, m)) (Nat.le_of_ble_eq_true rfl) ?_ ?_ ?_
 · exact ⟨⟨Nat.le_refl _, by dsimp only; omega, Nat.le_refl _⟩, fun k k1 k2 => by dsimp only at k2; omega, fun k k1 k2 => by dsimp only at k1; omega⟩
 · (refine ⟨rfl, [], ?_, ?_⟩; (repeat' first | apply And.intro | exact xZ | first | exact caps_vm hc | (dsimp only; omega) | fail); done)
 · rintro ⟨i, j⟩ ⟨⟨g1, g2, g3⟩, g4, g5⟩
   dsimp only at g1 g2 g3 g4 g5 ⊢
   by_cases hij : i < j
   · obtain ⟨z, hz⟩ : ∃ z, z = (i + j) / 2 := ⟨_, rfl⟩
     have z1 : i ≤ z := by omega
     have z2 : z < j := by omega
     have k1 := hd.at (i := z) (by omega)
     have k2 := hd.at (i := m) (by omega)
     have hk := hcmp (nt d m) (nt d z) k2.1 k2.2 k1.1 k1.2
     have hneg := cI_neg (a := r (nt d m)) (b := r (nt d z))
     repeat' (conv => whnf); first | (intro h; try exact nZ) | apply And.intro | refine sZ ?_ | fail
     all_goals try omega
     all_goals (refine half_ok ?_; rw [← hz])
     repeat' (conv => whnf); first | (intro h; try exact nZ) | apply And.intro | refine sZ ?_ | (refine Ret.go hk (by simp [caps_self hc, selfV, self1]) rfl ?_) | fail
     all_goals first | omega | (show _ < List.length _; omega) | skip
     all_goals (conv => whnf)
     · refine ⟨(i, z), ⟨⟨g1, z1, by dsimp only; omega⟩, g4, fun k k3 k4 => ?_⟩, ?_, by dsimp only; omega⟩
       · have hlt := hneg.1 ‹_›
         dsimp only at k3
         by_cases e : k = z
         · rw [e]; exact hlt
         · have := (s1 z k (by omega) (by omega) k4).key
           omega
       · (refine ⟨rfl, [], ?_, ?_⟩; (repeat' first | apply And.intro | exact xZ | first | exact caps_vm hc | (dsimp only; omega) | fail); done)
     · refine ⟨(z + 1, j), ⟨⟨by dsimp only; omega, by dsimp only; omega, g3⟩, fun k k3 k4 => ?_, g5⟩, ?_, by dsimp only; omega⟩
       · have hlt : ¬ r (nt d z) < r (nt d m) := fun hh => absurd (hneg.2 hh) ‹_›
         dsimp only at k4
         by_cases e : k = z
         · rw [e]; exact hlt
         · have := (s1 k z k3 (by omega) (by omega)).key
           omega
       · (refine ⟨rfl, [], ?_, ?_⟩; (repeat' first | apply And.intro | exact xZ | first | exact caps_vm hc | (dsimp only; omega) | fail); done)
   · obtain rfl : i = j := by omega
     repeat' (conv => whnf); first | (intro h; try exact nZ) | apply And.intro | refine sZ ?_ | fail
     all_goals first | omega | rfl | skip
     (conv => whnf)
     refine loop_rule hT (fun q : Nat × List Int => (i ≤ q.1 ∧ q.1 ≤ m) ∧ q.2.length = d.length ∧ q.2.Perm d ∧ ∀ x, nt q.2 x = rotp d q.1 m (m + 1) x) 220 1 [0, 1, 2, 3, 4, 14, 17] (fun q => [.sl 0 1 d.length, I a, I m, I ((m : Int) + 1), .fn f caps, I i, I q.1]) (fun q => [Di q.2]) (fun q => q.1 - i) ((m, d)) (Nat.le_of_ble_eq_true rfl) ?_ ?_ ?_
     · exact ⟨⟨g3, Nat.le_refl _⟩, rfl, List.Perm.refl _, rot_idl (Nat.le_succ m)⟩
     · (refine ⟨rfl, [], ?_, ?_⟩; (repeat' first | apply And.intro | exact xZ | first | exact caps_vm hc | (dsimp only; omega) | fail); done)
     · rintro ⟨k, e⟩ ⟨⟨k1, k2⟩, k3, k4, k5⟩
       dsimp only at k1 k2 k3 k4 k5 ⊢
       by_cases hk : i < k
       · have hn := down_step (show 0 < k by omega) k2 (show m < d.length by omega) k3 k5
         have hp := (sw_perm (d := e) (i := k) (j := k - 1) (by omega) (by omega)).trans k4
         obtain ⟨w1, w2⟩ := sw_int (e := e) (a := (k : Int)) (b := (k : Int) - 1) (x := k) (y := k - 1) rfl (by omega) (by omega)
         repeat' (conv => whnf); first | (intro h; try exact nZ) | apply And.intro | refine sZ ?_ | fail
         all_goals first | exact rZ | (show _ < List.length _; simp only [List.length_set]; omega) | skip
         all_goals ((conv => whnf); refine ⟨(k - 1, sw e k (k - 1)), ⟨⟨by dsimp only; omega, by dsimp only; omega⟩, (sw_len ..).trans k3, hp, hn⟩, ?_, by dsimp only; omega⟩)
         all_goals (first | (refine ⟨rfl, [], ?_, ?_⟩; (repeat' first | apply And.intro | exact xZ | first | exact caps_vm hc | (dsimp only; omega) | exact congrArg (D.ints .i64) w1 | fail); done) | (refine ⟨rfl, [], ?_, ?_⟩; (repeat' first | apply And.intro | exact xZ | first | exact caps_vm hc | (dsimp only; omega) | exact congrArg (D.ints .i64) w2 | fail); done))
       · obtain rfl : i = k := by omega
         have hm : Mv a (m + 1) d e := (Mv.rot k2 (Nat.le_succ m) k3 k4 k5).wide g1 (Nat.le_refl _)
         have hs : Srt r e a (m + 1) := put_down s1 s3 g1 k2 g4 g5 k5
         repeat' (conv => whnf); first | (intro h; try exact nZ) | apply And.intro | refine sZ ?_ | fail
         all_goals try exact rZ
         all_goals ((conv => whnf); refine ⟨[], .tup [], [Di e], ?_, ?_, ⟨e, 0, 0, rfl, rfl, ⟨hm, hs⟩, rfl, rfl⟩⟩)
         all_goals (repeat' (first | exact rfl | exact trivial | refine And.intro ?_ ?_))
end
end Go.Proofs.YtglbamncajileaaGreatDoor
