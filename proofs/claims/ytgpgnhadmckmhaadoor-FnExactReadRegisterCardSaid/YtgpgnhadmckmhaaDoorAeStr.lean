/-
  Texts as lists of bytes: split at a byte, joined, bytes replaced; decimal numerals written and read. No conditions but those in the statements.
-/
import Derived.Test.YtgpgnhadmckmhaaDoorAeList
import Derived.Lib.SplitLaws
import Derived.Lib.Replace
import Derived.Lib.ParseIntBTie
import Derived.Lib.AtoiAllCases
import Derived.Lib.ItoaNum
import Derived.Lib.Join
set_option linter.unusedVariables false
set_option linter.unusedSimpArgs false
namespace Go.AE
open Go.Lib

/-! ### At a byte -/
def sp (c : UInt8) : List UInt8 → List (List UInt8)
  | [] => [[]]
  | x :: r => if x = c then [] :: sp c r else match sp c r with
    | [] => [[x]]
    | w :: ws => (x :: w) :: ws
theorem sp_ne (c : UInt8) : ∀ l, sp c l ≠ []
  | [] => by simp [sp]
  | x :: r => by
    simp only [sp]
    split
    · simp
    · split <;> simp
theorem sp_miss {c : UInt8} : ∀ {l : List UInt8}, c ∉ l → sp c l = [l]
  | [], _ => rfl
  | x :: r, h => by
    simp only [List.mem_cons, not_or] at h
    simp only [sp, if_neg (Ne.symm h.1), sp_miss h.2]
theorem sp_hit {c : UInt8} {post : List UInt8} : ∀ {pre : List UInt8}, c ∉ pre → sp c (pre ++ c :: post) = pre :: sp c post
  | [], _ => by simp [sp]
  | x :: r, h => by
    simp only [List.mem_cons, not_or] at h
    simp only [List.cons_append, sp, if_neg (Ne.symm h.1), sp_hit h.2]
/-- A text is free of the byte, or has a first one. -/
theorem first_byte (c : UInt8) (l : List UInt8) : c ∉ l ∨ ∃ pre post, c ∉ pre ∧ l = pre ++ c :: post := by
  induction l with
  | nil => exact .inl (by simp)
  | cons x r ih =>
    by_cases hx : x = c
    · exact .inr ⟨[], r, by simp, by simp [hx]⟩
    · rcases ih with h | ⟨pre, post, h1, h2⟩
      · exact .inl (by simp only [List.mem_cons, not_or]; exact ⟨Ne.symm hx, h⟩)
      · exact .inr ⟨x :: pre, post, by simp only [List.mem_cons, not_or]; exact ⟨Ne.symm hx, h1⟩, by simp [h2]⟩
theorem join_cons2 (x y : List UInt8) (r : List (List UInt8)) (sep : List UInt8) : join (x :: y :: r) sep = x ++ (sep ++ join (y :: r) sep) := by
  rw [join_cons, join_cons]
  simp [joinTail]
theorem sp_induct {c : UInt8} {p : List UInt8 → Prop} (h0 : ∀ l, c ∉ l → p l) (h1 : ∀ pre post, c ∉ pre → p post → p (pre ++ c :: post)) : ∀ l, p l := by
  have : ∀ n l, l.length ≤ n → p l := by
    intro n
    induction n with
    | zero => intro l hl; obtain rfl := List.eq_nil_of_length_eq_zero (show l.length = 0 by omega); exact h0 _ (by simp)
    | succ n ih =>
      intro l hl
      rcases first_byte c l with h | ⟨pre, post, h2, rfl⟩
      · exact h0 l h
      · exact h1 pre post h2 (ih post (by simp at hl; omega))
  exact fun l => this _ l (Nat.le_refl _)
theorem join_sp (c : UInt8) (l : List UInt8) : join (sp c l) [c] = l := by
  refine sp_induct (p := fun l => join (sp c l) [c] = l) (fun l h => by rw [sp_miss h, join_one]) (fun pre post h ih => ?_) l
  rw [sp_hit h]
  cases hs : sp c post with
  | nil => exact absurd hs (sp_ne c post)
  | cons w ws =>
    rw [hs] at ih
    rw [join_cons2, ih]
    rfl
theorem sp_join {c : UInt8} : ∀ {ws : List (List UInt8)}, ws ≠ [] → (∀ w ∈ ws, c ∉ w) → sp c (join ws [c]) = ws
  | [], h, _ => absurd rfl h
  | [w], _, h => by rw [join_one, sp_miss (h w (by simp))]
  | w :: v :: r, _, h => by
    rw [join_cons2]
    show sp c (w ++ c :: join (v :: r) [c]) = _
    rw [sp_hit (h w (by simp)), sp_join (by simp) fun x hx => h x (by simp [List.mem_cons.1 hx])]
theorem sp_len (c : UInt8) (l : List UInt8) : (sp c l).length = l.count c + 1 := by
  refine sp_induct (p := fun l => (sp c l).length = l.count c + 1) (fun l h => by rw [sp_miss h, List.count_eq_zero_of_not_mem h]; rfl) (fun pre post h ih => ?_) l
  rw [sp_hit h, List.length_cons, ih, List.count_append, List.count_eq_zero_of_not_mem h, List.count_cons_self]
  omega
theorem sp_no {c : UInt8} (l : List UInt8) : ∀ w ∈ sp c l, c ∉ w := by
  refine sp_induct (p := fun l => ∀ w ∈ sp c l, c ∉ w) (fun l h => by rw [sp_miss h]; simpa using h) (fun pre post h ih => ?_) l
  rw [sp_hit h]
  intro w hw
  rcases List.mem_cons.1 hw with rfl | hw
  · exact h
  · exact ih w hw
theorem index_no {c : UInt8} : ∀ {l : List UInt8}, c ∉ l → index l [c] = -1
  | [], _ => rfl
  | x :: r, h => by
    simp only [List.mem_cons, not_or] at h
    unfold index
    rw [index_no h.2]
    simp [List.isPrefixOf, h.1]
theorem index_yes {c : UInt8} {post : List UInt8} : ∀ {pre : List UInt8}, c ∉ pre → index (pre ++ c :: post) [c] = pre.length
  | [], _ => by simp [index, List.isPrefixOf]
  | x :: r, h => by
    simp only [List.mem_cons, not_or] at h
    rw [List.cons_append]
    unfold index
    rw [index_yes h.2]
    have h1 : ¬ ([c] : List UInt8).isPrefixOf (x :: (r ++ c :: post)) = true := by simp [List.isPrefixOf, h.1]
    have h2 : ¬ (((r.length : Nat) : Int) == -1) = true := fun e => by have := beq_iff_eq.1 e; omega
    rw [if_neg h1, if_neg h2]
    simp
theorem drop_mid (pre post : List UInt8) (c : UInt8) : (pre ++ c :: post).drop (pre.length + 1) = post := by
  rw [List.drop_append]; simp
theorem splitK_sp (c : UInt8) (l : List UInt8) : splitK [c] 0 (Go.Lib.count l [c]) l = sp c l := by
  refine sp_induct (p := fun l => splitK [c] 0 (Go.Lib.count l [c]) l = sp c l) (fun l h => by rw [count_miss (index_no h), sp_miss h]; rfl) (fun pre post h ih => ?_) l
  have hi := index_yes (post := post) h
  rw [count_hit (by simp) hi, sp_hit h]
  have hd : (pre ++ c :: post).drop (pre.length + [c].length) = post := drop_mid pre post c
  rw [hd, Nat.add_comm]
  unfold splitK
  have h2 : ¬ (index (pre ++ c :: post) [c] == -1) = true := fun e => by have := beq_iff_eq.1 e; omega
  rw [if_neg h2, hi, Int.toNat_natCast, hd, ih]
  simp
theorem replaceAll_map {a b : UInt8} (hab : a ≠ b) (l : List UInt8) : replaceAll l [a] [b] = l.map fun x => if x = a then b else x := by
  have h0 : ¬ (([a] : List UInt8) == [b]) = true := fun e => hab (by simpa using beq_iff_eq.1 e)
  unfold replaceAll replace replaceNum
  rw [if_neg h0, if_pos (.inl (by decide))]
  have keep : ∀ pre : List UInt8, a ∉ pre → (pre.map fun x => if x = a then b else x) = pre := fun pre h => by
    conv => rhs; rw [← List.map_id pre]
    exact List.map_congr_left fun x hx => if_neg (show ¬ x = a from fun e => h (e ▸ hx))
  refine sp_induct (c := a) (p := fun l => replaceK [a] [b] (Go.Lib.count l [a]) l = l.map fun x => if x = a then b else x) (fun l h => by rw [count_miss (index_no h), keep l h]; rfl) (fun pre post h ih => ?_) l
  have hi := index_yes (post := post) h
  have hd : (pre ++ a :: post).drop (pre.length + [a].length) = post := drop_mid pre post a
  rw [count_hit (by simp) hi, hd, Nat.add_comm, replaceK_hit _ _ _ _ _ hi, hd, ih, List.map_append, keep pre h]
  simp

/-! ### Decimal numerals -/
def dgt (b : UInt8) : Prop := 48 ≤ b.toNat ∧ b.toNat ≤ 57
instance (b : UInt8) : Decidable (dgt b) := inferInstanceAs (Decidable (_ ∧ _))
def valF (a : Nat) (l : List UInt8) : Nat := l.foldl (fun a b => a * 10 + (b.toNat - 48)) a
def val (l : List UInt8) : Nat := valF 0 l
theorem valF_snoc (a : Nat) (l : List UInt8) (b : UInt8) : valF a (l ++ [b]) = valF a l * 10 + (b.toNat - 48) := by simp [valF]
theorem valF_le (l : List UInt8) : ∀ a, a ≤ valF a l := by
  induction l with
  | nil => exact fun a => Nat.le_refl _
  | cons x r ih => intro a; have := ih (a * 10 + (x.toNat - 48)); simp only [valF, List.foldl_cons] at *; omega
theorem ofNat_dgt {d : Nat} (h : d < 10) : (UInt8.ofNat (48 + d)).toNat = 48 + d := by
  rw [UInt8.toNat_ofNat']
  omega
theorem dec_dgt (u : Nat) : ∀ b ∈ decDigits u, dgt b := by
  induction u using Nat.strongRecOn with
  | _ u ih =>
    intro b hb
    rw [decDigits] at hb
    split at hb
    · rename_i h
      rw [List.mem_singleton.1 hb]
      unfold dgt
      rw [ofNat_dgt h]
      omega
    · rcases List.mem_append.1 hb with hb | hb
      · exact ih (u / 10) (by omega) b hb
      · rw [List.mem_singleton.1 hb]
        unfold dgt
        rw [ofNat_dgt (Nat.mod_lt _ (by decide))]
        omega
theorem dec_ne (u : Nat) : decDigits u ≠ [] := fun h => by
  have := decDigits_length u
  have := nDigits_pos u
  rw [h] at *
  simp at *
  omega
theorem val_dec (u : Nat) : val (decDigits u) = u := by
  induction u using Nat.strongRecOn with
  | _ u ih =>
    rw [decDigits]
    split
    · rename_i h
      simp only [val, valF, List.foldl_cons, List.foldl_nil, ofNat_dgt h]
      omega
    · have := ih (u / 10) (by omega)
      unfold val at this ⊢
      rw [valF_snoc, this, ofNat_dgt (Nat.mod_lt _ (by decide))]
      omega
theorem dec_inj {u v : Nat} (h : decDigits u = decDigits v) : u = v := by rw [← val_dec u, h, val_dec]
theorem parse_dgts : ∀ (l : List UInt8) (a : Nat), (∀ b ∈ l, dgt b) → valF a l < 18446744073709551616 → parseUint10 a l = .ok (valF a l)
  | [], _, _, _ => rfl
  | c :: r, a, hd, hv => by
    have hc := hd c (by simp)
    have hle := valF_le r (a * 10 + (c.toNat - 48))
    have he : valF a (c :: r) = valF (a * 10 + (c.toNat - 48)) r := rfl
    rw [he] at hv ⊢
    unfold parseUint10
    have h48 : 48 ≤ c.toNat ∧ c.toNat ≤ 57 := hc
    rw [if_pos h48, if_neg (by omega), if_neg (by omega)]
    exact parse_dgts r _ (fun b hb => hd b (by simp [hb])) hv
theorem parseMag_dec {u : Nat} (h : u < 18446744073709551616) : parseMag (decDigits u) = .ok u := by
  unfold parseMag
  rw [if_neg (dec_ne u), parse_dgts _ _ (dec_dgt u) (by have := val_dec u; unfold val at this; omega)]
  have := val_dec u
  unfold val at this
  rw [this]
/-- What is written is read. -/
theorem parse_itoa {n : Int} (h0 : -9223372036854775808 ≤ n) (h1 : n ≤ 9223372036854775807) : parseIntB 64 (itoa n) = .ok n := by
  rw [parseIntB_64]
  unfold itoa
  split
  · rw [atoiAll_minus, parseMag_dec (by omega)]
    simp only [signed]
    rw [if_neg (by omega)]
    congr 1
    omega
  · cases hd : decDigits n.toNat with
    | nil => exact absurd hd (dec_ne _)
    | cons c r =>
      have hc := dec_dgt n.toNat c (by rw [hd]; simp)
      unfold dgt at hc
      rw [atoiAll_plain c r (by omega) (by omega), ← hd, parseMag_dec (by omega)]
      simp only [signless]
      rw [if_neg (by omega)]
      congr 1
      omega
theorem itoa_bytes {n : Int} {b : UInt8} (h : b ∈ itoa n) : b = 45 ∨ dgt b := by
  unfold itoa at h
  split at h
  · rcases List.mem_cons.1 h with h | h
    · exact .inl h
    · exact .inr (dec_dgt _ b h)
  · exact .inr (dec_dgt _ b h)
theorem itoa_nat {n : Int} (h : 0 ≤ n) : itoa n = decDigits n.toNat := by unfold itoa; rw [if_neg (by omega)]
theorem itoa_minus {n : Int} (h : n < 0) : itoa n = 45 :: decDigits n.natAbs := by unfold itoa; rw [if_pos h]
theorem itoa_inj {n m : Int} (h : itoa n = itoa m) : n = m := by
  by_cases hn : n < 0 <;> by_cases hm : m < 0
  · rw [itoa_minus hn, itoa_minus hm] at h
    have := dec_inj (List.cons.inj h).2
    omega
  · rw [itoa_minus hn, itoa_nat (by omega)] at h
    have := dec_dgt m.toNat 45 (by rw [← h]; simp)
    exact absurd this (by decide)
  · rw [itoa_minus hm, itoa_nat (by omega)] at h
    have := dec_dgt n.toNat 45 (by rw [h]; simp)
    exact absurd this (by decide)
  · rw [itoa_nat (by omega), itoa_nat (by omega)] at h
    have := dec_inj h
    omega
theorem itoa_ne (n : Int) : itoa n ≠ [] := by
  unfold itoa
  split
  · simp
  · exact dec_ne _
end Go.AE
