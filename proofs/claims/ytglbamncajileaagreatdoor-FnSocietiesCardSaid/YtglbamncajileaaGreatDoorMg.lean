/-
  Plain facts on quotients. Full-width products: what the library's functions return. Full-width quotients: what the library's functions return. Quotients bit by bit: plain facts. Full-width quotients: what the library's functions return. Full-width quotients: the library's Div64. Products divided, by the program and by the reference: what the functions return. No conditions but those in the statements.
-/
import Derived.Test.YtglbamncajileaaGreatDoorIn
import Derived.IntWalk
set_option linter.unusedVariables false
set_option linter.unusedSimpArgs false
set_option maxRecDepth 100000
set_option maxHeartbeats 8000000
namespace Go.Proofs.YtglbamncajileaaGreatDoor
open Go.AE
section
def cdiv (a b : Int) : Int := a / b + (if a % b = 0 then 0 else 1)
theorem cdiv_le {s t b : Int} (hs : 0 ≤ s) (ht : 0 ≤ t) (hb : t ≤ b) (h1 : 1 ≤ b) : 0 ≤ cdiv (s * t) b ∧ cdiv (s * t) b ≤ s := by
 have hn : 0 ≤ s * t := Int.mul_nonneg hs ht
 have hq : 0 ≤ s * t / b := Int.ediv_nonneg hn (by omega)
 have hle : s * t ≤ s * b := Int.mul_le_mul_of_nonneg_left hb hs
 unfold cdiv
 split
 · have := Int.ediv_le_of_le_mul (a := s * t) (b := s) (c := b) (by omega) hle
   omega
 · rename_i hz
   have hlt : s * t < s * b := by
     rcases Int.lt_or_eq_of_le hle with h | h
     · exact h
     · rw [h, Int.mul_emod_left] at hz
       exact absurd rfl hz
   have := Int.ediv_lt_of_lt_mul (a := s * t) (b := s) (c := b) (by omega) hlt
   omega
theorem floor_eq {q d r x : Int} (hd : 0 < d) (h : q * d + r = x) (h0 : 0 ≤ r) (h1 : r < d) : x / d = q ∧ x % d = r := by
 rw [Int.ediv_emod_unique hd]
 refine ⟨?_, h0, h1⟩
 rw [← h, Int.mul_comm d q]; omega
theorem floor_spec {x d : Int} (hd : 0 < d) : x / d * d + x % d = x ∧ 0 ≤ x % d ∧ x % d < d := by
 refine ⟨?_, Int.emod_nonneg _ (by omega), Int.emod_lt_of_pos _ hd⟩
 have := Int.mul_ediv_add_emod x d
 rw [Int.mul_comm d] at this
 omega
theorem floor_sub {x y d : Int} (hd : 0 < d) : (x - y) / d = (if x % d < y % d then x / d - y / d - 1 else x / d - y / d) ∧ (x - y) % d = (if x % d < y % d then x % d - y % d + d else x % d - y % d) := by
 obtain ⟨a1, a2, a3⟩ := floor_spec (x := x) hd
 obtain ⟨b1, b2, b3⟩ := floor_spec (x := y) hd
 split
 · rename_i h
   refine floor_eq hd ?_ (by omega) (by omega)
   rw [Int.sub_mul, Int.sub_mul]; omega
 · rename_i h
   refine floor_eq hd ?_ (by omega) (by omega)
   rw [Int.sub_mul]; omega
end
section
attribute [local irreducible] CallA LoopA DrawA CallQ arithK quoK remK eqK
abbrev U (n : Int) : AV := .v (.int .u64 n)
abbrev inU (n : Int) : Prop := 0 ≤ n ∧ n < 18446744073709551616
theorem eqv {k : IntKind} {v v' : Int} {K : Value → Prop} (h : v = v') (hk : K (.int k v')) : eqK k v K := eq_ok (h ▸ hk)
theorem arithw {k : IntKind} {m v : Int} {K : Value → Prop} (h : k.wrap m = v) (hk : K (.int k v)) : arithK k m K := arith_any fun n _ h2 => by rw [h2, h]; exact hk
theorem wrapU (m : Int) : IntKind.u64.wrap m = m % 18446744073709551616 := IntKind.wrap_u64 m
theorem ofInt64 {x : Int} (h : inU x) : (BitVec.ofInt 64 x).toNat = x.toNat := by
 rw [BitVec.toNat_ofInt]
 have h1 := h.1
 have h2 := h.2
 have : x % ((2 ^ 64 : Nat) : Int) = x := Int.emod_eq_of_lt h1 (by simpa using h2)
 rw [this]
theorem and32 {x : Int} (h : inU x) : bitsI .and .u64 x 4294967295 = x % 4294967296 := by
 show IntKind.u64.wrap ((BitVec.ofInt 64 x &&& BitVec.ofInt 64 4294967295).toNat : Int) = _
 rw [BitVec.toNat_and, ofInt64 h, ofInt64 (x := 4294967295) ⟨by decide, by decide⟩, show (4294967295 : Int).toNat = 2 ^ 32 - 1 from rfl, Nat.and_two_pow_sub_one_eq_mod, wrapU]
 have h1 := h.1
 have h2 := h.2
 omega
theorem shr32 {x : Int} : x.fdiv (2 ^ (min (Int.toNat 32) IntKind.u64.bits)) = x / 4294967296 := by
 rw [Int.fdiv_eq_ediv_of_nonneg _ (by decide)]
 rfl
theorem mul_split (x y : Int) : x * y = (x / 4294967296) * (y / 4294967296) * 18446744073709551616 + ((x / 4294967296) * (y % 4294967296) + (x % 4294967296) * (y / 4294967296)) * 4294967296 + (x % 4294967296) * (y % 4294967296) := by
 have hx : x = (x / 4294967296) * 4294967296 + x % 4294967296 := by omega
 have hy : y = (y / 4294967296) * 4294967296 + y % 4294967296 := by omega
 generalize x / 4294967296 = a at hx ⊢
 generalize x % 4294967296 = b at hx ⊢
 generalize y / 4294967296 = c at hy ⊢
 generalize y % 4294967296 = d at hy ⊢
 subst hx hy
 rw [Int.add_mul, Int.mul_add, Int.mul_add, Int.add_mul]
 have e1 : a * 4294967296 * (c * 4294967296) = a * c * 18446744073709551616 := by
   rw [Int.mul_comm c, ← Int.mul_assoc, Int.mul_assoc a, Int.mul_right_comm]; rfl
 have e2 : a * 4294967296 * d = a * d * 4294967296 := Int.mul_right_comm _ _ _
 have e3 : b * (c * 4294967296) = b * c * 4294967296 := (Int.mul_assoc _ _ _).symm
 rw [e1, e2, e3]
 omega
theorem mul64_ret (x y : Int) (hx : inU x) (hy : inU y) : Rt 311 [U x, U y] (.tup [U (x * y / 18446744073709551616), U (x * y % 18446744073709551616)]) := by
 refine bZ Tryz.func311 ?_
 obtain ⟨hx1, hx2⟩ := hx
 obtain ⟨hy1, hy2⟩ := hy
 have p00 := mul_in (a := x % 4294967296) (A := 4294967295) (b := y % 4294967296) (B := 4294967295) (by omega) (by omega) (by omega) (by omega)
 have p10 := mul_in (a := x / 4294967296) (A := 4294967295) (b := y % 4294967296) (B := 4294967295) (by omega) (by omega) (by omega) (by omega)
 have p01 := mul_in (a := x % 4294967296) (A := 4294967295) (b := y / 4294967296) (B := 4294967295) (by omega) (by omega) (by omega) (by omega)
 have p11 := mul_in (a := x / 4294967296) (A := 4294967295) (b := y / 4294967296) (B := 4294967295) (by omega) (by omega) (by omega) (by omega)
 have hs := mul_split x y
 have hxy := mul_in (a := x) (A := 18446744073709551615) (b := y) (B := 18446744073709551615) (by omega) (by omega) (by omega) (by omega)
 rw [hs] at hxy
 repeat' (conv => whnf); first | (intro h; try exact nZ) | apply And.intro | refine dZ ?_ | refine sZ ?_ | (refine eqv (and32 ⟨by omega, by omega⟩) ?_) | (refine eqv shr32 ?_) | (refine arithw (wrapU _) ?_) | fail
 all_goals first | omega | (refine congrArg AV.tup ?_; rw [hs]; refine congr (congrArg List.cons (iv ?_)) (congrArg (fun z => [z]) (iv ?_)) <;> omega)
end
section
attribute [local irreducible] CallA LoopA DrawA CallQ arithK quoK remK eqK
def blen (n : Nat) : Nat := if n = 0 then 0 else Nat.log2 n + 1
theorem log2_shift {n k : Nat} (h : 2 ^ k ≤ n) : Nat.log2 n = Nat.log2 (n / 2 ^ k) + k := by
 have hk : 0 < 2 ^ k := Nat.two_pow_pos k
 have h0 : n ≠ 0 := by omega
 have h1 : n / 2 ^ k ≠ 0 := by have := Nat.div_pos h hk; omega
 have a1 := Nat.log2_self_le h0
 have a2 := Nat.lt_log2_self (n := n)
 have b1 := Nat.log2_self_le h1
 have b2 := Nat.lt_log2_self (n := n / 2 ^ k)
 have c1 : 2 ^ (Nat.log2 (n / 2 ^ k) + k) ≤ n := by
   rw [Nat.pow_add]
   exact Nat.le_trans (Nat.mul_le_mul_right _ b1) (Nat.div_mul_le_self _ _)
 have c2 : n < 2 ^ (Nat.log2 (n / 2 ^ k) + k + 1) := by
   have := (Nat.div_lt_iff_lt_mul hk).1 b2
   rw [show Nat.log2 (n / 2 ^ k) + k + 1 = (Nat.log2 (n / 2 ^ k) + 1) + k by omega, Nat.pow_add]
   exact this
 have d1 : Nat.log2 (n / 2 ^ k) + k < Nat.log2 n + 1 := by
   rcases Nat.lt_or_ge (Nat.log2 (n / 2 ^ k) + k) (Nat.log2 n + 1) with h | h
   · exact h
   · have := Nat.pow_le_pow_right (n := 2) (by omega) h
     omega
 have d2 : Nat.log2 n < Nat.log2 (n / 2 ^ k) + k + 1 := by
   rcases Nat.lt_or_ge (Nat.log2 n) (Nat.log2 (n / 2 ^ k) + k + 1) with h | h
   · exact h
   · have := Nat.pow_le_pow_right (n := 2) (by omega) h
     omega
 omega
theorem blen_shift {n k : Nat} (h : 2 ^ k ≤ n) : blen n = blen (n / 2 ^ k) + k := by
 have hk : 0 < 2 ^ k := Nat.two_pow_pos k
 have h1 : n / 2 ^ k ≠ 0 := by have := Nat.div_pos h hk; omega
 unfold blen
 rw [if_neg (by omega), if_neg h1, log2_shift h]
 omega
theorem blen_bd {n : Nat} (h : 0 < n) : 1 ≤ blen n ∧ 2 ^ (blen n - 1) ≤ n ∧ n < 2 ^ blen n := by
 unfold blen
 rw [if_neg (by omega)]
 exact ⟨by omega, by rw [Nat.add_sub_cancel]; exact Nat.log2_self_le (by omega), Nat.lt_log2_self⟩
structure Dg (h y u y1 y0 : Int) : Prop where
 hy : y = y1 * 4294967296 + y0
 y0b : 0 ≤ y0 ∧ y0 < 4294967296
 y1b : 2147483648 ≤ y1 ∧ y1 < 4294967296
 hb : 0 ≤ h ∧ h < y
 ub : 0 ≤ u ∧ u < 4294967296
theorem Dg.m (_ _ _ : Int) : True := trivial
section
variable {h y u y1 y0 : Int}
theorem Dg.qlt (D : Dg h y u y1 y0) : 0 ≤ (h * 4294967296 + u) / y ∧ (h * 4294967296 + u) / y < 4294967296 := by
 obtain ⟨e, a, b, c, d⟩ := D
 refine ⟨Int.ediv_nonneg (by omega) (by omega), Int.ediv_lt_of_lt_mul (by omega) ?_⟩
 have : (h + 1) * 4294967296 ≤ y * 4294967296 := Int.mul_le_mul_of_nonneg_right (by omega) (by omega)
 have e2 := Int.mul_comm 4294967296 y
 omega
theorem Dg.first (D : Dg h y u y1 y0) : (h * 4294967296 + u) / y ≤ h / y1 ∧ h / y1 ≤ 4294967297 := by
 have D0 := D
 obtain ⟨e, a, b, c, d⟩ := D
 obtain ⟨q0, q1⟩ := D0.qlt
 have hf := floor_spec (x := h * 4294967296 + u) (d := y) (by omega)
 refine ⟨?_, ?_⟩
 · refine Int.le_ediv_of_mul_le (by omega) ?_
   generalize (h * 4294967296 + u) / y = q at *
   rw [e, Int.mul_add, ← Int.mul_assoc] at hf
   have h2 : 0 ≤ q * y0 := Int.mul_nonneg q0 a.1
   omega
 · have : h / y1 < 4294967298 := by
     refine Int.ediv_lt_of_lt_mul (by omega) ?_
     omega
   omega
theorem Dg.less (D : Dg h y u y1 y0) {q : Int} (hq : 4294967296 ≤ q ∨ 4294967296 * (h - q * y1) + u < q * y0) : (h * 4294967296 + u) / y ≤ q - 1 := by
 have D0 := D
 obtain ⟨e, a, b, c, d⟩ := D
 obtain ⟨q0, q1⟩ := D0.qlt
 rcases hq with hq | hq
 · omega
 · have : (h * 4294967296 + u) / y < q := by
     refine Int.ediv_lt_of_lt_mul (by omega) ?_
     rw [e, Int.mul_add, ← Int.mul_assoc]
     omega
   omega
theorem Dg.stop (D : Dg h y u y1 y0) {q : Int} (h1 : (h * 4294967296 + u) / y ≤ q) (h2 : q * y0 ≤ 4294967296 * (h - q * y1) + u) : (h * 4294967296 + u) / y = q := by
 have D0 := D
 obtain ⟨e, a, b, c, d⟩ := D
 have : q ≤ (h * 4294967296 + u) / y := by
   refine Int.le_ediv_of_mul_le (by omega) ?_
   rw [e, Int.mul_add, ← Int.mul_assoc]
   omega
 omega
end
end
section
def sh (a : Int) (i : Nat) : Int := a / 2 ^ i
theorem sh_zero (a : Int) : sh a 0 = a := by unfold sh; simp
theorem sh_step (a : Int) (i : Nat) : sh a i = 2 * sh a (i + 1) + sh a i % 2 := by
 have h : sh a (i + 1) = sh a i / 2 := by
   unfold sh
   rw [Int.pow_succ, Int.ediv_ediv_of_nonneg (Int.pow_nonneg (by omega))]
 omega
theorem sh_bd {a : Int} (h : 0 ≤ a) (i : Nat) : 0 ≤ sh a i ∧ sh a i ≤ a := by
 unfold sh
 exact ⟨Int.ediv_nonneg h (Int.pow_nonneg (by omega)), Int.ediv_le_self _ h⟩
theorem sh_top {a : Int} (h : 0 ≤ a) (h2 : a < 4398046511104) : sh a 42 = 0 := by
 unfold sh
 exact Int.ediv_eq_zero_of_lt h (by simpa using h2)
theorem sh_shr {a : Int} {j : Nat} (h1 : 1 ≤ j) (h2 : j ≤ 42) : a.fdiv (2 ^ (min ((j : Int) - 1).toNat IntKind.i64.bits)) = sh a (j - 1) := by
 rw [show ((j : Int) - 1).toNat = j - 1 by omega, show IntKind.i64.bits = 64 from rfl, Nat.min_eq_left (by omega), Int.fdiv_eq_ediv_of_nonneg _ (Int.pow_nonneg (by omega))]
 rfl
theorem dstep0 {A b c : Int} (hc : 0 < c) : (2 * A) * b / c = 2 * (A * b / c) + 2 * (A * b % c) / c ∧ (2 * A) * b % c = 2 * (A * b % c) % c := by
 obtain ⟨a1, a2, a3⟩ := floor_spec (x := A * b) hc
 obtain ⟨b1, b2, b3⟩ := floor_spec (x := 2 * (A * b % c)) hc
 refine floor_eq hc ?_ b2 b3
 rw [Int.add_mul, Int.mul_assoc, Int.mul_assoc 2 A b]
 omega
theorem dstep1 {A b c : Int} (hc : 0 < c) : (2 * A + 1) * b / c = 2 * (A * b / c) + b / c + (2 * (A * b % c) + b % c) / c ∧ (2 * A + 1) * b % c = (2 * (A * b % c) + b % c) % c := by
 obtain ⟨a1, a2, a3⟩ := floor_spec (x := A * b) hc
 obtain ⟨c1, c2, c3⟩ := floor_spec (x := b) hc
 obtain ⟨b1, b2, b3⟩ := floor_spec (x := 2 * (A * b % c) + b % c) hc
 refine floor_eq hc ?_ b2 b3
 rw [Int.add_mul, Int.add_mul, Int.mul_assoc, Int.add_mul, Int.mul_assoc 2 A b]
 omega
theorem div_bd {A b c : Int} (hc : 0 < c) (hA : 0 ≤ A ∧ A ≤ 4398046511104) (hb : 0 ≤ b ∧ b ≤ 200 * c) : 0 ≤ A * b / c ∧ A * b / c ≤ 879609302220800 := by
 have h1 := mul_in (a := A) (A := 4398046511104) (b := b) (B := 200 * c) hA.1 hA.2 hb.1 hb.2
 refine ⟨Int.ediv_nonneg h1.1 (by omega), Int.ediv_le_of_le_mul hc ?_⟩
 have : (4398046511104 : Int) * (200 * c) = 879609302220800 * c := by rw [← Int.mul_assoc]; rfl
 omega
theorem quot_bd {q d r x K : Int} (hd : 1 ≤ d) (h : q * d + r = x) (hr : -d < r ∧ r < 3 * d) (hx : -(K * d) ≤ x ∧ x ≤ K * d) : -(K + 3) ≤ q ∧ q ≤ K + 1 := by
 constructor
 · by_cases hq : -(K + 3) ≤ q
   · exact hq
   · exfalso
     have h1 : q * d ≤ -(K + 4) * d := Int.mul_le_mul_of_nonneg_right (by omega) (by omega)
     have h2 : -(K + 4) * d = -(K * d) - 4 * d := by rw [Int.neg_mul, Int.add_mul]; omega
     omega
 · by_cases hq : q ≤ K + 1
   · exact hq
   · exfalso
     have h1 : (K + 2) * d ≤ q * d := Int.mul_le_mul_of_nonneg_right (by omega) (by omega)
     have h2 : (K + 2) * d = K * d + 2 * d := Int.add_mul _ _ _
     omega
theorem dif_bd {A b S c d : Int} (_ : 1 ≤ d) (hA : 0 ≤ A ∧ A ≤ 4398046511104) (hS : 0 ≤ S ∧ S ≤ 4398046511104) (hb : 0 ≤ b ∧ b ≤ 200 * d) (hc : 0 ≤ c ∧ c ≤ 200 * d) : -(879609302220800 * d) ≤ A * b - S * c ∧ A * b - S * c ≤ 879609302220800 * d := by
 have h1 := mul_in (a := A) (A := 4398046511104) (b := b) (B := 200 * d) hA.1 hA.2 hb.1 hb.2
 have h2 := mul_in (a := S) (A := 4398046511104) (b := c) (B := 200 * d) hS.1 hS.2 hc.1 hc.2
 have : (4398046511104 : Int) * (200 * d) = 879609302220800 * d := by rw [← Int.mul_assoc]; rfl
 omega
theorem mstep {A S b c d e g : Int} (hd : 0 < d) (he : e = 0 ∨ e = 1) (hg : g = 0 ∨ g = 1) :
   (2 * ((A * b - S * c) / d) + e * (b / d) - g * (c / d)) * d + (2 * ((A * b - S * c) % d) + e * (b % d) - g * (c % d)) = (2 * A + e) * b - (2 * S + g) * c := by
 obtain ⟨a1, _, _⟩ := floor_spec (x := A * b - S * c) hd
 obtain ⟨b1, _, _⟩ := floor_spec (x := b) hd
 obtain ⟨c1, _, _⟩ := floor_spec (x := c) hd
 have k1 : (2 * A + e) * b = 2 * (A * b) + e * b := by rw [Int.add_mul, Int.mul_assoc]
 have k2 : (2 * S + g) * c = 2 * (S * c) + g * c := by rw [Int.add_mul, Int.mul_assoc]
 rw [k1, k2, Int.sub_mul, Int.add_mul, Int.mul_assoc]
 rcases he with rfl | rfl <;> rcases hg with rfl | rfl <;> simp only [Int.zero_mul, Int.one_mul, Int.sub_zero, Int.add_zero] <;> omega
end
section
attribute [local irreducible] CallA LoopA DrawA CallQ arithK quoK remK eqK
theorem shr16 {x : Int} : x.fdiv (2 ^ (min (Int.toNat 16) IntKind.u64.bits)) = x / 65536 := by
 rw [Int.fdiv_eq_ediv_of_nonneg _ (by decide)]
 rfl
theorem shr8 {x : Int} : x.fdiv (2 ^ (min (Int.toNat 8) IntKind.u64.bits)) = x / 256 := by
 rw [Int.fdiv_eq_ediv_of_nonneg _ (by decide)]
 rfl
def tabOk (S : ByteArray) : Bool := Nat.beq S.size 256 && (List.range 256).all fun n => Nat.beq (S.data.toList.getD n 0).toNat (blen n)
theorem tab_lt {S : ByteArray} (h : tabOk S = true) {x : Int} (hx : x < 256) : x < (S.size : Int) := by
 unfold tabOk at h
 rw [Bool.and_eq_true] at h
 have := Nat.eq_of_beq_eq_true h.1
 omega
theorem tab_at {S : ByteArray} (h : tabOk S = true) {x : Int} (h0 : 0 ≤ x) (hx : x < 256) : byteAt S x.toNat = (blen x.toNat : Int) := by
 unfold tabOk at h
 rw [Bool.and_eq_true] at h
 have := List.all_eq_true.1 h.2 x.toNat (List.mem_range.2 (by omega))
 have := Nat.eq_of_beq_eq_true this
 unfold byteAt
 rw [this]
theorem blen_le {n : Nat} (h : n < 18446744073709551616) : blen n ≤ 64 := by
 by_cases h0 : n = 0
 · subst h0; decide
 · have := (blen_bd (n := n) (by omega)).2.1
   rcases Nat.lt_or_ge (blen n) 65 with h1 | h1
   · omega
   · have h2 := Nat.pow_le_pow_right (n := 2) (by omega) (show 64 ≤ blen n - 1 by omega)
     have h3 : 2 ^ 64 = 18446744073709551616 := rfl
     omega
theorem arithe {k : IntKind} {m v : Int} {K : Value → Prop} (h : m = v) (hi : inb k v) (hk : K (.int k v)) : arithK k m K := by subst h; exact arith_ok hi hk
theorem bsh32 {x : Int} : 4294967296 ≤ x → blen x.toNat = blen (x / 4294967296).toNat + 32 := fun h => by
 rw [blen_shift (n := x.toNat) (k := 32) (by show 4294967296 ≤ _; omega), show x.toNat / 2 ^ 32 = (x / 4294967296).toNat by show x.toNat / 4294967296 = _; omega]
theorem bsh16 {x : Int} : 65536 ≤ x → blen x.toNat = blen (x / 65536).toNat + 16 := fun h => by
 rw [blen_shift (n := x.toNat) (k := 16) (by show 65536 ≤ _; omega), show x.toNat / 2 ^ 16 = (x / 65536).toNat by show x.toNat / 65536 = _; omega]
theorem bsh8 {x : Int} : 256 ≤ x → blen x.toNat = blen (x / 256).toNat + 8 := fun h => by
 rw [blen_shift (n := x.toNat) (k := 8) (by show 256 ≤ _; omega), show x.toNat / 2 ^ 8 = (x / 256).toNat by show x.toNat / 256 = _; omega]
theorem len64_ret (x : Int) (hx : inU x) : Rt 302 [U x] (I (blen x.toNat)) := by
 refine bZ Tryz.func302 ?_
 obtain ⟨hx1, hx2⟩ := hx
 have a0 := bsh32 (x := x)
 have a1 := bsh16 (x := x)
 have a2 := bsh16 (x := x / 4294967296)
 have a3 := bsh8 (x := x)
 have a4 := bsh8 (x := x / 4294967296)
 have a5 := bsh8 (x := x / 65536)
 have a6 := bsh8 (x := x / 4294967296 / 65536)
 have b0 := blen_le (n := x.toNat) (by omega)
 have b1 := blen_le (n := (x / 4294967296).toNat) (by omega)
 have b2 := blen_le (n := (x / 65536).toNat) (by omega)
 have b3 := blen_le (n := (x / 256).toNat) (by omega)
 have b4 := blen_le (n := (x / 4294967296 / 65536).toNat) (by omega)
 have b5 := blen_le (n := (x / 4294967296 / 256).toNat) (by omega)
 have b6 := blen_le (n := (x / 65536 / 256).toNat) (by omega)
 have b7 := blen_le (n := (x / 4294967296 / 65536 / 256).toNat) (by omega)
 repeat' (conv => whnf); first | (intro h; try exact nZ) | apply And.intro | refine dZ ?_ | refine sZ ?_ | (refine eqv (and32 ⟨by omega, by omega⟩) ?_) | (refine eqv shr32 ?_) | (refine eqv shr16 ?_) | (refine eqv shr8 ?_) | (refine arithe (tab_at (by decide +kernel) (by omega) (by omega)) ⟨by omega, by omega⟩ ?_) | fail
 all_goals first | omega | exact tab_lt (by decide +kernel) (by omega) | (refine iv ?_; omega)
theorem lz64_ret (x : Int) (hx : inU x) : Rt 322 [U x] (I (64 - blen x.toNat)) := by
 refine bZ Tryz.func322 ?_
 have b0 := blen_le (n := x.toNat) (by have := hx.1; have := hx.2; omega)
 repeat' (conv => whnf); first | (intro h; try exact nZ) | apply And.intro | refine dZ ?_ | refine sZ ?_ | (refine Ret.go (len64_ret x hx) rfl rfl ?_) | (refine Ret.goQ (len64_ret x hx) rfl rfl ?_) | fail
 all_goals first | exact rZ
end
section
attribute [local irreducible] CallA LoopA DrawA CallQ arithK quoK remK eqK
theorem pow_facts {y : Int} (h0 : 1 ≤ y) (h1 : y < 18446744073709551616) : blen y.toNat ≤ 64 ∧ 1 ≤ (2 : Int) ^ (64 - blen y.toNat) ∧ (2 : Int) ^ (64 - blen y.toNat) * 2 ^ blen y.toNat = 18446744073709551616 ∧ y < 2 ^ blen y.toNat ∧ (2 : Int) ^ blen y.toNat ≤ 2 * y := by
 have hb := blen_le (n := y.toNat) (by omega)
 obtain ⟨c1, c2, c3⟩ := blen_bd (n := y.toNat) (by omega)
 refine ⟨hb, ?_, ?_, ?_, ?_⟩
 · have : 0 < (2 : Int) ^ (64 - blen y.toNat) := Int.pow_pos (by decide)
   omega
 · rw [← Int.pow_add, show 64 - blen y.toNat + blen y.toNat = 64 by omega]; rfl
 · have h : ((y.toNat : Nat) : Int) < ((2 ^ blen y.toNat : Nat) : Int) := Int.ofNat_lt.2 c3
   rw [Int.natCast_pow] at h
   have h' : ((y.toNat : Nat) : Int) < (2 : Int) ^ blen y.toNat := h
   omega
 · have h : ((2 ^ (blen y.toNat - 1) : Nat) : Int) ≤ ((y.toNat : Nat) : Int) := Int.ofNat_le.2 c2
   rw [Int.natCast_pow] at h
   have h' : (2 : Int) ^ (blen y.toNat - 1) ≤ ((y.toNat : Nat) : Int) := h
   have h2 : (2 : Int) ^ blen y.toNat = 2 ^ (blen y.toNat - 1) * 2 := by
     rw [← Int.pow_succ]
     exact congrArg (fun n => (2 : Int) ^ n) (by omega)
   omega
theorem or_add {a g : Int} {e : Nat} (ha : 0 ≤ a) (hg : 0 ≤ g ∧ g < 2 ^ e) (h : a * 2 ^ e + g < 18446744073709551616) : bitsI .or .u64 (a * 2 ^ e) g = a * 2 ^ e + g := by
 have hp : 0 < (2 : Int) ^ e := Int.pow_pos (by decide)
 have hm : 0 ≤ a * 2 ^ e := Int.mul_nonneg ha (by omega)
 show IntKind.u64.wrap ((BitVec.ofInt 64 (a * 2 ^ e) ||| BitVec.ofInt 64 g).toNat : Int) = _
 rw [BitVec.toNat_or, ofInt64 ⟨hm, by omega⟩, ofInt64 ⟨hg.1, by omega⟩]
 have e1 : (a * 2 ^ e).toNat = 2 ^ e * a.toNat := by
   have : a * 2 ^ e = ((2 ^ e * a.toNat : Nat) : Int) := by
     rw [Int.natCast_mul, Int.natCast_pow, Int.toNat_of_nonneg ha, Int.mul_comm]; rfl
   rw [this]; rfl
 have e2 : g.toNat < 2 ^ e := by
   have : ((g.toNat : Nat) : Int) < ((2 ^ e : Nat) : Int) := by rw [Int.toNat_of_nonneg hg.1, Int.natCast_pow]; exact hg.2
   exact Int.ofNat_lt.1 this
 rw [e1, ← Nat.two_pow_add_eq_or_of_lt e2, wrapU, ← e1]
 have : (((a * 2 ^ e).toNat + g.toNat : Nat) : Int) = a * 2 ^ e + g := by omega
 rw [this]
 omega
theorem two_words {lo P W : Int} (hlo : inU lo) (hP : 1 ≤ P) (hPW : P * W = 18446744073709551616) (hW : 1 ≤ W) : lo * P = lo / W * 18446744073709551616 + lo * P % 18446744073709551616 ∧ 0 ≤ lo / W ∧ lo / W < P := by
 obtain ⟨a1, a2, a3⟩ := floor_spec (x := lo) (d := W) (by omega)
 have e1 : lo * P = lo / W * 18446744073709551616 + lo % W * P := by
   conv => lhs; rw [← a1]
   rw [Int.add_mul, Int.mul_assoc, Int.mul_comm W, hPW]
 have b1 : 0 ≤ lo % W * P := Int.mul_nonneg a2 (by omega)
 have b2 : lo % W * P < 18446744073709551616 := by
   have h : (lo % W + 1) * P ≤ W * P := Int.mul_le_mul_of_nonneg_right (by omega) (by omega)
   rw [Int.add_mul, Int.one_mul, Int.mul_comm W, hPW] at h
   omega
 refine ⟨by omega, Int.ediv_nonneg hlo.1 (by omega), Int.ediv_lt_of_lt_mul (by omega) ?_⟩
 rw [hPW]; exact hlo.2
theorem both_digits {hi lo y P H L Y Q1 R1 Q0 R0 : Int} (hP : 1 ≤ P) (hy : 1 ≤ y) (hY : Y = y * P) (hN : (hi * 18446744073709551616 + lo) * P = H * 18446744073709551616 + L)
   (h1 : Q1 * Y + R1 = H * 4294967296 + L / 4294967296) (h0 : Q0 * Y + R0 = R1 * 4294967296 + L % 4294967296) (hr : 0 ≤ R0 ∧ R0 < Y) :
   (hi * 18446744073709551616 + lo) / y = Q1 * 4294967296 + Q0 ∧ (hi * 18446744073709551616 + lo) % y = R0 / P := by
 have e : ((hi * 18446744073709551616 + lo) - (Q1 * 4294967296 + Q0) * y) * P = R0 := by
   rw [Int.sub_mul, hN, Int.mul_assoc, ← hY, Int.add_mul]
   have : Q1 * 4294967296 * Y = Q1 * Y * 4294967296 := Int.mul_right_comm _ _ _
   omega
 generalize hr' : (hi * 18446744073709551616 + lo) - (Q1 * 4294967296 + Q0) * y = r at e
 have hr0 : 0 ≤ r := by
   rcases Int.lt_or_le r 0 with h | h
   · have : r * P ≤ -1 * P := Int.mul_le_mul_of_nonneg_right (by omega) (by omega)
     omega
   · exact h
 have hr1 : r < y := by
   rcases Int.lt_or_le r y with h | h
   · exact h
   · have : y * P ≤ r * P := Int.mul_le_mul_of_nonneg_right h (by omega)
     omega
 have hq : R0 / P = r := by rw [← e, Int.mul_ediv_cancel _ (by omega)]
 rw [hq]
 exact floor_eq (by omega) (by omega) hr0 hr1
theorem div64_ret (hi lo y : Int) (h1 : 0 ≤ hi) (h2 : hi < y) (h3 : y < 18446744073709551616) (h4 : inU lo) : Rt 312 [U hi, U lo, U y] (.tup [U ((hi * 18446744073709551616 + lo) / y), U ((hi * 18446744073709551616 + lo) % y)]) := by
 refine bZ Tryz.func312 ?_
 have h41 := h4.1
 have h42 := h4.2
 by_cases hz : hi = 0
 · subst hz
   rw [show (0 : Int) * 18446744073709551616 + lo = lo by omega]
   repeat' (conv => whnf); first | (intro h; try exact nZ) | apply And.intro | refine dZ ?_ | refine sZ ?_ | refine qZ ?_ | refine mZ ?_ | fail
   all_goals first | omega | rfl
 · obtain ⟨hb, hP, hPW, hyW, hWy⟩ := pow_facts (y := y) (by omega) h3
   have hlz := lz64_ret y ⟨by omega, h3⟩
   have hW1 : (1 : Int) ≤ 2 ^ blen y.toNat := by omega
   obtain ⟨hw1, hw2, hw3⟩ := two_words h4 hP hPW hW1
   have hyP : y * 2 ^ (64 - blen y.toNat) < 18446744073709551616 := by
     have : (y + 1) * 2 ^ (64 - blen y.toNat) ≤ 2 ^ blen y.toNat * 2 ^ (64 - blen y.toNat) := Int.mul_le_mul_of_nonneg_right (by omega) (by omega)
     rw [Int.mul_comm (2 ^ blen y.toNat), hPW, Int.add_mul] at this
     omega
   have hyP2 : 9223372036854775808 ≤ y * 2 ^ (64 - blen y.toNat) := by
     have : 2 ^ blen y.toNat * 2 ^ (64 - blen y.toNat) ≤ 2 * y * 2 ^ (64 - blen y.toNat) := Int.mul_le_mul_of_nonneg_right hWy (by omega)
     rw [Int.mul_comm (2 ^ blen y.toNat), hPW, Int.mul_assoc] at this
     omega
   have hhP : hi * 2 ^ (64 - blen y.toNat) ≤ y * 2 ^ (64 - blen y.toNat) - 2 ^ (64 - blen y.toNat) := by
     have : (hi + 1) * 2 ^ (64 - blen y.toNat) ≤ y * 2 ^ (64 - blen y.toNat) := Int.mul_le_mul_of_nonneg_right (by omega) (by omega)
     rw [Int.add_mul] at this
     omega
   have hhP0 : 0 ≤ hi * 2 ^ (64 - blen y.toNat) := Int.mul_nonneg h1 (by omega)
   have he : min (64 - (blen y.toNat : Int)).toNat IntKind.u64.bits = 64 - blen y.toNat := by rw [show IntKind.u64.bits = 64 from rfl]; omega
   have he2 : min (64 - (64 - (blen y.toNat : Int))).toNat IntKind.u64.bits = blen y.toNat := by rw [show IntKind.u64.bits = 64 from rfl]; omega
   have hor := or_add (a := hi) (g := lo / 2 ^ blen y.toNat) (e := 64 - blen y.toNat) h1 ⟨hw2, hw3⟩ (by omega)
   have hs1 : IntKind.u64.wrap (y * 2 ^ (min (64 - (blen y.toNat : Int)).toNat IntKind.u64.bits)) = y * 2 ^ (64 - blen y.toNat) := by rw [he, wrapU]; omega
   have hs2 : IntKind.u64.wrap (hi * 2 ^ (min (64 - (blen y.toNat : Int)).toNat IntKind.u64.bits)) = hi * 2 ^ (64 - blen y.toNat) := by rw [he, wrapU]; omega
   have hs3 : IntKind.u64.wrap (lo * 2 ^ (min (64 - (blen y.toNat : Int)).toNat IntKind.u64.bits)) = lo * 2 ^ (64 - blen y.toNat) % 18446744073709551616 := by rw [he, wrapU]
   have hs4 : lo.fdiv (2 ^ (min (64 - (64 - (blen y.toNat : Int))).toNat IntKind.u64.bits)) = lo / 2 ^ blen y.toNat := by rw [he2, Int.fdiv_eq_ediv_of_nonneg _ (by omega)]
   have hs5 : ∀ a : Int, a.fdiv (2 ^ (min (64 - (blen y.toNat : Int)).toNat IntKind.u64.bits)) = a / 2 ^ (64 - blen y.toNat) := fun a => by rw [he, Int.fdiv_eq_ediv_of_nonneg _ (by omega)]
   have hN : (hi * 18446744073709551616 + lo) * 2 ^ (64 - blen y.toNat) = (hi * 2 ^ (64 - blen y.toNat) + lo / 2 ^ blen y.toNat) * 18446744073709551616 + lo * 2 ^ (64 - blen y.toNat) % 18446744073709551616 := by
     rw [Int.add_mul, Int.add_mul]
     have : hi * 18446744073709551616 * 2 ^ (64 - blen y.toNat) = hi * 2 ^ (64 - blen y.toNat) * 18446744073709551616 := Int.mul_right_comm _ _ _
     omega
   have hYe : ∃ Y, Y = y * 2 ^ (64 - blen y.toNat) := ⟨_, rfl⟩
   obtain ⟨Y, hY⟩ := hYe
   have hHe : ∃ H, H = hi * 2 ^ (64 - blen y.toNat) + lo / 2 ^ blen y.toNat := ⟨_, rfl⟩
   obtain ⟨H, hH⟩ := hHe
   have hLe : ∃ L, L = lo * 2 ^ (64 - blen y.toNat) % 18446744073709551616 := ⟨_, rfl⟩
   obtain ⟨L, hL⟩ := hLe
   rw [← hY] at hs1
   rw [← hH] at hor hN
   rw [← hL] at hs3 hN
   have hYb : 9223372036854775808 ≤ Y ∧ Y < 18446744073709551616 := by omega
   have hHb : 0 ≤ H ∧ H < Y := by omega
   have hLb : 0 ≤ L ∧ L < 18446744073709551616 := by omega
   have D1 : Dg H Y (L / 4294967296) (Y / 4294967296) (Y % 4294967296) := ⟨by omega, by omega, by omega, hHb, by omega⟩
   have f1 := floor_spec (x := H * 4294967296 + L / 4294967296) (d := Y) (by omega)
   have q1b := D1.qlt
   have q1f := D1.first
   have hQe : ∃ Q1, Q1 = (H * 4294967296 + L / 4294967296) / Y := ⟨_, rfl⟩
   obtain ⟨Q1, hQ1⟩ := hQe
   have hRe : ∃ R1, R1 = (H * 4294967296 + L / 4294967296) % Y := ⟨_, rfl⟩
   obtain ⟨R1, hR1⟩ := hRe
   have D0 : Dg R1 Y (L % 4294967296) (Y / 4294967296) (Y % 4294967296) := ⟨by omega, by omega, by omega, by omega, by omega⟩
   have f0 := floor_spec (x := R1 * 4294967296 + L % 4294967296) (d := Y) (by omega)
   have q0b := D0.qlt
   have q0f := D0.first
   have hQe : ∃ Q0, Q0 = (R1 * 4294967296 + L % 4294967296) / Y := ⟨_, rfl⟩
   obtain ⟨Q0, hQ0⟩ := hQe
   have hRe : ∃ R0, R0 = (R1 * 4294967296 + L % 4294967296) % Y := ⟨_, rfl⟩
   obtain ⟨R0, hR0⟩ := hRe
   have l1 := fun q => D1.less (q := q)
   have l0 := fun q => D0.less (q := q)
   have s1 := fun q => D1.stop (q := q)
   have s0 := fun q => D0.stop (q := q)
   rw [← hQ1] at f1 q1b q1f
   rw [← hR1] at f1
   rw [← hQ0] at f0 q0b q0f
   rw [← hR0] at f0
   simp only [← hQ1] at l1 s1
   simp only [← hQ0] at l0 s0
   have hfin := both_digits hP (by omega) hY hN f1.1 f0.1 ⟨f0.2.1, f0.2.2⟩
   have g1 := floor_spec (x := H) (d := Y / 4294967296) (by omega)
   have g0 := floor_spec (x := R1) (d := Y / 4294967296) (by omega)
   have g1n : 0 ≤ H / (Y / 4294967296) * (Y / 4294967296) := Int.mul_nonneg (Int.ediv_nonneg (by omega) (by omega)) (by omega)
   have g0n : 0 ≤ R1 / (Y / 4294967296) * (Y / 4294967296) := Int.mul_nonneg (Int.ediv_nonneg (by omega) (by omega)) (by omega)
   clear hs4 hR0 hQ0 hR1 hQ1
   clear hw1 hw2 hw3
   have hs4 : lo.fdiv (2 ^ (min (64 - (64 - (blen y.toNat : Int))).toNat IntKind.u64.bits)) = lo / 2 ^ blen y.toNat := by rw [he2, Int.fdiv_eq_ediv_of_nonneg _ (by omega)]
   repeat' (conv => whnf); first | (intro h; try exact nZ) | apply And.intro | refine dZ ?_ | refine sZ ?_ | (refine arithw hs1 ?_) | (refine arithw hs2 ?_) | (refine arithw hs3 ?_) | (refine eqv hs4 ?_) | (refine eqv hor ?_) | (refine eqv (and32 ⟨by omega, by omega⟩) ?_) | (refine eqv shr32 ?_) | refine qZ ?_ | refine mZ ?_ | (refine Ret.go (hlz) rfl rfl ?_) | (refine Ret.goQ (hlz) rfl rfl ?_) | fail
   all_goals try omega
   refine loop_rule hT (fun q : Int => Q1 ≤ q ∧ q ≤ 4294967297 ∧ 0 ≤ H - q * (Y / 4294967296) ∧ H - q * (Y / 4294967296) < 4294967296) 135 0 [2, 8, 9, 10, 11, 13, 14, 15, 16] (fun q => [U Y, U (64 - (blen y.toNat : Int)), U (Y / 4294967296), U (Y % 4294967296), U H, U (L / 4294967296), U (L % 4294967296), U q, U (H - q * (Y / 4294967296))]) (fun _ => []) (fun q => q.toNat) (H / (Y / 4294967296)) (Nat.le_of_ble_eq_true rfl) ?_ ?_ ?_
   · exact ⟨q1f.1, q1f.2, by omega, by omega⟩
   · (exact endHA)
   · rintro q ⟨i1, i2, i3, i4⟩
     by_cases hc : 4294967296 ≤ q ∨ 4294967296 * (H - q * (Y / 4294967296)) + L / 4294967296 < q * (Y % 4294967296)
     · have hle := l1 q hc
       have hm : (q - 1) * (Y / 4294967296) = q * (Y / 4294967296) - Y / 4294967296 := by rw [Int.sub_mul]; omega
       have hp : q < 4294967296 → 0 ≤ q * (Y % 4294967296) ∧ q * (Y % 4294967296) ≤ 4294967295 * 4294967295 := fun hq => mul_in (by omega) (by omega) (by omega) (by omega)
       by_cases hbr : 4294967296 ≤ H - q * (Y / 4294967296) + Y / 4294967296
       · have hp2 := mul_in (a := q - 1) (A := 4294967296) (b := Y % 4294967296) (B := 4294967295) (by omega) (by omega) (by omega) (by omega)
         have hst := s1 (q - 1) hle (by rw [hm]; omega)
         have hqY : (q - 1) * Y = Q1 * Y := by rw [hst]
         by_cases hq32 : 4294967296 ≤ q
         · repeat' (conv => whnf); first | (intro h; try exact nZ) | apply And.intro | refine dZ ?_ | refine sZ ?_ | (refine arithw (show IntKind.u64.wrap _ = R1 from (wrapU _).trans (by omega)) ?_) | (refine arithw (wrapU _) ?_) | (refine eqv (and32 ⟨by omega, by omega⟩) ?_) | (refine eqv shr32 ?_) | refine qZ ?_ | refine mZ ?_ | fail
           all_goals try omega
           refine loop_rule hT (fun p : Int => Q0 ≤ p ∧ p ≤ 4294967297 ∧ 0 ≤ R1 - p * (Y / 4294967296) ∧ R1 - p * (Y / 4294967296) < 4294967296) 135 0 [2, 8, 9, 10, 14, 15, 16, 17, 18] (fun p => [U Y, U (64 - (blen y.toNat : Int)), U (Y / 4294967296), U (Y % 4294967296), U (L % 4294967296), U (q - 1), U (R1 - p * (Y / 4294967296)), U R1, U p]) (fun _ => []) (fun p => p.toNat) (R1 / (Y / 4294967296)) (Nat.le_of_ble_eq_true rfl) ?_ ?_ ?_
           · exact ⟨q0f.1, q0f.2, by omega, by omega⟩
           · (exact endHA)
           · rintro p ⟨j1, j2, j3, j4⟩
             by_cases hd : 4294967296 ≤ p ∨ 4294967296 * (R1 - p * (Y / 4294967296)) + L % 4294967296 < p * (Y % 4294967296)
             · have hle0 := l0 p hd
               have hm0 : (p - 1) * (Y / 4294967296) = p * (Y / 4294967296) - Y / 4294967296 := by rw [Int.sub_mul]; omega
               have hp0 : p < 4294967296 → 0 ≤ p * (Y % 4294967296) ∧ p * (Y % 4294967296) ≤ 4294967295 * 4294967295 := fun hq => mul_in (by omega) (by omega) (by omega) (by omega)
               by_cases hbr0 : 4294967296 ≤ R1 - p * (Y / 4294967296) + Y / 4294967296
               · have hp02 := mul_in (a := p - 1) (A := 4294967296) (b := Y % 4294967296) (B := 4294967295) (by omega) (by omega) (by omega) (by omega)
                 have hst0 := s0 (p - 1) hle0 (by rw [hm0]; omega)
                 have hqY0 : (p - 1) * Y = Q0 * Y := by rw [hst0]
                 repeat' (conv => whnf); first | (intro h; try exact nZ) | apply And.intro | refine dZ ?_ | refine sZ ?_ | (refine arithw (show IntKind.u64.wrap _ = R0 from (wrapU _).trans (by omega)) ?_) | (refine arithw (wrapU _) ?_) | (refine eqv (hs5 _) ?_) | fail
                 all_goals first | omega | (refine congrArg AV.tup (congr (congrArg List.cons (iv ?_)) (congrArg (fun z => [z]) (iv ?_))); (first | (rw [hfin.1]; omega) | omega); (first | exact hfin.2.symm | omega))
               · repeat' (conv => whnf); first | (intro h; try exact nZ) | apply And.intro | refine dZ ?_ | refine sZ ?_ | fail
                 all_goals first | omega | ((conv => whnf); refine ⟨p - 1, ⟨hle0, by omega, by rw [hm0]; omega, by rw [hm0]; omega⟩, ?_, by omega⟩; (refine ⟨rfl, [], ?_, ?_⟩; (repeat' first | apply And.intro | exact xZ | (rw [hm0]; omega) | fail); done))
             · have hst0 := s0 p j1 (by omega)
               have hp0 := mul_in (a := p) (A := 4294967295) (b := Y % 4294967296) (B := 4294967295) (by omega) (by omega) (by omega) (by omega)
               have hqY0 : p * Y = Q0 * Y := by rw [hst0]
               repeat' (conv => whnf); first | (intro h; try exact nZ) | apply And.intro | refine dZ ?_ | refine sZ ?_ | (refine arithw (show IntKind.u64.wrap _ = R0 from (wrapU _).trans (by omega)) ?_) | (refine arithw (wrapU _) ?_) | (refine eqv (hs5 _) ?_) | fail
               all_goals first | omega | (refine congrArg AV.tup (congr (congrArg List.cons (iv ?_)) (congrArg (fun z => [z]) (iv ?_))); (first | (rw [hfin.1]; omega) | omega); (first | exact hfin.2.symm | omega))
         · repeat' (conv => whnf); first | (intro h; try exact nZ) | apply And.intro | refine dZ ?_ | refine sZ ?_ | (refine arithw (show IntKind.u64.wrap _ = R1 from (wrapU _).trans (by omega)) ?_) | (refine arithw (wrapU _) ?_) | (refine eqv (and32 ⟨by omega, by omega⟩) ?_) | (refine eqv shr32 ?_) | refine qZ ?_ | refine mZ ?_ | fail
           all_goals try omega
           refine loop_rule hT (fun p : Int => Q0 ≤ p ∧ p ≤ 4294967297 ∧ 0 ≤ R1 - p * (Y / 4294967296) ∧ R1 - p * (Y / 4294967296) < 4294967296) 135 0 [2, 8, 9, 10, 14, 15, 16, 17, 18] (fun p => [U Y, U (64 - (blen y.toNat : Int)), U (Y / 4294967296), U (Y % 4294967296), U (L % 4294967296), U (q - 1), U (R1 - p * (Y / 4294967296)), U R1, U p]) (fun _ => []) (fun p => p.toNat) (R1 / (Y / 4294967296)) (Nat.le_of_ble_eq_true rfl) ?_ ?_ ?_
           · exact ⟨q0f.1, q0f.2, by omega, by omega⟩
           · (exact endHA)
           · rintro p ⟨j1, j2, j3, j4⟩
             by_cases hd : 4294967296 ≤ p ∨ 4294967296 * (R1 - p * (Y / 4294967296)) + L % 4294967296 < p * (Y % 4294967296)
             · have hle0 := l0 p hd
               have hm0 : (p - 1) * (Y / 4294967296) = p * (Y / 4294967296) - Y / 4294967296 := by rw [Int.sub_mul]; omega
               have hp0 : p < 4294967296 → 0 ≤ p * (Y % 4294967296) ∧ p * (Y % 4294967296) ≤ 4294967295 * 4294967295 := fun hq => mul_in (by omega) (by omega) (by omega) (by omega)
               by_cases hbr0 : 4294967296 ≤ R1 - p * (Y / 4294967296) + Y / 4294967296
               · have hp02 := mul_in (a := p - 1) (A := 4294967296) (b := Y % 4294967296) (B := 4294967295) (by omega) (by omega) (by omega) (by omega)
                 have hst0 := s0 (p - 1) hle0 (by rw [hm0]; omega)
                 have hqY0 : (p - 1) * Y = Q0 * Y := by rw [hst0]
                 repeat' (conv => whnf); first | (intro h; try exact nZ) | apply And.intro | refine dZ ?_ | refine sZ ?_ | (refine arithw (show IntKind.u64.wrap _ = R0 from (wrapU _).trans (by omega)) ?_) | (refine arithw (wrapU _) ?_) | (refine eqv (hs5 _) ?_) | fail
                 all_goals first | omega | (refine congrArg AV.tup (congr (congrArg List.cons (iv ?_)) (congrArg (fun z => [z]) (iv ?_))); (first | (rw [hfin.1]; omega) | omega); (first | exact hfin.2.symm | omega))
               · repeat' (conv => whnf); first | (intro h; try exact nZ) | apply And.intro | refine dZ ?_ | refine sZ ?_ | fail
                 all_goals first | omega | ((conv => whnf); refine ⟨p - 1, ⟨hle0, by omega, by rw [hm0]; omega, by rw [hm0]; omega⟩, ?_, by omega⟩; (refine ⟨rfl, [], ?_, ?_⟩; (repeat' first | apply And.intro | exact xZ | (rw [hm0]; omega) | fail); done))
             · have hst0 := s0 p j1 (by omega)
               have hp0 := mul_in (a := p) (A := 4294967295) (b := Y % 4294967296) (B := 4294967295) (by omega) (by omega) (by omega) (by omega)
               have hqY0 : p * Y = Q0 * Y := by rw [hst0]
               repeat' (conv => whnf); first | (intro h; try exact nZ) | apply And.intro | refine dZ ?_ | refine sZ ?_ | (refine arithw (show IntKind.u64.wrap _ = R0 from (wrapU _).trans (by omega)) ?_) | (refine arithw (wrapU _) ?_) | (refine eqv (hs5 _) ?_) | fail
               all_goals first | omega | (refine congrArg AV.tup (congr (congrArg List.cons (iv ?_)) (congrArg (fun z => [z]) (iv ?_))); (first | (rw [hfin.1]; omega) | omega); (first | exact hfin.2.symm | omega))
       · repeat' (conv => whnf); first | (intro h; try exact nZ) | apply And.intro | refine dZ ?_ | refine sZ ?_ | fail
         all_goals first | omega | ((conv => whnf); refine ⟨q - 1, ⟨hle, by omega, by rw [hm]; omega, by rw [hm]; omega⟩, ?_, by omega⟩; (refine ⟨rfl, [], ?_, ?_⟩; (repeat' first | apply And.intro | exact xZ | (rw [hm]; omega) | fail); done))
     · have hst := s1 q i1 (by omega)
       have hp := mul_in (a := q) (A := 4294967295) (b := Y % 4294967296) (B := 4294967295) (by omega) (by omega) (by omega) (by omega)
       have hqY : q * Y = Q1 * Y := by rw [hst]
       repeat' (conv => whnf); first | (intro h; try exact nZ) | apply And.intro | refine dZ ?_ | refine sZ ?_ | (refine arithw (show IntKind.u64.wrap _ = R1 from (wrapU _).trans (by omega)) ?_) | (refine arithw (wrapU _) ?_) | (refine eqv (and32 ⟨by omega, by omega⟩) ?_) | (refine eqv shr32 ?_) | refine qZ ?_ | refine mZ ?_ | fail
       all_goals try omega
       refine loop_rule hT (fun p : Int => Q0 ≤ p ∧ p ≤ 4294967297 ∧ 0 ≤ R1 - p * (Y / 4294967296) ∧ R1 - p * (Y / 4294967296) < 4294967296) 135 0 [2, 8, 9, 10, 14, 15, 16, 17, 18] (fun p => [U Y, U (64 - (blen y.toNat : Int)), U (Y / 4294967296), U (Y % 4294967296), U (L % 4294967296), U q, U (R1 - p * (Y / 4294967296)), U R1, U p]) (fun _ => []) (fun p => p.toNat) (R1 / (Y / 4294967296)) (Nat.le_of_ble_eq_true rfl) ?_ ?_ ?_
       · exact ⟨q0f.1, q0f.2, by omega, by omega⟩
       · (exact endHA)
       · rintro p ⟨j1, j2, j3, j4⟩
         by_cases hd : 4294967296 ≤ p ∨ 4294967296 * (R1 - p * (Y / 4294967296)) + L % 4294967296 < p * (Y % 4294967296)
         · have hle0 := l0 p hd
           have hm0 : (p - 1) * (Y / 4294967296) = p * (Y / 4294967296) - Y / 4294967296 := by rw [Int.sub_mul]; omega
           have hp0 : p < 4294967296 → 0 ≤ p * (Y % 4294967296) ∧ p * (Y % 4294967296) ≤ 4294967295 * 4294967295 := fun hq => mul_in (by omega) (by omega) (by omega) (by omega)
           by_cases hbr0 : 4294967296 ≤ R1 - p * (Y / 4294967296) + Y / 4294967296
           · have hp02 := mul_in (a := p - 1) (A := 4294967296) (b := Y % 4294967296) (B := 4294967295) (by omega) (by omega) (by omega) (by omega)
             have hst0 := s0 (p - 1) hle0 (by rw [hm0]; omega)
             have hqY0 : (p - 1) * Y = Q0 * Y := by rw [hst0]
             repeat' (conv => whnf); first | (intro h; try exact nZ) | apply And.intro | refine dZ ?_ | refine sZ ?_ | (refine arithw (show IntKind.u64.wrap _ = R0 from (wrapU _).trans (by omega)) ?_) | (refine arithw (wrapU _) ?_) | (refine eqv (hs5 _) ?_) | fail
             all_goals first | omega | (refine congrArg AV.tup (congr (congrArg List.cons (iv ?_)) (congrArg (fun z => [z]) (iv ?_))); (first | (rw [hfin.1]; omega) | omega); (first | exact hfin.2.symm | omega))
           · repeat' (conv => whnf); first | (intro h; try exact nZ) | apply And.intro | refine dZ ?_ | refine sZ ?_ | fail
             all_goals first | omega | ((conv => whnf); refine ⟨p - 1, ⟨hle0, by omega, by rw [hm0]; omega, by rw [hm0]; omega⟩, ?_, by omega⟩; (refine ⟨rfl, [], ?_, ?_⟩; (repeat' first | apply And.intro | exact xZ | (rw [hm0]; omega) | fail); done))
         · have hst0 := s0 p j1 (by omega)
           have hp0 := mul_in (a := p) (A := 4294967295) (b := Y % 4294967296) (B := 4294967295) (by omega) (by omega) (by omega) (by omega)
           have hqY0 : p * Y = Q0 * Y := by rw [hst0]
           repeat' (conv => whnf); first | (intro h; try exact nZ) | apply And.intro | refine dZ ?_ | refine sZ ?_ | (refine arithw (show IntKind.u64.wrap _ = R0 from (wrapU _).trans (by omega)) ?_) | (refine arithw (wrapU _) ?_) | (refine eqv (hs5 _) ?_) | fail
           all_goals first | omega | (refine congrArg AV.tup (congr (congrArg List.cons (iv ?_)) (congrArg (fun z => [z]) (iv ?_))); (first | (rw [hfin.1]; omega) | omega); (first | exact hfin.2.symm | omega))
end
section
attribute [local irreducible] CallA LoopA DrawA CallQ arithK quoK remK eqK
structure MD (a b c : Int) : Prop where
 ha : 0 ≤ a ∧ a ≤ 4398046511103
 hb : 0 ≤ b ∧ b ≤ 200 * c
 hb2 : b ≤ 1000000000000000000
 hc : 1 ≤ c ∧ c ≤ 1000000000000000000
theorem MD.q {a b c : Int} (h : MD a b c) : (0 ≤ a * b / c ∧ a * b / c ≤ 879609302220800) ∧ 0 ≤ a * b ∧ a * b / c * c + a * b % c = a * b ∧ 0 ≤ a * b % c ∧ a * b % c < c := by
 have h1 := h.ha
 have h2 := h.hb
 have h3 := h.hc
 exact ⟨div_bd (by omega) ⟨h1.1, by omega⟩ h2, Int.mul_nonneg h1.1 h2.1, floor_spec (by omega)⟩
theorem mulDiv_ret (a b c : Int) (h : MD a b c) : Rt 270 [I a, I b, I c] (.tup [I (a * b / c), I (a * b % c), Bo true]) := by
 refine bZ Tryz.func270 ?_
 obtain ⟨hq, hn, h0⟩ := h.q
 have h1 := h.ha
 have h2 := h.hb
 have h22 := h.hb2
 have h3 := h.hc
 have hle : a * b / c * c ≤ 879609302220800 * c := Int.mul_le_mul_of_nonneg_right hq.2 (by omega)
 have hhi : a * b / 18446744073709551616 < c := Int.ediv_lt_of_lt_mul (by omega) (by omega)
 have hm := mul64_ret a b ⟨by omega, by omega⟩ ⟨by omega, by omega⟩
 have hd := div64_ret (a * b / 18446744073709551616) (a * b % 18446744073709551616) c (Int.ediv_nonneg hn (by omega)) hhi (by omega) ⟨by omega, by omega⟩
 rw [show a * b / 18446744073709551616 * 18446744073709551616 + a * b % 18446744073709551616 = a * b by omega] at hd
 repeat' (conv => whnf); first | (intro h; try exact nZ) | apply And.intro | refine dZ ?_ | refine sZ ?_ | (refine Ret.go (hm) rfl rfl ?_) | (refine Ret.goQ (hm) rfl rfl ?_) | (refine Ret.go (hd) rfl rfl ?_) | (refine Ret.goQ (hd) rfl rfl ?_) | fail
 all_goals first | exact rZ
theorem roundUp_ret (a b c : Int) (h : MD a b c) : Rt 267 [I a, I b, I c] (.tup [I (cdiv (a * b) c), Bo true]) := by
 refine bZ Tryz.func267 ?_
 obtain ⟨hq, hn, h0⟩ := h.q
 unfold cdiv
 by_cases hz : a * b % c = 0
 · rw [if_pos hz]
   repeat' (conv => whnf); first | (intro h; try exact nZ) | apply And.intro | refine dZ ?_ | refine sZ ?_ | (refine Ret.go (mulDiv_ret a b c h) rfl rfl ?_) | (refine Ret.goQ (mulDiv_ret a b c h) rfl rfl ?_) | fail
   all_goals first | exact rZ | (rw [Int.add_zero]; rfl) | (rw [Int.add_zero]; done)
 · rw [if_neg hz]
   repeat' (conv => whnf); first | (intro h; try exact nZ) | apply And.intro | refine dZ ?_ | refine sZ ?_ | (refine Ret.go (mulDiv_ret a b c h) rfl rfl ?_) | (refine Ret.goQ (mulDiv_ret a b c h) rfl rfl ?_) | fail
   all_goals first | exact rZ
theorem priced_ret (a b c : Int) (h : MD a b c) : Rt 201 [I a, I b, I c] (I (cdiv (a * b) c)) := by
 refine bZ Tryz.func201 ?_
 repeat' (conv => whnf); first | (intro h; try exact nZ) | apply And.intro | refine dZ ?_ | refine sZ ?_ | (refine Ret.go (roundUp_ret a b c h) rfl rfl ?_) | (refine Ret.goQ (roundUp_ret a b c h) rfl rfl ?_) | fail
 all_goals first | exact rZ
attribute [local irreducible] sh
theorem specDiv_ret (a b c : Int) (h : MD a b c) : Rt 240 [I a, I b, I c] (.tup [I (a * b / c), I (a * b % c)]) := by
 refine bZ Tryz.func240 ?_
 have h1 := h.ha
 have h2 := h.hb
 have h22 := h.hb2
 have h3 := h.hc
 repeat' (conv => whnf); first | (intro h; try exact nZ) | apply And.intro | refine dZ ?_ | refine sZ ?_ | fail
 all_goals try omega
 refine loop_rule hT (fun j : Nat => j ≤ 42) 47 0 [0, 1, 2, 8, 9, 10] (fun j => [I a, I b, I c, I (sh a j * b / c), I (sh a j * b % c), I ((j : Int) - 1)]) (fun _ => []) (fun j => j) (42) (Nat.le_of_ble_eq_true rfl) ?_ ?_ ?_
 · exact Nat.le_refl _
 · have ht := sh_top (a := a) h1.1 (by omega)
   have e1 : sh a 42 * b / c = 0 := by rw [ht, Int.zero_mul, Int.zero_ediv]
   have e2 : sh a 42 * b % c = 0 := by rw [ht, Int.zero_mul, Int.zero_emod]
   (refine ⟨rfl, [], ?_, ?_⟩; (repeat' first | apply And.intro | exact xZ | first | exact e1.symm | exact e2.symm | fail); done)
 · rintro j hj
   by_cases hj0 : j = 0
   · subst hj0
     rw [sh_zero]
     repeat' (conv => whnf); first | (intro h; try exact nZ) | apply And.intro | refine dZ ?_ | refine sZ ?_ | fail
     all_goals first | exact rZ
   · have hsb := sh_bd h1.1 j
     have hsb1 := sh_bd h1.1 (j - 1)
     have hst := sh_step a (j - 1)
     rw [show j - 1 + 1 = j by omega] at hst
     have hdb := div_bd (A := sh a j) (b := b) (c := c) (by omega) ⟨hsb.1, by omega⟩ h2
     have hdb1 := div_bd (A := sh a (j - 1)) (b := b) (c := c) (by omega) ⟨hsb1.1, by omega⟩ h2
     have hf := floor_spec (x := sh a j * b) (d := c) (by omega)
     have hfb := floor_spec (x := b) (d := c) (by omega)
     have hbq : 0 ≤ b / c ∧ b / c ≤ 200 := ⟨Int.ediv_nonneg h2.1 (by omega), Int.ediv_le_of_le_mul (by omega) h2.2⟩
     have hsr := sh_shr (a := a) (j := j) (by omega) hj
     by_cases hbit : sh a (j - 1) % 2 = 1
     · obtain ⟨d1, d2⟩ := dstep1 (A := sh a j) (b := b) (c := c) (by omega)
       rw [show 2 * sh a j + 1 = sh a (j - 1) by omega] at d1 d2
       have ht : 0 ≤ (2 * (sh a j * b % c) + b % c) / c ∧ (2 * (sh a j * b % c) + b % c) / c ≤ 3 := ⟨Int.ediv_nonneg (by omega) (by omega), Int.ediv_le_of_le_mul (by omega) (by omega)⟩
       repeat' (conv => whnf); first | (intro h; try exact nZ) | apply And.intro | refine dZ ?_ | refine sZ ?_ | (refine eqv hsr ?_) | refine qZ ?_ | refine mZ ?_ | fail
       all_goals first | omega | ((conv => whnf); refine ⟨j - 1, by omega, ?_, by omega⟩; (refine ⟨rfl, [], ?_, ?_⟩; (repeat' first | apply And.intro | exact xZ | first | exact d1.symm | exact d2.symm | omega | fail); done))
     · obtain ⟨d1, d2⟩ := dstep0 (A := sh a j) (b := b) (c := c) (by omega)
       rw [show 2 * sh a j = sh a (j - 1) by omega] at d1 d2
       have ht : 0 ≤ 2 * (sh a j * b % c) / c ∧ 2 * (sh a j * b % c) / c ≤ 3 := ⟨Int.ediv_nonneg (by omega) (by omega), Int.ediv_le_of_le_mul (by omega) (by omega)⟩
       repeat' (conv => whnf); first | (intro h; try exact nZ) | apply And.intro | refine dZ ?_ | refine sZ ?_ | (refine eqv hsr ?_) | refine qZ ?_ | refine mZ ?_ | fail
       all_goals first | omega | ((conv => whnf); refine ⟨j - 1, by omega, ?_, by omega⟩; (refine ⟨rfl, [], ?_, ?_⟩; (repeat' first | apply And.intro | exact xZ | first | exact d1.symm | exact d2.symm | omega | fail); done))
theorem specUp5_ret (a b c : Int) (h : MD a b c) : Rt 182 [I a, I b, I c] (I (cdiv (a * b) c)) := by
 refine bZ Tryz.func182 ?_
 obtain ⟨hq, hn, h0⟩ := h.q
 unfold cdiv
 by_cases hz : a * b % c = 0
 · rw [if_pos hz]
   repeat' (conv => whnf); first | (intro h; try exact nZ) | apply And.intro | refine dZ ?_ | refine sZ ?_ | (refine Ret.go (specDiv_ret a b c h) rfl rfl ?_) | (refine Ret.goQ (specDiv_ret a b c h) rfl rfl ?_) | fail
   all_goals first | exact rZ | (refine iv ?_; omega)
 · rw [if_neg hz]
   repeat' (conv => whnf); first | (intro h; try exact nZ) | apply And.intro | refine dZ ?_ | refine sZ ?_ | (refine Ret.go (specDiv_ret a b c h) rfl rfl ?_) | (refine Ret.goQ (specDiv_ret a b c h) rfl rfl ?_) | fail
   all_goals first | exact rZ | (refine iv ?_; omega)
structure MM (a b s c d : Int) : Prop where
 ha : 0 ≤ a ∧ a ≤ 4398046511103
 hb : 0 ≤ b ∧ b ≤ 200 * d
 hs : 0 ≤ s ∧ s ≤ 4398046511103
 hc : 0 ≤ c ∧ c ≤ 200 * d
 hb2 : b ≤ 1000000000000000000
 hc2 : c ≤ 1000000000000000000
 hd : 1 ≤ d ∧ d ≤ 1000000000000000000
theorem specMinus_ret (a b s c d : Int) (h : MM a b s c d) : Rt 248 [I a, I b, I s, I c, I d] (.tup [I ((a * b - s * c) / d), I ((a * b - s * c) % d)]) := by
 refine bZ Tryz.func248 ?_
 have h1 := h.ha
 have h2 := h.hb
 have h3 := h.hs
 have h4 := h.hc
 have h5 := h.hd
 have h22 := h.hb2
 have h42 := h.hc2
 repeat' (conv => whnf); first | (intro h; try exact nZ) | apply And.intro | refine dZ ?_ | refine sZ ?_ | fail
 all_goals try omega
 refine loop_rule hT (fun j : Nat => j ≤ 42) 72 0 [0, 1, 2, 3, 4, 12, 13, 14] (fun j => [I a, I b, I s, I c, I d, I ((sh a j * b - sh s j * c) / d), I ((sh a j * b - sh s j * c) % d), I ((j : Int) - 1)]) (fun _ => []) (fun j => j) (42) (Nat.le_of_ble_eq_true rfl) ?_ ?_ ?_
 · exact Nat.le_refl _
 · have ht := sh_top (a := a) h1.1 (by omega)
   have ht2 := sh_top (a := s) h3.1 (by omega)
   have e1 : (sh a 42 * b - sh s 42 * c) / d = 0 := by rw [ht, ht2, Int.zero_mul, Int.zero_mul]; exact Int.zero_ediv _
   have e2 : (sh a 42 * b - sh s 42 * c) % d = 0 := by rw [ht, ht2, Int.zero_mul, Int.zero_mul]; exact Int.zero_emod _
   (refine ⟨rfl, [], ?_, ?_⟩; (repeat' first | apply And.intro | exact xZ | first | exact e1.symm | exact e2.symm | fail); done)
 · rintro j hj
   by_cases hj0 : j = 0
   · subst hj0
     rw [sh_zero, sh_zero]
     repeat' (conv => whnf); first | (intro h; try exact nZ) | apply And.intro | refine dZ ?_ | refine sZ ?_ | fail
     all_goals first | exact rZ
   · have hab := sh_bd h1.1 j
     have hab1 := sh_bd h1.1 (j - 1)
     have hsb := sh_bd h3.1 j
     have hsb1 := sh_bd h3.1 (j - 1)
     have hat := sh_step a (j - 1)
     have hst := sh_step s (j - 1)
     rw [show j - 1 + 1 = j by omega] at hat hst
     have hdb := dif_bd (A := sh a j) (b := b) (S := sh s j) (c := c) (d := d) h5.1 ⟨hab.1, by omega⟩ ⟨hsb.1, by omega⟩ h2 h4
     have hdb1 := dif_bd (A := sh a (j - 1)) (b := b) (S := sh s (j - 1)) (c := c) (d := d) h5.1 ⟨hab1.1, by omega⟩ ⟨hsb1.1, by omega⟩ h2 h4
     have hf := floor_spec (x := sh a j * b - sh s j * c) (d := d) (by omega)
     have hq := quot_bd h5.1 hf.1 ⟨by omega, by omega⟩ hdb
     have hfb := floor_spec (x := b) (d := d) (by omega)
     have hfc := floor_spec (x := c) (d := d) (by omega)
     have hbq : 0 ≤ b / d ∧ b / d ≤ 200 := ⟨Int.ediv_nonneg h2.1 (by omega), Int.ediv_le_of_le_mul (by omega) h2.2⟩
     have hcq : 0 ≤ c / d ∧ c / d ≤ 200 := ⟨Int.ediv_nonneg h4.1 (by omega), Int.ediv_le_of_le_mul (by omega) h4.2⟩
     have hsr := sh_shr (a := a) (j := j) (by omega) hj
     have hss := sh_shr (a := s) (j := j) (by omega) hj
     by_cases hb1 : sh a (j - 1) % 2 = 1
     · by_cases hb2 : sh s (j - 1) % 2 = 1
       · have hms := mstep (A := sh a j) (S := sh s j) (b := b) (c := c) (d := d) (e := 1) (g := 1) (by omega) (.inr rfl) (.inr rfl)
         rw [show 2 * sh a j + 1 = sh a (j - 1) by omega, show 2 * sh s j + 1 = sh s (j - 1) by omega] at hms
         simp only [Int.one_mul] at hms
         repeat' (conv => whnf); first | (intro h; try exact nZ) | apply And.intro | refine dZ ?_ | refine sZ ?_ | (refine eqv hsr ?_) | (refine eqv hss ?_) | refine qZ ?_ | refine mZ ?_ | fail
         all_goals try omega
         refine loop_rule hT (fun p : Int × Int => p.1 * d + p.2 = sh a (j - 1) * b - sh s (j - 1) * c ∧ -d < p.2 ∧ p.2 < 3 * d) 72 0 [0, 1, 2, 3, 4, 12, 13, 14] (fun p => [I a, I b, I s, I c, I d, I p.1, I p.2, I ((j : Int) - 1)]) (fun _ => []) (fun p => (-p.2).toNat) ((2 * ((sh a j * b - sh s j * c) / d) + b / d - c / d, 2 * ((sh a j * b - sh s j * c) % d) + b % d - c % d)) (Nat.le_of_ble_eq_true rfl) ?_ ?_ ?_
         · exact ⟨hms, by dsimp only; omega, by dsimp only; omega⟩
         · (exact endHA)
         · rintro ⟨q, r⟩ ⟨i1, i2, i3⟩
           dsimp only at i1 i2 i3 ⊢
           have hqb := quot_bd h5.1 i1 ⟨i2, i3⟩ hdb1
           by_cases hr : r < 0
           · have hm1 : (q - 1) * d = q * d - d := by rw [Int.sub_mul]; omega
             repeat' (conv => whnf); first | (intro h; try exact nZ) | apply And.intro | refine dZ ?_ | refine sZ ?_ | fail
             all_goals first | omega | ((conv => whnf); refine ⟨(q - 1, r + d), ⟨by dsimp only; omega, by dsimp only; omega, by dsimp only; omega⟩, ?_, by dsimp only; omega⟩; (exact endHA))
           · repeat' (conv => whnf); first | (intro h; try exact nZ) | apply And.intro | refine dZ ?_ | refine sZ ?_ | fail
             all_goals try omega
             refine loop_rule hT (fun p : Int × Int => p.1 * d + p.2 = sh a (j - 1) * b - sh s (j - 1) * c ∧ 0 ≤ p.2 ∧ p.2 < 3 * d) 72 0 [0, 1, 2, 3, 4, 12, 13, 14] (fun p => [I a, I b, I s, I c, I d, I p.1, I p.2, I ((j : Int) - 1)]) (fun _ => []) (fun p => p.2.toNat) ((q, r)) (Nat.le_of_ble_eq_true rfl) ?_ ?_ ?_
             · exact ⟨i1, by dsimp only; omega, i3⟩
             · (exact endHA)
             · rintro ⟨q, r⟩ ⟨k1, k2, k3⟩
               dsimp only at k1 k2 k3 ⊢
               have hqb2 := quot_bd h5.1 k1 ⟨by omega, k3⟩ hdb1
               by_cases hr2 : d ≤ r
               · have hm2 : (q + 1) * d = q * d + d := by rw [Int.add_mul]; omega
                 repeat' (conv => whnf); first | (intro h; try exact nZ) | apply And.intro | refine dZ ?_ | refine sZ ?_ | fail
                 all_goals first | omega | ((conv => whnf); refine ⟨(q + 1, r - d), ⟨by dsimp only; omega, by dsimp only; omega, by dsimp only; omega⟩, ?_, by dsimp only; omega⟩; (exact endHA))
               · obtain ⟨z1, z2⟩ := floor_eq (by omega) k1 k2 (by omega)
                 repeat' (conv => whnf); first | (intro h; try exact nZ) | apply And.intro | refine dZ ?_ | refine sZ ?_ | fail
                 all_goals first | omega | ((conv => whnf); refine ⟨j - 1, by omega, ?_, by omega⟩; (refine ⟨rfl, [], ?_, ?_⟩; (repeat' first | apply And.intro | exact xZ | first | exact z1.symm | exact z2.symm | omega | fail); done))
       · have hms := mstep (A := sh a j) (S := sh s j) (b := b) (c := c) (d := d) (e := 1) (g := 0) (by omega) (.inr rfl) (.inl rfl)
         rw [show 2 * sh a j + 1 = sh a (j - 1) by omega, show 2 * sh s j + 0 = sh s (j - 1) by omega] at hms
         simp only [Int.one_mul, Int.zero_mul, Int.sub_zero] at hms
         repeat' (conv => whnf); first | (intro h; try exact nZ) | apply And.intro | refine dZ ?_ | refine sZ ?_ | (refine eqv hsr ?_) | (refine eqv hss ?_) | refine qZ ?_ | refine mZ ?_ | fail
         all_goals try omega
         refine loop_rule hT (fun p : Int × Int => p.1 * d + p.2 = sh a (j - 1) * b - sh s (j - 1) * c ∧ -d < p.2 ∧ p.2 < 3 * d) 72 0 [0, 1, 2, 3, 4, 12, 13, 14] (fun p => [I a, I b, I s, I c, I d, I p.1, I p.2, I ((j : Int) - 1)]) (fun _ => []) (fun p => (-p.2).toNat) ((2 * ((sh a j * b - sh s j * c) / d) + b / d, 2 * ((sh a j * b - sh s j * c) % d) + b % d)) (Nat.le_of_ble_eq_true rfl) ?_ ?_ ?_
         · exact ⟨hms, by dsimp only; omega, by dsimp only; omega⟩
         · (exact endHA)
         · rintro ⟨q, r⟩ ⟨i1, i2, i3⟩
           dsimp only at i1 i2 i3 ⊢
           have hqb := quot_bd h5.1 i1 ⟨i2, i3⟩ hdb1
           by_cases hr : r < 0
           · have hm1 : (q - 1) * d = q * d - d := by rw [Int.sub_mul]; omega
             repeat' (conv => whnf); first | (intro h; try exact nZ) | apply And.intro | refine dZ ?_ | refine sZ ?_ | fail
             all_goals first | omega | ((conv => whnf); refine ⟨(q - 1, r + d), ⟨by dsimp only; omega, by dsimp only; omega, by dsimp only; omega⟩, ?_, by dsimp only; omega⟩; (exact endHA))
           · repeat' (conv => whnf); first | (intro h; try exact nZ) | apply And.intro | refine dZ ?_ | refine sZ ?_ | fail
             all_goals try omega
             refine loop_rule hT (fun p : Int × Int => p.1 * d + p.2 = sh a (j - 1) * b - sh s (j - 1) * c ∧ 0 ≤ p.2 ∧ p.2 < 3 * d) 72 0 [0, 1, 2, 3, 4, 12, 13, 14] (fun p => [I a, I b, I s, I c, I d, I p.1, I p.2, I ((j : Int) - 1)]) (fun _ => []) (fun p => p.2.toNat) ((q, r)) (Nat.le_of_ble_eq_true rfl) ?_ ?_ ?_
             · exact ⟨i1, by dsimp only; omega, i3⟩
             · (exact endHA)
             · rintro ⟨q, r⟩ ⟨k1, k2, k3⟩
               dsimp only at k1 k2 k3 ⊢
               have hqb2 := quot_bd h5.1 k1 ⟨by omega, k3⟩ hdb1
               by_cases hr2 : d ≤ r
               · have hm2 : (q + 1) * d = q * d + d := by rw [Int.add_mul]; omega
                 repeat' (conv => whnf); first | (intro h; try exact nZ) | apply And.intro | refine dZ ?_ | refine sZ ?_ | fail
                 all_goals first | omega | ((conv => whnf); refine ⟨(q + 1, r - d), ⟨by dsimp only; omega, by dsimp only; omega, by dsimp only; omega⟩, ?_, by dsimp only; omega⟩; (exact endHA))
               · obtain ⟨z1, z2⟩ := floor_eq (by omega) k1 k2 (by omega)
                 repeat' (conv => whnf); first | (intro h; try exact nZ) | apply And.intro | refine dZ ?_ | refine sZ ?_ | fail
                 all_goals first | omega | ((conv => whnf); refine ⟨j - 1, by omega, ?_, by omega⟩; (refine ⟨rfl, [], ?_, ?_⟩; (repeat' first | apply And.intro | exact xZ | first | exact z1.symm | exact z2.symm | omega | fail); done))
     · by_cases hb2 : sh s (j - 1) % 2 = 1
       · have hms := mstep (A := sh a j) (S := sh s j) (b := b) (c := c) (d := d) (e := 0) (g := 1) (by omega) (.inl rfl) (.inr rfl)
         rw [show 2 * sh a j + 0 = sh a (j - 1) by omega, show 2 * sh s j + 1 = sh s (j - 1) by omega] at hms
         simp only [Int.one_mul, Int.zero_mul, Int.add_zero] at hms
         repeat' (conv => whnf); first | (intro h; try exact nZ) | apply And.intro | refine dZ ?_ | refine sZ ?_ | (refine eqv hsr ?_) | (refine eqv hss ?_) | refine qZ ?_ | refine mZ ?_ | fail
         all_goals try omega
         refine loop_rule hT (fun p : Int × Int => p.1 * d + p.2 = sh a (j - 1) * b - sh s (j - 1) * c ∧ -d < p.2 ∧ p.2 < 3 * d) 72 0 [0, 1, 2, 3, 4, 12, 13, 14] (fun p => [I a, I b, I s, I c, I d, I p.1, I p.2, I ((j : Int) - 1)]) (fun _ => []) (fun p => (-p.2).toNat) ((2 * ((sh a j * b - sh s j * c) / d) - c / d, 2 * ((sh a j * b - sh s j * c) % d) - c % d)) (Nat.le_of_ble_eq_true rfl) ?_ ?_ ?_
         · exact ⟨hms, by dsimp only; omega, by dsimp only; omega⟩
         · (exact endHA)
         · rintro ⟨q, r⟩ ⟨i1, i2, i3⟩
           dsimp only at i1 i2 i3 ⊢
           have hqb := quot_bd h5.1 i1 ⟨i2, i3⟩ hdb1
           by_cases hr : r < 0
           · have hm1 : (q - 1) * d = q * d - d := by rw [Int.sub_mul]; omega
             repeat' (conv => whnf); first | (intro h; try exact nZ) | apply And.intro | refine dZ ?_ | refine sZ ?_ | fail
             all_goals first | omega | ((conv => whnf); refine ⟨(q - 1, r + d), ⟨by dsimp only; omega, by dsimp only; omega, by dsimp only; omega⟩, ?_, by dsimp only; omega⟩; (exact endHA))
           · repeat' (conv => whnf); first | (intro h; try exact nZ) | apply And.intro | refine dZ ?_ | refine sZ ?_ | fail
             all_goals try omega
             refine loop_rule hT (fun p : Int × Int => p.1 * d + p.2 = sh a (j - 1) * b - sh s (j - 1) * c ∧ 0 ≤ p.2 ∧ p.2 < 3 * d) 72 0 [0, 1, 2, 3, 4, 12, 13, 14] (fun p => [I a, I b, I s, I c, I d, I p.1, I p.2, I ((j : Int) - 1)]) (fun _ => []) (fun p => p.2.toNat) ((q, r)) (Nat.le_of_ble_eq_true rfl) ?_ ?_ ?_
             · exact ⟨i1, by dsimp only; omega, i3⟩
             · (exact endHA)
             · rintro ⟨q, r⟩ ⟨k1, k2, k3⟩
               dsimp only at k1 k2 k3 ⊢
               have hqb2 := quot_bd h5.1 k1 ⟨by omega, k3⟩ hdb1
               by_cases hr2 : d ≤ r
               · have hm2 : (q + 1) * d = q * d + d := by rw [Int.add_mul]; omega
                 repeat' (conv => whnf); first | (intro h; try exact nZ) | apply And.intro | refine dZ ?_ | refine sZ ?_ | fail
                 all_goals first | omega | ((conv => whnf); refine ⟨(q + 1, r - d), ⟨by dsimp only; omega, by dsimp only; omega, by dsimp only; omega⟩, ?_, by dsimp only; omega⟩; (exact endHA))
               · obtain ⟨z1, z2⟩ := floor_eq (by omega) k1 k2 (by omega)
                 repeat' (conv => whnf); first | (intro h; try exact nZ) | apply And.intro | refine dZ ?_ | refine sZ ?_ | fail
                 all_goals first | omega | ((conv => whnf); refine ⟨j - 1, by omega, ?_, by omega⟩; (refine ⟨rfl, [], ?_, ?_⟩; (repeat' first | apply And.intro | exact xZ | first | exact z1.symm | exact z2.symm | omega | fail); done))
       · have hms := mstep (A := sh a j) (S := sh s j) (b := b) (c := c) (d := d) (e := 0) (g := 0) (by omega) (.inl rfl) (.inl rfl)
         rw [show 2 * sh a j + 0 = sh a (j - 1) by omega, show 2 * sh s j + 0 = sh s (j - 1) by omega] at hms
         simp only [Int.zero_mul, Int.add_zero, Int.sub_zero] at hms
         repeat' (conv => whnf); first | (intro h; try exact nZ) | apply And.intro | refine dZ ?_ | refine sZ ?_ | (refine eqv hsr ?_) | (refine eqv hss ?_) | refine qZ ?_ | refine mZ ?_ | fail
         all_goals try omega
         refine loop_rule hT (fun p : Int × Int => p.1 * d + p.2 = sh a (j - 1) * b - sh s (j - 1) * c ∧ -d < p.2 ∧ p.2 < 3 * d) 72 0 [0, 1, 2, 3, 4, 12, 13, 14] (fun p => [I a, I b, I s, I c, I d, I p.1, I p.2, I ((j : Int) - 1)]) (fun _ => []) (fun p => (-p.2).toNat) ((2 * ((sh a j * b - sh s j * c) / d), 2 * ((sh a j * b - sh s j * c) % d))) (Nat.le_of_ble_eq_true rfl) ?_ ?_ ?_
         · exact ⟨hms, by dsimp only; omega, by dsimp only; omega⟩
         · (exact endHA)
         · rintro ⟨q, r⟩ ⟨i1, i2, i3⟩
           dsimp only at i1 i2 i3 ⊢
           have hqb := quot_bd h5.1 i1 ⟨i2, i3⟩ hdb1
           by_cases hr : r < 0
           · have hm1 : (q - 1) * d = q * d - d := by rw [Int.sub_mul]; omega
             repeat' (conv => whnf); first | (intro h; try exact nZ) | apply And.intro | refine dZ ?_ | refine sZ ?_ | fail
             all_goals first | omega | ((conv => whnf); refine ⟨(q - 1, r + d), ⟨by dsimp only; omega, by dsimp only; omega, by dsimp only; omega⟩, ?_, by dsimp only; omega⟩; (exact endHA))
           · repeat' (conv => whnf); first | (intro h; try exact nZ) | apply And.intro | refine dZ ?_ | refine sZ ?_ | fail
             all_goals try omega
             refine loop_rule hT (fun p : Int × Int => p.1 * d + p.2 = sh a (j - 1) * b - sh s (j - 1) * c ∧ 0 ≤ p.2 ∧ p.2 < 3 * d) 72 0 [0, 1, 2, 3, 4, 12, 13, 14] (fun p => [I a, I b, I s, I c, I d, I p.1, I p.2, I ((j : Int) - 1)]) (fun _ => []) (fun p => p.2.toNat) ((q, r)) (Nat.le_of_ble_eq_true rfl) ?_ ?_ ?_
             · exact ⟨i1, by dsimp only; omega, i3⟩
             · (exact endHA)
             · rintro ⟨q, r⟩ ⟨k1, k2, k3⟩
               dsimp only at k1 k2 k3 ⊢
               have hqb2 := quot_bd h5.1 k1 ⟨by omega, k3⟩ hdb1
               by_cases hr2 : d ≤ r
               · have hm2 : (q + 1) * d = q * d + d := by rw [Int.add_mul]; omega
                 repeat' (conv => whnf); first | (intro h; try exact nZ) | apply And.intro | refine dZ ?_ | refine sZ ?_ | fail
                 all_goals first | omega | ((conv => whnf); refine ⟨(q + 1, r - d), ⟨by dsimp only; omega, by dsimp only; omega, by dsimp only; omega⟩, ?_, by dsimp only; omega⟩; (exact endHA))
               · obtain ⟨z1, z2⟩ := floor_eq (by omega) k1 k2 (by omega)
                 repeat' (conv => whnf); first | (intro h; try exact nZ) | apply And.intro | refine dZ ?_ | refine sZ ?_ | fail
                 all_goals first | omega | ((conv => whnf); refine ⟨j - 1, by omega, ?_, by omega⟩; (refine ⟨rfl, [], ?_, ?_⟩; (repeat' first | apply And.intro | exact xZ | first | exact z1.symm | exact z2.symm | omega | fail); done))
end
end Go.Proofs.YtglbamncajileaaGreatDoor
