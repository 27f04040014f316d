/-
  Full-width quotients: what the library's functions return. No conditions but those in the statements.
-/
import Derived.Test.YtenofbabiacacaaGreatMe
set_option linter.unusedVariables false
set_option linter.unusedSimpArgs false
namespace Go.Proofs.YtenofbabiacacaaGreat
open Go.AE

attribute [local irreducible] CallA LoopA DrawA CallQ arithK quoK remK eqK
theorem shr16 {x : Int} : x.fdiv (2 ^ (min (Int.toNat 16) IntKind.u64.bits)) = x / 65536 := by
  rw [Int.fdiv_eq_ediv_of_nonneg _ (by decide)]
  rfl
theorem shr8 {x : Int} : x.fdiv (2 ^ (min (Int.toNat 8) IntKind.u64.bits)) = x / 256 := by
  rw [Int.fdiv_eq_ediv_of_nonneg _ (by decide)]
  rfl
/-- A table of how many bits each byte takes. -/
def tabOk (S : ByteArray) : Bool := Nat.beq S.size 256 && (List.range 256).all fun n => Nat.beq (S.data.toList.getD n 0).toNat (blen n)
theorem tab_lt {S : ByteArray} (h : tabOk S = true) {x : Int} (hx : x < 256) : x < (S.size : Int) := by
  unfold tabOk at h
  rw [Bool.and_eq_true] at h
  have := Nat.eq_of_beq_eq_true h.1
  omega
theorem tab_at {S : ByteArray} (h : tabOk S = true) {x : Int} (h0 : 0 ≤ x) (hx : x < 256) : byteAt S x.toNat = (blen x.toNat : Int) := by
  unfold tabOk at h
  rw [Bool.and_eq_true] at h
  have := List.all_eq_true.1 h.2 x.toNat (List.mem_range.2 (by omega))
  have := Nat.eq_of_beq_eq_true this
  unfold byteAt
  rw [this]
theorem blen_le {n : Nat} (h : n < 18446744073709551616) : blen n ≤ 64 := by
  by_cases h0 : n = 0
  · subst h0; decide
  · have := (blen_bd (n := n) (by omega)).2.1
    rcases Nat.lt_or_ge (blen n) 65 with h1 | h1
    · omega
    · have h2 := Nat.pow_le_pow_right (n := 2) (by omega) (show 64 ≤ blen n - 1 by omega)
      have h3 : 2 ^ 64 = 18446744073709551616 := rfl
      omega
theorem arithe {k : IntKind} {m v : Int} {K : Value → Prop} (h : m = v) (hi : inb k v) (hk : K (.int k v)) : arithK k m K := by subst h; exact arith_ok hi hk
theorem bsh32 {x : Int} : 4294967296 ≤ x → blen x.toNat = blen (x / 4294967296).toNat + 32 := fun h => by
  rw [blen_shift (n := x.toNat) (k := 32) (by show 4294967296 ≤ _; omega), show x.toNat / 2 ^ 32 = (x / 4294967296).toNat by show x.toNat / 4294967296 = _; omega]
theorem bsh16 {x : Int} : 65536 ≤ x → blen x.toNat = blen (x / 65536).toNat + 16 := fun h => by
  rw [blen_shift (n := x.toNat) (k := 16) (by show 65536 ≤ _; omega), show x.toNat / 2 ^ 16 = (x / 65536).toNat by show x.toNat / 65536 = _; omega]
theorem bsh8 {x : Int} : 256 ≤ x → blen x.toNat = blen (x / 256).toNat + 8 := fun h => by
  rw [blen_shift (n := x.toNat) (k := 8) (by show 256 ≤ _; omega), show x.toNat / 2 ^ 8 = (x / 256).toNat by show x.toNat / 256 = _; omega]
set_option maxRecDepth 100000 in
theorem len64_ret (x : Int) (hx : inU x) : Ret Tryz.prog G 213 [U x] (I (blen x.toNat)) := by
  refine ret_of_body hT Tryz.func213 rfl ?_ rfl
  obtain ⟨hx1, hx2⟩ := hx
  have a0 := bsh32 (x := x)
  have a1 := bsh16 (x := x)
  have a2 := bsh16 (x := x / 4294967296)
  have a3 := bsh8 (x := x)
  have a4 := bsh8 (x := x / 4294967296)
  have a5 := bsh8 (x := x / 65536)
  have a6 := bsh8 (x := x / 4294967296 / 65536)
  have b0 := blen_le (n := x.toNat) (by omega)
  have b1 := blen_le (n := (x / 4294967296).toNat) (by omega)
  have b2 := blen_le (n := (x / 65536).toNat) (by omega)
  have b3 := blen_le (n := (x / 256).toNat) (by omega)
  have b4 := blen_le (n := (x / 4294967296 / 65536).toNat) (by omega)
  have b5 := blen_le (n := (x / 4294967296 / 256).toNat) (by omega)
  have b6 := blen_le (n := (x / 65536 / 256).toNat) (by omega)
  have b7 := blen_le (n := (x / 4294967296 / 65536 / 256).toNat) (by omega)
  repeat' (first | (intro h; first | contradiction | omega | (conv => whnf) | skip) | (refine And.intro ?_ ?_) | (refine arith_ok ⟨by omega, by omega⟩ ?_) | (first | (refine draw_quiet hT mixed (by decide +kernel) ?_) | (refine draw_hard hT mixed (by decide +kernel) ?_)) | (refine eqv (and32 ⟨by omega, by omega⟩) ?_) | (refine eqv shr32 ?_) | (refine eqv shr16 ?_) | (refine eqv shr8 ?_) | (refine arithe (tab_at (by decide +kernel) (by omega) (by omega)) ⟨by omega, by omega⟩ ?_))
  all_goals first | omega | exact tab_lt (by decide +kernel) (by omega) | (refine iv ?_; omega) | trace_state
set_option maxRecDepth 100000 in
theorem lz64_ret (x : Int) (hx : inU x) : Ret Tryz.prog G 205 [U x] (I (64 - blen x.toNat)) := by
  refine ret_of_body hT Tryz.func205 rfl ?_ rfl
  have b0 := blen_le (n := x.toNat) (by have := hx.1; have := hx.2; omega)
  repeat' (first | (intro h; first | contradiction | omega | (conv => whnf) | skip) | (refine And.intro ?_ ?_) | (refine arith_ok ⟨by omega, by omega⟩ ?_) | (first | (refine draw_quiet hT mixed (by decide +kernel) ?_) | (refine draw_hard hT mixed (by decide +kernel) ?_)) | (refine Ret.go (len64_ret x hx) rfl rfl ?_) | (refine Ret.goQ (len64_ret x hx) rfl rfl ?_))
  all_goals first | rfl | omega | trace_state
end Go.Proofs.YtenofbabiacacaaGreat
