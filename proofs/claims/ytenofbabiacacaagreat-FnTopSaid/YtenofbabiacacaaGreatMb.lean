/-
  Full-width products: what the library's functions return. No conditions but those in the statements.
-/
import Derived.Test.YtenofbabiacacaaGreatMq
import Derived.IntWalk
set_option linter.unusedVariables false
set_option linter.unusedSimpArgs false
namespace Go.Proofs.YtenofbabiacacaaGreat
open Go.AE

attribute [local irreducible] CallA LoopA DrawA CallQ arithK quoK remK eqK
abbrev U (n : Int) : AV := .v (.int .u64 n)
abbrev inU (n : Int) : Prop := 0 ≤ n ∧ n < 18446744073709551616
theorem eqv {k : IntKind} {v v' : Int} {K : Value → Prop} (h : v = v') (hk : K (.int k v')) : eqK k v K := eq_ok (h ▸ hk)
theorem arithw {k : IntKind} {m v : Int} {K : Value → Prop} (h : k.wrap m = v) (hk : K (.int k v)) : arithK k m K := arith_any fun n _ h2 => by rw [h2, h]; exact hk
theorem wrapU (m : Int) : IntKind.u64.wrap m = m % 18446744073709551616 := IntKind.wrap_u64 m
theorem ofInt64 {x : Int} (h : inU x) : (BitVec.ofInt 64 x).toNat = x.toNat := by
  rw [BitVec.toNat_ofInt]
  have h1 := h.1
  have h2 := h.2
  have : x % ((2 ^ 64 : Nat) : Int) = x := Int.emod_eq_of_lt h1 (by simpa using h2)
  rw [this]
theorem and32 {x : Int} (h : inU x) : bitsI .and .u64 x 4294967295 = x % 4294967296 := by
  show IntKind.u64.wrap ((BitVec.ofInt 64 x &&& BitVec.ofInt 64 4294967295).toNat : Int) = _
  rw [BitVec.toNat_and, ofInt64 h, ofInt64 (x := 4294967295) ⟨by decide, by decide⟩, show (4294967295 : Int).toNat = 2 ^ 32 - 1 from rfl, Nat.and_two_pow_sub_one_eq_mod, wrapU]
  have h1 := h.1
  have h2 := h.2
  omega
theorem shr32 {x : Int} : x.fdiv (2 ^ (min (Int.toNat 32) IntKind.u64.bits)) = x / 4294967296 := by
  rw [Int.fdiv_eq_ediv_of_nonneg _ (by decide)]
  rfl
theorem mul_split (x y : Int) : x * y = (x / 4294967296) * (y / 4294967296) * 18446744073709551616 + ((x / 4294967296) * (y % 4294967296) + (x % 4294967296) * (y / 4294967296)) * 4294967296 + (x % 4294967296) * (y % 4294967296) := by
  have hx : x = (x / 4294967296) * 4294967296 + x % 4294967296 := by omega
  have hy : y = (y / 4294967296) * 4294967296 + y % 4294967296 := by omega
  generalize x / 4294967296 = a at hx ⊢
  generalize x % 4294967296 = b at hx ⊢
  generalize y / 4294967296 = c at hy ⊢
  generalize y % 4294967296 = d at hy ⊢
  subst hx hy
  rw [Int.add_mul, Int.mul_add, Int.mul_add, Int.add_mul]
  have e1 : a * 4294967296 * (c * 4294967296) = a * c * 18446744073709551616 := by
    rw [Int.mul_comm c, ← Int.mul_assoc, Int.mul_assoc a, Int.mul_right_comm]; rfl
  have e2 : a * 4294967296 * d = a * d * 4294967296 := Int.mul_right_comm _ _ _
  have e3 : b * (c * 4294967296) = b * c * 4294967296 := (Int.mul_assoc _ _ _).symm
  rw [e1, e2, e3]
  omega
set_option maxRecDepth 100000 in
theorem mul64_ret (x y : Int) (hx : inU x) (hy : inU y) : Ret Tryz.prog G 186 [U x, U y] (.tup [U (x * y / 18446744073709551616), U (x * y % 18446744073709551616)]) := by
  refine ret_of_body hT Tryz.func186 rfl ?_ rfl
  obtain ⟨hx1, hx2⟩ := hx
  obtain ⟨hy1, hy2⟩ := hy
  have p00 := mul_in (a := x % 4294967296) (A := 4294967295) (b := y % 4294967296) (B := 4294967295) (by omega) (by omega) (by omega) (by omega)
  have p10 := mul_in (a := x / 4294967296) (A := 4294967295) (b := y % 4294967296) (B := 4294967295) (by omega) (by omega) (by omega) (by omega)
  have p01 := mul_in (a := x % 4294967296) (A := 4294967295) (b := y / 4294967296) (B := 4294967295) (by omega) (by omega) (by omega) (by omega)
  have p11 := mul_in (a := x / 4294967296) (A := 4294967295) (b := y / 4294967296) (B := 4294967295) (by omega) (by omega) (by omega) (by omega)
  have hs := mul_split x y
  have hxy := mul_in (a := x) (A := 18446744073709551615) (b := y) (B := 18446744073709551615) (by omega) (by omega) (by omega) (by omega)
  rw [hs] at hxy
  repeat' (first | (intro h; first | contradiction | omega | (conv => whnf) | skip) | (refine And.intro ?_ ?_) | (refine arith_ok ⟨by omega, by omega⟩ ?_) | (first | (refine draw_quiet hT mixed (by decide +kernel) ?_) | (refine draw_hard hT mixed (by decide +kernel) ?_)) | (refine eqv (and32 ⟨by omega, by omega⟩) ?_) | (refine eqv shr32 ?_) | (refine arithw (wrapU _) ?_))
  all_goals first | omega | (refine congrArg AV.tup ?_; rw [hs]; refine congr (congrArg List.cons (iv ?_)) (congrArg (fun z => [z]) (iv ?_)) <;> omega) | trace_state
end Go.Proofs.YtenofbabiacacaaGreat
