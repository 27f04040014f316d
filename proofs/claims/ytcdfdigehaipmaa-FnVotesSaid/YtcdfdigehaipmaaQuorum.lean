/-
  Quorums: what they return. No conditions but those in the statements.
-/
import Derived.Test.YtcdfdigehaipmaaBase
set_option linter.unusedVariables false
set_option linter.unusedSimpArgs false
namespace Go.Proofs.Ytcdfdigehaipmaa
open Go.AE

attribute [local irreducible] CallA LoopA DrawA CallQ arithK quoK remK eqK
def quorum (p m q : Int) : Bool × Int :=
  if (1 ≤ m ∧ m ≤ 100000) ∧ (0 ≤ p ∧ p ≤ m) ∧ (0 ≤ q ∧ q ≤ 1000) then (decide (m * q ≤ 1000 * p), 0) else (false, 2)
set_option maxRecDepth 100000 in
theorem specHasQuorum_ret (p m q : Int) : Ret Try.prog G 13 [.v (.int .i64 p), .v (.int .i64 m), .v (.int .i64 q)] (.tup [.v (.bool (quorum p m q).1), .v (.int .i64 (quorum p m q).2)]) := by
  refine ret_of_body hT Try.func13 rfl ?_ rfl
  repeat' (first | (refine Ret.goP (l01In_ret _ _ _) rfl ?_) | (refine arith_ok ?_ ?_) | (intro h; first | contradiction | skip) | (refine And.intro ?_ ?_))
  all_goals first | omega | skip
  · have := mul_in (a := m) (b := q) (A := 100000) (B := 1000) (by omega) (by omega) (by omega) (by omega)
    omega
  · have := mul_in (a := m) (b := q) (A := 100000) (B := 1000) (by omega) (by omega) (by omega) (by omega)
    omega
  all_goals (refine tup_bi ?_ ?_ <;> unfold quorum <;> first | (rw [if_pos (by omega)] <;> first | rfl | (simp; done) | (simp; omega)) | (rw [if_neg (by omega)] <;> first | rfl | (simp; done) | (simp; omega)))
set_option maxRecDepth 100000 in
theorem implHasQuorum_ret (p m q : Int) : Ret Try.prog G 14 [.v (.int .i64 p), .v (.int .i64 m), .v (.int .i64 q)] (.tup [.v (.bool (quorum p m q).1), .v (.int .i64 (quorum p m q).2)]) := by
  refine ret_of_body hT Try.func14 rfl ?_ rfl
  repeat' (first | (refine Ret.goP (inRange_ret _ _ _) rfl ?_) | (refine arith_ok ?_ ?_) | (intro h; first | contradiction | skip) | (refine And.intro ?_ ?_))
  all_goals first | omega | skip
  · have := mul_in (a := m) (b := q) (A := 100000) (B := 1000) (by omega) (by omega) (by omega) (by omega)
    omega
  · have := mul_in (a := m) (b := q) (A := 100000) (B := 1000) (by omega) (by omega) (by omega) (by omega)
    omega
  all_goals (refine tup_bi ?_ ?_ <;> unfold quorum <;> first | (rw [if_pos (by omega)] <;> first | rfl | (simp; done) | (simp; omega)) | (rw [if_neg (by omega)] <;> first | rfl | (simp; done) | (simp; omega)))
set_option maxRecDepth 100000 in
theorem lawHasQuorum_ret (p m q : Int) : Ret Try.prog G 3 [.v (.int .i64 p), .v (.int .i64 m), .v (.int .i64 q)] (.v (.bool true)) := by
  refine ret_of_body hT Try.func3 rfl ?_ rfl
  repeat' (first | (refine Ret.go (specHasQuorum_ret _ _ _) rfl rfl ?_) | (refine Ret.go (implHasQuorum_ret _ _ _) rfl rfl ?_) | (intro h; first | contradiction | (exact absurd rfl h) | skip) | (refine And.intro ?_ ?_))
  all_goals rfl
end Go.Proofs.Ytcdfdigehaipmaa
