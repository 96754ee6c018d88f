/- The number of choices. No condition. -/
import Derived.Test.YtcaklldmcbpbfaaLwA
import Derived.Test.YtcaklldmcbpbfaaPmodF
namespace Go.Proofs.Ytcaklldmcbpbfaa
open Go.RowKit

/-- the number of choices -/
theorem pow_T {n : Nat} (h : n ≤ 8) : ∃ T : Nat, T = 2 ^ n ∧ 1 ≤ T ∧ T ≤ 256 ∧ wrap64 (2 ^ n) = (T : Int) ∧ IntKind.i64.wrap (2 ^ n) = (T : Int) := by
  have h1 : 2 ^ n ≤ 2 ^ 8 := Nat.pow_le_pow_right (by omega) h
  have h2 : 1 ≤ 2 ^ n := Nat.one_le_two_pow
  have h3 : (2 : Int) ^ n = ((2 ^ n : Nat) : Int) := by simp
  refine ⟨2 ^ n, rfl, h2, by omega, ?_, ?_⟩
  · rw [h3, wrap_id (by omega) (by omega)]
  · rw [h3, IntKind.wrap_i64]; omega
end Go.Proofs.Ytcaklldmcbpbfaa
