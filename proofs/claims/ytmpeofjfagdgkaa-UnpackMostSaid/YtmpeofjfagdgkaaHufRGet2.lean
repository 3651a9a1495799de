/- The reference's Get. -/
import Derived.Test.YtmpeofjfagdgkaaHufRGet
set_option linter.unusedSimpArgs false
set_option linter.unusedVariables false
namespace Go.Proofs.Ytmpeofjfagdgkaa
open Go.Abs
set_option maxRecDepth 100000
theorem ones_step {n w : Nat} {b : Bool} (h : w < 2 ^ n) : (2 * w + b.toNat + 1 = 2 ^ (n + 1)) ↔ (w + 1 = 2 ^ n ∧ b = true) := by
  have hp : (2 : Nat) ^ (n + 1) = 2 ^ n * 2 := Nat.pow_succ ..
  cases b <;> simp <;> omega
end Go.Proofs.Ytmpeofjfagdgkaa
