/- pack: Block, of the reference. -/
import Derived.Test.YtmpeofjfagdgkaaPkBlock
set_option linter.unusedSimpArgs false
set_option linter.unusedVariables false
namespace Go.Proofs.Ytmpeofjfagdgkaa
open Go.Abs
open Int renaming reduceEq → i_0, reduceLE → i_1, reduceLT → i_2, reduceNe → i_3, reduceNeg → i_4, reduceAdd → i_5, reduceSub → i_6, reduceMul → i_7, reduceToNat → i_8
open Nat renaming reduceLT → n_0, reduceLeDiff → n_1, reduceEqDiff → n_2, reduceAdd → n_3, reduceSub → n_4, reduceMul → n_5
set_option maxRecDepth 100000
theorem But3.trans {e p i i1 : Nat} {h0 h1 h2 : AH} (a : But3 e p i h0 h1) (b : But3 e p i1 h1 h2) (hi : i1 = i ∨ h0.size ≤ i1) : But3 e p i h0 h2 :=
  ⟨Nat.le_trans a.1 b.1, fun x hx q1 q2 q3 => by rw [b.2 x (by have := a.1; omega) q1 q2 (by omega), a.2 x hx q1 q2 q3]⟩
end Go.Proofs.Ytmpeofjfagdgkaa
