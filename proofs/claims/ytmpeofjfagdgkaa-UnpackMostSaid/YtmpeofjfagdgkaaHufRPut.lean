/- The reference's Bits and Put. -/
import Derived.Test.YtmpeofjfagdgkaaHufPut
set_option linter.unusedSimpArgs false
set_option linter.unusedVariables false
namespace Go.Proofs.Ytmpeofjfagdgkaa
open Go.Abs
open Int renaming reduceEq → i_0, reduceLE → i_1, reduceLT → i_2, reduceNe → i_3, reduceNeg → i_4, reduceAdd → i_5, reduceSub → i_6, reduceMul → i_7, reduceToNat → i_8
open Nat renaming reduceLT → n_0, reduceLeDiff → n_1, reduceEqDiff → n_2, reduceAdd → n_3, reduceSub → n_4, reduceMul → n_5
set_option maxRecDepth 100000
theorem tb_at : ∀ (n w j : Nat), j < n → (toBits n w)[j]! = (w / 2 ^ (n - 1 - j) % 2 == 1)
  | n + 1, w, j, h => by
    have hl := toBits_len (n + 1) w
    rw [getElem!_pos _ j (by omega)]
    simp only [toBits]
    by_cases hj : j < n
    · rw [List.getElem_append_left (by rw [toBits_len]; exact hj)]
      have := tb_at n (w / 2) j hj
      rw [getElem!_pos _ j (by rw [toBits_len]; exact hj)] at this
      rw [this, Nat.div_div_eq_div_mul, ← Nat.pow_succ', show (n - 1 - j).succ = n + 1 - 1 - j by omega]
    · have : j = n := by omega
      subst this
      rw [List.getElem_append_right (by rw [toBits_len]; exact Nat.le_refl _)]
      simp
end Go.Proofs.Ytmpeofjfagdgkaa
