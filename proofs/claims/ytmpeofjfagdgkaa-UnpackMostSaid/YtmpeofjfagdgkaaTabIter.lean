/- table: Clone, Backward, New, and the iterator of All. -/
import Derived.Test.YtmpeofjfagdgkaaTabFind
set_option linter.unusedSimpArgs false
set_option linter.unusedVariables false
namespace Go.Proofs.Ytmpeofjfagdgkaa
open Go.Abs
open Int renaming reduceEq → i_0, reduceLE → i_1, reduceLT → i_2, reduceNe → i_3, reduceNeg → i_4, reduceAdd → i_5, reduceSub → i_6, reduceMul → i_7, reduceToNat → i_8
open Nat renaming reduceLT → n_0, reduceLeDiff → n_1, reduceEqDiff → n_2, reduceAdd → n_3, reduceSub → n_4, reduceMul → n_5
set_option maxRecDepth 100000
set_option maxHeartbeats 4000000 in
theorem tNew (M : Int) (i : Nat) (h0 : AH) (hi : i < h0.size) :
    callW Try.prog Try.T 33 [.int .i64 M] h0 fun v h' => (0 ≤ M ∧ M ≤ 65536 ∧ v = .tuple [.ptr (some (h0.size, 0)), .int .i64 0] ∧ Tb h' h0.size i [] M (.slice none 0 0 0 true) ∨ (M < 0 ∨ M > 65536) ∧ v = .tuple [.ptr none, .int .i64 1]) ∧ Keeps h0.size h0 h' := by
  refine callW_in (n := 13) (rs := [.tmp 2, .tmp 3]) (m := 13) Try.func33 rfl rfl rfl rfl fun tr ht => ?_; have e0 := ht 0 _ rfl; clear ht
  repeat' (first
      | with_reducible first | refine Nx.h ?_ | (refine hK _ _ ?_; clear hK K)
      | ((with_reducible refine q_eo ?_ ?_); exact rfl)
      | ((with_reducible first | (refine Ny.h ?_; intro K hK) | (refine c_drw (by decide +kernel) ?_; intro K hK) | refine c_cond ?_ | show endW _ _ _ _ _ | (refine Nz.h ?_ ?_ <;> intro _) | fail) <;> try simp (disch := first | exact dz | fail) only [go_sem, i_0, i_1, i_2, i_3, i_4, i_5, i_6, i_7, i_8, n_0, n_1, n_2, n_3, n_4, n_5, reduceCtorEq, reduceIte, e0]))
  · exact ⟨.inr (by omega), Keeps.refl _ _⟩
  · exact ⟨.inr (by omega), Keeps.refl _ _⟩
  · exact ⟨.inl ⟨by omega, by omega, ⟨by rw [AH.get_push, if_pos rfl]; rfl, .nil0 _ _, by simp, by simp; omega, by omega⟩⟩, (Keeps.refl _ _).push (Nat.le_refl _) _⟩
end Go.Proofs.Ytmpeofjfagdgkaa
