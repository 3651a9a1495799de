/- table: Find, code and reference. -/
import Derived.Test.YtmpeofjfagdgkaaTabAdd
set_option linter.unusedSimpArgs false
set_option linter.unusedVariables false
namespace Go.Proofs.Ytmpeofjfagdgkaa
open Go.Abs
open Int renaming reduceEq → i_0, reduceLE → i_1, reduceLT → i_2, reduceNe → i_3, reduceNeg → i_4, reduceAdd → i_5, reduceSub → i_6, reduceMul → i_7, reduceToNat → i_8
open Nat renaming reduceLT → n_0, reduceLeDiff → n_1, reduceEqDiff → n_2, reduceAdd → n_3, reduceSub → n_4, reduceMul → n_5
set_option maxRecDepth 100000
/-- Places of what is found among fields, the newest first, the first one's place k. -/
def fnd (x y : List UInt8) : List Fd → Int → Int × Int
  | [], _ => (0, 0)
  | f :: r, k => (if f.1 = x ∧ f.2.1 = y then k else (fnd x y r (k + 1)).1, if f.1 = x then k else (fnd x y r (k + 1)).2)
theorem rev_take {l : List Fd} {k : Nat} (h : k < l.length) : (l.take (k + 1)).reverse = l[k]! :: (l.take k).reverse := by
  rw [List.take_add_one, bang_some h]; simp
set_option maxHeartbeats 4000000 in
theorem tFind (p i : Nat) (l : List Fd) (M : Int) (x y : List UInt8) (a : AV) (h0 : AH) (ht : Tb h0 p i l M a) (hl : l.length ≤ 1000000) :
    callW Try.prog Try.T 55 [.ptr (some (p, 0)), .str x, .str y] h0 fun v h' => v = .tuple [.int .i64 (fnd x y l.reverse 1).1, .int .i64 (fnd x y l.reverse 1).2] ∧ h' = h0 := by
  obtain ⟨hg, hO, hps, his, hne⟩ := ht
  have s2 := hO.sl
  refine callW_in (n := 64) (rs := [.tmp 6, .tmp 7]) (m := 64) Try.func55 rfl rfl rfl rfl fun tr ht => ?_; have e0 := ht 0 _ rfl; have e1 := ht 1 _ rfl; have e2 := ht 2 _ rfl; clear ht
  repeat' (first
      | with_reducible first | refine Nx.h ?_ | (refine hK _ _ ?_; clear hK K)
      | ((with_reducible refine q_eo ?_ ?_); exact rfl)
      | ((with_reducible first | (refine Ny.h ?_; intro K hK) | (refine c_drw (by decide +kernel) ?_; intro K hK) | refine c_cond ?_ | show endW _ _ _ _ _ | (refine Nz.h ?_ ?_ <;> intro _) | fail) <;> try simp (disch := first | exact dz | fail) only [go_sem, i_0, i_1, i_2, i_3, i_4, i_5, i_6, i_7, i_8, n_0, n_1, n_2, n_3, n_4, n_5, reduceCtorEq, reduceIte, e0, e1, e2, hg]))
  refine c_loopF 4611686018425292480 (fun m tm h => ∃ (k : Nat) (one : Int), tm.get 10 = .int .i64 ((k : Int) - 1) ∧ tm.get 9 = .int .i64 one ∧ k ≤ l.length ∧ h = h0 ∧ 0 ≤ one ∧ (fnd x y l.reverse 1).1 = (fnd x y (l.take k).reverse (l.length - k + 1)).1 ∧ (fnd x y l.reverse 1).2 = (if one = 0 then (fnd x y (l.take k).reverse (l.length - k + 1)).2 else one) ∧ m = k) (l.length) (by kernel_rfl) ?_ ?_
  · refine ⟨l.length, 0, ?_, ?_, Nat.le_refl _, rfl, Int.le_refl _, ?_, ?_, rfl⟩
    · (first | with_reducible rfl | (simp (disch := first | exact dz | fail) only [go_sem, i_0, i_1, i_2, i_3, i_4, i_5, i_6, i_7, i_8, n_0, n_1, n_2, n_3, n_4, n_5, reduceCtorEq, reduceIte] <;> first | with_reducible rfl | (congr 1 <;> omega)))
    · (first | with_reducible rfl | (simp (disch := first | exact dz | fail) only [go_sem, i_0, i_1, i_2, i_3, i_4, i_5, i_6, i_7, i_8, n_0, n_1, n_2, n_3, n_4, n_5, reduceCtorEq, reduceIte] <;> first | with_reducible rfl | (congr 1 <;> omega)))
    · rw [List.take_length]; simp
    · rw [List.take_length]; simp
  · rintro m tr2 h2 ho ⟨k, one, t10, t9, hk, rfl, h1, hf1, hf2, rfl⟩
    have k0 := ho 0 (Seen.of rfl); simp (disch := first | exact dz | fail) only [go_sem, i_0, i_1, i_2, i_3, i_4, i_5, i_6, i_7, i_8, n_0, n_1, n_2, n_3, n_4, n_5, reduceCtorEq, reduceIte, e0, e1, e2] at k0; have k1 := ho 1 (Seen.of rfl); simp (disch := first | exact dz | fail) only [go_sem, i_0, i_1, i_2, i_3, i_4, i_5, i_6, i_7, i_8, n_0, n_1, n_2, n_3, n_4, n_5, reduceCtorEq, reduceIte, e0, e1, e2] at k1; have k2 := ho 2 (Seen.of rfl); simp (disch := first | exact dz | fail) only [go_sem, i_0, i_1, i_2, i_3, i_4, i_5, i_6, i_7, i_8, n_0, n_1, n_2, n_3, n_4, n_5, reduceCtorEq, reduceIte, e0, e1, e2] at k2; have k8 := ho 8 (Seen.of rfl); simp (disch := first | exact dz | fail) only [go_sem, i_0, i_1, i_2, i_3, i_4, i_5, i_6, i_7, i_8, n_0, n_1, n_2, n_3, n_4, n_5, reduceCtorEq, reduceIte, e0, e1, e2] at k8
    cases m with
    | zero =>
      repeat' (first
      | with_reducible first | refine Nx.h ?_ | (refine hK _ _ ?_; clear hK K)
      | ((with_reducible refine q_eo ?_ ?_); exact rfl)
      | ((with_reducible first | (refine Ny.h ?_; intro K hK) | (refine c_drw (by decide +kernel) ?_; intro K hK) | refine c_cond ?_ | show endW _ _ _ _ _ | (refine Nz.h ?_ ?_ <;> intro _) | fail) <;> try simp (disch := first | exact dz | fail) only [go_sem, i_0, i_1, i_2, i_3, i_4, i_5, i_6, i_7, i_8, n_0, n_1, n_2, n_3, n_4, n_5, reduceCtorEq, reduceIte, e0, k0, k1, k2, k8, t10, t9, hg]))
      simp only [List.take_zero, List.reverse_nil, fnd] at hf1 hf2
      have : (fnd x y l.reverse 1).2 = one := by rw [hf2]; split <;> omega
      rw [hf1, this]
    | succ k =>
      rcases hx : l[k]! with ⟨x1, x2, x3⟩
      have hrt := rev_take (l := l) (k := k) (by omega)
      rw [hx] at hrt
      rw [hrt] at hf1 hf2
      have hkk : (l.length : Int) - ((k + 1 : Nat) : Int) + 1 = l.length - k := by omega
      simp only [fnd, hkk] at hf1 hf2
      have hk1 : ((k + 1 : Nat) : Int) - 1 = (k : Int) := by omega
      rw [hk1] at t10
      have l0 := ldF0 s2 (by omega) hx
      have l1 := ldF1 s2 (by omega) hx
      repeat' (first
      | with_reducible first | refine Nx.h ?_ | (refine hK _ _ ?_; clear hK K)
      | ((with_reducible refine q_eo ?_ ?_); exact rfl)
      | ((with_reducible first | (refine Ny.h ?_; intro K hK) | (refine c_drw (by decide +kernel) ?_; intro K hK) | refine c_cond ?_ | show endW _ _ _ _ _ | (refine Nz.h ?_ ?_ <;> intro _) | fail) <;> try simp (disch := first | exact dz | fail) only [go_sem, i_0, i_1, i_2, i_3, i_4, i_5, i_6, i_7, i_8, n_0, n_1, n_2, n_3, n_4, n_5, reduceCtorEq, reduceIte, e0, k0, k1, k2, k8, t10, t9, hg, l0, l1]))
      all_goals try dsimp only
      · rename_i q1 q2 q3
        rw [if_pos ⟨q1, q3⟩] at hf1
        rw [if_pos q2, if_pos q1] at hf2
        rw [hf1, hf2]
      · rename_i q1 q2 q3
        rw [if_neg (fun h => q3 h.2)] at hf1
        rw [if_pos q2, if_pos q1] at hf2
        refine ⟨rfl, k, by omega, k, (l.length : Int) - k, ?_, ?_, by omega, rfl, by omega, hf1, by rw [if_neg (by omega)]; exact hf2, rfl⟩
        · (first | with_reducible rfl | (simp (disch := first | exact dz | fail) only [go_sem, i_0, i_1, i_2, i_3, i_4, i_5, i_6, i_7, i_8, n_0, n_1, n_2, n_3, n_4, n_5, reduceCtorEq, reduceIte] <;> first | with_reducible rfl | (congr 1 <;> omega)))
        · (first | with_reducible rfl | (simp (disch := first | exact dz | fail) only [go_sem, i_0, i_1, i_2, i_3, i_4, i_5, i_6, i_7, i_8, n_0, n_1, n_2, n_3, n_4, n_5, reduceCtorEq, reduceIte] <;> first | with_reducible rfl | (congr 1 <;> omega)))
      · rename_i q1 q2 q3
        rw [if_pos ⟨q1, q3⟩] at hf1
        rw [if_neg q2] at hf2
        rw [hf1, hf2]
      · rename_i q1 q2 q3
        rw [if_neg (fun h => q3 h.2)] at hf1
        rw [if_neg q2] at hf2
        refine ⟨rfl, k, by omega, k, one, ?_, ?_, by omega, rfl, by omega, hf1, by rw [if_neg q2]; exact hf2, rfl⟩
        · (first | with_reducible rfl | (simp (disch := first | exact dz | fail) only [go_sem, i_0, i_1, i_2, i_3, i_4, i_5, i_6, i_7, i_8, n_0, n_1, n_2, n_3, n_4, n_5, reduceCtorEq, reduceIte] <;> first | with_reducible rfl | (congr 1 <;> omega)))
        · (first | with_reducible rfl | (simp (disch := first | exact dz | fail) only [go_sem, i_0, i_1, i_2, i_3, i_4, i_5, i_6, i_7, i_8, n_0, n_1, n_2, n_3, n_4, n_5, reduceCtorEq, reduceIte, t9] <;> first | with_reducible rfl | (congr 1 <;> omega)))
      · rename_i q1
        rw [if_neg (fun h => q1 h.1)] at hf1
        rw [if_neg q1] at hf2
        refine ⟨rfl, k, by omega, k, one, ?_, ?_, by omega, rfl, by omega, hf1, hf2, rfl⟩
        · (first | with_reducible rfl | (simp (disch := first | exact dz | fail) only [go_sem, i_0, i_1, i_2, i_3, i_4, i_5, i_6, i_7, i_8, n_0, n_1, n_2, n_3, n_4, n_5, reduceCtorEq, reduceIte] <;> first | with_reducible rfl | (congr 1 <;> omega)))
        · (first | with_reducible rfl | (simp (disch := first | exact dz | fail) only [go_sem, i_0, i_1, i_2, i_3, i_4, i_5, i_6, i_7, i_8, n_0, n_1, n_2, n_3, n_4, n_5, reduceCtorEq, reduceIte, t9] <;> first | with_reducible rfl | (congr 1 <;> omega)))
end Go.Proofs.Ytmpeofjfagdgkaa
