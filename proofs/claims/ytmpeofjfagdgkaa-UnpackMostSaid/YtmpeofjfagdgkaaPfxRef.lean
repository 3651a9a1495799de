/- prefix.Len and the reference's Put, Get: what they answer. -/
import Derived.Test.YtmpeofjfagdgkaaPfxPut
set_option linter.unusedSimpArgs false
set_option linter.unusedVariables false
namespace Go.Proofs.Ytmpeofjfagdgkaa
open Go.Abs
open Int renaming reduceEq → i_0, reduceLE → i_1, reduceLT → i_2, reduceNe → i_3, reduceNeg → i_4, reduceAdd → i_5, reduceSub → i_6, reduceMul → i_7, reduceToNat → i_8
open Nat renaming reduceLT → n_0, reduceLeDiff → n_1, reduceEqDiff → n_2, reduceAdd → n_3, reduceSub → n_4, reduceMul → n_5
set_option maxRecDepth 100000
theorem NewB_len {h h' : AH} {l : List UInt8} {a : AV} (p : NewB h l a h') : ∃ i, Sl E8 h' i a l ∧ h.size ≤ i := by obtain ⟨⟨i, hi, ho⟩, _⟩ := p; exact ⟨i, ho.sl, hi⟩
set_option maxHeartbeats 4000000 in
theorem refPut (b f n : Int) (h0 : AH) : callW Try.prog Try.T 44 [.int .i64 b, .int .i64 f, .int .i64 n] h0 (PutK h0 (putS b f n)) := by
  refine callW_in (n := 74) (rs := [.tmp 6, .tmp 7]) (m := 74) Try.func44 rfl rfl rfl rfl fun tr ht => ?_; have e0 := ht 0 _ rfl; have e1 := ht 1 _ rfl; have e2 := ht 2 _ rfl; clear ht
  by_cases hb : b < 1 ∨ b > 8 ∨ f < 0 ∨ f > 255
  · repeat' (first
      | with_reducible first | refine Nx.h ?_ | (refine hK _ _ ?_; clear hK K)
      | ((with_reducible refine q_eo ?_ ?_); exact rfl)
      | ((with_reducible first | (refine Ny.h ?_; intro K hK) | (refine c_drw (by decide +kernel) ?_; intro K hK) | refine c_cond ?_ | show endW _ _ _ _ _ | (refine Nz.h ?_ ?_ <;> intro _) | fail) <;> try simp (disch := first | exact dz | fail) only [go_sem, i_0, i_1, i_2, i_3, i_4, i_5, i_6, i_7, i_8, n_0, n_1, n_2, n_3, n_4, n_5, reduceCtorEq, reduceIte, e0, e1, e2]))
    all_goals exact PutK_err (by unfold putS; rw [if_pos (by omega)])
  have hp := pow_le8 (b := b) (by omega) (by omega)
  have hpw := power b h0 (by omega) (by omega)
  unfold putS
  generalize hM : (2 : Int) ^ b.toNat = M at *
  generalize hF : f % M = F at *
  repeat' (first
      | with_reducible first | refine Nx.h ?_ | (refine hK _ _ ?_; clear hK K)
      | ((with_reducible refine q_eo ?_ ?_); exact rfl)
      | ((with_reducible first | (refine Ny.h ?_; intro K hK) | (refine c_drw (by decide +kernel) ?_; intro K hK) | refine c_cond ?_ | show endW _ _ _ _ _ | (refine Nz.h ?_ ?_ <;> intro _) | fail) <;> try simp (disch := first | exact dz | fail) only [go_sem, i_0, i_1, i_2, i_3, i_4, i_5, i_6, i_7, i_8, n_0, n_1, n_2, n_3, n_4, n_5, reduceCtorEq, reduceIte, e0, e1, e2]))
  refine callM_of hpw ?_
  rintro v h1 ⟨rfl, rfl⟩
  refine vI ?_; repeat' (first
      | with_reducible first | refine Nx.h ?_ | (refine hK _ _ ?_; clear hK K)
      | ((with_reducible refine q_eo ?_ ?_); exact rfl)
      | ((with_reducible first | refine vO ?_ | (refine Ny.h ?_; intro K hK) | (refine c_drw (by decide +kernel) ?_; intro K hK) | refine c_cond ?_ | show endW _ _ _ _ _ | (refine Nz.h ?_ ?_ <;> intro _) | fail) <;> try simp (disch := first | exact dz | fail) only [go_sem, i_0, i_1, i_2, i_3, i_4, i_5, i_6, i_7, i_8, n_0, n_1, n_2, n_3, n_4, n_5, reduceCtorEq, reduceIte, e0, e1, e2, hF]))
  · exact PutK_err (by rw [if_pos (by omega)])
  · exact PutK_err (by rw [if_pos (by omega)])
  rotate_left
  · exact PutK_err (by rw [if_pos (by omega)])
  refine callM_of hpw ?_
  rintro v h1 ⟨rfl, rfl⟩
  refine vI ?_; repeat' (first
      | with_reducible first | refine Nx.h ?_ | (refine hK _ _ ?_; clear hK K)
      | ((with_reducible refine q_eo ?_ ?_); exact rfl)
      | ((with_reducible first | refine vO ?_ | (refine Ny.h ?_; intro K hK) | (refine c_drw (by decide +kernel) ?_; intro K hK) | refine c_cond ?_ | show endW _ _ _ _ _ | (refine Nz.h ?_ ?_ <;> intro _) | fail) <;> try simp (disch := first | exact dz | fail) only [go_sem, i_0, i_1, i_2, i_3, i_4, i_5, i_6, i_7, i_8, n_0, n_1, n_2, n_3, n_4, n_5, reduceCtorEq, reduceIte, e0, e1, e2, hF]))
  · exact PutK_one (by omega) (by omega) (by rw [if_neg (by omega), if_pos (by omega)])
  · rw [if_neg (by omega), if_neg (by omega)]
    refine c_loopF 590007579982553940484 (fun m tm h => ∃ (k : Int) (a : AV) (i : Nat) (l : List UInt8), tm.get 2 = .int .i64 k ∧ tm.get 9 = a ∧ Ow E8 h i a l ∧ h1.size ≤ i ∧ Keeps h1.size h1 h ∧ l ++ putL k.toNat = UInt8.ofNat ((f + (M - 1)) % 256).toNat :: putL (n - (M - 1)).toNat ∧ l.length + k ≤ 2147483650 ∧ 0 ≤ k ∧ m = k.toNat) ((n - (M - 1)).toNat) (by kernel_rfl) ?_ ?_
    · refine ⟨n - (M - 1), _, h1.size, _, ?_, ?_, push1 (e := (f + (M - 1)) % 256) (by omega) (by omega), Nat.le_refl _, (Keeps.refl _ _).push (Nat.le_refl _) _, rfl, ?_, by omega, rfl⟩
      · (first | with_reducible rfl | (simp (disch := first | exact dz | fail) only [go_sem, i_0, i_1, i_2, i_3, i_4, i_5, i_6, i_7, i_8, n_0, n_1, n_2, n_3, n_4, n_5, reduceCtorEq, reduceIte] <;> first | with_reducible rfl | (congr 1 <;> omega)))
      · (first | with_reducible rfl | (simp (disch := first | exact dz | fail) only [go_sem, i_0, i_1, i_2, i_3, i_4, i_5, i_6, i_7, i_8, n_0, n_1, n_2, n_3, n_4, n_5, reduceCtorEq, reduceIte] <;> first | with_reducible rfl | (congr 1 <;> omega)))
      · simp; omega
    · rintro m tr2 h2 ho ⟨k, a, i, l, t2, t9, hoa, hi, hk, hl, hlen, hk0, rfl⟩
      repeat' (first
      | with_reducible first | refine Nx.h ?_ | (refine hK _ _ ?_; clear hK K)
      | ((with_reducible refine q_eo ?_ ?_); exact rfl)
      | ((with_reducible first | (refine Ny.h ?_; intro K hK) | (refine c_drw (by decide +kernel) ?_; intro K hK) | refine c_cond ?_ | show endW _ _ _ _ _ | (refine Nz.h ?_ ?_ <;> intro _) | fail) <;> try simp (disch := first | exact dz | fail) only [go_sem, i_0, i_1, i_2, i_3, i_4, i_5, i_6, i_7, i_8, n_0, n_1, n_2, n_3, n_4, n_5, reduceCtorEq, reduceIte, t2, t9]))
      · refine Try.a833 hoa (by omega) (by omega) (by omega) fun z h3 i3 ho3 hi3 hz3 hf3 => ?_
        refine vI ?_; repeat' (first
      | with_reducible first | refine Nx.h ?_ | (refine hK _ _ ?_; clear hK K)
      | ((with_reducible refine q_eo ?_ ?_); exact rfl)
      | ((with_reducible first | refine vO ?_ | (refine Ny.h ?_; intro K hK) | (refine c_drw (by decide +kernel) ?_; intro K hK) | refine c_cond ?_ | show endW _ _ _ _ _ | (refine Nz.h ?_ ?_ <;> intro _) | fail) <;> try simp (disch := first | exact dz | fail) only [go_sem, i_0, i_1, i_2, i_3, i_4, i_5, i_6, i_7, i_8, n_0, n_1, n_2, n_3, n_4, n_5, reduceCtorEq, reduceIte, t2, t9]))
        try dsimp only
        refine ⟨rfl, (k / 128).toNat, by omega, k / 128, z, i3, _, ?_, ?_, ho3, ?_, ?_, ?_, ?_, by omega, rfl⟩
        · (first | with_reducible rfl | (simp (disch := first | exact dz | fail) only [go_sem, i_0, i_1, i_2, i_3, i_4, i_5, i_6, i_7, i_8, n_0, n_1, n_2, n_3, n_4, n_5, reduceCtorEq, reduceIte, t2, t9] <;> first | with_reducible rfl | (congr 1 <;> omega)))
        · (first | with_reducible rfl | (simp (disch := first | exact dz | fail) only [go_sem, i_0, i_1, i_2, i_3, i_4, i_5, i_6, i_7, i_8, n_0, n_1, n_2, n_3, n_4, n_5, reduceCtorEq, reduceIte, t2, t9] <;> first | with_reducible rfl | (congr 1 <;> omega)))
        · have := hk.1; omega
        · exact ⟨by have := hk.1; omega, fun j hj => (hf3 j (by have := hk.1; omega) (by omega)).trans (hk.2 j hj)⟩
        · rw [← hl, putL_step (n := k) (by omega), List.append_assoc, show (128 + k % 128) % 256 = k % 128 + 128 from by omega]; rfl
        · simp; omega
      · refine Try.a833 hoa (by omega) (by omega) (by omega) fun z h3 i3 ho3 hi3 hz3 hf3 => ?_
        refine vI ?_; repeat' (first
      | with_reducible first | refine Nx.h ?_ | (refine hK _ _ ?_; clear hK K)
      | ((with_reducible refine q_eo ?_ ?_); exact rfl)
      | ((with_reducible first | refine vO ?_ | (refine Ny.h ?_; intro K hK) | (refine c_drw (by decide +kernel) ?_; intro K hK) | refine c_cond ?_ | show endW _ _ _ _ _ | (refine Nz.h ?_ ?_ <;> intro _) | fail) <;> try simp (disch := first | exact dz | fail) only [go_sem, i_0, i_1, i_2, i_3, i_4, i_5, i_6, i_7, i_8, n_0, n_1, n_2, n_3, n_4, n_5, reduceCtorEq, reduceIte, t2, t9]))
        refine ⟨z, rfl, ⟨i3, ?_, ?_⟩, ?_⟩
        · have := hk.1; omega
        · rw [← hl, putL_end (n := k) (by omega) (by omega)]; exact ho3
        · exact ⟨by have := hk.1; omega, fun j hj => (hf3 j (by have := hk.1; omega) (by omega)).trans (hk.2 j hj)⟩
end Go.Proofs.Ytmpeofjfagdgkaa
