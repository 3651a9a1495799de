/- pack: begun. -/
import Derived.Test.YtmpeofjfagdgkaaPkRBlock
set_option linter.unusedSimpArgs false
set_option linter.unusedVariables false
namespace Go.Proofs.Ytmpeofjfagdgkaa
open Go.Abs
open Int renaming reduceEq → i_0, reduceLE → i_1, reduceLT → i_2, reduceNe → i_3, reduceNeg → i_4, reduceAdd → i_5, reduceSub → i_6, reduceMul → i_7, reduceToNat → i_8
open Nat renaming reduceLT → n_0, reduceLeDiff → n_1, reduceEqDiff → n_2, reduceAdd → n_3, reduceSub → n_4, reduceMul → n_5
set_option maxRecDepth 100000
theorem tNew0 (h0 : AH) : callW Try.prog Try.T 33 [.int .i64 4096] h0 fun v h' => v = .tuple [.ptr (some (h0.size, 0)), .int .i64 0] ∧ h' = h0.push (.cells [.int .i64 4096, .int .i64 0, .slice none 0 0 0 true]) := by
  refine callW_in (n := 13) (rs := [.tmp 2, .tmp 3]) (m := 13) Try.func33 rfl rfl rfl rfl fun tr ht => ?_; have e0 := ht 0 _ rfl; clear ht
  repeat' (first
      | with_reducible first | refine Nx.h ?_ | (refine hK _ _ ?_; clear hK K)
      | ((with_reducible refine q_eo ?_ ?_); exact rfl)
      | ((with_reducible first | (refine Ny.h ?_; intro K hK) | (refine c_drw (by decide +kernel) ?_; intro K hK) | refine c_cond ?_ | show endW _ _ _ _ _ | (refine Nz.h ?_ ?_ <;> intro _) | fail) <;> try simp (disch := first | exact dz | fail) only [go_sem, i_0, i_1, i_2, i_3, i_4, i_5, i_6, i_7, i_8, n_0, n_1, n_2, n_3, n_4, n_5, reduceCtorEq, reduceIte, e0]))
theorem pnew0 (h0 : AH) : callW Try.prog Try.T 16 [] h0 fun v h' => v = .ptr (some (h0.size + 1, 0)) ∧ h'.size = h0.size + 2 ∧ h'.get h0.size = some (.cells [.int .i64 4096, .int .i64 0, .slice none 0 0 0 true]) ∧ h'.get (h0.size + 1) = some (.cells [.ptr (some (h0.size, 0)), .int .i64 4096, .int .i64 4096, .int .i64 4096]) ∧ Keeps h0.size h0 h' := by
  refine callW_in (n := 10) (rs := [.tmp 0]) (m := 10) Try.func16 rfl rfl rfl rfl fun tr ht => ?_; clear ht
  repeat' (first
      | with_reducible first | refine Nx.h ?_ | (refine hK _ _ ?_; clear hK K)
      | ((with_reducible refine q_eo ?_ ?_); exact rfl)
      | ((with_reducible first | (refine Ny.h ?_; intro K hK) | (refine c_drw (by decide +kernel) ?_; intro K hK) | refine c_cond ?_ | show endW _ _ _ _ _ | (refine Nz.h ?_ ?_ <;> intro _) | fail) <;> try simp (disch := first | exact dz | fail) only [go_sem, i_0, i_1, i_2, i_3, i_4, i_5, i_6, i_7, i_8, n_0, n_1, n_2, n_3, n_4, n_5, reduceCtorEq, reduceIte]))
  refine callM_of (tNew0 h0) ?_
  rintro v h1 ⟨rfl, rfl⟩
  refine vI ?_; repeat' (first
      | with_reducible first | refine Nx.h ?_ | (refine hK _ _ ?_; clear hK K)
      | ((with_reducible refine q_eo ?_ ?_); exact rfl)
      | ((with_reducible first | refine vO ?_ | (refine Ny.h ?_; intro K hK) | (refine c_drw (by decide +kernel) ?_; intro K hK) | refine c_cond ?_ | show endW _ _ _ _ _ | (refine Nz.h ?_ ?_ <;> intro _) | fail) <;> try simp (disch := first | exact dz | fail) only [go_sem, i_0, i_1, i_2, i_3, i_4, i_5, i_6, i_7, i_8, n_0, n_1, n_2, n_3, n_4, n_5, reduceCtorEq, reduceIte]))
  refine ⟨?_, ?_⟩
  · simp; omega
  · intro b hb
    rw [AH.get_push, if_neg (by rw [AH.size_push]; omega), AH.get_push, if_neg (by omega)]
def fsB : List Fd := [([58, 109, 101, 116, 104, 111, 100], [71, 69, 84], false), ([97], [98, 99], false)]
set_option maxHeartbeats 4000000 in
theorem begun (h0 : AH) : callW Try.prog Try.T 15 [] h0 fun v h' => v = .bool true ∧ h0.size + 3 ≤ h'.size ∧ Keeps h0.size h0 h' := by
  have q1 : blkE fsB = 0 := by decide +kernel
  have q2 : blkB en0 fsB = [130, 64, 1, 97, 2, 98, 99] := by decide +kernel
  have q3 : W (szs (blkS en0 fsB).l) = 35 := by decide +kernel
  have q4 : textB [97, 98] = [2, 97, 98] := by decide +kernel
  refine callW_in (n := 41) (rs := [.tmp 0]) (m := 41) Try.func15 rfl rfl rfl rfl fun tr ht => ?_; clear ht
  repeat' (first
      | with_reducible first | refine Nx.h ?_ | (refine hK _ _ ?_; clear hK K)
      | ((with_reducible refine q_eo ?_ ?_); exact rfl)
      | ((with_reducible first | (refine Ny.h ?_; intro K hK) | (refine c_drw (by decide +kernel) ?_; intro K hK) | refine c_cond ?_ | show endW _ _ _ _ _ | (refine Nz.h ?_ ?_ <;> intro _) | fail) <;> try simp (disch := first | exact dz | fail) only [go_sem, i_0, i_1, i_2, i_3, i_4, i_5, i_6, i_7, i_8, n_0, n_1, n_2, n_3, n_4, n_5, reduceCtorEq, reduceIte]))
  refine callM_of (pnew0 h0) ?_
  rintro v h1 ⟨rfl, z1, gt, ge, k1⟩
  have bs2 : ∀ h, bsR Try.T h 28 2 (some [(0, .agg [.str [58, 109, 101, 116, 104, 111, 100], .str [71, 69, 84], .bool false]), (1, .agg [.str [97], .str [98, 99], .bool false])]) = some (.val (.slice (some (h.size, 0)) 2 2 3 true) (h.push (.cells (EF.all fsB)))) := fun h => bsR_some (T := Try.T) (t := 28) (e := 45) (n := 2) (h := h) (cs := EF.all fsB) rfl ⟨rfl, by decide, rfl⟩ rfl
  refine vI ?_; repeat' (first
      | with_reducible first | refine Nx.h ?_ | (refine hK _ _ ?_; clear hK K)
      | ((with_reducible refine q_eo ?_ ?_); exact rfl)
      | ((with_reducible first | refine vO ?_ | (refine Ny.h ?_; intro K hK) | (refine c_drw (by decide +kernel) ?_; intro K hK) | refine c_cond ?_ | show endW _ _ _ _ _ | (refine Nz.h ?_ ?_ <;> intro _) | fail) <;> try simp (disch := first | exact dz | fail) only [go_sem, i_0, i_1, i_2, i_3, i_4, i_5, i_6, i_7, i_8, n_0, n_1, n_2, n_3, n_4, n_5, reduceCtorEq, reduceIte, bs2]))
  refine cM_hide fun h2 hh2 => ?_
  have z2 : h2.size = h0.size + 3 := by rw [hh2]; simp; omega
  have k2 : Keeps (h0.size + 2) h1 h2 := by rw [hh2, ← z1]; exact (Keeps.refl _ _).push (Nat.le_refl _) _
  have gs : h2.get (h0.size + 2) = some (.cells (EF.all fsB)) := by rw [hh2, AH.get_push, if_pos z1.symm]
  clear hh2
  rw [z1]
  refine callM_of (blockG (h0.size + 1) h0.size (h0.size + 3) (h0.size + 2) _ en0 fsB h2 (fun h hz hk => ?_) (by omega) (by omega) (by omega) (by omega) ⟨by decide, by decide, by decide⟩ (by decide) (by decide) (fun h hz hk => ?_)) ?_
  · have hz' : h2.size + 1 ≤ h.size := hz
    exact ⟨((hk.2 _ (by omega)).trans (k2.2 _ (by omega))).trans ge, ⟨_, ((hk.2 _ (by omega)).trans (k2.2 _ (by omega))).trans gt, .nil0 _ _, by omega, by omega, by omega⟩, by omega, by omega, by omega⟩
  · exact (Ow.full 2 true fsB ((hk _ (by omega) (by omega) (by omega) (by omega)).trans gs) (by omega) rfl).sl
  rintro v h3 ⟨b, i3, j3, rfl, hi3, he3, hj3, hji3, o3, b3⟩
  rw [q1]
  rw [q2] at o3
  have z3 := b3.1
  refine vI ?_; repeat' (first
      | with_reducible first | refine Nx.h ?_ | (refine hK _ _ ?_; clear hK K)
      | ((with_reducible refine q_eo ?_ ?_); exact rfl)
      | ((with_reducible first | refine vO ?_ | (refine Ny.h ?_; intro K hK) | (refine c_drw (by decide +kernel) ?_; intro K hK) | refine c_cond ?_ | show endW _ _ _ _ _ | (refine Nz.h ?_ ?_ <;> intro _) | fail) <;> try simp (disch := first | exact dz | fail) only [go_sem, i_0, i_1, i_2, i_3, i_4, i_5, i_6, i_7, i_8, n_0, n_1, n_2, n_3, n_4, n_5, reduceCtorEq, reduceIte]))
  refine callM_of (text [97, 98] h3) ?_
  rintro v h4 ⟨⟨j4, hj4, o4⟩, k4⟩
  rw [q4] at o4
  have z4 := k4.1
  have he4 := he3.frame (h' := h4) (fun b hb _ => k4.2 b hb) k4.1
  have o34 := o3.frame (h' := h4) (fun hs => k4.2 j3 hs) k4.1
  have i4 : i3 < h4.size := by obtain ⟨_, ⟨_, t⟩, _, _, _⟩ := he4; exact t.is
  have i3' : i3 < h3.size := by obtain ⟨_, ⟨_, t⟩, _, _, _⟩ := he3; exact t.is
  refine vI ?_; repeat' (first
      | with_reducible first | refine Nx.h ?_ | (refine hK _ _ ?_; clear hK K)
      | ((with_reducible refine q_eo ?_ ?_); exact rfl)
      | ((with_reducible first | refine vO ?_ | (refine Ny.h ?_; intro K hK) | (refine c_drw (by decide +kernel) ?_; intro K hK) | refine c_cond ?_ | show endW _ _ _ _ _ | (refine Nz.h ?_ ?_ <;> intro _) | fail) <;> try simp (disch := first | exact dz | fail) only [go_sem, i_0, i_1, i_2, i_3, i_4, i_5, i_6, i_7, i_8, n_0, n_1, n_2, n_3, n_4, n_5, reduceCtorEq, reduceIte]))
  refine callM_of (limit _ _ _ _ 100 h4 he4) ?_
  rintro v h5 ⟨rfl, he5, b5⟩
  have z5 := b5.1
  have q5 : limE 100 = 0 := by decide
  rw [q5]
  have s3 := (o34.frame (h' := h5) (fun hs => b5.2 j3 hs (by omega) (by omega) (by omega)) b5.1).sl
  have s4 := (o4.frame (h' := h5) (fun hs => b5.2 j4 hs (by omega) (by omega) (by omega)) b5.1).sl
  have hL : (limS (blkS en0 fsB) 100).l = (blkS en0 fsB).l := rfl
  refine vI ?_; repeat' (first
      | with_reducible first | refine Nx.h ?_ | (refine hK _ _ ?_; clear hK K)
      | ((with_reducible refine q_eo ?_ ?_); exact rfl)
      | ((with_reducible first | refine vO ?_ | (refine Ny.h ?_; intro K hK) | (refine c_drw (by decide +kernel) ?_; intro K hK) | refine c_cond ?_ | show endW _ _ _ _ _ | (refine Nz.h ?_ ?_ <;> intro _) | fail) <;> try simp (disch := first | exact dz | fail) only [go_sem, i_0, i_1, i_2, i_3, i_4, i_5, i_6, i_7, i_8, n_0, n_1, n_2, n_3, n_4, n_5, reduceCtorEq, reduceIte]))
  refine callM_of (held _ _ _ _ h5 he5) ?_
  rintro v h6 ⟨rfl, rfl⟩
  rw [hL, q3]
  refine vI ?_; repeat' (first
      | with_reducible first | refine Nx.h ?_ | (refine hK _ _ ?_; clear hK K)
      | ((with_reducible refine q_eo ?_ ?_); exact rfl)
      | ((with_reducible first | refine vO ?_ | (refine Ny.h ?_; intro K hK) | (refine c_drw (by decide +kernel) ?_; intro K hK) | refine c_cond ?_ | show endW _ _ _ _ _ | (refine Nz.h ?_ ?_ <;> intro _) | fail) <;> try simp (disch := first | exact dz | fail) only [go_sem, i_0, i_1, i_2, i_3, i_4, i_5, i_6, i_7, i_8, n_0, n_1, n_2, n_3, n_4, n_5, reduceCtorEq, reduceIte]))
  refine ⟨by omega, by omega, fun b hb => ?_⟩
  rw [b5.2 b (by omega) (by omega) (by omega) (by omega), k4.2 b (by omega), b3.2 b (by omega) (by omega) (by omega) (by omega), k2.2 b (by omega), k1.2 b hb]
end Go.Proofs.Ytmpeofjfagdgkaa
