/- 'UnpackBroken' is true for every two slices of bytes and every number: no conditions. Behind an error every block is refused. -/
import Derived.Test.YtmpeofjfagdgkaaUpDec
set_option linter.unusedSimpArgs false
set_option linter.unusedVariables false
namespace Go.Proofs.Ytmpeofjfagdgkaa
open Go.Abs Go.RowKit Go.ChangeShapes
open Int renaming reduceEq → i_0, reduceLE → i_1, reduceLT → i_2, reduceNe → i_3, reduceNeg → i_4, reduceAdd → i_5, reduceSub → i_6, reduceMul → i_7, reduceToNat → i_8
open Nat renaming reduceLT → n_0, reduceLeDiff → n_1, reduceEqDiff → n_2, reduceAdd → n_3, reduceSub → n_4, reduceMul → n_5
set_option maxRecDepth 100000
set_option maxHeartbeats 8000000 in
theorem brokenRun (a0 a1 a2 : AV) (D0 : Dat Try.T 2 33 [a0]) (D1 : Dat Try.T 2 33 [a1]) (D2 : Dat Try.T 1 3 [a2]) : callW Try.prog Try.T 10 [a0, a1, a2] AH.empty fun v _ => v = .bool true := by
  obtain ⟨l0, hs0, hl0⟩ := dat_bytes (h := AH.empty) (i := 0) rfl rfl rfl D0
  obtain ⟨l1, hs1, hl1⟩ := dat_bytes (h := AH.empty) (i := 0) rfl rfl rfl D1
  obtain ⟨m, rfl, hm⟩ := dat_int rfl D2
  refine callW_in (n := 90) (rs := [.tmp 6]) (m := 90) Try.func10 rfl rfl rfl rfl fun tr ht => ?_; have e0 := ht 0 _ rfl; have e1 := ht 1 _ rfl; have e2 := ht 2 _ rfl; clear ht
  repeat' (first
      | with_reducible first | refine Nx.h ?_ | (refine hK _ _ ?_; clear hK K)
      | ((with_reducible refine q_eo ?_ ?_); exact rfl)
      | ((with_reducible first | (refine Ny.h ?_; intro K hK) | (refine c_drw (by decide +kernel) ?_; intro K hK) | refine c_cond ?_ | show endW _ _ _ _ _ | (refine Nz.h ?_ ?_ <;> intro _) | fail) <;> try simp (disch := first | exact dz | fail) only [go_sem, i_0, i_1, i_2, i_3, i_4, i_5, i_6, i_7, i_8, n_0, n_1, n_2, n_3, n_4, n_5, reduceCtorEq, reduceIte, e0, e1, e2]))
  refine callM_of (begun6 (K := fun v h => v = .bool true ∧ 3 < h.size) (fun h hh => ⟨rfl, hh⟩)) ?_
  rintro v h1 ⟨rfl, z1⟩
  refine vI ?_; repeat' (first
      | with_reducible first | refine Nx.h ?_ | (refine hK _ _ ?_; clear hK K)
      | ((with_reducible refine q_eo ?_ ?_); exact rfl)
      | ((with_reducible first | refine vO ?_ | (refine Ny.h ?_; intro K hK) | (refine c_drw (by decide +kernel) ?_; intro K hK) | refine c_cond ?_ | show endW _ _ _ _ _ | (refine Nz.h ?_ ?_ <;> intro _) | fail) <;> try simp (disch := first | exact dz | fail) only [go_sem, i_0, i_1, i_2, i_3, i_4, i_5, i_6, i_7, i_8, n_0, n_1, n_2, n_3, n_4, n_5, reduceCtorEq, reduceIte, e0, e1, e2]))
  refine callM_of (unew 0 h1 (by omega)) ?_
  rintro v h2 ⟨d, p, rfl, hd, hp, hds, hps, dc, k2⟩
  have hl1 : rdN.l.length ≤ 500000 := by show 0 ≤ 500000; omega
  have s2 := hs0.any h2 0
  have snil : Sl EF h2 0 (.slice none 0 0 0 true) [] := (Ow.nil0 (E := EF) (h := h2) (i := 0) true 0).sl
  have hln : ([] : List Fd).length = 0 := rfl
  by_cases c1 : l0.length > 3000
  · by_cases c2 : m < 0
    · refine vI ?_; repeat' (first
      | with_reducible first | refine Nx.h ?_ | (refine hK _ _ ?_; clear hK K)
      | ((with_reducible refine q_eo ?_ ?_); exact rfl)
      | ((with_reducible first | refine vO ?_ | (refine Ny.h ?_; intro K hK) | (refine c_drw (by decide +kernel) ?_; intro K hK) | refine c_cond ?_ | show endW _ _ _ _ _ | (refine Nz.h ?_ ?_ <;> intro _) | fail) <;> try simp (disch := first | exact dz | fail) only [go_sem, i_0, i_1, i_2, i_3, i_4, i_5, i_6, i_7, i_8, n_0, n_1, n_2, n_3, n_4, n_5, reduceCtorEq, reduceIte, e0, e1, e2]))
      refine callM_of (dblock d p 0 0 (a0.part 0 3000) ((l0.drop (0 : Int).toNat).take ((3000 : Int).toNat - (0 : Int).toNat)) 0 rdN h2 dc hl1 (by rw [List.length_take]; omega) (by omega) (fun h _ => (hs0.any h 0).part (lo := 0) (hi := 3000) (by omega) (by omega) (by omega))) ?_
      generalize dBlk 0 (rd0 rdN ((l0.drop (0 : Int).toNat).take ((3000 : Int).toNat - (0 : Int).toNat))) = R
      obtain ⟨e, sR⟩ := R
      rintro v h3 ⟨(⟨hR, o', j', i', rfl, -, -, -, -, -⟩ | ⟨hR, rfl, x, y, z, g3⟩), bt⟩
      · simp only at hR
        subst hR
        refine vI ?_; repeat' (first
      | with_reducible first | refine Nx.h ?_ | (refine hK _ _ ?_; clear hK K)
      | ((with_reducible refine q_eo ?_ ?_); exact rfl)
      | ((with_reducible first | refine vO ?_ | (refine Ny.h ?_; intro K hK) | (refine c_drw (by decide +kernel) ?_; intro K hK) | refine c_cond ?_ | show endW _ _ _ _ _ | (refine Nz.h ?_ ?_ <;> intro _) | fail) <;> try simp (disch := first | exact dz | fail) only [go_sem, i_0, i_1, i_2, i_3, i_4, i_5, i_6, i_7, i_8, n_0, n_1, n_2, n_3, n_4, n_5, reduceCtorEq, reduceIte, e0, e1, e2]))
      · have z3 := bt.1
        simp only at hR
        refine vI ?_; repeat' (first
      | with_reducible first | refine Nx.h ?_ | (refine hK _ _ ?_; clear hK K)
      | ((with_reducible refine q_eo ?_ ?_); exact rfl)
      | ((with_reducible first | refine vO ?_ | (refine Ny.h ?_; intro K hK) | (refine c_drw (by decide +kernel) ?_; intro K hK) | refine c_cond ?_ | show endW _ _ _ _ _ | (refine Nz.h ?_ ?_ <;> intro _) | fail) <;> try simp (disch := first | exact dz | fail) only [go_sem, i_0, i_1, i_2, i_3, i_4, i_5, i_6, i_7, i_8, n_0, n_1, n_2, n_3, n_4, n_5, reduceCtorEq, reduceIte, e0, e1, e2]))
        refine callM_of (dbroken d a1 x y z 0 h3 g3 (by omega)) ?_
        rintro v h4 ⟨rfl, rfl⟩
        refine vI ?_; repeat' (first
      | with_reducible first | refine Nx.h ?_ | (refine hK _ _ ?_; clear hK K)
      | ((with_reducible refine q_eo ?_ ?_); exact rfl)
      | ((with_reducible first | refine vO ?_ | (refine Ny.h ?_; intro K hK) | (refine c_drw (by decide +kernel) ?_; intro K hK) | refine c_cond ?_ | show endW _ _ _ _ _ | (refine Nz.h ?_ ?_ <;> intro _) | fail) <;> try simp (disch := first | exact dz | fail) only [go_sem, i_0, i_1, i_2, i_3, i_4, i_5, i_6, i_7, i_8, n_0, n_1, n_2, n_3, n_4, n_5, reduceCtorEq, reduceIte, e0, e1, e2]))
        refine callM_of (dbroken d _ x y z 1000 _ (by rw [AH.get_push, if_neg (by omega)]; exact g3) (by omega)) ?_
        rintro v h5 ⟨rfl, rfl⟩
        refine vI ?_; repeat' (first
      | with_reducible first | refine Nx.h ?_ | (refine hK _ _ ?_; clear hK K)
      | ((with_reducible refine q_eo ?_ ?_); exact rfl)
      | ((with_reducible first | refine vO ?_ | (refine Ny.h ?_; intro K hK) | (refine c_drw (by decide +kernel) ?_; intro K hK) | refine c_cond ?_ | show endW _ _ _ _ _ | (refine Nz.h ?_ ?_ <;> intro _) | fail) <;> try simp (disch := first | exact dz | fail) only [go_sem, i_0, i_1, i_2, i_3, i_4, i_5, i_6, i_7, i_8, n_0, n_1, n_2, n_3, n_4, n_5, reduceCtorEq, reduceIte, e0, e1, e2, hln]))
    · refine vI ?_; repeat' (first
      | with_reducible first | refine Nx.h ?_ | (refine hK _ _ ?_; clear hK K)
      | ((with_reducible refine q_eo ?_ ?_); exact rfl)
      | ((with_reducible first | refine vO ?_ | (refine Ny.h ?_; intro K hK) | (refine c_drw (by decide +kernel) ?_; intro K hK) | refine c_cond ?_ | show endW _ _ _ _ _ | (refine Nz.h ?_ ?_ <;> intro _) | fail) <;> try simp (disch := first | exact dz | fail) only [go_sem, i_0, i_1, i_2, i_3, i_4, i_5, i_6, i_7, i_8, n_0, n_1, n_2, n_3, n_4, n_5, reduceCtorEq, reduceIte, e0, e1, e2]))
      refine callM_of (dblock d p 0 0 (a0.part 0 3000) ((l0.drop (0 : Int).toNat).take ((3000 : Int).toNat - (0 : Int).toNat)) m rdN h2 dc hl1 (by rw [List.length_take]; omega) (by omega) (fun h _ => (hs0.any h 0).part (lo := 0) (hi := 3000) (by omega) (by omega) (by omega))) ?_
      generalize dBlk m (rd0 rdN ((l0.drop (0 : Int).toNat).take ((3000 : Int).toNat - (0 : Int).toNat))) = R
      obtain ⟨e, sR⟩ := R
      rintro v h3 ⟨(⟨hR, o', j', i', rfl, -, -, -, -, -⟩ | ⟨hR, rfl, x, y, z, g3⟩), bt⟩
      · simp only at hR
        subst hR
        refine vI ?_; repeat' (first
      | with_reducible first | refine Nx.h ?_ | (refine hK _ _ ?_; clear hK K)
      | ((with_reducible refine q_eo ?_ ?_); exact rfl)
      | ((with_reducible first | refine vO ?_ | (refine Ny.h ?_; intro K hK) | (refine c_drw (by decide +kernel) ?_; intro K hK) | refine c_cond ?_ | show endW _ _ _ _ _ | (refine Nz.h ?_ ?_ <;> intro _) | fail) <;> try simp (disch := first | exact dz | fail) only [go_sem, i_0, i_1, i_2, i_3, i_4, i_5, i_6, i_7, i_8, n_0, n_1, n_2, n_3, n_4, n_5, reduceCtorEq, reduceIte, e0, e1, e2]))
      · have z3 := bt.1
        simp only at hR
        refine vI ?_; repeat' (first
      | with_reducible first | refine Nx.h ?_ | (refine hK _ _ ?_; clear hK K)
      | ((with_reducible refine q_eo ?_ ?_); exact rfl)
      | ((with_reducible first | refine vO ?_ | (refine Ny.h ?_; intro K hK) | (refine c_drw (by decide +kernel) ?_; intro K hK) | refine c_cond ?_ | show endW _ _ _ _ _ | (refine Nz.h ?_ ?_ <;> intro _) | fail) <;> try simp (disch := first | exact dz | fail) only [go_sem, i_0, i_1, i_2, i_3, i_4, i_5, i_6, i_7, i_8, n_0, n_1, n_2, n_3, n_4, n_5, reduceCtorEq, reduceIte, e0, e1, e2]))
        refine callM_of (dbroken d a1 x y z m h3 g3 (by omega)) ?_
        rintro v h4 ⟨rfl, rfl⟩
        refine vI ?_; repeat' (first
      | with_reducible first | refine Nx.h ?_ | (refine hK _ _ ?_; clear hK K)
      | ((with_reducible refine q_eo ?_ ?_); exact rfl)
      | ((with_reducible first | refine vO ?_ | (refine Ny.h ?_; intro K hK) | (refine c_drw (by decide +kernel) ?_; intro K hK) | refine c_cond ?_ | show endW _ _ _ _ _ | (refine Nz.h ?_ ?_ <;> intro _) | fail) <;> try simp (disch := first | exact dz | fail) only [go_sem, i_0, i_1, i_2, i_3, i_4, i_5, i_6, i_7, i_8, n_0, n_1, n_2, n_3, n_4, n_5, reduceCtorEq, reduceIte, e0, e1, e2]))
        refine callM_of (dbroken d _ x y z 1000 _ (by rw [AH.get_push, if_neg (by omega)]; exact g3) (by omega)) ?_
        rintro v h5 ⟨rfl, rfl⟩
        refine vI ?_; repeat' (first
      | with_reducible first | refine Nx.h ?_ | (refine hK _ _ ?_; clear hK K)
      | ((with_reducible refine q_eo ?_ ?_); exact rfl)
      | ((with_reducible first | refine vO ?_ | (refine Ny.h ?_; intro K hK) | (refine c_drw (by decide +kernel) ?_; intro K hK) | refine c_cond ?_ | show endW _ _ _ _ _ | (refine Nz.h ?_ ?_ <;> intro _) | fail) <;> try simp (disch := first | exact dz | fail) only [go_sem, i_0, i_1, i_2, i_3, i_4, i_5, i_6, i_7, i_8, n_0, n_1, n_2, n_3, n_4, n_5, reduceCtorEq, reduceIte, e0, e1, e2, hln]))
  · by_cases c2 : m < 0
    · refine vI ?_; repeat' (first
      | with_reducible first | refine Nx.h ?_ | (refine hK _ _ ?_; clear hK K)
      | ((with_reducible refine q_eo ?_ ?_); exact rfl)
      | ((with_reducible first | refine vO ?_ | (refine Ny.h ?_; intro K hK) | (refine c_drw (by decide +kernel) ?_; intro K hK) | refine c_cond ?_ | show endW _ _ _ _ _ | (refine Nz.h ?_ ?_ <;> intro _) | fail) <;> try simp (disch := first | exact dz | fail) only [go_sem, i_0, i_1, i_2, i_3, i_4, i_5, i_6, i_7, i_8, n_0, n_1, n_2, n_3, n_4, n_5, reduceCtorEq, reduceIte, e0, e1, e2]))
      refine callM_of (dblock d p 0 0 a0 l0 0 rdN h2 dc hl1 (by omega) (by omega) (fun h _ => hs0.any h 0)) ?_
      generalize dBlk 0 (rd0 rdN l0) = R
      obtain ⟨e, sR⟩ := R
      rintro v h3 ⟨(⟨hR, o', j', i', rfl, -, -, -, -, -⟩ | ⟨hR, rfl, x, y, z, g3⟩), bt⟩
      · simp only at hR
        subst hR
        refine vI ?_; repeat' (first
      | with_reducible first | refine Nx.h ?_ | (refine hK _ _ ?_; clear hK K)
      | ((with_reducible refine q_eo ?_ ?_); exact rfl)
      | ((with_reducible first | refine vO ?_ | (refine Ny.h ?_; intro K hK) | (refine c_drw (by decide +kernel) ?_; intro K hK) | refine c_cond ?_ | show endW _ _ _ _ _ | (refine Nz.h ?_ ?_ <;> intro _) | fail) <;> try simp (disch := first | exact dz | fail) only [go_sem, i_0, i_1, i_2, i_3, i_4, i_5, i_6, i_7, i_8, n_0, n_1, n_2, n_3, n_4, n_5, reduceCtorEq, reduceIte, e0, e1, e2]))
      · have z3 := bt.1
        simp only at hR
        refine vI ?_; repeat' (first
      | with_reducible first | refine Nx.h ?_ | (refine hK _ _ ?_; clear hK K)
      | ((with_reducible refine q_eo ?_ ?_); exact rfl)
      | ((with_reducible first | refine vO ?_ | (refine Ny.h ?_; intro K hK) | (refine c_drw (by decide +kernel) ?_; intro K hK) | refine c_cond ?_ | show endW _ _ _ _ _ | (refine Nz.h ?_ ?_ <;> intro _) | fail) <;> try simp (disch := first | exact dz | fail) only [go_sem, i_0, i_1, i_2, i_3, i_4, i_5, i_6, i_7, i_8, n_0, n_1, n_2, n_3, n_4, n_5, reduceCtorEq, reduceIte, e0, e1, e2]))
        refine callM_of (dbroken d a1 x y z 0 h3 g3 (by omega)) ?_
        rintro v h4 ⟨rfl, rfl⟩
        refine vI ?_; repeat' (first
      | with_reducible first | refine Nx.h ?_ | (refine hK _ _ ?_; clear hK K)
      | ((with_reducible refine q_eo ?_ ?_); exact rfl)
      | ((with_reducible first | refine vO ?_ | (refine Ny.h ?_; intro K hK) | (refine c_drw (by decide +kernel) ?_; intro K hK) | refine c_cond ?_ | show endW _ _ _ _ _ | (refine Nz.h ?_ ?_ <;> intro _) | fail) <;> try simp (disch := first | exact dz | fail) only [go_sem, i_0, i_1, i_2, i_3, i_4, i_5, i_6, i_7, i_8, n_0, n_1, n_2, n_3, n_4, n_5, reduceCtorEq, reduceIte, e0, e1, e2]))
        refine callM_of (dbroken d _ x y z 1000 _ (by rw [AH.get_push, if_neg (by omega)]; exact g3) (by omega)) ?_
        rintro v h5 ⟨rfl, rfl⟩
        refine vI ?_; repeat' (first
      | with_reducible first | refine Nx.h ?_ | (refine hK _ _ ?_; clear hK K)
      | ((with_reducible refine q_eo ?_ ?_); exact rfl)
      | ((with_reducible first | refine vO ?_ | (refine Ny.h ?_; intro K hK) | (refine c_drw (by decide +kernel) ?_; intro K hK) | refine c_cond ?_ | show endW _ _ _ _ _ | (refine Nz.h ?_ ?_ <;> intro _) | fail) <;> try simp (disch := first | exact dz | fail) only [go_sem, i_0, i_1, i_2, i_3, i_4, i_5, i_6, i_7, i_8, n_0, n_1, n_2, n_3, n_4, n_5, reduceCtorEq, reduceIte, e0, e1, e2, hln]))
    · refine vI ?_; repeat' (first
      | with_reducible first | refine Nx.h ?_ | (refine hK _ _ ?_; clear hK K)
      | ((with_reducible refine q_eo ?_ ?_); exact rfl)
      | ((with_reducible first | refine vO ?_ | (refine Ny.h ?_; intro K hK) | (refine c_drw (by decide +kernel) ?_; intro K hK) | refine c_cond ?_ | show endW _ _ _ _ _ | (refine Nz.h ?_ ?_ <;> intro _) | fail) <;> try simp (disch := first | exact dz | fail) only [go_sem, i_0, i_1, i_2, i_3, i_4, i_5, i_6, i_7, i_8, n_0, n_1, n_2, n_3, n_4, n_5, reduceCtorEq, reduceIte, e0, e1, e2]))
      refine callM_of (dblock d p 0 0 a0 l0 m rdN h2 dc hl1 (by omega) (by omega) (fun h _ => hs0.any h 0)) ?_
      generalize dBlk m (rd0 rdN l0) = R
      obtain ⟨e, sR⟩ := R
      rintro v h3 ⟨(⟨hR, o', j', i', rfl, -, -, -, -, -⟩ | ⟨hR, rfl, x, y, z, g3⟩), bt⟩
      · simp only at hR
        subst hR
        refine vI ?_; repeat' (first
      | with_reducible first | refine Nx.h ?_ | (refine hK _ _ ?_; clear hK K)
      | ((with_reducible refine q_eo ?_ ?_); exact rfl)
      | ((with_reducible first | refine vO ?_ | (refine Ny.h ?_; intro K hK) | (refine c_drw (by decide +kernel) ?_; intro K hK) | refine c_cond ?_ | show endW _ _ _ _ _ | (refine Nz.h ?_ ?_ <;> intro _) | fail) <;> try simp (disch := first | exact dz | fail) only [go_sem, i_0, i_1, i_2, i_3, i_4, i_5, i_6, i_7, i_8, n_0, n_1, n_2, n_3, n_4, n_5, reduceCtorEq, reduceIte, e0, e1, e2]))
      · have z3 := bt.1
        simp only at hR
        refine vI ?_; repeat' (first
      | with_reducible first | refine Nx.h ?_ | (refine hK _ _ ?_; clear hK K)
      | ((with_reducible refine q_eo ?_ ?_); exact rfl)
      | ((with_reducible first | refine vO ?_ | (refine Ny.h ?_; intro K hK) | (refine c_drw (by decide +kernel) ?_; intro K hK) | refine c_cond ?_ | show endW _ _ _ _ _ | (refine Nz.h ?_ ?_ <;> intro _) | fail) <;> try simp (disch := first | exact dz | fail) only [go_sem, i_0, i_1, i_2, i_3, i_4, i_5, i_6, i_7, i_8, n_0, n_1, n_2, n_3, n_4, n_5, reduceCtorEq, reduceIte, e0, e1, e2]))
        refine callM_of (dbroken d a1 x y z m h3 g3 (by omega)) ?_
        rintro v h4 ⟨rfl, rfl⟩
        refine vI ?_; repeat' (first
      | with_reducible first | refine Nx.h ?_ | (refine hK _ _ ?_; clear hK K)
      | ((with_reducible refine q_eo ?_ ?_); exact rfl)
      | ((with_reducible first | refine vO ?_ | (refine Ny.h ?_; intro K hK) | (refine c_drw (by decide +kernel) ?_; intro K hK) | refine c_cond ?_ | show endW _ _ _ _ _ | (refine Nz.h ?_ ?_ <;> intro _) | fail) <;> try simp (disch := first | exact dz | fail) only [go_sem, i_0, i_1, i_2, i_3, i_4, i_5, i_6, i_7, i_8, n_0, n_1, n_2, n_3, n_4, n_5, reduceCtorEq, reduceIte, e0, e1, e2]))
        refine callM_of (dbroken d _ x y z 1000 _ (by rw [AH.get_push, if_neg (by omega)]; exact g3) (by omega)) ?_
        rintro v h5 ⟨rfl, rfl⟩
        refine vI ?_; repeat' (first
      | with_reducible first | refine Nx.h ?_ | (refine hK _ _ ?_; clear hK K)
      | ((with_reducible refine q_eo ?_ ?_); exact rfl)
      | ((with_reducible first | refine vO ?_ | (refine Ny.h ?_; intro K hK) | (refine c_drw (by decide +kernel) ?_; intro K hK) | refine c_cond ?_ | show endW _ _ _ _ _ | (refine Nz.h ?_ ?_ <;> intro _) | fail) <;> try simp (disch := first | exact dz | fail) only [go_sem, i_0, i_1, i_2, i_3, i_4, i_5, i_6, i_7, i_8, n_0, n_1, n_2, n_3, n_4, n_5, reduceCtorEq, reduceIte, e0, e1, e2, hln]))
theorem lifted10 (os : Os) (started : os.Started) (H : Type) (enc : TypeId × Value → H) :
    ReturnsInHanded {} Try.checked os 10 .any (Rows.unpackBrokenSpec.pre6 enc Try.prog Try.f10 Rows.unpackBrokenRow.domain false) (Rows.unpackBrokenSpec.post enc Try.prog Try.f10 false true false false) := by
  refine returnsInHanded_of_change (C := Try.checked) own started (by kernel_rfl) Try.func10
    (ChangeSpec.witness6 (enc := enc) (C := Try.checked) false ⟨#[], #[.slice none 0 0, .slice none 0 0, .int .i64 0], []⟩ 8 (by kernel_rfl) (by kernel_rfl) (by kernel_rfl) (by kernel_rfl)) ?_
  intro W base args ds gs before hval hW _ _
  have hW' := hW
  obtain ⟨p, q, hA0, hV, rfl, _, _⟩ := hW
  have hA : DataW.TrodAll enc Try.prog W 0 (fun _ => true) true Try.f10.params.toList args.toList ds p := hA0
  rw [Try.params10] at hA hval
  obtain ⟨v0, vs0, d0, ds0, p0, q0, hargs, rfl, rfl, k0, r0⟩ := trodAll_cons hA
  obtain ⟨v1, vs1, d1, ds1, p1, q1, rfl, rfl, rfl, k1, r1⟩ := trodAll_cons r0
  obtain ⟨v2, vs2, d2, ds2, p2, q2, rfl, rfl, rfl, k2, r2⟩ := trodAll_cons r1
  obtain ⟨rfl, rfl, rfl⟩ := trodAll_nil r2
  obtain rfl : args = #[v0, v1, v2] := by cases args; simp_all
  obtain ⟨rfl, rfl⟩ := trodVars_none hV
  obtain ⟨a0, w0, D0, g0, s0⟩ := arg_read tok (n := 2) (by rfl) (hval 0 33 v0 rfl rfl) k0
  rw [s0 (by rfl)] at D0
  obtain ⟨a1, w1, D1, g1, s1⟩ := arg_read tok (n := 2) (by rfl) (hval 1 33 v1 rfl rfl) k1
  rw [s1 (by rfl)] at D1
  obtain ⟨a2, w2, D2, g2, s2⟩ := arg_read tok (n := 1) (by rfl) (hval 2 3 v2 rfl rfl) k2
  rw [s2 (by rfl)] at D2
  obtain ⟨n, h', hr⟩ := callW_run (brokenRun a0 a1 a2 D0 D1 D2)
  refine (calls_true mixed tok fok hr (.cons _ _ _ _ w0 (.cons _ _ _ _ w1 (.cons _ _ _ _ w2 .nil)))).mono ?_
  rintro e W' ⟨rfl, hb⟩
  exact ⟨_, rfl, post_true laidOut (by kernel_rfl) (by kernel_rfl) Try.underlying4 rfl hW' rfl hb⟩
theorem unpackBroken : Rows.UnpackBrokenSaid :=
  OpenClaim.holds_of_wide 10 Try.f10 rfl rfl rfl rfl rfl rfl rfl ⟨rfl, rfl, rfl, rfl, rfl⟩ rfl rfl rfl rfl rfl (by kernel_rfl) Try.func10 (by kernel_rfl)
    (of_decide_eq_true (by kernel_rfl)) (by unfold Func.isWrapper; first | (rw [if_pos (by decide +kernel)]; kernel_rfl) | (rw [if_neg (by decide +kernel)]; exact ⟨rfl, rfl⟩))
    (fun os started H enc _ => lifted10 os started H enc)
#print axioms unpackBroken
end Go.Proofs.Ytmpeofjfagdgkaa
