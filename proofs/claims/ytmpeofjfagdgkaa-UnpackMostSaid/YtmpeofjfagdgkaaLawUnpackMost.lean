/- 'UnpackMost' is true for every list of fields and every number: no conditions. What is told is a front of the list, as long as may be; the table is kept up by all. -/
import Derived.Test.YtmpeofjfagdgkaaUpBack3
set_option linter.unusedSimpArgs false
set_option linter.unusedVariables false
namespace Go.Proofs.Ytmpeofjfagdgkaa
open Go.Abs Go.RowKit Go.ChangeShapes
open Int renaming reduceEq → i_0, reduceLE → i_1, reduceLT → i_2, reduceNe → i_3, reduceNeg → i_4, reduceAdd → i_5, reduceSub → i_6, reduceMul → i_7, reduceToNat → i_8
open Nat renaming reduceLT → n_0, reduceLeDiff → n_1, reduceEqDiff → n_2, reduceAdd → n_3, reduceSub → n_4, reduceMul → n_5
set_option maxRecDepth 100000
theorem szs_tk (l : List Fd) (k : Nat) : szs (l.take k) ≤ szs l := by
  have h1 := szs_app (l.take k) (l.drop k)
  rw [List.take_append_drop] at h1
  have h2 := szs_nn (l.drop k)
  omega
set_option maxHeartbeats 8000000 in
theorem mostRun (a0 a1 : AV) (D0 : DatZ Try.T 3 28 [a0]) (D1 : DatZ Try.T 1 3 [a1]) : callW Try.prog Try.T 13 [a0, a1] AH.empty fun v _ => v = .bool true := by
  obtain ⟨fs, hs0, lf⟩ := dat_fieldsZ (n := 0) (i := 0) D0
  obtain ⟨m, rfl, hmm⟩ := datB_int rfl D1
  refine callW_in (n := 113) (rs := [.tmp 4]) (m := 113) Try.func13 rfl rfl rfl rfl fun tr ht => ?_; have e0 := ht 0 _ rfl; have e1 := ht 1 _ rfl; clear ht
  repeat' (first
      | with_reducible first | refine Nx.h ?_ | (refine hK _ _ ?_; clear hK K)
      | ((with_reducible refine q_eo ?_ ?_); exact rfl)
      | ((with_reducible first | (refine Ny.h ?_; intro K hK) | (refine c_drw (by decide +kernel) ?_; intro K hK) | refine c_cond ?_ | show endW _ _ _ _ _ | (refine Nz.h ?_ ?_ <;> intro _) | fail) <;> try simp (disch := first | exact dz | fail) only [go_sem, i_0, i_1, i_2, i_3, i_4, i_5, i_6, i_7, i_8, n_0, n_1, n_2, n_3, n_4, n_5, reduceCtorEq, reduceIte, e0, e1]))
  refine callM_of (begun6 (K := fun v h => v = .bool true ∧ 3 < h.size) (fun h hh => ⟨rfl, hh⟩)) ?_
  rintro v h1 ⟨rfl, z1⟩
  refine vI ?_; repeat' (first
      | with_reducible first | refine Nx.h ?_ | (refine hK _ _ ?_; clear hK K)
      | ((with_reducible refine q_eo ?_ ?_); exact rfl)
      | ((with_reducible first | refine vO ?_ | (refine Ny.h ?_; intro K hK) | (refine c_drw (by decide +kernel) ?_; intro K hK) | refine c_cond ?_ | show endW _ _ _ _ _ | (refine Nz.h ?_ ?_ <;> intro _) | fail) <;> try simp (disch := first | exact dz | fail) only [go_sem, i_0, i_1, i_2, i_3, i_4, i_5, i_6, i_7, i_8, n_0, n_1, n_2, n_3, n_4, n_5, reduceCtorEq, reduceIte, e0, e1]))
  refine callM_of (pnew 0 h1 (by omega)) ?_
  rintro v h2 ⟨e, p, rfl, he, hp, hes, hps, hc2, k2⟩
  have z2 := k2.1
  refine vI ?_; repeat' (first
      | with_reducible first | refine Nx.h ?_ | (refine hK _ _ ?_; clear hK K)
      | ((with_reducible refine q_eo ?_ ?_); exact rfl)
      | ((with_reducible first | refine vO ?_ | (refine Ny.h ?_; intro K hK) | (refine c_drw (by decide +kernel) ?_; intro K hK) | refine c_cond ?_ | show endW _ _ _ _ _ | (refine Nz.h ?_ ?_ <;> intro _) | fail) <;> try simp (disch := first | exact dz | fail) only [go_sem, i_0, i_1, i_2, i_3, i_4, i_5, i_6, i_7, i_8, n_0, n_1, n_2, n_3, n_4, n_5, reduceCtorEq, reduceIte, e0, e1]))
  refine callM_of (unew 2 h2 (by omega)) ?_
  rintro v h4 ⟨d2, p2, rfl, hd2, hp2, hd2s, hp2s, D5, k4⟩
  have z4 := k4.1
  have E5 : EnC h4 e p 0 en0 := hc2.frame (fun b hb _ => k4.2 b hb) (by omega)
  clear hc2 k2 k4
  by_cases c0 : m < 0
  · refine vI ?_; repeat' (first
      | with_reducible first | refine Nx.h ?_ | (refine hK _ _ ?_; clear hK K)
      | ((with_reducible refine q_eo ?_ ?_); exact rfl)
      | ((with_reducible first | refine vO ?_ | (refine Ny.h ?_; intro K hK) | (refine c_drw (by decide +kernel) ?_; intro K hK) | refine c_cond ?_ | show endW _ _ _ _ _ | (refine Nz.h ?_ ?_ <;> intro _) | fail) <;> try simp (disch := first | exact dz | fail) only [go_sem, i_0, i_1, i_2, i_3, i_4, i_5, i_6, i_7, i_8, n_0, n_1, n_2, n_3, n_4, n_5, reduceCtorEq, reduceIte, e0, e1]))
  · refine vI ?_; repeat' (first
      | with_reducible first | refine Nx.h ?_ | (refine hK _ _ ?_; clear hK K)
      | ((with_reducible refine q_eo ?_ ?_); exact rfl)
      | ((with_reducible first | refine vO ?_ | (refine Ny.h ?_; intro K hK) | (refine c_drw (by decide +kernel) ?_; intro K hK) | refine c_cond ?_ | show endW _ _ _ _ _ | (refine Nz.h ?_ ?_ <;> intro _) | fail) <;> try simp (disch := first | exact dz | fail) only [go_sem, i_0, i_1, i_2, i_3, i_4, i_5, i_6, i_7, i_8, n_0, n_1, n_2, n_3, n_4, n_5, reduceCtorEq, reduceIte, e0, e1]))
    refine callM_of (block e p 0 0 a0 en0 fs h4 E5 en0_ok (by simp [en0]) lf (fun h _ _ => hs0.any h 0)) ?_
    rintro v h6 ⟨b, i, j, rfl, hi, E6, hj, hji, o6, b6⟩
    have z6 := b6.1
    have D6 : Dc h6 d2 p2 2 rdN := D5.frame (fun b hb hor => b6.2 b hb (by omega) (by omega) (by omega)) b6.1
    have iE := E6.is
    clear E5 D5 b6
    by_cases hE : blkE fs = 0
    · rw [hE]
      have hz := (blk_few hE).2.1
      have hlf := (blk_few hE).1
      refine vI ?_; repeat' (first
      | with_reducible first | refine Nx.h ?_ | (refine hK _ _ ?_; clear hK K)
      | ((with_reducible refine q_eo ?_ ?_); exact rfl)
      | ((with_reducible first | refine vO ?_ | (refine Ny.h ?_; intro K hK) | (refine c_drw (by decide +kernel) ?_; intro K hK) | refine c_cond ?_ | show endW _ _ _ _ _ | (refine Nz.h ?_ ?_ <;> intro _) | fail) <;> try simp (disch := first | exact dz | fail) only [go_sem, i_0, i_1, i_2, i_3, i_4, i_5, i_6, i_7, i_8, n_0, n_1, n_2, n_3, n_4, n_5, reduceCtorEq, reduceIte, e0, e1]))
      refine callM_of (dblock d2 p2 2 j b (blkB en0 fs) m rdN h6 D6 (by show 0 ≤ 500000; omega) (by have := blkB_le en0 fs; omega) (by omega) (fun h hb => (o6.frame (fun hs => hb.2 j hs (by omega) (by omega) (by omega)) hb.1).sl)) ?_
      obtain ⟨q1, q0, k, q2, q3, q4, q5, q6⟩ := blk_back (most := m) pair0 fs hE (by show 0 ≤ 900000; omega) (by omega)
      have q0l := q0.l
      clear q0
      generalize dBlk m (rd0 rdN (blkB en0 fs)) = R at *
      rintro v h7 ⟨(⟨-, o', j', i', rfl, w7, -, -, D7, -⟩ | ⟨hR, -⟩), b7⟩
      · have E7 : EnC h7 e p i (blkS en0 fs) := E6.frame (fun b hb hor => b7.2 b hb (by omega) (by omega) (by omega)) b7.1
        have hdh := dheld d2 p2 i' R.2 h7 D7
        rw [q0l] at hdh
        have heh := held e p i (blkS en0 fs) h7 E7
        have hlk : (fs.take k).length = k := by rw [List.length_take]; omega
        have sp : ∀ h (n : Nat), n ≤ fs.length → Sl EF h 0 (a0.part 0 (n : Int)) (fs.take n) := fun h n hn => by
          have := (hs0.any h 0).part (lo := 0) (hi := (n : Int)) (by omega) (by omega) (by omega)
          simpa using this
        have sk := sp h7 k q2
        have hk0 := szs_nn (fs.take k)
        have hkt := szs_tk fs k
        have hWk : W (szs (fs.take k)) = szs (fs.take k) := W_in (by omega) (by omega)
        rw [q3] at w7
        have s7 := w7.sl
        have sa := hs0.any h7 0
        have heq := eqFields o' (a0.part 0 (k : Int)) j' 0 (fs.take k) (fs.take k) h7 s7 sk (by omega)
        rw [show decide (fs.take k = fs.take k) = true from decide_eq_true rfl] at heq
        have hsz := rsizeF o' j' (fs.take k) h7 s7 (by omega)
        rw [hWk] at hsz
        clear D6 D7 E6 E7 o6 w7 b7
        generalize W (szs (blkS en0 fs).l) = hh at *
        by_cases hk : k < fs.length
        · have q4' : R.2.over = true := by rw [q4]; exact decide_eq_true hk
          have sk1 := sp h7 (k + 1) (by omega)
          have hkt1 := szs_tk fs (k + 1)
          have hk1 := q6 hk
          have hk10 := szs_nn (fs.take (k + 1))
          have hsz1 := rsizeF (a0.part 0 ((k + 1 : Nat) : Int)) 0 (fs.take (k + 1)) h7 sk1 (by rw [List.length_take]; omega)
          rw [W_in (x := szs (fs.take (k + 1))) (by omega) (by omega)] at hsz1
          have hk1c : ((k : Int) + 1) = ((k + 1 : Nat) : Int) := by push_cast; rfl
          clear q6 sp
          generalize fs.take (k + 1) = ys at *
          generalize fs.take k = xs at *
          rw [q4']
          refine vI ?_; repeat' (first
      | with_reducible first | refine Nx.h ?_ | (refine hK _ _ ?_; clear hK K)
      | ((with_reducible refine q_eo ?_ ?_); exact rfl)
      | ((with_reducible first | refine vO ?_ | (refine Ny.h ?_; intro K hK) | (refine c_drw (by decide +kernel) ?_; intro K hK) | refine c_cond ?_ | show endW _ _ _ _ _ | (refine Nz.h ?_ ?_ <;> intro _) | fail) <;> try simp (disch := first | exact dz | fail) only [go_sem, i_0, i_1, i_2, i_3, i_4, i_5, i_6, i_7, i_8, n_0, n_1, n_2, n_3, n_4, n_5, reduceCtorEq, reduceIte, e0, e1, hlk]))
          refine callM_of hdh ?_
          rintro v h8 ⟨rfl, rfl⟩
          refine vI ?_; repeat' (first
      | with_reducible first | refine Nx.h ?_ | (refine hK _ _ ?_; clear hK K)
      | ((with_reducible refine q_eo ?_ ?_); exact rfl)
      | ((with_reducible first | refine vO ?_ | (refine Ny.h ?_; intro K hK) | (refine c_drw (by decide +kernel) ?_; intro K hK) | refine c_cond ?_ | show endW _ _ _ _ _ | (refine Nz.h ?_ ?_ <;> intro _) | fail) <;> try simp (disch := first | exact dz | fail) only [go_sem, i_0, i_1, i_2, i_3, i_4, i_5, i_6, i_7, i_8, n_0, n_1, n_2, n_3, n_4, n_5, reduceCtorEq, reduceIte, e0, e1, hlk]))
          refine callM_of heh ?_
          rintro v h9 ⟨rfl, rfl⟩
          refine vI ?_; repeat' (first
      | with_reducible first | refine Nx.h ?_ | (refine hK _ _ ?_; clear hK K)
      | ((with_reducible refine q_eo ?_ ?_); exact rfl)
      | ((with_reducible first | refine vO ?_ | (refine Ny.h ?_; intro K hK) | (refine c_drw (by decide +kernel) ?_; intro K hK) | refine c_cond ?_ | show endW _ _ _ _ _ | (refine Nz.h ?_ ?_ <;> intro _) | fail) <;> try simp (disch := first | exact dz | fail) only [go_sem, i_0, i_1, i_2, i_3, i_4, i_5, i_6, i_7, i_8, n_0, n_1, n_2, n_3, n_4, n_5, reduceCtorEq, reduceIte, e0, e1, hlk]))
          refine callM_of heq ?_
          rintro v h9 ⟨rfl, rfl⟩
          refine vI ?_; repeat' (first
      | with_reducible first | refine Nx.h ?_ | (refine hK _ _ ?_; clear hK K)
      | ((with_reducible refine q_eo ?_ ?_); exact rfl)
      | ((with_reducible first | refine vO ?_ | (refine Ny.h ?_; intro K hK) | (refine c_drw (by decide +kernel) ?_; intro K hK) | refine c_cond ?_ | show endW _ _ _ _ _ | (refine Nz.h ?_ ?_ <;> intro _) | fail) <;> try simp (disch := first | exact dz | fail) only [go_sem, i_0, i_1, i_2, i_3, i_4, i_5, i_6, i_7, i_8, n_0, n_1, n_2, n_3, n_4, n_5, reduceCtorEq, reduceIte, e0, e1, hlk]))
          refine callM_of hsz ?_
          rintro v h9 ⟨rfl, rfl⟩
          refine vI ?_; repeat' (first
      | with_reducible first | refine Nx.h ?_ | (refine hK _ _ ?_; clear hK K)
      | ((with_reducible refine q_eo ?_ ?_); exact rfl)
      | ((with_reducible first | refine vO ?_ | (refine Ny.h ?_; intro K hK) | (refine c_drw (by decide +kernel) ?_; intro K hK) | refine c_cond ?_ | show endW _ _ _ _ _ | (refine Nz.h ?_ ?_ <;> intro _) | fail) <;> try simp (disch := first | exact dz | fail) only [go_sem, i_0, i_1, i_2, i_3, i_4, i_5, i_6, i_7, i_8, n_0, n_1, n_2, n_3, n_4, n_5, reduceCtorEq, reduceIte, e0, e1, hlk, hk1c]))
          refine callM_of hsz1 ?_
          rintro v h9 ⟨rfl, rfl⟩
          refine vI ?_; repeat' (first
      | with_reducible first | refine Nx.h ?_ | (refine hK _ _ ?_; clear hK K)
      | ((with_reducible refine q_eo ?_ ?_); exact rfl)
      | ((with_reducible first | refine vO ?_ | (refine Ny.h ?_; intro K hK) | (refine c_drw (by decide +kernel) ?_; intro K hK) | refine c_cond ?_ | show endW _ _ _ _ _ | (refine Nz.h ?_ ?_ <;> intro _) | fail) <;> try simp (disch := first | exact dz | fail) only [go_sem, i_0, i_1, i_2, i_3, i_4, i_5, i_6, i_7, i_8, n_0, n_1, n_2, n_3, n_4, n_5, reduceCtorEq, reduceIte, e0, e1, hlk]))
        · have q4' : R.2.over = false := by rw [q4]; exact decide_eq_false hk
          clear q6 sp
          generalize fs.take k = xs at *
          rw [q4']
          refine vI ?_; repeat' (first
      | with_reducible first | refine Nx.h ?_ | (refine hK _ _ ?_; clear hK K)
      | ((with_reducible refine q_eo ?_ ?_); exact rfl)
      | ((with_reducible first | refine vO ?_ | (refine Ny.h ?_; intro K hK) | (refine c_drw (by decide +kernel) ?_; intro K hK) | refine c_cond ?_ | show endW _ _ _ _ _ | (refine Nz.h ?_ ?_ <;> intro _) | fail) <;> try simp (disch := first | exact dz | fail) only [go_sem, i_0, i_1, i_2, i_3, i_4, i_5, i_6, i_7, i_8, n_0, n_1, n_2, n_3, n_4, n_5, reduceCtorEq, reduceIte, e0, e1, hlk]))
          refine callM_of hdh ?_
          rintro v h8 ⟨rfl, rfl⟩
          refine vI ?_; repeat' (first
      | with_reducible first | refine Nx.h ?_ | (refine hK _ _ ?_; clear hK K)
      | ((with_reducible refine q_eo ?_ ?_); exact rfl)
      | ((with_reducible first | refine vO ?_ | (refine Ny.h ?_; intro K hK) | (refine c_drw (by decide +kernel) ?_; intro K hK) | refine c_cond ?_ | show endW _ _ _ _ _ | (refine Nz.h ?_ ?_ <;> intro _) | fail) <;> try simp (disch := first | exact dz | fail) only [go_sem, i_0, i_1, i_2, i_3, i_4, i_5, i_6, i_7, i_8, n_0, n_1, n_2, n_3, n_4, n_5, reduceCtorEq, reduceIte, e0, e1, hlk]))
          refine callM_of heh ?_
          rintro v h9 ⟨rfl, rfl⟩
          refine vI ?_; repeat' (first
      | with_reducible first | refine Nx.h ?_ | (refine hK _ _ ?_; clear hK K)
      | ((with_reducible refine q_eo ?_ ?_); exact rfl)
      | ((with_reducible first | refine vO ?_ | (refine Ny.h ?_; intro K hK) | (refine c_drw (by decide +kernel) ?_; intro K hK) | refine c_cond ?_ | show endW _ _ _ _ _ | (refine Nz.h ?_ ?_ <;> intro _) | fail) <;> try simp (disch := first | exact dz | fail) only [go_sem, i_0, i_1, i_2, i_3, i_4, i_5, i_6, i_7, i_8, n_0, n_1, n_2, n_3, n_4, n_5, reduceCtorEq, reduceIte, e0, e1, hlk]))
          refine callM_of heq ?_
          rintro v h9 ⟨rfl, rfl⟩
          refine vI ?_; repeat' (first
      | with_reducible first | refine Nx.h ?_ | (refine hK _ _ ?_; clear hK K)
      | ((with_reducible refine q_eo ?_ ?_); exact rfl)
      | ((with_reducible first | refine vO ?_ | (refine Ny.h ?_; intro K hK) | (refine c_drw (by decide +kernel) ?_; intro K hK) | refine c_cond ?_ | show endW _ _ _ _ _ | (refine Nz.h ?_ ?_ <;> intro _) | fail) <;> try simp (disch := first | exact dz | fail) only [go_sem, i_0, i_1, i_2, i_3, i_4, i_5, i_6, i_7, i_8, n_0, n_1, n_2, n_3, n_4, n_5, reduceCtorEq, reduceIte, e0, e1, hlk]))
          refine callM_of hsz ?_
          rintro v h9 ⟨rfl, rfl⟩
          refine vI ?_; repeat' (first
      | with_reducible first | refine Nx.h ?_ | (refine hK _ _ ?_; clear hK K)
      | ((with_reducible refine q_eo ?_ ?_); exact rfl)
      | ((with_reducible first | refine vO ?_ | (refine Ny.h ?_; intro K hK) | (refine c_drw (by decide +kernel) ?_; intro K hK) | refine c_cond ?_ | show endW _ _ _ _ _ | (refine Nz.h ?_ ?_ <;> intro _) | fail) <;> try simp (disch := first | exact dz | fail) only [go_sem, i_0, i_1, i_2, i_3, i_4, i_5, i_6, i_7, i_8, n_0, n_1, n_2, n_3, n_4, n_5, reduceCtorEq, reduceIte, e0, e1, hlk]))
      · exact absurd q1 hR
    · refine vI ?_; repeat' (first
      | with_reducible first | refine Nx.h ?_ | (refine hK _ _ ?_; clear hK K)
      | ((with_reducible refine q_eo ?_ ?_); exact rfl)
      | ((with_reducible first | refine vO ?_ | (refine Ny.h ?_; intro K hK) | (refine c_drw (by decide +kernel) ?_; intro K hK) | refine c_cond ?_ | show endW _ _ _ _ _ | (refine Nz.h ?_ ?_ <;> intro _) | fail) <;> try simp (disch := first | exact dz | fail) only [go_sem, i_0, i_1, i_2, i_3, i_4, i_5, i_6, i_7, i_8, n_0, n_1, n_2, n_3, n_4, n_5, reduceCtorEq, reduceIte, e0, e1]))
theorem lifted13 (os : Os) (started : os.Started) (H : Type) (enc : TypeId × Value → H) :
    ReturnsInHanded {} Try.checked os 13 .any (Rows.unpackMostSpec.pre6 enc Try.prog Try.f13 Rows.unpackMostRow.domain false) (Rows.unpackMostSpec.post enc Try.prog Try.f13 false true false false) := by
  refine returnsInHanded_of_change_sized (C := Try.checked) own started (by kernel_rfl) Try.func13
    (ChangeSpec.witness6 (enc := enc) (C := Try.checked) false ⟨#[], #[.slice none 0 0, .int .i64 0], []⟩ 8 (by kernel_rfl) (by kernel_rfl) (by kernel_rfl) (by kernel_rfl)) ?_
  intro W base args ds gs before hval hW _ hz _
  have hW' := hW
  obtain ⟨p, q, hA0, hV, rfl, _, _⟩ := hW
  have hA : DataW.TrodAll enc Try.prog W 0 (fun _ => true) true Try.f13.params.toList args.toList ds p := hA0
  rw [Try.params13] at hA hval
  obtain ⟨v0, vs0, d0, ds0, p0, q0, hargs, rfl, rfl, k0, r0⟩ := trodAll_cons hA
  obtain ⟨v1, vs1, d1, ds1, p1, q1, rfl, rfl, rfl, k1, r1⟩ := trodAll_cons r0
  obtain ⟨rfl, rfl, rfl⟩ := trodAll_nil r1
  obtain rfl : args = #[v0, v1] := by cases args; simp_all
  obtain ⟨rfl, rfl⟩ := trodVars_none hV
  have hz0 : (DataW.weightsEach Try.prog [28, 3] [d0, d1]).all (· ≤ reachBytes) = true := hz
  obtain ⟨z0, hz1⟩ := reach_hd hz0
  obtain ⟨z1, hz2⟩ := reach_hd hz1
  obtain ⟨a0, w0, D0, g0, s0⟩ := arg_readB tok cl_reach (n := 3) (by rfl) (hval 0 28 v0 rfl rfl) z0 k0
  rw [s0 (by rfl)] at D0
  obtain ⟨a1, w1, D1, g1, s1⟩ := arg_readB tok cl_reach (n := 1) (by rfl) (hval 1 3 v1 rfl rfl) z1 k1
  rw [s1 (by rfl)] at D1
  obtain ⟨n, h', hr⟩ := callW_run (mostRun a0 a1 D0 D1)
  refine (calls_true mixed tok fok hr (.cons _ _ _ _ w0 (.cons _ _ _ _ w1 .nil))).mono ?_
  rintro e W' ⟨rfl, hb⟩
  exact ⟨_, rfl, post_true laidOut (by kernel_rfl) (by kernel_rfl) Try.underlying4 rfl hW' rfl hb⟩
theorem unpackMost : Rows.UnpackMostSaid :=
  OpenClaim.holds_of_wide 13 Try.f13 rfl rfl rfl rfl rfl rfl rfl ⟨rfl, rfl, rfl, rfl, rfl⟩ rfl rfl rfl rfl rfl (by kernel_rfl) Try.func13 (by kernel_rfl)
    (of_decide_eq_true (by kernel_rfl)) (by unfold Func.isWrapper; first | (rw [if_pos (by decide +kernel)]; kernel_rfl) | (rw [if_neg (by decide +kernel)]; exact ⟨rfl, rfl⟩))
    (fun os started H enc _ => lifted13 os started H enc)
#print axioms unpackMost
end Go.Proofs.Ytmpeofjfagdgkaa
