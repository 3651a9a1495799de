/- 'PackZero' is true for every two lists of fields: no conditions. An encoder that is told a table of nothing keeps nothing. -/
import Derived.Test.YtmpeofjfagdgkaaPkFit
set_option linter.unusedSimpArgs false
set_option linter.unusedVariables false
namespace Go.Proofs.Ytmpeofjfagdgkaa
open Go.Abs Go.RowKit Go.ChangeShapes
open Int renaming reduceEq → i_0, reduceLE → i_1, reduceLT → i_2, reduceNe → i_3, reduceNeg → i_4, reduceAdd → i_5, reduceSub → i_6, reduceMul → i_7, reduceToNat → i_8
open Nat renaming reduceLT → n_0, reduceLeDiff → n_1, reduceEqDiff → n_2, reduceAdd → n_3, reduceSub → n_4, reduceMul → n_5
set_option maxRecDepth 100000
theorem limE0 : limE 0 = 0 := by unfold limE; rw [if_neg (by omega)]
set_option maxHeartbeats 8000000 in
theorem zeroRun (a0 a1 : AV) (D0 : DatZ Try.T 3 28 [a0]) (D1 : DatZ Try.T 3 28 [a1]) : callW Try.prog Try.T 9 [a0, a1] AH.empty fun v _ => v = .bool true := by
  obtain ⟨fs, hs0, lf⟩ := dat_fieldsZ (n := 0) (i := 0) D0
  obtain ⟨gs, ht0, lg⟩ := dat_fieldsZ (n := 0) (i := 0) D1
  refine callW_in (n := 65) (rs := [.tmp 4]) (m := 65) Try.func9 rfl rfl rfl rfl fun tr ht => ?_; have e0 := ht 0 _ rfl; have e1 := ht 1 _ rfl; clear ht
  repeat' (first
      | with_reducible first | refine Nx.h ?_ | (refine hK _ _ ?_; clear hK K)
      | ((with_reducible refine q_eo ?_ ?_); exact rfl)
      | ((with_reducible first | (refine Ny.h ?_; intro K hK) | (refine c_drw (by decide +kernel) ?_; intro K hK) | refine c_cond ?_ | show endW _ _ _ _ _ | (refine Nz.h ?_ ?_ <;> intro _) | fail) <;> try simp (disch := first | exact dz | fail) only [go_sem, i_0, i_1, i_2, i_3, i_4, i_5, i_6, i_7, i_8, n_0, n_1, n_2, n_3, n_4, n_5, reduceCtorEq, reduceIte, e0, e1]))
  refine callM_of (begun _) ?_
  rintro v h1 ⟨rfl, z1, -⟩
  refine vI ?_; repeat' (first
      | with_reducible first | refine Nx.h ?_ | (refine hK _ _ ?_; clear hK K)
      | ((with_reducible refine q_eo ?_ ?_); exact rfl)
      | ((with_reducible first | refine vO ?_ | (refine Ny.h ?_; intro K hK) | (refine c_drw (by decide +kernel) ?_; intro K hK) | refine c_cond ?_ | show endW _ _ _ _ _ | (refine Nz.h ?_ ?_ <;> intro _) | fail) <;> try simp (disch := first | exact dz | fail) only [go_sem, i_0, i_1, i_2, i_3, i_4, i_5, i_6, i_7, i_8, n_0, n_1, n_2, n_3, n_4, n_5, reduceCtorEq, reduceIte, e0, e1]))
  refine callM_of (pnew 0 h1 (by omega)) ?_
  rintro v h2 ⟨e, p, rfl, he, hp, hes, hps, hc2, k2⟩
  refine vI ?_; repeat' (first
      | with_reducible first | refine Nx.h ?_ | (refine hK _ _ ?_; clear hK K)
      | ((with_reducible refine q_eo ?_ ?_); exact rfl)
      | ((with_reducible first | refine vO ?_ | (refine Ny.h ?_; intro K hK) | (refine c_drw (by decide +kernel) ?_; intro K hK) | refine c_cond ?_ | show endW _ _ _ _ _ | (refine Nz.h ?_ ?_ <;> intro _) | fail) <;> try simp (disch := first | exact dz | fail) only [go_sem, i_0, i_1, i_2, i_3, i_4, i_5, i_6, i_7, i_8, n_0, n_1, n_2, n_3, n_4, n_5, reduceCtorEq, reduceIte, e0, e1]))
  refine callM_of (block e p 0 0 a0 en0 fs h2 hc2 en0_ok (by simp [en0]) lf (fun h _ _ => hs0.any h 0)) ?_
  rintro v h3 ⟨b, i, j, rfl, hi, c3, hj, hji, o3, b3⟩
  clear o3 hc2 k2 b3
  refine vI ?_; repeat' (first
      | with_reducible first | refine Nx.h ?_ | (refine hK _ _ ?_; clear hK K)
      | ((with_reducible refine q_eo ?_ ?_); exact rfl)
      | ((with_reducible first | refine vO ?_ | (refine Ny.h ?_; intro K hK) | (refine c_drw (by decide +kernel) ?_; intro K hK) | refine c_cond ?_ | show endW _ _ _ _ _ | (refine Nz.h ?_ ?_ <;> intro _) | fail) <;> try simp (disch := first | exact dz | fail) only [go_sem, i_0, i_1, i_2, i_3, i_4, i_5, i_6, i_7, i_8, n_0, n_1, n_2, n_3, n_4, n_5, reduceCtorEq, reduceIte, e0, e1]))
  refine callM_of (limit e p i (blkS en0 fs) 0 h3 c3) ?_
  rintro v h4 ⟨rfl, c4, b4⟩
  rw [limE0]
  have ok4 := limS_ok 0 (blkS_ok fs en0_ok)
  have hl4 : (limS (blkS en0 fs) 0).l.length ≤ 1024 := by rw [limS_l]; exact blk0_len fs
  clear b4 c3
  refine vI ?_; repeat' (first
      | with_reducible first | refine Nx.h ?_ | (refine hK _ _ ?_; clear hK K)
      | ((with_reducible refine q_eo ?_ ?_); exact rfl)
      | ((with_reducible first | refine vO ?_ | (refine Ny.h ?_; intro K hK) | (refine c_drw (by decide +kernel) ?_; intro K hK) | refine c_cond ?_ | show endW _ _ _ _ _ | (refine Nz.h ?_ ?_ <;> intro _) | fail) <;> try simp (disch := first | exact dz | fail) only [go_sem, i_0, i_1, i_2, i_3, i_4, i_5, i_6, i_7, i_8, n_0, n_1, n_2, n_3, n_4, n_5, reduceCtorEq, reduceIte, e0, e1]))
  refine callM_of (block e p i 0 a1 (limS (blkS en0 fs) 0) gs h4 c4 ok4 (by omega) lg (fun h _ _ => ht0.any h 0)) ?_
  rintro v h5 ⟨b, i5, j5, rfl, hi5, c5, hj5, hji5, o5, b5⟩
  have es := c4.es
  have ps := c4.ps
  by_cases hE : blkE gs = 0
  · obtain ⟨w1, w2, w3, w4⟩ := zero2 fs gs hE
    rw [w1] at c5
    rw [w2] at o5
    clear c4 ok4 hl4
    obtain ⟨jx, hjx, hjxi, ox⟩ := idx_new o5 (b0 := h4.size) hj5 hji5 (i' := i5) (.inl rfl) (Nat.le_refl _) b5.1 (fun _ => rfl)
    clear o5 b5
    rw [hE]
    have hbl : (bodyB enZ gs).length ≤ 921600000 := by have h1 := bodyB_len gs enZ; have h2 := (blk_few hE).1; omega
    refine vI ?_; repeat' (first
      | with_reducible first | refine Nx.h ?_ | (refine hK _ _ ?_; clear hK K)
      | ((with_reducible refine q_eo ?_ ?_); exact rfl)
      | ((with_reducible first | refine vO ?_ | (refine Ny.h ?_; intro K hK) | (refine c_drw (by decide +kernel) ?_; intro K hK) | refine c_cond ?_ | show endW _ _ _ _ _ | (refine Nz.h ?_ ?_ <;> intro _) | fail) <;> try simp (disch := first | exact dz | fail) only [go_sem, i_0, i_1, i_2, i_3, i_4, i_5, i_6, i_7, i_8, n_0, n_1, n_2, n_3, n_4, n_5, reduceCtorEq, reduceIte, e0, e1]))
    refine callM_of (block e p i5 0 a1 enZ gs h5 c5 ⟨by decide, by decide, by decide⟩ (by simp [enZ]) lg (fun h _ _ => ht0.any h 0)) ?_
    rintro v h6 ⟨b6, i6, j6, rfl, hi6, c6, hj6, hji6, o6, bu6⟩
    rw [w4] at c6
    rw [w3] at o6
    rw [hE]
    have oy : Ow E8 h6 jx b (32 :: bodyB enZ gs) := ox.frame (fun hs => bu6.2 jx hs (by omega) (by omega) (by omega)) bu6.1
    have sx := oy.sl
    have sy := o6.sl
    have sp : Sl E8 h6 jx (b.part 1 (((bodyB enZ gs).length + 1 : Nat) : Int)) (bodyB enZ gs) := by
      have := sx.part (lo := 1) (hi := (((bodyB enZ gs).length + 1 : Nat) : Int)) (by omega) (by omega) (by simp)
      simpa using this
    have h32 : (((32 : UInt8).toNat : Nat) : Int) = 32 := rfl
    have hh0 : ((32 :: bodyB enZ gs)[0]!) = 32 := rfl
    have hlc : (32 :: bodyB enZ gs).length = (bodyB enZ gs).length + 1 := rfl
    have hd := held e p i6 enZ h6 c6
    have hW : W (szs enZ.l) = 0 := by decide
    rw [hW] at hd
    clear ox oy o6 c5 bu6 w1 w2 w3 w4
    generalize bodyB enZ gs = bs at *
    refine vI ?_; repeat' (first
      | with_reducible first | refine Nx.h ?_ | (refine hK _ _ ?_; clear hK K)
      | ((with_reducible refine q_eo ?_ ?_); exact rfl)
      | ((with_reducible first | refine vO ?_ | (refine Ny.h ?_; intro K hK) | (refine c_drw (by decide +kernel) ?_; intro K hK) | refine c_cond ?_ | show endW _ _ _ _ _ | (refine Nz.h ?_ ?_ <;> intro _) | fail) <;> try simp (disch := first | exact dz | fail) only [go_sem, i_0, i_1, i_2, i_3, i_4, i_5, i_6, i_7, i_8, n_0, n_1, n_2, n_3, n_4, n_5, reduceCtorEq, reduceIte, e0, e1]))
    refine callM_of hd ?_
    rintro v h7 ⟨rfl, rfl⟩
    refine vI ?_; repeat' (first
      | with_reducible first | refine Nx.h ?_ | (refine hK _ _ ?_; clear hK K)
      | ((with_reducible refine q_eo ?_ ?_); exact rfl)
      | ((with_reducible first | refine vO ?_ | (refine Ny.h ?_; intro K hK) | (refine c_drw (by decide +kernel) ?_; intro K hK) | refine c_cond ?_ | show endW _ _ _ _ _ | (refine Nz.h ?_ ?_ <;> intro _) | fail) <;> try simp (disch := first | exact dz | fail) only [go_sem, i_0, i_1, i_2, i_3, i_4, i_5, i_6, i_7, i_8, n_0, n_1, n_2, n_3, n_4, n_5, reduceCtorEq, reduceIte, e0, e1, hh0, h32]))
  · refine vI ?_; repeat' (first
      | with_reducible first | refine Nx.h ?_ | (refine hK _ _ ?_; clear hK K)
      | ((with_reducible refine q_eo ?_ ?_); exact rfl)
      | ((with_reducible first | refine vO ?_ | (refine Ny.h ?_; intro K hK) | (refine c_drw (by decide +kernel) ?_; intro K hK) | refine c_cond ?_ | show endW _ _ _ _ _ | (refine Nz.h ?_ ?_ <;> intro _) | fail) <;> try simp (disch := first | exact dz | fail) only [go_sem, i_0, i_1, i_2, i_3, i_4, i_5, i_6, i_7, i_8, n_0, n_1, n_2, n_3, n_4, n_5, reduceCtorEq, reduceIte, e0, e1]))
theorem lifted9 (os : Os) (started : os.Started) (H : Type) (enc : TypeId × Value → H) :
    ReturnsInHanded {} Try.checked os 9 .any (Rows.packZeroSpec.pre6 enc Try.prog Try.f9 Rows.packZeroRow.domain false) (Rows.packZeroSpec.post enc Try.prog Try.f9 false true false false) := by
  refine returnsInHanded_of_change_sized (C := Try.checked) own started (by kernel_rfl) Try.func9
    (ChangeSpec.witness6 (enc := enc) (C := Try.checked) false ⟨#[], #[.slice none 0 0, .slice none 0 0], []⟩ 8 (by kernel_rfl) (by kernel_rfl) (by kernel_rfl) (by kernel_rfl)) ?_
  intro W base args ds gs before hval hW _ hz _
  have hW' := hW
  obtain ⟨p, q, hA0, hV, rfl, _, _⟩ := hW
  have hA : DataW.TrodAll enc Try.prog W 0 (fun _ => true) true Try.f9.params.toList args.toList ds p := hA0
  rw [Try.params9] at hA hval
  obtain ⟨v0, vs0, d0, ds0, p0, q0, hargs, rfl, rfl, k0, r0⟩ := trodAll_cons hA
  obtain ⟨v1, vs1, d1, ds1, p1, q1, rfl, rfl, rfl, k1, r1⟩ := trodAll_cons r0
  obtain ⟨rfl, rfl, rfl⟩ := trodAll_nil r1
  obtain rfl : args = #[v0, v1] := by cases args; simp_all
  obtain ⟨rfl, rfl⟩ := trodVars_none hV
  have hz0 : (DataW.weightsEach Try.prog [28, 28] [d0, d1]).all (· ≤ reachBytes) = true := hz
  obtain ⟨z0, hz1⟩ := reach_hd hz0
  obtain ⟨z1, hz2⟩ := reach_hd hz1
  obtain ⟨a0, w0, D0, g0, s0⟩ := arg_readB tok cl_reach (n := 3) (by rfl) (hval 0 28 v0 rfl rfl) z0 k0
  rw [s0 (by rfl)] at D0
  obtain ⟨a1, w1, D1, g1, s1⟩ := arg_readB tok cl_reach (n := 3) (by rfl) (hval 1 28 v1 rfl rfl) z1 k1
  rw [s1 (by rfl)] at D1
  obtain ⟨n, h', hr⟩ := callW_run (zeroRun a0 a1 D0 D1)
  refine (calls_true mixed tok fok hr (.cons _ _ _ _ w0 (.cons _ _ _ _ w1 .nil))).mono ?_
  rintro e W' ⟨rfl, hb⟩
  exact ⟨_, rfl, post_true laidOut (by kernel_rfl) (by kernel_rfl) Try.underlying4 rfl hW' rfl hb⟩
theorem packZero : Rows.PackZeroSaid :=
  OpenClaim.holds_of_wide 9 Try.f9 rfl rfl rfl rfl rfl rfl rfl ⟨rfl, rfl, rfl, rfl, rfl⟩ rfl rfl rfl rfl rfl (by kernel_rfl) Try.func9 (by kernel_rfl)
    (of_decide_eq_true (by kernel_rfl)) (by unfold Func.isWrapper; first | (rw [if_pos (by decide +kernel)]; kernel_rfl) | (rw [if_neg (by decide +kernel)]; exact ⟨rfl, rfl⟩))
    (fun os started H enc _ => lifted9 os started H enc)
#print axioms packZero
end Go.Proofs.Ytmpeofjfagdgkaa
