/- 'PackTwo' is true for every two lists of fields: no conditions. Neither the other encoder nor what is written into a block that was given touches an encoder. -/
import Derived.Test.YtmpeofjfagdgkaaPkLaw
set_option linter.unusedSimpArgs false
set_option linter.unusedVariables false
namespace Go.Proofs.Ytmpeofjfagdgkaa
open Go.Abs Go.RowKit Go.ChangeShapes
open Int renaming reduceEq → i_0, reduceLE → i_1, reduceLT → i_2, reduceNe → i_3, reduceNeg → i_4, reduceAdd → i_5, reduceSub → i_6, reduceMul → i_7, reduceToNat → i_8
open Nat renaming reduceLT → n_0, reduceLeDiff → n_1, reduceEqDiff → n_2, reduceAdd → n_3, reduceSub → n_4, reduceMul → n_5
set_option maxRecDepth 100000
/-- A block that is none of nine. -/
def Off (x e p i e2 p2 i2 e3 p3 i3 : Nat) : Prop := ¬ x = e ∧ ¬ x = p ∧ ¬ x = i ∧ ¬ x = e2 ∧ ¬ x = p2 ∧ ¬ x = i2 ∧ ¬ x = e3 ∧ ¬ x = p3 ∧ ¬ x = i3
/-- Code and reference, and one more encoder of the code. -/
structure Thr (h : AH) (e p i e2 p2 i2 e3 p3 i3 : Nat) (s s3 : En) : Prop where
  t : Two h e p i e2 p2 i2 s
  c : EnC h e3 p3 i3 s3
  a1 : ¬ e3 = e ∧ ¬ e3 = p ∧ ¬ e3 = i ∧ ¬ e3 = e2 ∧ ¬ e3 = p2 ∧ ¬ e3 = i2
  a2 : ¬ p3 = e ∧ ¬ p3 = p ∧ ¬ p3 = i ∧ ¬ p3 = e2 ∧ ¬ p3 = p2 ∧ ¬ p3 = i2
  a3 : ¬ i3 = e ∧ ¬ i3 = p ∧ ¬ i3 = i ∧ ¬ i3 = e2 ∧ ¬ i3 = p2 ∧ ¬ i3 = i2
theorem Thr.step {h h1 h2 : AH} {e p i e2 p2 i2 e3 p3 i3 i' i2' : Nat} {s s' s3 : En} (t : Thr h e p i e2 p2 i2 e3 p3 i3 s s3) (b1 : But3 e p i h h1) (c1 : EnC h1 e p i' s') (hi : i' = i ∨ h.size ≤ i') (b2 : But3 e2 p2 i2 h1 h2) (r2 : EnR h2 e2 p2 i2' s') (hi2 : i2' = i2 ∨ h1.size ≤ i2') : Thr h2 e p i' e2 p2 i2' e3 p3 i3 s' s3 := by
  have t2 := t.t.step b1 c1 hi b2 r2 hi2
  obtain ⟨-, c, a1, a2, a3⟩ := t
  have z1 := c.es
  have z2 := c.ps
  have z3 := c.is
  have z4 := b1.1
  obtain ⟨q1, q2, q3, q4, q5, q6⟩ := a1
  obtain ⟨q7, q8, q9, q10, q11, q12⟩ := a2
  obtain ⟨q13, q14, q15, q16, q17, q18⟩ := a3
  have f1 := (b1.2 e3 z1 q1 q2 q3)
  have f2 := (b1.2 p3 z2 q7 q8 q9)
  have f3 := (b1.2 i3 z3 q13 q14 q15)
  have g1 := (b2.2 e3 (by omega) q4 q5 q6)
  have g2 := (b2.2 p3 (by omega) q10 q11 q12)
  have g3 := (b2.2 i3 (by omega) q16 q17 q18)
  refine ⟨t2, c.frame (fun b hb hor => ?_) (Nat.le_trans b1.1 b2.1), ⟨q1, q2, ?_, q4, q5, ?_⟩, ⟨q7, q8, ?_, q10, q11, ?_⟩, q13, q14, ?_, q16, q17, ?_⟩
  · rcases hor with rfl | rfl | rfl
    · exact g1.trans f1
    · exact g2.trans f2
    · exact g3.trans f3
  · rcases hi with rfl | hi
    · exact q3
    · omega
  · rcases hi2 with rfl | hi2
    · exact q6
    · omega
  · rcases hi with rfl | hi
    · exact q9
    · omega
  · rcases hi2 with rfl | hi2
    · exact q12
    · omega
  · rcases hi with rfl | hi
    · exact q15
    · omega
  · rcases hi2 with rfl | hi2
    · exact q18
    · omega
theorem Thr.step3 {h h1 : AH} {e p i e2 p2 i2 e3 p3 i3 i' : Nat} {s s3 s' : En} (t : Thr h e p i e2 p2 i2 e3 p3 i3 s s3) (b1 : But3 e3 p3 i3 h h1) (c1 : EnC h1 e3 p3 i' s') (hi : i' = i3 ∨ h.size ≤ i') : Thr h1 e p i e2 p2 i2 e3 p3 i' s s' := by
  obtain ⟨⟨c, r, n1, n2, n3⟩, -, a1, a2, a3⟩ := t
  have z1 := c.es
  have z2 := c.ps
  have z3 := c.is
  have y1 := r.es
  have y2 := r.ps
  have y3 := r.is
  obtain ⟨q1, q2, q3, q4, q5, q6⟩ := a1
  obtain ⟨q7, q8, q9, q10, q11, q12⟩ := a2
  obtain ⟨q13, q14, q15, q16, q17, q18⟩ := a3
  have sy : ∀ {x y : Nat}, ¬ x = y → ¬ y = x := fun h g => h g.symm
  refine ⟨⟨c.frame (fun b hb hor => ?_) b1.1, r.frame (fun b hb hor => ?_) b1.1, n1, n2, n3⟩, c1, ⟨q1, q2, q3, q4, q5, q6⟩, ⟨q7, q8, q9, q10, q11, q12⟩, ?_, ?_, ?_, ?_, ?_, ?_⟩
  · rcases hor with rfl | rfl | rfl
    · exact b1.2 _ hb (sy q1) (sy q7) (sy q13)
    · exact b1.2 _ hb (sy q2) (sy q8) (sy q14)
    · exact b1.2 _ hb (sy q3) (sy q9) (sy q15)
  · rcases hor with rfl | rfl | rfl
    · exact b1.2 _ hb (sy q4) (sy q10) (sy q16)
    · exact b1.2 _ hb (sy q5) (sy q11) (sy q17)
    · exact b1.2 _ hb (sy q6) (sy q12) (sy q18)
  all_goals rcases hi with rfl | hi
  all_goals first | assumption | omega
theorem Thr.frame {h h' : AH} {e p i e2 p2 i2 e3 p3 i3 j : Nat} {s s3 : En} (t : Thr h e p i e2 p2 i2 e3 p3 i3 s s3) (o : Off j e p i e2 p2 i2 e3 p3 i3) (hz : h.size ≤ h'.size) (hf : ∀ x, ¬ x = j → h'.get x = h.get x) : Thr h' e p i e2 p2 i2 e3 p3 i3 s s3 := by
  obtain ⟨⟨c, r, n1, n2, n3⟩, c3, a1, a2, a3⟩ := t
  obtain ⟨o1, o2, o3, o4, o5, o6, o7, o8, o9⟩ := o
  refine ⟨⟨c.frame (fun b hb hor => hf b ?_) hz, r.frame (fun b hb hor => hf b ?_) hz, n1, n2, n3⟩, c3.frame (fun b hb hor => hf b ?_) hz, a1, a2, a3⟩
  all_goals rcases hor with rfl | rfl | rfl
  all_goals exact fun h => absurd h.symm (by assumption)
/-- The block that was given is none of the nine. -/
theorem Thr.off {h h1 h2 : AH} {e p i e2 p2 i2 e3 p3 i3 i' i2' j : Nat} {s s3 : En} {b : AV} {l : List UInt8} (t : Thr h e p i e2 p2 i2 e3 p3 i3 s s3) (hj : h.size ≤ j) (hji : ¬ j = i') (o : Ow E8 h1 j b l) (b1 : But3 e p i h h1) (b2 : But3 e2 p2 i2 h1 h2) (hi2 : i2' = i2 ∨ h1.size ≤ i2') : ∃ j', Off j' e p i' e2 p2 i2' e3 p3 i3 ∧ Ow E8 h2 j' b l := by
  obtain ⟨⟨c, r, -, -, -⟩, c3, -, -, -⟩ := t
  have z1 := c.es
  have z2 := c.ps
  have y1 := r.es
  have y2 := r.ps
  have y3 := r.is
  have x1 := c3.es
  have x2 := c3.ps
  have x3 := c3.is
  have w1 := b1.1
  by_cases hjs : j < h1.size
  · exact ⟨j, ⟨by omega, by omega, hji, by omega, by omega, by omega, by omega, by omega, by omega⟩, o.frame (fun _ => b2.2 j hjs (by omega) (by omega) (by omega)) b2.1⟩
  · exact ⟨h.size + i' + i2' + 1, ⟨by omega, by omega, by omega, by omega, by omega, by omega, by omega, by omega, by omega⟩, ow_re o hjs _ _⟩
set_option maxHeartbeats 8000000 in
theorem twoRun (a0 a1 : AV) (D0 : DatZ Try.T 3 28 [a0]) (D1 : DatZ Try.T 3 28 [a1]) : callW Try.prog Try.T 5 [a0, a1] AH.empty fun v _ => v = .bool true := by
  obtain ⟨fs, hs0, lf⟩ := dat_fieldsZ (n := 0) (i := 0) D0
  obtain ⟨gs, ht0, lg⟩ := dat_fieldsZ (n := 0) (i := 0) D1
  refine callW_in (n := 64) (rs := [.tmp 4]) (m := 64) Try.func5 rfl rfl rfl rfl fun tr ht => ?_; have e0 := ht 0 _ rfl; have e1 := ht 1 _ rfl; clear ht
  repeat' (first
      | with_reducible first | refine Nx.h ?_ | (refine hK _ _ ?_; clear hK K)
      | ((with_reducible refine q_eo ?_ ?_); exact rfl)
      | ((with_reducible first | (refine Ny.h ?_; intro K hK) | (refine c_drw (by decide +kernel) ?_; intro K hK) | refine c_cond ?_ | show endW _ _ _ _ _ | (refine Nz.h ?_ ?_ <;> intro _) | fail) <;> try simp (disch := first | exact dz | fail) only [go_sem, i_0, i_1, i_2, i_3, i_4, i_5, i_6, i_7, i_8, n_0, n_1, n_2, n_3, n_4, n_5, reduceCtorEq, reduceIte, e0, e1]))
  refine callM_of (begun _) ?_
  rintro v h1 ⟨rfl, z1, -⟩
  refine vI ?_; repeat' (first
      | with_reducible first | refine Nx.h ?_ | (refine hK _ _ ?_; clear hK K)
      | ((with_reducible refine q_eo ?_ ?_); exact rfl)
      | ((with_reducible first | refine vO ?_ | (refine Ny.h ?_; intro K hK) | (refine c_drw (by decide +kernel) ?_; intro K hK) | refine c_cond ?_ | show endW _ _ _ _ _ | (refine Nz.h ?_ ?_ <;> intro _) | fail) <;> try simp (disch := first | exact dz | fail) only [go_sem, i_0, i_1, i_2, i_3, i_4, i_5, i_6, i_7, i_8, n_0, n_1, n_2, n_3, n_4, n_5, reduceCtorEq, reduceIte, e0, e1]))
  refine callM_of (pnew 0 h1 (by omega)) ?_
  rintro v h2 ⟨e, p, rfl, he, hp, hes, hps, hc2, k2⟩
  have z2 := k2.1
  refine vI ?_; repeat' (first
      | with_reducible first | refine Nx.h ?_ | (refine hK _ _ ?_; clear hK K)
      | ((with_reducible refine q_eo ?_ ?_); exact rfl)
      | ((with_reducible first | refine vO ?_ | (refine Ny.h ?_; intro K hK) | (refine c_drw (by decide +kernel) ?_; intro K hK) | refine c_cond ?_ | show endW _ _ _ _ _ | (refine Nz.h ?_ ?_ <;> intro _) | fail) <;> try simp (disch := first | exact dz | fail) only [go_sem, i_0, i_1, i_2, i_3, i_4, i_5, i_6, i_7, i_8, n_0, n_1, n_2, n_3, n_4, n_5, reduceCtorEq, reduceIte, e0, e1]))
  refine callM_of (pnew 1 h2 (by omega)) ?_
  rintro v h3 ⟨e3, p3, rfl, he3, hp3, he3s, hp3s, hc3, k3⟩
  have z3 := k3.1
  refine vI ?_; repeat' (first
      | with_reducible first | refine Nx.h ?_ | (refine hK _ _ ?_; clear hK K)
      | ((with_reducible refine q_eo ?_ ?_); exact rfl)
      | ((with_reducible first | refine vO ?_ | (refine Ny.h ?_; intro K hK) | (refine c_drw (by decide +kernel) ?_; intro K hK) | refine c_cond ?_ | show endW _ _ _ _ _ | (refine Nz.h ?_ ?_ <;> intro _) | fail) <;> try simp (disch := first | exact dz | fail) only [go_sem, i_0, i_1, i_2, i_3, i_4, i_5, i_6, i_7, i_8, n_0, n_1, n_2, n_3, n_4, n_5, reduceCtorEq, reduceIte, e0, e1]))
  refine callM_of (prnew 2 h3 (by omega)) ?_
  rintro v h4 ⟨e2, p2, rfl, he2, hp2, he2s, hp2s, hr4, k4⟩
  have T4 : Thr h4 e p 0 e2 p2 2 e3 p3 1 en0 en0 := ⟨⟨hc2.frame (fun b hb _ => (k4.2 b (by omega)).trans (k3.2 b hb)) (by have := k4.1; omega), hr4, by omega, by omega, by omega⟩, hc3.frame (fun b hb _ => k4.2 b hb) k4.1, by omega, by omega, by omega⟩
  clear hc2 hr4 hc3 hes hps he2s hp2s he3s hp3s he hp he2 hp2 he3 hp3 k2 k3 k4 z2 z3
  refine vI ?_; repeat' (first
      | with_reducible first | refine Nx.h ?_ | (refine hK _ _ ?_; clear hK K)
      | ((with_reducible refine q_eo ?_ ?_); exact rfl)
      | ((with_reducible first | refine vO ?_ | (refine Ny.h ?_; intro K hK) | (refine c_drw (by decide +kernel) ?_; intro K hK) | refine c_cond ?_ | show endW _ _ _ _ _ | (refine Nz.h ?_ ?_ <;> intro _) | fail) <;> try simp (disch := first | exact dz | fail) only [go_sem, i_0, i_1, i_2, i_3, i_4, i_5, i_6, i_7, i_8, n_0, n_1, n_2, n_3, n_4, n_5, reduceCtorEq, reduceIte, e0, e1]))
  refine c_loopF 9223372036821253648 (fun m tm h => ∃ (k i i2 i3 : Nat) (s s3 : En), tm.get 9 = .int .i64 k ∧ Thr h e p i e2 p2 i2 e3 p3 i3 s s3 ∧ EnOk s ∧ EnOk s3 ∧ s.l.length ≤ 1024 * k ∧ s3.l.length ≤ 1024 * k ∧ k ≤ 3 ∧ m = 3 - k) (3) (by kernel_rfl) ?_ ?_
  · refine ⟨0, 0, 2, 1, en0, en0, ?_, T4, en0_ok, en0_ok, by simp [en0], by simp [en0], by omega, rfl⟩
    (first | with_reducible rfl | (simp (disch := first | exact dz | fail) only [go_sem, i_0, i_1, i_2, i_3, i_4, i_5, i_6, i_7, i_8, n_0, n_1, n_2, n_3, n_4, n_5, reduceCtorEq, reduceIte] <;> first | with_reducible rfl | (congr 1 <;> omega)))
  · clear T4
    rintro m tr2 h4 ho ⟨k, i, i2, i3, s, s3, t9, t4, ok, ok3, hl, hl3, hk3, rfl⟩
    have k0 := ho 0 (Seen.of rfl); simp (disch := first | exact dz | fail) only [go_sem, i_0, i_1, i_2, i_3, i_4, i_5, i_6, i_7, i_8, n_0, n_1, n_2, n_3, n_4, n_5, reduceCtorEq, reduceIte, e0, e1] at k0; have k1 := ho 1 (Seen.of rfl); simp (disch := first | exact dz | fail) only [go_sem, i_0, i_1, i_2, i_3, i_4, i_5, i_6, i_7, i_8, n_0, n_1, n_2, n_3, n_4, n_5, reduceCtorEq, reduceIte, e0, e1] at k1; have k5 := ho 5 (Seen.of rfl); simp (disch := first | exact dz | fail) only [go_sem, i_0, i_1, i_2, i_3, i_4, i_5, i_6, i_7, i_8, n_0, n_1, n_2, n_3, n_4, n_5, reduceCtorEq, reduceIte, e0, e1] at k5; have k6 := ho 6 (Seen.of rfl); simp (disch := first | exact dz | fail) only [go_sem, i_0, i_1, i_2, i_3, i_4, i_5, i_6, i_7, i_8, n_0, n_1, n_2, n_3, n_4, n_5, reduceCtorEq, reduceIte, e0, e1] at k6; have k7 := ho 7 (Seen.of rfl); simp (disch := first | exact dz | fail) only [go_sem, i_0, i_1, i_2, i_3, i_4, i_5, i_6, i_7, i_8, n_0, n_1, n_2, n_3, n_4, n_5, reduceCtorEq, reduceIte, e0, e1] at k7; have k8 := ho 8 (Seen.of rfl); simp (disch := first | exact dz | fail) only [go_sem, i_0, i_1, i_2, i_3, i_4, i_5, i_6, i_7, i_8, n_0, n_1, n_2, n_3, n_4, n_5, reduceCtorEq, reduceIte, e0, e1] at k8
    by_cases hc : k < 3
    · repeat' (first
      | with_reducible first | refine Nx.h ?_ | (refine hK _ _ ?_; clear hK K)
      | ((with_reducible refine q_eo ?_ ?_); exact rfl)
      | ((with_reducible first | (refine Ny.h ?_; intro K hK) | (refine c_drw (by decide +kernel) ?_; intro K hK) | refine c_cond ?_ | show endW _ _ _ _ _ | (refine Nz.h ?_ ?_ <;> intro _) | fail) <;> try simp (disch := first | exact dz | fail) only [go_sem, i_0, i_1, i_2, i_3, i_4, i_5, i_6, i_7, i_8, n_0, n_1, n_2, n_3, n_4, n_5, reduceCtorEq, reduceIte, k0, k1, k5, k6, k7, k8, t9]))
      refine callM_of (block e p i 0 a0 s fs h4 t4.t.c ok (by omega) lf (fun h _ _ => hs0.any h 0)) ?_
      rintro v h5 ⟨b, i', j, rfl, hi', c5, hj, hji, o5, b5⟩
      have r5 := t4.t.mid b5
      refine vI ?_; repeat' (first
      | with_reducible first | refine Nx.h ?_ | (refine hK _ _ ?_; clear hK K)
      | ((with_reducible refine q_eo ?_ ?_); exact rfl)
      | ((with_reducible first | refine vO ?_ | (refine Ny.h ?_; intro K hK) | (refine c_drw (by decide +kernel) ?_; intro K hK) | refine c_cond ?_ | show endW _ _ _ _ _ | (refine Nz.h ?_ ?_ <;> intro _) | fail) <;> try simp (disch := first | exact dz | fail) only [go_sem, i_0, i_1, i_2, i_3, i_4, i_5, i_6, i_7, i_8, n_0, n_1, n_2, n_3, n_4, n_5, reduceCtorEq, reduceIte, k0, k1, k5, k6, k7, k8, t9]))
      refine callM_of (rblock e2 p2 i2 0 a0 s fs h5 r5 ok (by omega) lf (fun h _ _ => hs0.any h 0)) ?_
      rintro v h6 ⟨b2, i2', j2, rfl, hi2', r6, hj2, hji2, o6, b6⟩
      have t6 := t4.step b5 c5 hi' b6 r6 hi2'
      obtain ⟨jx, hoff, ox⟩ := t4.off hj hji o5 b5 b6 hi2'
      have ok6 := blkS_ok fs ok
      have hl6 := blkS_len s fs
      have hlb : (blkB s fs).length ≤ 1000000000 := by
        unfold blkB
        split
        · rename_i hE
          have h1 := bodyB_len fs (preS s)
          have h2 := (blk_few hE).1
          have h3 : (preB s).length ≤ 12 := by
            have lB1 : (up1B s).length ≤ 6 := by unfold up1B; split; exact numB_len _ _ _; simp
            have lB2 : (up2B (up1S s)).length ≤ 6 := by unfold up2B; split; exact numB_len _ _ _; simp
            unfold preB; rw [List.length_append]; omega
          rw [List.length_append]; omega
        · simp
      have sb := ox.sl
      have sb2 := o6.sl
      clear t4 b5 b6 c5 r5 r6 o5 hi' hi2' hj hji hj2 hji2
      refine vI ?_; repeat' (first
      | with_reducible first | refine Nx.h ?_ | (refine hK _ _ ?_; clear hK K)
      | ((with_reducible refine q_eo ?_ ?_); exact rfl)
      | ((with_reducible first | refine vO ?_ | (refine Ny.h ?_; intro K hK) | (refine c_drw (by decide +kernel) ?_; intro K hK) | refine c_cond ?_ | show endW _ _ _ _ _ | (refine Nz.h ?_ ?_ <;> intro _) | fail) <;> try simp (disch := first | exact dz | fail) only [go_sem, i_0, i_1, i_2, i_3, i_4, i_5, i_6, i_7, i_8, n_0, n_1, n_2, n_3, n_4, n_5, reduceCtorEq, reduceIte, k0, k1, k5, k6, k7, k8, t9]))
      clear sb sb2
      refine codeW_base fun tr3 ho3 => ?_
      have q0 := ho3 0 (Seen.of rfl); simp (disch := first | exact dz | fail) only [go_sem, i_0, i_1, i_2, i_3, i_4, i_5, i_6, i_7, i_8, n_0, n_1, n_2, n_3, n_4, n_5, reduceCtorEq, reduceIte, k0, k1, k5, k6, k7, k8, t9] at q0; have q1 := ho3 1 (Seen.of rfl); simp (disch := first | exact dz | fail) only [go_sem, i_0, i_1, i_2, i_3, i_4, i_5, i_6, i_7, i_8, n_0, n_1, n_2, n_3, n_4, n_5, reduceCtorEq, reduceIte, k0, k1, k5, k6, k7, k8, t9] at q1; have q5 := ho3 5 (Seen.of rfl); simp (disch := first | exact dz | fail) only [go_sem, i_0, i_1, i_2, i_3, i_4, i_5, i_6, i_7, i_8, n_0, n_1, n_2, n_3, n_4, n_5, reduceCtorEq, reduceIte, k0, k1, k5, k6, k7, k8, t9] at q5; have q6 := ho3 6 (Seen.of rfl); simp (disch := first | exact dz | fail) only [go_sem, i_0, i_1, i_2, i_3, i_4, i_5, i_6, i_7, i_8, n_0, n_1, n_2, n_3, n_4, n_5, reduceCtorEq, reduceIte, k0, k1, k5, k6, k7, k8, t9] at q6; have q7 := ho3 7 (Seen.of rfl); simp (disch := first | exact dz | fail) only [go_sem, i_0, i_1, i_2, i_3, i_4, i_5, i_6, i_7, i_8, n_0, n_1, n_2, n_3, n_4, n_5, reduceCtorEq, reduceIte, k0, k1, k5, k6, k7, k8, t9] at q7; have q8 := ho3 8 (Seen.of rfl); simp (disch := first | exact dz | fail) only [go_sem, i_0, i_1, i_2, i_3, i_4, i_5, i_6, i_7, i_8, n_0, n_1, n_2, n_3, n_4, n_5, reduceCtorEq, reduceIte, k0, k1, k5, k6, k7, k8, t9] at q8; have q9 := ho3 9 (Seen.of rfl); simp (disch := first | exact dz | fail) only [go_sem, i_0, i_1, i_2, i_3, i_4, i_5, i_6, i_7, i_8, n_0, n_1, n_2, n_3, n_4, n_5, reduceCtorEq, reduceIte, k0, k1, k5, k6, k7, k8, t9] at q9; have q10 := ho3 10 (Seen.of rfl); simp (disch := first | exact dz | fail) only [go_sem, i_0, i_1, i_2, i_3, i_4, i_5, i_6, i_7, i_8, n_0, n_1, n_2, n_3, n_4, n_5, reduceCtorEq, reduceIte, k0, k1, k5, k6, k7, k8, t9] at q10; have q14 := ho3 14 (Seen.of rfl); simp (disch := first | exact dz | fail) only [go_sem, i_0, i_1, i_2, i_3, i_4, i_5, i_6, i_7, i_8, n_0, n_1, n_2, n_3, n_4, n_5, reduceCtorEq, reduceIte, k0, k1, k5, k6, k7, k8, t9] at q14
      generalize blkB s fs = bs at *
      refine c_loopF 1150669704793178112 (fun m tm h => ∃ (x : Nat) (l : List UInt8), tm.get 14 = .int .i64 x ∧ x ≤ bs.length ∧ l.length = bs.length ∧ Ow E8 h jx b l ∧ Thr h e p i' e2 p2 i2' e3 p3 i3 (blkS s fs) s3 ∧ m = bs.length - x) (bs.length) (by kernel_rfl) ?_ ?_
      · refine ⟨0, bs, ?_, by omega, rfl, ox, t6, rfl⟩
        (first | with_reducible rfl | (simp (disch := first | exact dz | fail) only [go_sem, i_0, i_1, i_2, i_3, i_4, i_5, i_6, i_7, i_8, n_0, n_1, n_2, n_3, n_4, n_5, reduceCtorEq, reduceIte, q14] <;> first | with_reducible rfl | (congr 1 <;> omega)))
      · clear ox t6 o6
        rintro m tr4 hA ho4 ⟨x, l, u14, hx, hll, oa, tA, rfl⟩
        have u0 := ho4 0 (Seen.of rfl); simp (disch := first | exact dz | fail) only [go_sem, i_0, i_1, i_2, i_3, i_4, i_5, i_6, i_7, i_8, n_0, n_1, n_2, n_3, n_4, n_5, reduceCtorEq, reduceIte, q0, q1, q5, q6, q7, q8, q9, q10] at u0; have u1 := ho4 1 (Seen.of rfl); simp (disch := first | exact dz | fail) only [go_sem, i_0, i_1, i_2, i_3, i_4, i_5, i_6, i_7, i_8, n_0, n_1, n_2, n_3, n_4, n_5, reduceCtorEq, reduceIte, q0, q1, q5, q6, q7, q8, q9, q10] at u1; have u5 := ho4 5 (Seen.of rfl); simp (disch := first | exact dz | fail) only [go_sem, i_0, i_1, i_2, i_3, i_4, i_5, i_6, i_7, i_8, n_0, n_1, n_2, n_3, n_4, n_5, reduceCtorEq, reduceIte, q0, q1, q5, q6, q7, q8, q9, q10] at u5; have u6 := ho4 6 (Seen.of rfl); simp (disch := first | exact dz | fail) only [go_sem, i_0, i_1, i_2, i_3, i_4, i_5, i_6, i_7, i_8, n_0, n_1, n_2, n_3, n_4, n_5, reduceCtorEq, reduceIte, q0, q1, q5, q6, q7, q8, q9, q10] at u6; have u7 := ho4 7 (Seen.of rfl); simp (disch := first | exact dz | fail) only [go_sem, i_0, i_1, i_2, i_3, i_4, i_5, i_6, i_7, i_8, n_0, n_1, n_2, n_3, n_4, n_5, reduceCtorEq, reduceIte, q0, q1, q5, q6, q7, q8, q9, q10] at u7; have u8 := ho4 8 (Seen.of rfl); simp (disch := first | exact dz | fail) only [go_sem, i_0, i_1, i_2, i_3, i_4, i_5, i_6, i_7, i_8, n_0, n_1, n_2, n_3, n_4, n_5, reduceCtorEq, reduceIte, q0, q1, q5, q6, q7, q8, q9, q10] at u8; have u9 := ho4 9 (Seen.of rfl); simp (disch := first | exact dz | fail) only [go_sem, i_0, i_1, i_2, i_3, i_4, i_5, i_6, i_7, i_8, n_0, n_1, n_2, n_3, n_4, n_5, reduceCtorEq, reduceIte, q0, q1, q5, q6, q7, q8, q9, q10] at u9; have u10 := ho4 10 (Seen.of rfl); simp (disch := first | exact dz | fail) only [go_sem, i_0, i_1, i_2, i_3, i_4, i_5, i_6, i_7, i_8, n_0, n_1, n_2, n_3, n_4, n_5, reduceCtorEq, reduceIte, q0, q1, q5, q6, q7, q8, q9, q10] at u10
        have sla := oa.sl
        by_cases hcx : x < bs.length
        · repeat' (first
      | with_reducible first | refine Nx.h ?_ | (refine hK _ _ ?_; clear hK K)
      | ((with_reducible refine q_eo ?_ ?_); exact rfl)
      | ((with_reducible first | (refine Ny.h ?_; intro K hK) | (refine c_drw (by decide +kernel) ?_; intro K hK) | refine c_cond ?_ | show endW _ _ _ _ _ | (refine Nz.h ?_ ?_ <;> intro _) | fail) <;> try simp (disch := first | exact dz | fail) only [go_sem, i_0, i_1, i_2, i_3, i_4, i_5, i_6, i_7, i_8, n_0, n_1, n_2, n_3, n_4, n_5, reduceCtorEq, reduceIte, u0, u1, u5, u6, u7, u8, u9, u10, u14]))
          refine Try.wr5 oa (255 : UInt8) (by rfl) (by omega) (by omega) (by exact .mk) fun hB oB zB fB => ?_
          refine vI ?_; repeat' (first
      | with_reducible first | refine Nx.h ?_ | (refine hK _ _ ?_; clear hK K)
      | ((with_reducible refine q_eo ?_ ?_); exact rfl)
      | ((with_reducible first | refine vO ?_ | (refine Ny.h ?_; intro K hK) | (refine c_drw (by decide +kernel) ?_; intro K hK) | refine c_cond ?_ | show endW _ _ _ _ _ | (refine Nz.h ?_ ?_ <;> intro _) | fail) <;> try simp (disch := first | exact dz | fail) only [go_sem, i_0, i_1, i_2, i_3, i_4, i_5, i_6, i_7, i_8, n_0, n_1, n_2, n_3, n_4, n_5, reduceCtorEq, reduceIte, u0, u1, u5, u6, u7, u8, u9, u10, u14]))
          try dsimp only
          refine ⟨rfl, bs.length - (x + 1), by omega, x + 1, _, ?_, by omega, by rw [List.length_set]; exact hll, oB, tA.frame hoff (by omega) (fun y hy => fB y hy), rfl⟩
          (first | with_reducible rfl | (simp (disch := first | exact dz | fail) only [go_sem, i_0, i_1, i_2, i_3, i_4, i_5, i_6, i_7, i_8, n_0, n_1, n_2, n_3, n_4, n_5, reduceCtorEq, reduceIte, u14] <;> first | with_reducible rfl | (congr 1 <;> omega)))
        · repeat' (first
      | with_reducible first | refine Nx.h ?_ | (refine hK _ _ ?_; clear hK K)
      | ((with_reducible refine q_eo ?_ ?_); exact rfl)
      | ((with_reducible first | (refine Ny.h ?_; intro K hK) | (refine c_drw (by decide +kernel) ?_; intro K hK) | refine c_cond ?_ | show endW _ _ _ _ _ | (refine Nz.h ?_ ?_ <;> intro _) | fail) <;> try simp (disch := first | exact dz | fail) only [go_sem, i_0, i_1, i_2, i_3, i_4, i_5, i_6, i_7, i_8, n_0, n_1, n_2, n_3, n_4, n_5, reduceCtorEq, reduceIte, u0, u1, u5, u6, u7, u8, u9, u10, u14]))
          refine callM_of (block e3 p3 i3 0 a1 s3 gs hA tA.c ok3 (by omega) lg (fun h _ _ => ht0.any h 0)) ?_
          rintro v hB ⟨bb, iB, jB, rfl, hiB, cB, hjB, hjiB, oB, bB⟩
          have tB := tA.step3 bB cB hiB
          have okB := blkS_ok gs ok3
          have hlB := blkS_len s3 gs
          refine vI ?_; repeat' (first
      | with_reducible first | refine Nx.h ?_ | (refine hK _ _ ?_; clear hK K)
      | ((with_reducible refine q_eo ?_ ?_); exact rfl)
      | ((with_reducible first | refine vO ?_ | (refine Ny.h ?_; intro K hK) | (refine c_drw (by decide +kernel) ?_; intro K hK) | refine c_cond ?_ | show endW _ _ _ _ _ | (refine Nz.h ?_ ?_ <;> intro _) | fail) <;> try simp (disch := first | exact dz | fail) only [go_sem, i_0, i_1, i_2, i_3, i_4, i_5, i_6, i_7, i_8, n_0, n_1, n_2, n_3, n_4, n_5, reduceCtorEq, reduceIte, u0, u1, u5, u6, u7, u8, u9, u10, u14]))
          try dsimp only
          refine ⟨rfl, 3 - (k + 1), by omega, k + 1, i', i2', iB, blkS s fs, blkS s3 gs, ?_, tB, ok6, okB, by omega, by omega, by omega, rfl⟩
          (first | with_reducible rfl | (simp (disch := first | exact dz | fail) only [go_sem, i_0, i_1, i_2, i_3, i_4, i_5, i_6, i_7, i_8, n_0, n_1, n_2, n_3, n_4, n_5, reduceCtorEq, reduceIte, u9] <;> first | with_reducible rfl | (congr 1 <;> omega)))
    · repeat' (first
      | with_reducible first | refine Nx.h ?_ | (refine hK _ _ ?_; clear hK K)
      | ((with_reducible refine q_eo ?_ ?_); exact rfl)
      | ((with_reducible first | (refine Ny.h ?_; intro K hK) | (refine c_drw (by decide +kernel) ?_; intro K hK) | refine c_cond ?_ | show endW _ _ _ _ _ | (refine Nz.h ?_ ?_ <;> intro _) | fail) <;> try simp (disch := first | exact dz | fail) only [go_sem, i_0, i_1, i_2, i_3, i_4, i_5, i_6, i_7, i_8, n_0, n_1, n_2, n_3, n_4, n_5, reduceCtorEq, reduceIte, k0, k1, k5, k6, k7, k8, t9]))
theorem lifted5 (os : Os) (started : os.Started) (H : Type) (enc : TypeId × Value → H) :
    ReturnsInHanded {} Try.checked os 5 .any (Rows.packTwoSpec.pre6 enc Try.prog Try.f5 Rows.packTwoRow.domain false) (Rows.packTwoSpec.post enc Try.prog Try.f5 false true false false) := by
  refine returnsInHanded_of_change_sized (C := Try.checked) own started (by kernel_rfl) Try.func5
    (ChangeSpec.witness6 (enc := enc) (C := Try.checked) false ⟨#[], #[.slice none 0 0, .slice none 0 0], []⟩ 8 (by kernel_rfl) (by kernel_rfl) (by kernel_rfl) (by kernel_rfl)) ?_
  intro W base args ds gs before hval hW _ hz _
  have hW' := hW
  obtain ⟨p, q, hA0, hV, rfl, _, _⟩ := hW
  have hA : DataW.TrodAll enc Try.prog W 0 (fun _ => true) true Try.f5.params.toList args.toList ds p := hA0
  rw [Try.params5] at hA hval
  obtain ⟨v0, vs0, d0, ds0, p0, q0, hargs, rfl, rfl, k0, r0⟩ := trodAll_cons hA
  obtain ⟨v1, vs1, d1, ds1, p1, q1, rfl, rfl, rfl, k1, r1⟩ := trodAll_cons r0
  obtain ⟨rfl, rfl, rfl⟩ := trodAll_nil r1
  obtain rfl : args = #[v0, v1] := by cases args; simp_all
  obtain ⟨rfl, rfl⟩ := trodVars_none hV
  have hz0 : (DataW.weightsEach Try.prog [28, 28] [d0, d1]).all (· ≤ reachBytes) = true := hz
  obtain ⟨z0, hz1⟩ := reach_hd hz0
  obtain ⟨z1, hz2⟩ := reach_hd hz1
  obtain ⟨a0, w0, D0, g0, s0⟩ := arg_readB tok cl_reach (n := 3) (by rfl) (hval 0 28 v0 rfl rfl) z0 k0
  rw [s0 (by rfl)] at D0
  obtain ⟨a1, w1, D1, g1, s1⟩ := arg_readB tok cl_reach (n := 3) (by rfl) (hval 1 28 v1 rfl rfl) z1 k1
  rw [s1 (by rfl)] at D1
  obtain ⟨n, h', hr⟩ := callW_run (twoRun a0 a1 D0 D1)
  refine (calls_true mixed tok fok hr (.cons _ _ _ _ w0 (.cons _ _ _ _ w1 .nil))).mono ?_
  rintro e W' ⟨rfl, hb⟩
  exact ⟨_, rfl, post_true laidOut (by kernel_rfl) (by kernel_rfl) Try.underlying4 rfl hW' rfl hb⟩
theorem packTwo : Rows.PackTwoSaid :=
  OpenClaim.holds_of_wide 5 Try.f5 rfl rfl rfl rfl rfl rfl rfl ⟨rfl, rfl, rfl, rfl, rfl⟩ rfl rfl rfl rfl rfl (by kernel_rfl) Try.func5 (by kernel_rfl)
    (of_decide_eq_true (by kernel_rfl)) (by unfold Func.isWrapper; first | (rw [if_pos (by decide +kernel)]; kernel_rfl) | (rw [if_neg (by decide +kernel)]; exact ⟨rfl, rfl⟩))
    (fun os started H enc _ => lifted5 os started H enc)
#print axioms packTwo
end Go.Proofs.Ytmpeofjfagdgkaa
