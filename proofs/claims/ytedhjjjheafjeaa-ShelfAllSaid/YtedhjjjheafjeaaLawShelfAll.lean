/- 'ShelfAll' is true for all ops and numbers: no conditions. Any openings, skips, closings: code and reference tell the same behind each, of any number. -/
import Derived.Test.YtedhjjjheafjeaaShLaw
set_option linter.unusedSimpArgs false
set_option linter.unusedVariables false
namespace Go.Proofs.Ytedhjjjheafjeaa
open Go.Abs Go.RowKit Go.ChangeShapes
set_option maxRecDepth 100000
set_option maxHeartbeats 4000000 in
theorem allRun (a0 a1 : AV) (D0 : Dat Try.T 3 22 [a0]) (D1 : Dat Try.T 2 23 [a1]) : callW Try.prog Try.T 3 [a0, a1] AH.empty fun v _ => v = .bool true := by
  obtain ⟨ops, hs0, _, hol⟩ := dat_slice (E := EO) (Wf := fun _ => True) (h := AH.empty) (i := 0) Try.Td22 (fun c hc => dat_op (n := 0) hc) rfl D0
  obtain ⟨ids, si, _, hil⟩ := dat_ints (h := AH.empty) (i := 0) (n := 0) Try.Td23 rfl rfl D1
  refine callW_hide fun KK hKK => ?_
  refine callW_in (n := 59) (rs := [.tmp 4]) (m := 59) Try.func3 rfl rfl rfl rfl fun tr ht => ?_; have e0 := ht 0 _ rfl; have e1 := ht 1 _ rfl; clear ht
  repeat' (first
      | (with_reducible first | refine q_nn ?_ | refine q_nr ?_ | refine q_ne ?_ | refine q_en ?_ | refine q_er ?_ | refine q_es ?_ | refine q_gn ?_ | refine q_gr ?_ | refine q_ge ?_ | refine c_seq ?_ | refine c_block ?_ | refine c_scope ?_ | refine c_skip ?_ | refine c_label ?_ | refine c_ret ?_ | refine c_exit ?_ | (refine hK _ _ ?_; clear hK K) | refine seg_nil ?_) | ((with_reducible refine q_eo ?_ ?_); exact rfl)
      | ((with_reducible first | refine c_reg fun K hK => ?_ | refine c_drw (by decide +kernel) fun K hK => ?_ | refine c_cond ?_ | refine seg_cons fun K hK => ?_ | show endW _ _ _ _ _ | refine ifb_dec (fun _ => ?_) (fun _ => ?_) | refine ifb_ieq (fun _ => ?_) (fun _ => ?_) | refine ifb_seq (fun _ => ?_) (fun _ => ?_)) <;> try simp (disch := first | (with_unfolding_all first | exact Lk.mk rfl | exact Seen.of rfl) | assumption | (fail_if_success with_reducible first | refine Seen.of ?_ | apply Sl.frame | apply Ow.frame); omega) only [go_sem, Int.reduceEq, Int.reduceLE, Int.reduceLT, Int.reduceNe, Int.reduceNeg, Int.reduceAdd, Int.reduceSub, Int.reduceMul, Int.reduceToNat, Nat.reduceLT, Nat.reduceLeDiff, Nat.reduceEqDiff, Nat.reduceAdd, Nat.reduceSub, Nat.reduceMul, reduceCtorEq, reduceIte, e0, e1]))
  refine callM_of (begunE (K := fun v h => v = .bool true) fun h' => rfl) ?_
  rintro v h1 rfl
  refine vI ?_; repeat' (first
      | (with_reducible first | refine q_nn ?_ | refine q_nr ?_ | refine q_ne ?_ | refine q_en ?_ | refine q_er ?_ | refine q_es ?_ | refine q_gn ?_ | refine q_gr ?_ | refine q_ge ?_ | refine c_seq ?_ | refine c_block ?_ | refine c_scope ?_ | refine c_skip ?_ | refine c_label ?_ | refine c_ret ?_ | refine c_exit ?_ | (refine hK _ _ ?_; clear hK K) | refine seg_nil ?_) | ((with_reducible refine q_eo ?_ ?_); exact rfl)
      | ((with_reducible first | refine vO ?_ | refine c_reg fun K hK => ?_ | refine c_drw (by decide +kernel) fun K hK => ?_ | refine c_cond ?_ | refine seg_cons fun K hK => ?_ | show endW _ _ _ _ _ | refine ifb_dec (fun _ => ?_) (fun _ => ?_) | refine ifb_ieq (fun _ => ?_) (fun _ => ?_) | refine ifb_seq (fun _ => ?_) (fun _ => ?_)) <;> try simp (disch := first | (with_unfolding_all first | exact Lk.mk rfl | exact Seen.of rfl) | assumption | (fail_if_success with_reducible first | refine Seen.of ?_ | apply Sl.frame | apply Ow.frame); omega) only [go_sem, Int.reduceEq, Int.reduceLE, Int.reduceLT, Int.reduceNe, Int.reduceNeg, Int.reduceAdd, Int.reduceSub, Int.reduceMul, Int.reduceToNat, Nat.reduceLT, Nat.reduceLeDiff, Nat.reduceEqDiff, Nat.reduceAdd, Nat.reduceSub, Nat.reduceMul, reduceCtorEq, reduceIte, e0, e1]))
  refine callM_of (newI h1) ?_
  rintro v h2 ⟨rfl, hh2⟩
  have hc2 : ShC LI (fun x => if x = h1.size then 1 else 0) h2 h1.size sh0 := by rw [hh2]; exact newCI h1
  have z2 : h2.size = h1.size + 1 := by rw [hh2]; simp (disch := first | (with_unfolding_all first | exact Lk.mk rfl | exact Seen.of rfl) | assumption | (fail_if_success with_reducible first | refine Seen.of ?_ | apply Sl.frame | apply Ow.frame); omega) only [go_sem, Int.reduceEq, Int.reduceLE, Int.reduceLT, Int.reduceNe, Int.reduceNeg, Int.reduceAdd, Int.reduceSub, Int.reduceMul, Int.reduceToNat, Nat.reduceLT, Nat.reduceLeDiff, Nat.reduceEqDiff, Nat.reduceAdd, Nat.reduceSub, Nat.reduceMul, reduceCtorEq, reduceIte]
  clear hh2
  refine vI ?_; repeat' (first
      | (with_reducible first | refine q_nn ?_ | refine q_nr ?_ | refine q_ne ?_ | refine q_en ?_ | refine q_er ?_ | refine q_es ?_ | refine q_gn ?_ | refine q_gr ?_ | refine q_ge ?_ | refine c_seq ?_ | refine c_block ?_ | refine c_scope ?_ | refine c_skip ?_ | refine c_label ?_ | refine c_ret ?_ | refine c_exit ?_ | (refine hK _ _ ?_; clear hK K) | refine seg_nil ?_) | ((with_reducible refine q_eo ?_ ?_); exact rfl)
      | ((with_reducible first | refine vO ?_ | refine c_reg fun K hK => ?_ | refine c_drw (by decide +kernel) fun K hK => ?_ | refine c_cond ?_ | refine seg_cons fun K hK => ?_ | show endW _ _ _ _ _ | refine ifb_dec (fun _ => ?_) (fun _ => ?_) | refine ifb_ieq (fun _ => ?_) (fun _ => ?_) | refine ifb_seq (fun _ => ?_) (fun _ => ?_)) <;> try simp (disch := first | (with_unfolding_all first | exact Lk.mk rfl | exact Seen.of rfl) | assumption | (fail_if_success with_reducible first | refine Seen.of ?_ | apply Sl.frame | apply Ow.frame); omega) only [go_sem, Int.reduceEq, Int.reduceLE, Int.reduceLT, Int.reduceNe, Int.reduceNeg, Int.reduceAdd, Int.reduceSub, Int.reduceMul, Int.reduceToNat, Nat.reduceLT, Nat.reduceLeDiff, Nat.reduceEqDiff, Nat.reduceAdd, Nat.reduceSub, Nat.reduceMul, reduceCtorEq, reduceIte, e0, e1]))
  refine c_hide fun h3 hh3 => ?_
  have hr3 := newR h2
  rw [← hh3] at hr3
  have k3 : Keeps h2.size h2 h3 := by rw [hh3]; exact (Keeps.refl _ _).push (Nat.le_refl _) _
  clear hh3
  have ht3 : Two (fun _ => False) h3 h1.size h2.size sh0 := ⟨_, _, hc2.after k3, hr3, fun x => by
    unfold O1
    by_cases e : x = h2.size
    · rw [if_neg (by omega)]; exact .inl rfl
    · right; rw [if_neg e], fun x hx => hx.elim⟩
  clear hc2 hr3 k3
  generalize h1.size = p at *
  generalize h2.size = q at *
  repeat' (first
      | (with_reducible first | refine q_nn ?_ | refine q_nr ?_ | refine q_ne ?_ | refine q_en ?_ | refine q_er ?_ | refine q_es ?_ | refine q_gn ?_ | refine q_gr ?_ | refine q_ge ?_ | refine c_seq ?_ | refine c_block ?_ | refine c_scope ?_ | refine c_skip ?_ | refine c_label ?_ | refine c_ret ?_ | refine c_exit ?_ | (refine hK _ _ ?_; clear hK K) | refine seg_nil ?_) | ((with_reducible refine q_eo ?_ ?_); exact rfl)
      | ((with_reducible first | refine c_reg fun K hK => ?_ | refine c_drw (by decide +kernel) fun K hK => ?_ | refine c_cond ?_ | refine seg_cons fun K hK => ?_ | show endW _ _ _ _ _ | refine ifb_dec (fun _ => ?_) (fun _ => ?_) | refine ifb_ieq (fun _ => ?_) (fun _ => ?_) | refine ifb_seq (fun _ => ?_) (fun _ => ?_)) <;> try simp (disch := first | (with_unfolding_all first | exact Lk.mk rfl | exact Seen.of rfl) | assumption | (fail_if_success with_reducible first | refine Seen.of ?_ | apply Sl.frame | apply Ow.frame); omega) only [go_sem, Int.reduceEq, Int.reduceLE, Int.reduceLT, Int.reduceNe, Int.reduceNeg, Int.reduceAdd, Int.reduceSub, Int.reduceMul, Int.reduceToNat, Nat.reduceLT, Nat.reduceLeDiff, Nat.reduceEqDiff, Nat.reduceAdd, Nat.reduceSub, Nat.reduceMul, reduceCtorEq, reduceIte, e0, e1]))
  refine c_loopF 288230376151453456 (fun m tm h => ∃ (k : Nat) (s : Sh Int), tm.get 8 = .int .i64 k ∧ k ≤ ops.length ∧ k ≤ 80 ∧ ShOk s k ∧ Two (fun _ => False) h p q s ∧ m = 80 - k) (80) (by kernel_rfl) ?_ ?_
  · refine ⟨0, sh0, ?_, by omega, by omega, ok0, ht3, rfl⟩
    (first | with_reducible rfl | (simp (disch := first | (with_unfolding_all first | exact Lk.mk rfl | exact Seen.of rfl) | assumption | (fail_if_success with_reducible first | refine Seen.of ?_ | apply Sl.frame | apply Ow.frame); omega) only [go_sem, Int.reduceEq, Int.reduceLE, Int.reduceLT, Int.reduceNe, Int.reduceNeg, Int.reduceAdd, Int.reduceSub, Int.reduceMul, Int.reduceToNat, Nat.reduceLT, Nat.reduceLeDiff, Nat.reduceEqDiff, Nat.reduceAdd, Nat.reduceSub, Nat.reduceMul, reduceCtorEq, reduceIte] <;> first | with_reducible rfl | (congr 1 <;> omega)))
  · rintro m tr2 h4 ho ⟨k, s, t8, hk, hk80, ok, ht4, rfl⟩
    have k0 := ho 0 (Seen.of rfl); simp (disch := first | (with_unfolding_all first | exact Lk.mk rfl | exact Seen.of rfl) | assumption | (fail_if_success with_reducible first | refine Seen.of ?_ | apply Sl.frame | apply Ow.frame); omega) only [go_sem, Int.reduceEq, Int.reduceLE, Int.reduceLT, Int.reduceNe, Int.reduceNeg, Int.reduceAdd, Int.reduceSub, Int.reduceMul, Int.reduceToNat, Nat.reduceLT, Nat.reduceLeDiff, Nat.reduceEqDiff, Nat.reduceAdd, Nat.reduceSub, Nat.reduceMul, reduceCtorEq, reduceIte, e0, e1] at k0; have k1 := ho 1 (Seen.of rfl); simp (disch := first | (with_unfolding_all first | exact Lk.mk rfl | exact Seen.of rfl) | assumption | (fail_if_success with_reducible first | refine Seen.of ?_ | apply Sl.frame | apply Ow.frame); omega) only [go_sem, Int.reduceEq, Int.reduceLE, Int.reduceLT, Int.reduceNe, Int.reduceNeg, Int.reduceAdd, Int.reduceSub, Int.reduceMul, Int.reduceToNat, Nat.reduceLT, Nat.reduceLeDiff, Nat.reduceEqDiff, Nat.reduceAdd, Nat.reduceSub, Nat.reduceMul, reduceCtorEq, reduceIte, e0, e1] at k1; have k5 := ho 5 (Seen.of rfl); simp (disch := first | (with_unfolding_all first | exact Lk.mk rfl | exact Seen.of rfl) | assumption | (fail_if_success with_reducible first | refine Seen.of ?_ | apply Sl.frame | apply Ow.frame); omega) only [go_sem, Int.reduceEq, Int.reduceLE, Int.reduceLT, Int.reduceNe, Int.reduceNeg, Int.reduceAdd, Int.reduceSub, Int.reduceMul, Int.reduceToNat, Nat.reduceLT, Nat.reduceLeDiff, Nat.reduceEqDiff, Nat.reduceAdd, Nat.reduceSub, Nat.reduceMul, reduceCtorEq, reduceIte, e0, e1] at k5; have k6 := ho 6 (Seen.of rfl); simp (disch := first | (with_unfolding_all first | exact Lk.mk rfl | exact Seen.of rfl) | assumption | (fail_if_success with_reducible first | refine Seen.of ?_ | apply Sl.frame | apply Ow.frame); omega) only [go_sem, Int.reduceEq, Int.reduceLE, Int.reduceLT, Int.reduceNe, Int.reduceNeg, Int.reduceAdd, Int.reduceSub, Int.reduceMul, Int.reduceToNat, Nat.reduceLT, Nat.reduceLeDiff, Nat.reduceEqDiff, Nat.reduceAdd, Nat.reduceSub, Nat.reduceMul, reduceCtorEq, reduceIte, e0, e1] at k6; have k7 := ho 7 (Seen.of rfl); simp (disch := first | (with_unfolding_all first | exact Lk.mk rfl | exact Seen.of rfl) | assumption | (fail_if_success with_reducible first | refine Seen.of ?_ | apply Sl.frame | apply Ow.frame); omega) only [go_sem, Int.reduceEq, Int.reduceLE, Int.reduceLT, Int.reduceNe, Int.reduceNeg, Int.reduceAdd, Int.reduceSub, Int.reduceMul, Int.reduceToNat, Nat.reduceLT, Nat.reduceLeDiff, Nat.reduceEqDiff, Nat.reduceAdd, Nat.reduceSub, Nat.reduceMul, reduceCtorEq, reduceIte, e0, e1] at k7
    have s4 := hs0.any h4 0
    have si4 := si.any h4 0
    by_cases hc : k < ops.length ∧ k < 80
    · rcases hx : ops[k]! with ⟨o1, o2, o3⟩
      have ldi : ∀ h, loadA Try.T h 3 (a0.at EO.sz 1 (k : Int)) = some (.int .i64 o2) := fun h => (hs0.any h 0).ld (by omega) (by omega) (by rw [Int.toNat_natCast, hx]; rfl) (by decide) rfl rfl
      repeat' (first
      | (with_reducible first | refine q_nn ?_ | refine q_nr ?_ | refine q_ne ?_ | refine q_en ?_ | refine q_er ?_ | refine q_es ?_ | refine q_gn ?_ | refine q_gr ?_ | refine q_ge ?_ | refine c_seq ?_ | refine c_block ?_ | refine c_scope ?_ | refine c_skip ?_ | refine c_label ?_ | refine c_ret ?_ | refine c_exit ?_ | (refine hK _ _ ?_; clear hK K) | refine seg_nil ?_) | ((with_reducible refine q_eo ?_ ?_); exact rfl)
      | ((with_reducible first | refine c_reg fun K hK => ?_ | refine c_drw (by decide +kernel) fun K hK => ?_ | refine c_cond ?_ | refine seg_cons fun K hK => ?_ | show endW _ _ _ _ _ | refine ifb_dec (fun _ => ?_) (fun _ => ?_) | refine ifb_ieq (fun _ => ?_) (fun _ => ?_) | refine ifb_seq (fun _ => ?_) (fun _ => ?_)) <;> try simp (disch := first | (with_unfolding_all first | exact Lk.mk rfl | exact Seen.of rfl) | assumption | (fail_if_success with_reducible first | refine Seen.of ?_ | apply Sl.frame | apply Ow.frame); omega) only [go_sem, Int.reduceEq, Int.reduceLE, Int.reduceLT, Int.reduceNe, Int.reduceNeg, Int.reduceAdd, Int.reduceSub, Int.reduceMul, Int.reduceToNat, Nat.reduceLT, Nat.reduceLeDiff, Nat.reduceEqDiff, Nat.reduceAdd, Nat.reduceSub, Nat.reduceMul, reduceCtorEq, reduceIte, k0, k1, k5, k6, k7, t8]))
      refine callM_of (doOp (fun _ => False) p q s (ops[k]!) h4 k ht4 ok (by omega)) ?_
      rintro v h5 ⟨rfl, ht5, -, z5⟩
      have s5 := hs0.any h5 0
      have si5 := si.any h5 0
      have ok5 := ok.opS (ops[k]!)
      generalize opS (ops[k]!) s = s' at *
      refine vI ?_; repeat' (first
      | (with_reducible first | refine q_nn ?_ | refine q_nr ?_ | refine q_ne ?_ | refine q_en ?_ | refine q_er ?_ | refine q_es ?_ | refine q_gn ?_ | refine q_gr ?_ | refine q_ge ?_ | refine c_seq ?_ | refine c_block ?_ | refine c_scope ?_ | refine c_skip ?_ | refine c_label ?_ | refine c_ret ?_ | refine c_exit ?_ | (refine hK _ _ ?_; clear hK K) | refine seg_nil ?_) | ((with_reducible refine q_eo ?_ ?_); exact rfl)
      | ((with_reducible first | refine vO ?_ | refine c_reg fun K hK => ?_ | refine c_drw (by decide +kernel) fun K hK => ?_ | refine c_cond ?_ | refine seg_cons fun K hK => ?_ | show endW _ _ _ _ _ | refine ifb_dec (fun _ => ?_) (fun _ => ?_) | refine ifb_ieq (fun _ => ?_) (fun _ => ?_) | refine ifb_seq (fun _ => ?_) (fun _ => ?_)) <;> try simp (disch := first | (with_unfolding_all first | exact Lk.mk rfl | exact Seen.of rfl) | assumption | (fail_if_success with_reducible first | refine Seen.of ?_ | apply Sl.frame | apply Ow.frame); omega) only [go_sem, Int.reduceEq, Int.reduceLE, Int.reduceLT, Int.reduceNe, Int.reduceNeg, Int.reduceAdd, Int.reduceSub, Int.reduceMul, Int.reduceToNat, Nat.reduceLT, Nat.reduceLeDiff, Nat.reduceEqDiff, Nat.reduceAdd, Nat.reduceSub, Nat.reduceMul, reduceCtorEq, reduceIte, k0, k1, k5, k6, k7, t8, ldi]))
      all_goals
        refine callM_of (sameOk p q s' _ h5 (k + 1) ht5 ok5 (by omega)) ?_
        rintro v h6 ⟨rfl, k6⟩
        refine vI ?_; repeat' (first
      | (with_reducible first | refine q_nn ?_ | refine q_nr ?_ | refine q_ne ?_ | refine q_en ?_ | refine q_er ?_ | refine q_es ?_ | refine q_gn ?_ | refine q_gr ?_ | refine q_ge ?_ | refine c_seq ?_ | refine c_block ?_ | refine c_scope ?_ | refine c_skip ?_ | refine c_label ?_ | refine c_ret ?_ | refine c_exit ?_ | (refine hK _ _ ?_; clear hK K) | refine seg_nil ?_) | ((with_reducible refine q_eo ?_ ?_); exact rfl)
      | ((with_reducible first | refine vO ?_ | refine c_reg fun K hK => ?_ | refine c_drw (by decide +kernel) fun K hK => ?_ | refine c_cond ?_ | refine seg_cons fun K hK => ?_ | show endW _ _ _ _ _ | refine ifb_dec (fun _ => ?_) (fun _ => ?_) | refine ifb_ieq (fun _ => ?_) (fun _ => ?_) | refine ifb_seq (fun _ => ?_) (fun _ => ?_)) <;> try simp (disch := first | (with_unfolding_all first | exact Lk.mk rfl | exact Seen.of rfl) | assumption | (fail_if_success with_reducible first | refine Seen.of ?_ | apply Sl.frame | apply Ow.frame); omega) only [go_sem, Int.reduceEq, Int.reduceLE, Int.reduceLT, Int.reduceNe, Int.reduceNeg, Int.reduceAdd, Int.reduceSub, Int.reduceMul, Int.reduceToNat, Nat.reduceLT, Nat.reduceLeDiff, Nat.reduceEqDiff, Nat.reduceAdd, Nat.reduceSub, Nat.reduceMul, reduceCtorEq, reduceIte, k0, k1, k5, k6, k7, t8]))
        try dsimp only
        refine ⟨rfl, 80 - (k + 1), by omega, k + 1, s', ?_, by omega, by omega, ok5, ht5.keep k6 (fun x hx => hx.elim), rfl⟩
        (first | with_reducible rfl | (simp (disch := first | (with_unfolding_all first | exact Lk.mk rfl | exact Seen.of rfl) | assumption | (fail_if_success with_reducible first | refine Seen.of ?_ | apply Sl.frame | apply Ow.frame); omega) only [go_sem, Int.reduceEq, Int.reduceLE, Int.reduceLT, Int.reduceNe, Int.reduceNeg, Int.reduceAdd, Int.reduceSub, Int.reduceMul, Int.reduceToNat, Nat.reduceLT, Nat.reduceLeDiff, Nat.reduceEqDiff, Nat.reduceAdd, Nat.reduceSub, Nat.reduceMul, reduceCtorEq, reduceIte] <;> first | with_reducible rfl | (congr 1 <;> omega)))
    · by_cases hc2 : k < ops.length
      · repeat' (first
      | (with_reducible first | refine q_nn ?_ | refine q_nr ?_ | refine q_ne ?_ | refine q_en ?_ | refine q_er ?_ | refine q_es ?_ | refine q_gn ?_ | refine q_gr ?_ | refine q_ge ?_ | refine c_seq ?_ | refine c_block ?_ | refine c_scope ?_ | refine c_skip ?_ | refine c_label ?_ | refine c_ret ?_ | refine c_exit ?_ | (refine hK _ _ ?_; clear hK K) | refine seg_nil ?_) | ((with_reducible refine q_eo ?_ ?_); exact rfl)
      | ((with_reducible first | refine c_reg fun K hK => ?_ | refine c_drw (by decide +kernel) fun K hK => ?_ | refine c_cond ?_ | refine seg_cons fun K hK => ?_ | show endW _ _ _ _ _ | refine ifb_dec (fun _ => ?_) (fun _ => ?_) | refine ifb_ieq (fun _ => ?_) (fun _ => ?_) | refine ifb_seq (fun _ => ?_) (fun _ => ?_)) <;> try simp (disch := first | (with_unfolding_all first | exact Lk.mk rfl | exact Seen.of rfl) | assumption | (fail_if_success with_reducible first | refine Seen.of ?_ | apply Sl.frame | apply Ow.frame); omega) only [go_sem, Int.reduceEq, Int.reduceLE, Int.reduceLT, Int.reduceNe, Int.reduceNeg, Int.reduceAdd, Int.reduceSub, Int.reduceMul, Int.reduceToNat, Nat.reduceLT, Nat.reduceLeDiff, Nat.reduceEqDiff, Nat.reduceAdd, Nat.reduceSub, Nat.reduceMul, reduceCtorEq, reduceIte, k0, k1, k5, k6, k7, t8]))
        exact hKK _ _ rfl
      · repeat' (first
      | (with_reducible first | refine q_nn ?_ | refine q_nr ?_ | refine q_ne ?_ | refine q_en ?_ | refine q_er ?_ | refine q_es ?_ | refine q_gn ?_ | refine q_gr ?_ | refine q_ge ?_ | refine c_seq ?_ | refine c_block ?_ | refine c_scope ?_ | refine c_skip ?_ | refine c_label ?_ | refine c_ret ?_ | refine c_exit ?_ | (refine hK _ _ ?_; clear hK K) | refine seg_nil ?_) | ((with_reducible refine q_eo ?_ ?_); exact rfl)
      | ((with_reducible first | refine c_reg fun K hK => ?_ | refine c_drw (by decide +kernel) fun K hK => ?_ | refine c_cond ?_ | refine seg_cons fun K hK => ?_ | show endW _ _ _ _ _ | refine ifb_dec (fun _ => ?_) (fun _ => ?_) | refine ifb_ieq (fun _ => ?_) (fun _ => ?_) | refine ifb_seq (fun _ => ?_) (fun _ => ?_)) <;> try simp (disch := first | (with_unfolding_all first | exact Lk.mk rfl | exact Seen.of rfl) | assumption | (fail_if_success with_reducible first | refine Seen.of ?_ | apply Sl.frame | apply Ow.frame); omega) only [go_sem, Int.reduceEq, Int.reduceLE, Int.reduceLT, Int.reduceNe, Int.reduceNeg, Int.reduceAdd, Int.reduceSub, Int.reduceMul, Int.reduceToNat, Nat.reduceLT, Nat.reduceLeDiff, Nat.reduceEqDiff, Nat.reduceAdd, Nat.reduceSub, Nat.reduceMul, reduceCtorEq, reduceIte, k0, k1, k5, k6, k7, t8]))
        exact hKK _ _ rfl
theorem lifted3 (os : Os) (started : os.Started) (H : Type) (enc : TypeId × Value → H) :
    ReturnsInHanded {} Try.checked os 3 .any (Rows.shelfAllSpec.pre6 enc Try.prog Try.f3 Rows.shelfAllRow.domain false) (Rows.shelfAllSpec.post enc Try.prog Try.f3 false true false false) := by
  refine returnsInHanded_of_change (C := Try.checked) own started (by kernel_rfl) Try.func3
    (ChangeSpec.witness6 (enc := enc) (C := Try.checked) false ⟨#[], #[.slice none 0 0, .slice none 0 0], []⟩ 8 (by kernel_rfl) (by kernel_rfl) (by kernel_rfl) (by kernel_rfl)) ?_
  intro W base args ds gs before hval hW _ _
  have hW' := hW
  obtain ⟨p, q, hA0, hV, rfl, _, _⟩ := hW
  have hA : DataW.TrodAll enc Try.prog W 0 (fun _ => true) true Try.f3.params.toList args.toList ds p := hA0
  rw [Try.params3] at hA hval
  obtain ⟨v0, vs0, d0, ds0, p0, q0, hargs, rfl, rfl, k0, r0⟩ := trodAll_cons hA
  obtain ⟨v1, vs1, d1, ds1, p1, q1, rfl, rfl, rfl, k1, r1⟩ := trodAll_cons r0
  obtain ⟨rfl, rfl, rfl⟩ := trodAll_nil r1
  obtain rfl : args = #[v0, v1] := by cases args; simp_all
  obtain ⟨rfl, rfl⟩ := trodVars_none hV
  obtain ⟨a0, w0, D0, g0, s0⟩ := arg_read tok (n := 3) (by rfl) (hval 0 22 v0 rfl rfl) k0
  rw [s0 (by rfl)] at D0
  obtain ⟨a1, w1, D1, g1, s1⟩ := arg_read tok (n := 2) (by rfl) (hval 1 23 v1 rfl rfl) k1
  rw [s1 (by rfl)] at D1
  obtain ⟨n, h', hr⟩ := callW_run (allRun a0 a1 D0 D1)
  refine (calls_true mixed tok fok hr (.cons _ _ _ _ w0 (.cons _ _ _ _ w1 .nil))).mono ?_
  rintro e W' ⟨rfl, hb⟩
  exact ⟨_, rfl, post_true laidOut (by kernel_rfl) (by kernel_rfl) Try.underlying4 rfl hW' rfl hb⟩
theorem shelfAll : Rows.ShelfAllSaid :=
  OpenClaim.holds_of_wide 3 Try.f3 rfl rfl rfl rfl rfl rfl rfl ⟨rfl, rfl, rfl, rfl, rfl⟩ rfl rfl rfl rfl rfl (by kernel_rfl) Try.func3 (by kernel_rfl)
    (of_decide_eq_true (by kernel_rfl)) (by unfold Func.isWrapper; first | (rw [if_pos (by decide +kernel)]; kernel_rfl) | (rw [if_neg (by decide +kernel)]; exact ⟨rfl, rfl⟩))
    (fun os started H enc _ => lifted3 os started H enc)
#print axioms shelfAll
end Go.Proofs.Ytedhjjjheafjeaa
