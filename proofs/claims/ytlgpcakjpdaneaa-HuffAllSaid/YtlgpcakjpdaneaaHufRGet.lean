/- The reference's Symbol and Get. -/
import Derived.Test.YtlgpcakjpdaneaaHufGet
set_option linter.unusedSimpArgs false
set_option linter.unusedVariables false
namespace Go.Proofs.Ytlgpcakjpdaneaa
open Go.Abs
set_option maxRecDepth 100000
def findS (n w : Int) : List (Int × Int) → Int
  | [] => -1
  | x :: r => if x.2 > n then -1 else if x.2 = n ∧ (ctab[x.1.toNat]!).2 = w then x.1 else findS n w r
set_option maxHeartbeats 4000000 in
theorem symbol (a b : AV) (ia ib : Nat) (w n : Int) (h0 : AH) (ha : Sl EI h0 ia a (syms.map (·.1))) (hb : Sl EI h0 ib b ctabW) : callW Try.prog Try.T 27 [a, b, .int .i64 w, .int .i64 n] h0 fun v h' => v = .int .i64 (findS n w syms) ∧ h' = h0 := by
  have hsl := syms_len
  have hml : (syms.map (·.1)).length = 257 := by rw [List.length_map, hsl]
  have hwl := ctabW_len
  refine callW_in (n := 45) (rs := [.tmp 8]) (m := 45) Try.func27 rfl rfl rfl rfl fun tr ht => ?_; have e0 := ht 0 _ rfl; have e1 := ht 1 _ rfl; have e2 := ht 2 _ rfl; have e3 := ht 3 _ rfl; clear ht
  repeat' (first
      | with_reducible refine q_nn ?_ | with_reducible refine q_nr ?_ | with_reducible refine q_ne ?_ | with_reducible refine q_en ?_ | with_reducible refine q_er ?_ | with_reducible refine q_es ?_ | ((with_reducible refine q_eo ?_ ?_); exact rfl) | with_reducible refine q_gn ?_ | with_reducible refine q_gr ?_ | with_reducible refine q_ge ?_ | with_reducible refine c_seq ?_ | with_reducible refine c_block ?_ | with_reducible refine c_scope ?_ | with_reducible refine c_skip ?_ | with_reducible refine c_label ?_ | with_reducible refine c_ret ?_ | with_reducible refine c_exit ?_ | ((with_reducible refine hK _ _ ?_); clear hK K) | with_reducible refine seg_nil ?_
      | ((first | with_reducible refine c_reg fun K hK => ?_ | ((with_reducible refine c_drw (by decide +kernel) fun K hK => ?_)) | with_reducible refine c_cond ?_ | with_reducible refine seg_cons fun K hK => ?_ | with_reducible show endW _ _ _ _ _ | with_reducible refine ifb_dec (fun _ => ?_) (fun _ => ?_) | with_reducible refine ifb_ieq (fun _ => ?_) (fun _ => ?_) | with_reducible refine ifb_seq (fun _ => ?_) (fun _ => ?_)) <;> try simp (disch := first | with_unfolding_all exact Lk.mk rfl | with_unfolding_all exact Seen.of rfl | assumption | (fail_if_success (first | refine Seen.of ?_ | refine Sl.frame ?_ ?_ ?_ | refine Ow.frame ?_ ?_ ?_)); omega) only [go_sem, Int.reduceEq, Int.reduceLE, Int.reduceLT, Int.reduceNe, Int.reduceNeg, Int.reduceAdd, Int.reduceSub, Int.reduceMul, Int.reduceToNat, Nat.reduceLT, Nat.reduceLeDiff, Nat.reduceEqDiff, Nat.reduceAdd, Nat.reduceSub, Nat.reduceMul, reduceCtorEq, reduceIte, e0])
      | with_reducible refine obl_and (by simp (disch := first | with_unfolding_all exact Lk.mk rfl | with_unfolding_all exact Seen.of rfl | assumption | (fail_if_success (first | refine Seen.of ?_ | refine Sl.frame ?_ ?_ ?_ | refine Ow.frame ?_ ?_ ?_)); omega) only [go_sem, Int.reduceEq, Int.reduceLE, Int.reduceLT, Int.reduceNe, Int.reduceNeg, Int.reduceAdd, Int.reduceSub, Int.reduceMul, Int.reduceToNat, Nat.reduceLT, Nat.reduceLeDiff, Nat.reduceEqDiff, Nat.reduceAdd, Nat.reduceSub, Nat.reduceMul, reduceCtorEq, reduceIte, e0]) ?_)
  refine c_loopF 35184372088576 (fun m tm h => ∃ (k : Nat), tm.get 9 = .int .i64 k ∧ h = h0 ∧ findS n w (syms.drop k) = findS n w syms ∧ k ≤ 257 ∧ m = 257 - k) (257) (by kernel_rfl) ?_ ?_
  · refine ⟨0, ?_, rfl, rfl, by omega, rfl⟩
    (first | with_reducible rfl | (simp (disch := first | with_unfolding_all exact Lk.mk rfl | with_unfolding_all exact Seen.of rfl | assumption | (fail_if_success (first | refine Seen.of ?_ | refine Sl.frame ?_ ?_ ?_ | refine Ow.frame ?_ ?_ ?_)); omega) only [go_sem, Int.reduceEq, Int.reduceLE, Int.reduceLT, Int.reduceNe, Int.reduceNeg, Int.reduceAdd, Int.reduceSub, Int.reduceMul, Int.reduceToNat, Nat.reduceLT, Nat.reduceLeDiff, Nat.reduceEqDiff, Nat.reduceAdd, Nat.reduceSub, Nat.reduceMul, reduceCtorEq, reduceIte] <;> first | with_reducible rfl | (congr 1 <;> omega)))
  · rintro m tr2 h2 ho ⟨k, t9, rfl, hd, hk, rfl⟩
    have k0 := ho 0 (Seen.of rfl); simp (disch := first | with_unfolding_all exact Lk.mk rfl | with_unfolding_all exact Seen.of rfl | assumption | (fail_if_success (first | refine Seen.of ?_ | refine Sl.frame ?_ ?_ ?_ | refine Ow.frame ?_ ?_ ?_)); omega) only [go_sem, Int.reduceEq, Int.reduceLE, Int.reduceLT, Int.reduceNe, Int.reduceNeg, Int.reduceAdd, Int.reduceSub, Int.reduceMul, Int.reduceToNat, Nat.reduceLT, Nat.reduceLeDiff, Nat.reduceEqDiff, Nat.reduceAdd, Nat.reduceSub, Nat.reduceMul, reduceCtorEq, reduceIte, e0, e1, e2, e3] at k0; have k1 := ho 1 (Seen.of rfl); simp (disch := first | with_unfolding_all exact Lk.mk rfl | with_unfolding_all exact Seen.of rfl | assumption | (fail_if_success (first | refine Seen.of ?_ | refine Sl.frame ?_ ?_ ?_ | refine Ow.frame ?_ ?_ ?_)); omega) only [go_sem, Int.reduceEq, Int.reduceLE, Int.reduceLT, Int.reduceNe, Int.reduceNeg, Int.reduceAdd, Int.reduceSub, Int.reduceMul, Int.reduceToNat, Nat.reduceLT, Nat.reduceLeDiff, Nat.reduceEqDiff, Nat.reduceAdd, Nat.reduceSub, Nat.reduceMul, reduceCtorEq, reduceIte, e0, e1, e2, e3] at k1; have k2 := ho 2 (Seen.of rfl); simp (disch := first | with_unfolding_all exact Lk.mk rfl | with_unfolding_all exact Seen.of rfl | assumption | (fail_if_success (first | refine Seen.of ?_ | refine Sl.frame ?_ ?_ ?_ | refine Ow.frame ?_ ?_ ?_)); omega) only [go_sem, Int.reduceEq, Int.reduceLE, Int.reduceLT, Int.reduceNe, Int.reduceNeg, Int.reduceAdd, Int.reduceSub, Int.reduceMul, Int.reduceToNat, Nat.reduceLT, Nat.reduceLeDiff, Nat.reduceEqDiff, Nat.reduceAdd, Nat.reduceSub, Nat.reduceMul, reduceCtorEq, reduceIte, e0, e1, e2, e3] at k2; have k3 := ho 3 (Seen.of rfl); simp (disch := first | with_unfolding_all exact Lk.mk rfl | with_unfolding_all exact Seen.of rfl | assumption | (fail_if_success (first | refine Seen.of ?_ | refine Sl.frame ?_ ?_ ?_ | refine Ow.frame ?_ ?_ ?_)); omega) only [go_sem, Int.reduceEq, Int.reduceLE, Int.reduceLT, Int.reduceNe, Int.reduceNeg, Int.reduceAdd, Int.reduceSub, Int.reduceMul, Int.reduceToNat, Nat.reduceLT, Nat.reduceLeDiff, Nat.reduceEqDiff, Nat.reduceAdd, Nat.reduceSub, Nat.reduceMul, reduceCtorEq, reduceIte, e0, e1, e2, e3] at k3
    by_cases hkk : k < 257
    · have hkl : k < syms.length := by omega
      have hks : syms[k]? = some ((syms[k]!).1, (syms[k]!).2) := by rw [List.getElem?_eq_getElem hkl, getElem!_pos syms k hkl]
      obtain ⟨c1, c2, _, c4, _, _, _⟩ := syms_ok hks
      have hsn := syms_len_of k hkk
      have hmk : (syms.map (·.1))[k]! = (syms[k]!).1 := by rw [getElem!_pos _ k (by omega), getElem!_pos syms k hkl, List.getElem_map]
      rw [drop_bang hkl] at hd
      have hwa := ctabW_at (s := (syms[k]!).1.toNat) (by omega)
      generalize hsy : syms[k]! = sy at *
      obtain ⟨s, q⟩ := sy
      simp only at c1 c2 c4 hsn hmk hwa
      have hlong := long s h2 c1 c2
      rw [← hsn] at hlong
      simp only [findS] at hd
      repeat' (first
      | with_reducible refine q_nn ?_ | with_reducible refine q_nr ?_ | with_reducible refine q_ne ?_ | with_reducible refine q_en ?_ | with_reducible refine q_er ?_ | with_reducible refine q_es ?_ | ((with_reducible refine q_eo ?_ ?_); exact rfl) | with_reducible refine q_gn ?_ | with_reducible refine q_gr ?_ | with_reducible refine q_ge ?_ | with_reducible refine c_seq ?_ | with_reducible refine c_block ?_ | with_reducible refine c_scope ?_ | with_reducible refine c_skip ?_ | with_reducible refine c_label ?_ | with_reducible refine c_ret ?_ | with_reducible refine c_exit ?_ | ((with_reducible refine hK _ _ ?_); clear hK K) | with_reducible refine seg_nil ?_
      | ((first | with_reducible refine c_reg fun K hK => ?_ | ((with_reducible refine c_drw (by decide +kernel) fun K hK => ?_)) | with_reducible refine c_cond ?_ | with_reducible refine seg_cons fun K hK => ?_ | with_reducible show endW _ _ _ _ _ | with_reducible refine ifb_dec (fun _ => ?_) (fun _ => ?_) | with_reducible refine ifb_ieq (fun _ => ?_) (fun _ => ?_) | with_reducible refine ifb_seq (fun _ => ?_) (fun _ => ?_)) <;> try simp (disch := first | with_unfolding_all exact Lk.mk rfl | with_unfolding_all exact Seen.of rfl | assumption | (fail_if_success (first | refine Seen.of ?_ | refine Sl.frame ?_ ?_ ?_ | refine Ow.frame ?_ ?_ ?_)); omega) only [go_sem, Int.reduceEq, Int.reduceLE, Int.reduceLT, Int.reduceNe, Int.reduceNeg, Int.reduceAdd, Int.reduceSub, Int.reduceMul, Int.reduceToNat, Nat.reduceLT, Nat.reduceLeDiff, Nat.reduceEqDiff, Nat.reduceAdd, Nat.reduceSub, Nat.reduceMul, reduceCtorEq, reduceIte, t9, k0, k1, k2, k3, hml, hmk])
      | with_reducible refine obl_and (by simp (disch := first | with_unfolding_all exact Lk.mk rfl | with_unfolding_all exact Seen.of rfl | assumption | (fail_if_success (first | refine Seen.of ?_ | refine Sl.frame ?_ ?_ ?_ | refine Ow.frame ?_ ?_ ?_)); omega) only [go_sem, Int.reduceEq, Int.reduceLE, Int.reduceLT, Int.reduceNe, Int.reduceNeg, Int.reduceAdd, Int.reduceSub, Int.reduceMul, Int.reduceToNat, Nat.reduceLT, Nat.reduceLeDiff, Nat.reduceEqDiff, Nat.reduceAdd, Nat.reduceSub, Nat.reduceMul, reduceCtorEq, reduceIte, t9, k0, k1, k2, k3, hml, hmk]) ?_)
      refine callM_of hlong ?_
      rintro v h3 ⟨rfl, rfl⟩
      simp (disch := first | with_unfolding_all exact Lk.mk rfl | with_unfolding_all exact Seen.of rfl | assumption | (fail_if_success (first | refine Seen.of ?_ | refine Sl.frame ?_ ?_ ?_ | refine Ow.frame ?_ ?_ ?_)); omega) only [go_sem, Int.reduceEq, Int.reduceLE, Int.reduceLT, Int.reduceNe, Int.reduceNeg, Int.reduceAdd, Int.reduceSub, Int.reduceMul, Int.reduceToNat, Nat.reduceLT, Nat.reduceLeDiff, Nat.reduceEqDiff, Nat.reduceAdd, Nat.reduceSub, Nat.reduceMul, reduceCtorEq, reduceIte, t9, k0, k1, k2, k3, hml, hmk]; repeat' (first
      | with_reducible refine q_nn ?_ | with_reducible refine q_nr ?_ | with_reducible refine q_ne ?_ | with_reducible refine q_en ?_ | with_reducible refine q_er ?_ | with_reducible refine q_es ?_ | ((with_reducible refine q_eo ?_ ?_); exact rfl) | with_reducible refine q_gn ?_ | with_reducible refine q_gr ?_ | with_reducible refine q_ge ?_ | with_reducible refine c_seq ?_ | with_reducible refine c_block ?_ | with_reducible refine c_scope ?_ | with_reducible refine c_skip ?_ | with_reducible refine c_label ?_ | with_reducible refine c_ret ?_ | with_reducible refine c_exit ?_ | ((with_reducible refine hK _ _ ?_); clear hK K) | with_reducible refine seg_nil ?_
      | ((first | with_reducible refine c_reg fun K hK => ?_ | ((with_reducible refine c_drw (by decide +kernel) fun K hK => ?_)) | with_reducible refine c_cond ?_ | with_reducible refine seg_cons fun K hK => ?_ | with_reducible show endW _ _ _ _ _ | with_reducible refine ifb_dec (fun _ => ?_) (fun _ => ?_) | with_reducible refine ifb_ieq (fun _ => ?_) (fun _ => ?_) | with_reducible refine ifb_seq (fun _ => ?_) (fun _ => ?_)) <;> try simp (disch := first | with_unfolding_all exact Lk.mk rfl | with_unfolding_all exact Seen.of rfl | assumption | (fail_if_success (first | refine Seen.of ?_ | refine Sl.frame ?_ ?_ ?_ | refine Ow.frame ?_ ?_ ?_)); omega) only [go_sem, Int.reduceEq, Int.reduceLE, Int.reduceLT, Int.reduceNe, Int.reduceNeg, Int.reduceAdd, Int.reduceSub, Int.reduceMul, Int.reduceToNat, Nat.reduceLT, Nat.reduceLeDiff, Nat.reduceEqDiff, Nat.reduceAdd, Nat.reduceSub, Nat.reduceMul, reduceCtorEq, reduceIte, t9, k0, k1, k2, k3, hml, hmk])
      | with_reducible refine obl_and (by simp (disch := first | with_unfolding_all exact Lk.mk rfl | with_unfolding_all exact Seen.of rfl | assumption | (fail_if_success (first | refine Seen.of ?_ | refine Sl.frame ?_ ?_ ?_ | refine Ow.frame ?_ ?_ ?_)); omega) only [go_sem, Int.reduceEq, Int.reduceLE, Int.reduceLT, Int.reduceNe, Int.reduceNeg, Int.reduceAdd, Int.reduceSub, Int.reduceMul, Int.reduceToNat, Nat.reduceLT, Nat.reduceLeDiff, Nat.reduceEqDiff, Nat.reduceAdd, Nat.reduceSub, Nat.reduceMul, reduceCtorEq, reduceIte, t9, k0, k1, k2, k3, hml, hmk]) ?_)
      · rename_i hc
        rw [if_pos (by omega)] at hd; rw [← hd]
      · rename_i hc
        rw [if_neg (by omega)] at hd
        refine callM_of hlong ?_
        rintro v h4 ⟨rfl, rfl⟩
        simp (disch := first | with_unfolding_all exact Lk.mk rfl | with_unfolding_all exact Seen.of rfl | assumption | (fail_if_success (first | refine Seen.of ?_ | refine Sl.frame ?_ ?_ ?_ | refine Ow.frame ?_ ?_ ?_)); omega) only [go_sem, Int.reduceEq, Int.reduceLE, Int.reduceLT, Int.reduceNe, Int.reduceNeg, Int.reduceAdd, Int.reduceSub, Int.reduceMul, Int.reduceToNat, Nat.reduceLT, Nat.reduceLeDiff, Nat.reduceEqDiff, Nat.reduceAdd, Nat.reduceSub, Nat.reduceMul, reduceCtorEq, reduceIte, t9, k0, k1, k2, k3, hml, hmk, hwa]; repeat' (first
      | with_reducible refine q_nn ?_ | with_reducible refine q_nr ?_ | with_reducible refine q_ne ?_ | with_reducible refine q_en ?_ | with_reducible refine q_er ?_ | with_reducible refine q_es ?_ | ((with_reducible refine q_eo ?_ ?_); exact rfl) | with_reducible refine q_gn ?_ | with_reducible refine q_gr ?_ | with_reducible refine q_ge ?_ | with_reducible refine c_seq ?_ | with_reducible refine c_block ?_ | with_reducible refine c_scope ?_ | with_reducible refine c_skip ?_ | with_reducible refine c_label ?_ | with_reducible refine c_ret ?_ | with_reducible refine c_exit ?_ | ((with_reducible refine hK _ _ ?_); clear hK K) | with_reducible refine seg_nil ?_
      | ((first | with_reducible refine c_reg fun K hK => ?_ | ((with_reducible refine c_drw (by decide +kernel) fun K hK => ?_)) | with_reducible refine c_cond ?_ | with_reducible refine seg_cons fun K hK => ?_ | with_reducible show endW _ _ _ _ _ | with_reducible refine ifb_dec (fun _ => ?_) (fun _ => ?_) | with_reducible refine ifb_ieq (fun _ => ?_) (fun _ => ?_) | with_reducible refine ifb_seq (fun _ => ?_) (fun _ => ?_)) <;> try simp (disch := first | with_unfolding_all exact Lk.mk rfl | with_unfolding_all exact Seen.of rfl | assumption | (fail_if_success (first | refine Seen.of ?_ | refine Sl.frame ?_ ?_ ?_ | refine Ow.frame ?_ ?_ ?_)); omega) only [go_sem, Int.reduceEq, Int.reduceLE, Int.reduceLT, Int.reduceNe, Int.reduceNeg, Int.reduceAdd, Int.reduceSub, Int.reduceMul, Int.reduceToNat, Nat.reduceLT, Nat.reduceLeDiff, Nat.reduceEqDiff, Nat.reduceAdd, Nat.reduceSub, Nat.reduceMul, reduceCtorEq, reduceIte, t9, k0, k1, k2, k3, hml, hmk, hwa])
      | with_reducible refine obl_and (by simp (disch := first | with_unfolding_all exact Lk.mk rfl | with_unfolding_all exact Seen.of rfl | assumption | (fail_if_success (first | refine Seen.of ?_ | refine Sl.frame ?_ ?_ ?_ | refine Ow.frame ?_ ?_ ?_)); omega) only [go_sem, Int.reduceEq, Int.reduceLE, Int.reduceLT, Int.reduceNe, Int.reduceNeg, Int.reduceAdd, Int.reduceSub, Int.reduceMul, Int.reduceToNat, Nat.reduceLT, Nat.reduceLeDiff, Nat.reduceEqDiff, Nat.reduceAdd, Nat.reduceSub, Nat.reduceMul, reduceCtorEq, reduceIte, t9, k0, k1, k2, k3, hml, hmk, hwa]) ?_)
        · rename_i q1 q2
          rw [if_pos ⟨q1, q2⟩] at hd
          rw [← hd]
        · rename_i q1 q2
          rw [if_neg (fun h => q2 h.2)] at hd
          try dsimp only
          refine ⟨rfl, _, ?_, k + 1, ?_, rfl, hd, by omega, rfl⟩
          · omega
          · (first | with_reducible rfl | (simp (disch := first | with_unfolding_all exact Lk.mk rfl | with_unfolding_all exact Seen.of rfl | assumption | (fail_if_success (first | refine Seen.of ?_ | refine Sl.frame ?_ ?_ ?_ | refine Ow.frame ?_ ?_ ?_)); omega) only [go_sem, Int.reduceEq, Int.reduceLE, Int.reduceLT, Int.reduceNe, Int.reduceNeg, Int.reduceAdd, Int.reduceSub, Int.reduceMul, Int.reduceToNat, Nat.reduceLT, Nat.reduceLeDiff, Nat.reduceEqDiff, Nat.reduceAdd, Nat.reduceSub, Nat.reduceMul, reduceCtorEq, reduceIte, t9] <;> first | with_reducible rfl | (congr 1 <;> omega)))
        · rename_i q1
          rw [if_neg (fun h => q1 h.1)] at hd
          try dsimp only
          refine ⟨rfl, _, ?_, k + 1, ?_, rfl, hd, by omega, rfl⟩
          · omega
          · (first | with_reducible rfl | (simp (disch := first | with_unfolding_all exact Lk.mk rfl | with_unfolding_all exact Seen.of rfl | assumption | (fail_if_success (first | refine Seen.of ?_ | refine Sl.frame ?_ ?_ ?_ | refine Ow.frame ?_ ?_ ?_)); omega) only [go_sem, Int.reduceEq, Int.reduceLE, Int.reduceLT, Int.reduceNe, Int.reduceNeg, Int.reduceAdd, Int.reduceSub, Int.reduceMul, Int.reduceToNat, Nat.reduceLT, Nat.reduceLeDiff, Nat.reduceEqDiff, Nat.reduceAdd, Nat.reduceSub, Nat.reduceMul, reduceCtorEq, reduceIte, t9] <;> first | with_reducible rfl | (congr 1 <;> omega)))
    · have : syms.drop k = [] := List.drop_of_length_le (by omega)
      rw [this] at hd
      repeat' (first
      | with_reducible refine q_nn ?_ | with_reducible refine q_nr ?_ | with_reducible refine q_ne ?_ | with_reducible refine q_en ?_ | with_reducible refine q_er ?_ | with_reducible refine q_es ?_ | ((with_reducible refine q_eo ?_ ?_); exact rfl) | with_reducible refine q_gn ?_ | with_reducible refine q_gr ?_ | with_reducible refine q_ge ?_ | with_reducible refine c_seq ?_ | with_reducible refine c_block ?_ | with_reducible refine c_scope ?_ | with_reducible refine c_skip ?_ | with_reducible refine c_label ?_ | with_reducible refine c_ret ?_ | with_reducible refine c_exit ?_ | ((with_reducible refine hK _ _ ?_); clear hK K) | with_reducible refine seg_nil ?_
      | ((first | with_reducible refine c_reg fun K hK => ?_ | ((with_reducible refine c_drw (by decide +kernel) fun K hK => ?_)) | with_reducible refine c_cond ?_ | with_reducible refine seg_cons fun K hK => ?_ | with_reducible show endW _ _ _ _ _ | with_reducible refine ifb_dec (fun _ => ?_) (fun _ => ?_) | with_reducible refine ifb_ieq (fun _ => ?_) (fun _ => ?_) | with_reducible refine ifb_seq (fun _ => ?_) (fun _ => ?_)) <;> try simp (disch := first | with_unfolding_all exact Lk.mk rfl | with_unfolding_all exact Seen.of rfl | assumption | (fail_if_success (first | refine Seen.of ?_ | refine Sl.frame ?_ ?_ ?_ | refine Ow.frame ?_ ?_ ?_)); omega) only [go_sem, Int.reduceEq, Int.reduceLE, Int.reduceLT, Int.reduceNe, Int.reduceNeg, Int.reduceAdd, Int.reduceSub, Int.reduceMul, Int.reduceToNat, Nat.reduceLT, Nat.reduceLeDiff, Nat.reduceEqDiff, Nat.reduceAdd, Nat.reduceSub, Nat.reduceMul, reduceCtorEq, reduceIte, t9, k0, hml])
      | with_reducible refine obl_and (by simp (disch := first | with_unfolding_all exact Lk.mk rfl | with_unfolding_all exact Seen.of rfl | assumption | (fail_if_success (first | refine Seen.of ?_ | refine Sl.frame ?_ ?_ ?_ | refine Ow.frame ?_ ?_ ?_)); omega) only [go_sem, Int.reduceEq, Int.reduceLE, Int.reduceLT, Int.reduceNe, Int.reduceNeg, Int.reduceAdd, Int.reduceSub, Int.reduceMul, Int.reduceToNat, Nat.reduceLT, Nat.reduceLeDiff, Nat.reduceEqDiff, Nat.reduceAdd, Nat.reduceSub, Nat.reduceMul, reduceCtorEq, reduceIte, t9, k0, hml]) ?_)
      rw [← hd]; rfl
theorem syms_in : ∀ x ∈ syms, x.1 ∈ (rtab[x.2.toNat]!).2 ∧ 5 ≤ x.2 ∧ x.2 ≤ 30 := by rw [syms_eq, rtab_eq]; decide +kernel
theorem rows_in : ∀ n : Nat, n < 31 → ∀ s ∈ (rtab[n]!).2, (s, (n : Int)) ∈ syms := by rw [syms_eq, rtab_eq]; decide +kernel
theorem syms_sorted : syms.Pairwise fun x y => x.2 ≤ y.2 := by rw [syms_eq]; decide +kernel
theorem rows_low : ∀ n : Nat, n < 5 → (rtab[n]!).2 = [] := by rw [rtab_eq]; decide +kernel
theorem findS_none {n w : Int} : ∀ {l : List (Int × Int)}, (∀ x ∈ l, ¬ (x.2 = n ∧ (ctab[x.1.toNat]!).2 = w)) → findS n w l = -1
  | [], _ => rfl
  | x :: r, h => by
    simp only [findS]
    split
    · rfl
    · rw [if_neg (h x List.mem_cons_self)]
      exact findS_none fun y hy => h y (List.mem_cons_of_mem _ hy)
theorem findS_some {n w s : Int} : ∀ {l : List (Int × Int)}, l.Pairwise (fun x y => x.2 ≤ y.2) → (s, n) ∈ l → (ctab[s.toNat]!).2 = w → (∀ y ∈ l, y.2 = n → (ctab[y.1.toNat]!).2 = w → y.1 = s) → findS n w l = s
  | [], _, h, _, _ => by simp at h
  | x :: r, hp, h, hw, hu => by
    rw [List.pairwise_cons] at hp
    simp only [findS]
    have hxn : ¬ x.2 > n := by
      rcases List.mem_cons.1 h with h | h
      · rw [← h]; exact Int.lt_irrefl _
      · have := hp.1 _ h; simp only at this; omega
    rw [if_neg hxn]
    by_cases hc : x.2 = n ∧ (ctab[x.1.toNat]!).2 = w
    · rw [if_pos hc]; exact hu x List.mem_cons_self hc.1 hc.2
    · rw [if_neg hc]
      refine findS_some hp.2 ?_ hw fun y hy => hu y (List.mem_cons_of_mem _ hy)
      rcases List.mem_cons.1 h with h | h
      · exfalso; apply hc; rw [← h]; exact ⟨rfl, hw⟩
      · exact h
/-- A symbol of n bits has its code in its row. -/
theorem word_of {x : Int × Int} (hx : x ∈ syms) : ∃ j : Nat, j < (rtab[x.2.toNat]!).2.length ∧ (rtab[x.2.toNat]!).2[j]! = x.1 ∧ (ctab[x.1.toNat]!).2 = (rtab[x.2.toNat]!).1 + j := by
  obtain ⟨h1, h2, h3⟩ := syms_in x hx
  obtain ⟨j, hj⟩ := List.getElem?_of_mem h1
  have hlt := (List.getElem?_eq_some_iff.1 hj).1
  have hv : (rtab[x.2.toNat]!).2[j]! = x.1 := by rw [getElem!_pos _ j hlt]; exact (List.getElem?_eq_some_iff.1 hj).2
  obtain ⟨_, _, k⟩ := rows_syms x.2.toNat (by omega) j hlt
  rw [hv] at k
  exact ⟨j, hlt, hv, by rw [k]⟩
theorem find_step {n w : Nat} {b : Bool} (h : Live n w) : findS ((n : Int) + 1) ((2 * w + b.toNat : Nat) : Int) syms = (stepS n w b).getD (-1) := by
  have hn := h.1
  have e1 : ((n : Int) + 1).toNat = n + 1 := by omega
  rcases live_step (b := b) h with ⟨h1, h2, _⟩ | ⟨j, h1, h2, h3, h4, h5⟩
  · rw [h1]
    refine findS_none fun x hx hc => ?_
    obtain ⟨j, k1, k2, k3⟩ := word_of hx
    rw [hc.1, e1] at k1 k3
    rw [hc.2] at k3
    omega
  · rw [h4, Option.getD_some]
    obtain ⟨_, _, k⟩ := rows_syms (n + 1) (by omega) j h1
    have hin := rows_in (n + 1) (by omega) ((rtab[n + 1]!).2[j]!) (by rw [getElem!_pos _ j h1]; exact List.getElem_mem h1)
    refine findS_some syms_sorted (by push_cast at hin; exact hin) (by rw [k, h5]) fun y hy hy1 hy2 => ?_
    obtain ⟨j', k1, k2, k3⟩ := word_of hy
    rw [hy1, e1] at k1 k2 k3
    rw [hy2, h5] at k3
    have : j' = j := by omega
    rw [← k2, this]
theorem step_low {n w : Nat} {b : Bool} (h : n + 1 < 5) : stepS n w b = none := by
  have h1 := rows_low (n + 1) h
  have h2 := rows_ok n (by omega)
  unfold stepS
  rw [if_pos]
  rcases h2.1 with ⟨k1, k2⟩ | ⟨k1, k2⟩
  · rw [k1, k2]; simp; omega
  · exact absurd h1 k1
theorem bitsOf_len : ∀ l : List UInt8, (bitsOf l).length = 8 * l.length
  | [] => rfl
  | c :: r => by
    have := bitsOf_len r
    simp only [bitsOf, List.flatMap_cons, List.length_append, bits8_len, List.length_cons] at this ⊢
    omega
theorem bitsOf_at : ∀ (l : List UInt8) (i : Nat), i < 8 * l.length → (bitsOf l)[i]! = ((l[i / 8]!).toNat / 2 ^ (7 - i % 8) % 2 == 1)
  | [], i, h => by simp at h
  | c :: r, i, h => by
    have hl := bitsOf_len (c :: r)
    have hl2 := bitsOf_len r
    rw [getElem!_pos _ i (by omega)]
    have e : bitsOf (c :: r) = bits8 c ++ bitsOf r := rfl
    simp only [e]
    by_cases hi : i < 8
    · rw [List.getElem_append_left (by rw [bits8_len]; exact hi)]
      have := tb_at 8 c.toNat i hi
      rw [getElem!_pos _ i (by rw [toBits_len]; exact hi)] at this
      rw [show i / 8 = 0 by omega, show i % 8 = i by omega, List.getElem!_cons_zero]
      exact this
    · rw [List.getElem_append_right (by rw [bits8_len]; omega)]
      have := bitsOf_at r (i - 8) (by simp at h; omega)
      rw [getElem!_pos _ (i - 8) (by simp at h; omega)] at this
      simp only [bits8_len]
      rw [this, show i / 8 = (i - 8) / 8 + 1 by omega, List.getElem!_cons_succ, show (i - 8) % 8 = i % 8 by omega]
end Go.Proofs.Ytlgpcakjpdaneaa
