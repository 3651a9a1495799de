/- 'PrefixGet' is true for every slice of bytes and every number of bits: no conditions. Both Gets are shown to answer the same. -/
import Derived.Test.YtbmfigafbilbmaaPfxLaw
set_option linter.unusedSimpArgs false
set_option linter.unusedVariables false
namespace Go.Proofs.Ytbmfigafbilbmaa
open Go.Abs Go.RowKit Go.ChangeShapes
set_option maxRecDepth 100000
set_option maxHeartbeats 4000000 in
theorem getRun (a b : AV) (D0 : Dat Try.T 2 23 [a]) (D1 : Dat Try.T 1 3 [b]) : callW Try.prog Try.T 4 [a, b] AH.empty fun v _ => v = .bool true := by
  obtain ⟨l, hs0, hl⟩ := dat_bytes (h := AH.empty) (i := 0) rfl rfl rfl D0
  obtain ⟨x, rfl, hx⟩ := dat_int rfl D1
  refine callW_in (n := 43) (rs := [.tmp 4]) (m := 43) Try.func4 rfl rfl rfl rfl fun tr ht => ?_; have e0 := ht 0 _ rfl; have e1 := ht 1 _ rfl; clear ht
  repeat' (first
      | with_reducible refine q_nn ?_ | with_reducible refine q_nr ?_ | with_reducible refine q_ne ?_ | with_reducible refine q_en ?_ | with_reducible refine q_er ?_ | with_reducible refine q_es ?_ | ((with_reducible refine q_eo ?_ ?_); exact rfl) | with_reducible refine q_gn ?_ | with_reducible refine q_gr ?_ | with_reducible refine q_ge ?_ | with_reducible refine c_seq ?_ | with_reducible refine c_block ?_ | with_reducible refine c_scope ?_ | with_reducible refine c_skip ?_ | with_reducible refine c_label ?_ | with_reducible refine c_ret ?_ | with_reducible refine c_exit ?_ | ((with_reducible refine hK _ _ ?_); clear hK K)
      | ((first | with_reducible refine c_reg fun K hK => ?_ | ((with_reducible refine c_drw ?_ fun K hK => ?_); kernel_rfl) | with_reducible refine c_cond ?_ | with_reducible show endW _ _ _ _ _ | with_reducible refine ifb_dec (fun _ => ?_) (fun _ => ?_) | with_reducible refine ifb_ieq (fun _ => ?_) (fun _ => ?_) | with_reducible refine ifb_seq (fun _ => ?_) (fun _ => ?_)) <;> simp (disch := first | with_unfolding_all exact Lk.mk rfl | with_unfolding_all exact Seen.of rfl | assumption | (fail_if_success (first | refine Seen.of ?_ | refine Sl.frame ?_ ?_ ?_ | refine Ow.frame ?_ ?_ ?_)); omega) only [go_sem, Int.reduceEq, Int.reduceLE, Int.reduceLT, Int.reduceNe, Int.reduceNeg, Int.reduceAdd, Int.reduceSub, Int.reduceMul, Int.reduceToNat, Nat.reduceLT, Nat.reduceLeDiff, Nat.reduceEqDiff, Nat.reduceAdd, Nat.reduceSub, Nat.reduceMul, reduceCtorEq, reduceIte, e0, e1]))
  refine callM_of (begun) ?_
  rintro v h1 rfl
  have hs := hs0.any h1 0
  simp (disch := first | with_unfolding_all exact Lk.mk rfl | with_unfolding_all exact Seen.of rfl | assumption | (fail_if_success (first | refine Seen.of ?_ | refine Sl.frame ?_ ?_ ?_ | refine Ow.frame ?_ ?_ ?_)); omega) only [go_sem, Int.reduceEq, Int.reduceLE, Int.reduceLT, Int.reduceNe, Int.reduceNeg, Int.reduceAdd, Int.reduceSub, Int.reduceMul, Int.reduceToNat, Nat.reduceLT, Nat.reduceLeDiff, Nat.reduceEqDiff, Nat.reduceAdd, Nat.reduceSub, Nat.reduceMul, reduceCtorEq, reduceIte, e0, e1]; repeat' (first
      | with_reducible refine q_nn ?_ | with_reducible refine q_nr ?_ | with_reducible refine q_ne ?_ | with_reducible refine q_en ?_ | with_reducible refine q_er ?_ | with_reducible refine q_es ?_ | ((with_reducible refine q_eo ?_ ?_); exact rfl) | with_reducible refine q_gn ?_ | with_reducible refine q_gr ?_ | with_reducible refine q_ge ?_ | with_reducible refine c_seq ?_ | with_reducible refine c_block ?_ | with_reducible refine c_scope ?_ | with_reducible refine c_skip ?_ | with_reducible refine c_label ?_ | with_reducible refine c_ret ?_ | with_reducible refine c_exit ?_ | ((with_reducible refine hK _ _ ?_); clear hK K)
      | ((first | with_reducible refine c_reg fun K hK => ?_ | ((with_reducible refine c_drw ?_ fun K hK => ?_); kernel_rfl) | with_reducible refine c_cond ?_ | with_reducible show endW _ _ _ _ _ | with_reducible refine ifb_dec (fun _ => ?_) (fun _ => ?_) | with_reducible refine ifb_ieq (fun _ => ?_) (fun _ => ?_) | with_reducible refine ifb_seq (fun _ => ?_) (fun _ => ?_)) <;> simp (disch := first | with_unfolding_all exact Lk.mk rfl | with_unfolding_all exact Seen.of rfl | assumption | (fail_if_success (first | refine Seen.of ?_ | refine Sl.frame ?_ ?_ ?_ | refine Ow.frame ?_ ?_ ?_)); omega) only [go_sem, Int.reduceEq, Int.reduceLE, Int.reduceLT, Int.reduceNe, Int.reduceNeg, Int.reduceAdd, Int.reduceSub, Int.reduceMul, Int.reduceToNat, Nat.reduceLT, Nat.reduceLeDiff, Nat.reduceEqDiff, Nat.reduceAdd, Nat.reduceSub, Nat.reduceMul, reduceCtorEq, reduceIte, e0, e1]))
  refine callM_of (get a 0 l x h1 hs hl) ?_
  rintro v h1 ⟨rfl, rfl⟩
  simp (disch := first | with_unfolding_all exact Lk.mk rfl | with_unfolding_all exact Seen.of rfl | assumption | (fail_if_success (first | refine Seen.of ?_ | refine Sl.frame ?_ ?_ ?_ | refine Ow.frame ?_ ?_ ?_)); omega) only [go_sem, Int.reduceEq, Int.reduceLE, Int.reduceLT, Int.reduceNe, Int.reduceNeg, Int.reduceAdd, Int.reduceSub, Int.reduceMul, Int.reduceToNat, Nat.reduceLT, Nat.reduceLeDiff, Nat.reduceEqDiff, Nat.reduceAdd, Nat.reduceSub, Nat.reduceMul, reduceCtorEq, reduceIte, e0, e1, enc3]; repeat' (first
      | with_reducible refine q_nn ?_ | with_reducible refine q_nr ?_ | with_reducible refine q_ne ?_ | with_reducible refine q_en ?_ | with_reducible refine q_er ?_ | with_reducible refine q_es ?_ | ((with_reducible refine q_eo ?_ ?_); exact rfl) | with_reducible refine q_gn ?_ | with_reducible refine q_gr ?_ | with_reducible refine q_ge ?_ | with_reducible refine c_seq ?_ | with_reducible refine c_block ?_ | with_reducible refine c_scope ?_ | with_reducible refine c_skip ?_ | with_reducible refine c_label ?_ | with_reducible refine c_ret ?_ | with_reducible refine c_exit ?_ | ((with_reducible refine hK _ _ ?_); clear hK K)
      | ((first | with_reducible refine c_reg fun K hK => ?_ | ((with_reducible refine c_drw ?_ fun K hK => ?_); kernel_rfl) | with_reducible refine c_cond ?_ | with_reducible show endW _ _ _ _ _ | with_reducible refine ifb_dec (fun _ => ?_) (fun _ => ?_) | with_reducible refine ifb_ieq (fun _ => ?_) (fun _ => ?_) | with_reducible refine ifb_seq (fun _ => ?_) (fun _ => ?_)) <;> simp (disch := first | with_unfolding_all exact Lk.mk rfl | with_unfolding_all exact Seen.of rfl | assumption | (fail_if_success (first | refine Seen.of ?_ | refine Sl.frame ?_ ?_ ?_ | refine Ow.frame ?_ ?_ ?_)); omega) only [go_sem, Int.reduceEq, Int.reduceLE, Int.reduceLT, Int.reduceNe, Int.reduceNeg, Int.reduceAdd, Int.reduceSub, Int.reduceMul, Int.reduceToNat, Nat.reduceLT, Nat.reduceLeDiff, Nat.reduceEqDiff, Nat.reduceAdd, Nat.reduceSub, Nat.reduceMul, reduceCtorEq, reduceIte, e0, e1, enc3]))
  refine callM_of (refGet a 0 l x h1 hs hl) ?_
  rintro v h1 ⟨rfl, rfl⟩
  simp (disch := first | with_unfolding_all exact Lk.mk rfl | with_unfolding_all exact Seen.of rfl | assumption | (fail_if_success (first | refine Seen.of ?_ | refine Sl.frame ?_ ?_ ?_ | refine Ow.frame ?_ ?_ ?_)); omega) only [go_sem, Int.reduceEq, Int.reduceLE, Int.reduceLT, Int.reduceNe, Int.reduceNeg, Int.reduceAdd, Int.reduceSub, Int.reduceMul, Int.reduceToNat, Nat.reduceLT, Nat.reduceLeDiff, Nat.reduceEqDiff, Nat.reduceAdd, Nat.reduceSub, Nat.reduceMul, reduceCtorEq, reduceIte, e0, e1, enc3]; repeat' (first
      | with_reducible refine q_nn ?_ | with_reducible refine q_nr ?_ | with_reducible refine q_ne ?_ | with_reducible refine q_en ?_ | with_reducible refine q_er ?_ | with_reducible refine q_es ?_ | ((with_reducible refine q_eo ?_ ?_); exact rfl) | with_reducible refine q_gn ?_ | with_reducible refine q_gr ?_ | with_reducible refine q_ge ?_ | with_reducible refine c_seq ?_ | with_reducible refine c_block ?_ | with_reducible refine c_scope ?_ | with_reducible refine c_skip ?_ | with_reducible refine c_label ?_ | with_reducible refine c_ret ?_ | with_reducible refine c_exit ?_ | ((with_reducible refine hK _ _ ?_); clear hK K)
      | ((first | with_reducible refine c_reg fun K hK => ?_ | ((with_reducible refine c_drw ?_ fun K hK => ?_); kernel_rfl) | with_reducible refine c_cond ?_ | with_reducible show endW _ _ _ _ _ | with_reducible refine ifb_dec (fun _ => ?_) (fun _ => ?_) | with_reducible refine ifb_ieq (fun _ => ?_) (fun _ => ?_) | with_reducible refine ifb_seq (fun _ => ?_) (fun _ => ?_)) <;> simp (disch := first | with_unfolding_all exact Lk.mk rfl | with_unfolding_all exact Seen.of rfl | assumption | (fail_if_success (first | refine Seen.of ?_ | refine Sl.frame ?_ ?_ ?_ | refine Ow.frame ?_ ?_ ?_)); omega) only [go_sem, Int.reduceEq, Int.reduceLE, Int.reduceLT, Int.reduceNe, Int.reduceNeg, Int.reduceAdd, Int.reduceSub, Int.reduceMul, Int.reduceToNat, Nat.reduceLT, Nat.reduceLeDiff, Nat.reduceEqDiff, Nat.reduceAdd, Nat.reduceSub, Nat.reduceMul, reduceCtorEq, reduceIte, e0, e1, enc3]))
theorem lifted4 (os : Os) (started : os.Started) (H : Type) (enc : TypeId × Value → H) :
    ReturnsInHanded {} Try.checked os 4 .any (Rows.prefixGetSpec.pre6 enc Try.prog Try.f4 Rows.prefixGetRow.domain false) (Rows.prefixGetSpec.post enc Try.prog Try.f4 false true false false) := by
  refine returnsInHanded_of_change (C := Try.checked) own started (by kernel_rfl) Try.func4
    (ChangeSpec.witness6 (enc := enc) (C := Try.checked) false ⟨#[], #[.slice none 0 0, .int .i64 0], []⟩ 8 (by kernel_rfl) (by kernel_rfl) (by kernel_rfl) (by kernel_rfl)) ?_
  intro W base args ds gs before hval hW _ _
  have hW' := hW
  obtain ⟨p, q, hA0, hV, rfl, _, _⟩ := hW
  have hA : DataW.TrodAll enc Try.prog W 0 (fun _ => true) true Try.f4.params.toList args.toList ds p := hA0
  rw [Try.params4] at hA hval
  obtain ⟨v0, vs0, d0, ds0, p0, q0, hargs, rfl, rfl, k0, r0⟩ := trodAll_cons hA
  obtain ⟨v1, vs1, d1, ds1, p1, q1, rfl, rfl, rfl, k1, r1⟩ := trodAll_cons r0
  obtain ⟨rfl, rfl, rfl⟩ := trodAll_nil r1
  obtain rfl : args = #[v0, v1] := by cases args; simp_all
  obtain ⟨rfl, rfl⟩ := trodVars_none hV
  obtain ⟨a0, w0, D0, g0, s0⟩ := arg_read tok (n := 2) (by rfl) (hval 0 23 v0 rfl rfl) k0
  rw [s0 (by rfl)] at D0
  obtain ⟨a1, w1, D1, g1, s1⟩ := arg_read tok (n := 1) (by rfl) (hval 1 3 v1 rfl rfl) k1
  rw [s1 (by rfl)] at D1
  obtain ⟨n, h', hr⟩ := callW_run (getRun a0 a1 D0 D1)
  refine (calls_true mixed tok fok hr (.cons _ _ _ _ w0 (.cons _ _ _ _ w1 .nil))).mono ?_
  rintro e W' ⟨rfl, hb⟩
  exact ⟨_, rfl, post_true laidOut (by kernel_rfl) (by kernel_rfl) Try.underlying4 rfl hW' rfl hb⟩
theorem prefixGet : Rows.PrefixGetSaid :=
  OpenClaim.holds_of_wide 4 Try.f4 rfl rfl rfl rfl rfl rfl rfl ⟨rfl, rfl, rfl, rfl, rfl⟩ rfl rfl rfl rfl rfl (by kernel_rfl) Try.func4 (by kernel_rfl)
    (of_decide_eq_true (by kernel_rfl)) (by unfold Func.isWrapper; first | (rw [if_pos (by decide +kernel)]; kernel_rfl) | (rw [if_neg (by decide +kernel)]; exact ⟨rfl, rfl⟩))
    (fun os started H enc _ => lifted4 os started H enc)
#print axioms prefixGet
end Go.Proofs.Ytbmfigafbilbmaa
