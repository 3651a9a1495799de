import Derived.Test.YtbmfigafbilbmaaAbsPfx
set_option linter.unusedSimpArgs false
set_option linter.unusedVariables false
namespace Go.Proofs.Ytbmfigafbilbmaa
open Go.Abs
set_option maxRecDepth 100000


set_option maxHeartbeats 4000000 in
theorem refPut (b f n : Int) (h : AH) : callW Try.prog Try.T 10 [.int .i64 b, .int .i64 f, .int .i64 n] h (PutK h (putS b f n)) := by
  refine callW_of (n := 74) (rs := [.tmp 6, .tmp 7]) Try.func10 rfl rfl rfl ?_
  have e0 : (Tm.enter [AV.int IntKind.i64 b, AV.int IntKind.i64 f, AV.int IntKind.i64 n] 74).get 0 = .int .i64 b := rfl
  have e1 : (Tm.enter [AV.int IntKind.i64 b, AV.int IntKind.i64 f, AV.int IntKind.i64 n] 74).get 1 = .int .i64 f := rfl
  have e2 : (Tm.enter [AV.int IntKind.i64 b, AV.int IntKind.i64 f, AV.int IntKind.i64 n] 74).get 2 = .int .i64 n := rfl
  have es : (Tm.enter [AV.int IntKind.i64 b, AV.int IntKind.i64 f, AV.int IntKind.i64 n] 74).size = 74 := rfl
  generalize (Tm.enter [AV.int IntKind.i64 b, AV.int IntKind.i64 f, AV.int IntKind.i64 n] 74) = tm at *
  by_cases hb : b < 1
  · repeat (first
      | refine q_nn ?_
      | refine q_nr ?_
      | refine q_ne ?_
      | refine q_en ?_
      | refine q_er ?_
      | refine q_es ?_
      | refine q_eo rfl ?_
      | refine q_gn ?_
      | refine q_gr ?_
      | refine q_ge ?_
      | refine c_seq ?_
      | refine c_block ?_
      | refine c_scope ?_
      | refine c_skip ?_
      | refine c_label ?_
      | refine c_ret ?_
      | refine c_exit ?_
      | (refine c_reg fun K hK => ?_; simp only [go_sem, Int.reduceEq, Int.reduceLE, Int.reduceLT, Int.reduceNe, Int.reduceNeg, Int.reduceAdd, Int.reduceSub, Int.reduceMul, ne_eq, not_false_eq_true, Nat.reduceLT, Nat.reduceLeDiff, Nat.reduceEqDiff, Nat.reduceAdd, Nat.reduceSub, Nat.reduceMul, if_true, if_false, decide_true, decide_false, reduceCtorEq, List.cons_append, List.nil_append, List.append_nil, Option.bind_some, Option.map_some, Option.some.injEq, BEq.rfl, Bool.false_beq, Bool.true_beq, beq_self_eq_true, Bool.not_false, Bool.not_true, Bool.false_eq_true, List.getElem?_cons_zero, List.getElem?_cons_succ, reduceIte, e0, e1, e2, es, hb]; refine hK _ _ ?_; clear hK K)
      | (refine c_drw (by kernel_rfl) fun K hK => ?_; simp only [go_sem, Int.reduceEq, Int.reduceLE, Int.reduceLT, Int.reduceNe, Int.reduceNeg, Int.reduceAdd, Int.reduceSub, Int.reduceMul, ne_eq, not_false_eq_true, Nat.reduceLT, Nat.reduceLeDiff, Nat.reduceEqDiff, Nat.reduceAdd, Nat.reduceSub, Nat.reduceMul, if_true, if_false, decide_true, decide_false, reduceCtorEq, List.cons_append, List.nil_append, List.append_nil, Option.bind_some, Option.map_some, Option.some.injEq, BEq.rfl, Bool.false_beq, Bool.true_beq, beq_self_eq_true, Bool.not_false, Bool.not_true, Bool.false_eq_true, List.getElem?_cons_zero, List.getElem?_cons_succ, reduceIte, e0, e1, e2, es, hb]; refine hK _ _ ?_; clear hK K)
      | (refine c_cond ?_; simp only [go_sem, Int.reduceEq, Int.reduceLE, Int.reduceLT, Int.reduceNe, Int.reduceNeg, Int.reduceAdd, Int.reduceSub, Int.reduceMul, ne_eq, not_false_eq_true, Nat.reduceLT, Nat.reduceLeDiff, Nat.reduceEqDiff, Nat.reduceAdd, Nat.reduceSub, Nat.reduceMul, if_true, if_false, decide_true, decide_false, reduceCtorEq, List.cons_append, List.nil_append, List.append_nil, Option.bind_some, Option.map_some, Option.some.injEq, BEq.rfl, Bool.false_beq, Bool.true_beq, beq_self_eq_true, Bool.not_false, Bool.not_true, Bool.false_eq_true, List.getElem?_cons_zero, List.getElem?_cons_succ, reduceIte, e0, e1, e2, es, hb])
      | (show endW _ _ _ _ _; simp only [go_sem, Int.reduceEq, Int.reduceLE, Int.reduceLT, Int.reduceNe, Int.reduceNeg, Int.reduceAdd, Int.reduceSub, Int.reduceMul, ne_eq, not_false_eq_true, Nat.reduceLT, Nat.reduceLeDiff, Nat.reduceEqDiff, Nat.reduceAdd, Nat.reduceSub, Nat.reduceMul, if_true, if_false, decide_true, decide_false, reduceCtorEq, List.cons_append, List.nil_append, List.append_nil, Option.bind_some, Option.map_some, Option.some.injEq, BEq.rfl, Bool.false_beq, Bool.true_beq, beq_self_eq_true, Bool.not_false, Bool.not_true, Bool.false_eq_true, List.getElem?_cons_zero, List.getElem?_cons_succ, reduceIte, e0, e1, e2, es, hb]))
    exact PutK_err (by rw [putS, if_pos (.inl hb)])
  by_cases h8 : b > 8
  · repeat (first
      | refine q_nn ?_
      | refine q_nr ?_
      | refine q_ne ?_
      | refine q_en ?_
      | refine q_er ?_
      | refine q_es ?_
      | refine q_eo rfl ?_
      | refine q_gn ?_
      | refine q_gr ?_
      | refine q_ge ?_
      | refine c_seq ?_
      | refine c_block ?_
      | refine c_scope ?_
      | refine c_skip ?_
      | refine c_label ?_
      | refine c_ret ?_
      | refine c_exit ?_
      | (refine c_reg fun K hK => ?_; simp only [go_sem, Int.reduceEq, Int.reduceLE, Int.reduceLT, Int.reduceNe, Int.reduceNeg, Int.reduceAdd, Int.reduceSub, Int.reduceMul, ne_eq, not_false_eq_true, Nat.reduceLT, Nat.reduceLeDiff, Nat.reduceEqDiff, Nat.reduceAdd, Nat.reduceSub, Nat.reduceMul, if_true, if_false, decide_true, decide_false, reduceCtorEq, List.cons_append, List.nil_append, List.append_nil, Option.bind_some, Option.map_some, Option.some.injEq, BEq.rfl, Bool.false_beq, Bool.true_beq, beq_self_eq_true, Bool.not_false, Bool.not_true, Bool.false_eq_true, List.getElem?_cons_zero, List.getElem?_cons_succ, reduceIte, e0, e1, e2, es, hb, h8]; refine hK _ _ ?_; clear hK K)
      | (refine c_drw (by kernel_rfl) fun K hK => ?_; simp only [go_sem, Int.reduceEq, Int.reduceLE, Int.reduceLT, Int.reduceNe, Int.reduceNeg, Int.reduceAdd, Int.reduceSub, Int.reduceMul, ne_eq, not_false_eq_true, Nat.reduceLT, Nat.reduceLeDiff, Nat.reduceEqDiff, Nat.reduceAdd, Nat.reduceSub, Nat.reduceMul, if_true, if_false, decide_true, decide_false, reduceCtorEq, List.cons_append, List.nil_append, List.append_nil, Option.bind_some, Option.map_some, Option.some.injEq, BEq.rfl, Bool.false_beq, Bool.true_beq, beq_self_eq_true, Bool.not_false, Bool.not_true, Bool.false_eq_true, List.getElem?_cons_zero, List.getElem?_cons_succ, reduceIte, e0, e1, e2, es, hb, h8]; refine hK _ _ ?_; clear hK K)
      | (refine c_cond ?_; simp only [go_sem, Int.reduceEq, Int.reduceLE, Int.reduceLT, Int.reduceNe, Int.reduceNeg, Int.reduceAdd, Int.reduceSub, Int.reduceMul, ne_eq, not_false_eq_true, Nat.reduceLT, Nat.reduceLeDiff, Nat.reduceEqDiff, Nat.reduceAdd, Nat.reduceSub, Nat.reduceMul, if_true, if_false, decide_true, decide_false, reduceCtorEq, List.cons_append, List.nil_append, List.append_nil, Option.bind_some, Option.map_some, Option.some.injEq, BEq.rfl, Bool.false_beq, Bool.true_beq, beq_self_eq_true, Bool.not_false, Bool.not_true, Bool.false_eq_true, List.getElem?_cons_zero, List.getElem?_cons_succ, reduceIte, e0, e1, e2, es, hb, h8])
      | (show endW _ _ _ _ _; simp only [go_sem, Int.reduceEq, Int.reduceLE, Int.reduceLT, Int.reduceNe, Int.reduceNeg, Int.reduceAdd, Int.reduceSub, Int.reduceMul, ne_eq, not_false_eq_true, Nat.reduceLT, Nat.reduceLeDiff, Nat.reduceEqDiff, Nat.reduceAdd, Nat.reduceSub, Nat.reduceMul, if_true, if_false, decide_true, decide_false, reduceCtorEq, List.cons_append, List.nil_append, List.append_nil, Option.bind_some, Option.map_some, Option.some.injEq, BEq.rfl, Bool.false_beq, Bool.true_beq, beq_self_eq_true, Bool.not_false, Bool.not_true, Bool.false_eq_true, List.getElem?_cons_zero, List.getElem?_cons_succ, reduceIte, e0, e1, e2, es, hb, h8]))
    exact PutK_err (by rw [putS, if_pos (by omega)])
  by_cases hf : f < 0
  · repeat (first
      | refine q_nn ?_
      | refine q_nr ?_
      | refine q_ne ?_
      | refine q_en ?_
      | refine q_er ?_
      | refine q_es ?_
      | refine q_eo rfl ?_
      | refine q_gn ?_
      | refine q_gr ?_
      | refine q_ge ?_
      | refine c_seq ?_
      | refine c_block ?_
      | refine c_scope ?_
      | refine c_skip ?_
      | refine c_label ?_
      | refine c_ret ?_
      | refine c_exit ?_
      | (refine c_reg fun K hK => ?_; simp only [go_sem, Int.reduceEq, Int.reduceLE, Int.reduceLT, Int.reduceNe, Int.reduceNeg, Int.reduceAdd, Int.reduceSub, Int.reduceMul, ne_eq, not_false_eq_true, Nat.reduceLT, Nat.reduceLeDiff, Nat.reduceEqDiff, Nat.reduceAdd, Nat.reduceSub, Nat.reduceMul, if_true, if_false, decide_true, decide_false, reduceCtorEq, List.cons_append, List.nil_append, List.append_nil, Option.bind_some, Option.map_some, Option.some.injEq, BEq.rfl, Bool.false_beq, Bool.true_beq, beq_self_eq_true, Bool.not_false, Bool.not_true, Bool.false_eq_true, List.getElem?_cons_zero, List.getElem?_cons_succ, reduceIte, e0, e1, e2, es, hb, h8, hf]; refine hK _ _ ?_; clear hK K)
      | (refine c_drw (by kernel_rfl) fun K hK => ?_; simp only [go_sem, Int.reduceEq, Int.reduceLE, Int.reduceLT, Int.reduceNe, Int.reduceNeg, Int.reduceAdd, Int.reduceSub, Int.reduceMul, ne_eq, not_false_eq_true, Nat.reduceLT, Nat.reduceLeDiff, Nat.reduceEqDiff, Nat.reduceAdd, Nat.reduceSub, Nat.reduceMul, if_true, if_false, decide_true, decide_false, reduceCtorEq, List.cons_append, List.nil_append, List.append_nil, Option.bind_some, Option.map_some, Option.some.injEq, BEq.rfl, Bool.false_beq, Bool.true_beq, beq_self_eq_true, Bool.not_false, Bool.not_true, Bool.false_eq_true, List.getElem?_cons_zero, List.getElem?_cons_succ, reduceIte, e0, e1, e2, es, hb, h8, hf]; refine hK _ _ ?_; clear hK K)
      | (refine c_cond ?_; simp only [go_sem, Int.reduceEq, Int.reduceLE, Int.reduceLT, Int.reduceNe, Int.reduceNeg, Int.reduceAdd, Int.reduceSub, Int.reduceMul, ne_eq, not_false_eq_true, Nat.reduceLT, Nat.reduceLeDiff, Nat.reduceEqDiff, Nat.reduceAdd, Nat.reduceSub, Nat.reduceMul, if_true, if_false, decide_true, decide_false, reduceCtorEq, List.cons_append, List.nil_append, List.append_nil, Option.bind_some, Option.map_some, Option.some.injEq, BEq.rfl, Bool.false_beq, Bool.true_beq, beq_self_eq_true, Bool.not_false, Bool.not_true, Bool.false_eq_true, List.getElem?_cons_zero, List.getElem?_cons_succ, reduceIte, e0, e1, e2, es, hb, h8, hf])
      | (show endW _ _ _ _ _; simp only [go_sem, Int.reduceEq, Int.reduceLE, Int.reduceLT, Int.reduceNe, Int.reduceNeg, Int.reduceAdd, Int.reduceSub, Int.reduceMul, ne_eq, not_false_eq_true, Nat.reduceLT, Nat.reduceLeDiff, Nat.reduceEqDiff, Nat.reduceAdd, Nat.reduceSub, Nat.reduceMul, if_true, if_false, decide_true, decide_false, reduceCtorEq, List.cons_append, List.nil_append, List.append_nil, Option.bind_some, Option.map_some, Option.some.injEq, BEq.rfl, Bool.false_beq, Bool.true_beq, beq_self_eq_true, Bool.not_false, Bool.not_true, Bool.false_eq_true, List.getElem?_cons_zero, List.getElem?_cons_succ, reduceIte, e0, e1, e2, es, hb, h8, hf]))
    exact PutK_err (by rw [putS, if_pos (by omega)])
  by_cases hf2 : f > 255
  · repeat (first
      | refine q_nn ?_
      | refine q_nr ?_
      | refine q_ne ?_
      | refine q_en ?_
      | refine q_er ?_
      | refine q_es ?_
      | refine q_eo rfl ?_
      | refine q_gn ?_
      | refine q_gr ?_
      | refine q_ge ?_
      | refine c_seq ?_
      | refine c_block ?_
      | refine c_scope ?_
      | refine c_skip ?_
      | refine c_label ?_
      | refine c_ret ?_
      | refine c_exit ?_
      | (refine c_reg fun K hK => ?_; simp only [go_sem, Int.reduceEq, Int.reduceLE, Int.reduceLT, Int.reduceNe, Int.reduceNeg, Int.reduceAdd, Int.reduceSub, Int.reduceMul, ne_eq, not_false_eq_true, Nat.reduceLT, Nat.reduceLeDiff, Nat.reduceEqDiff, Nat.reduceAdd, Nat.reduceSub, Nat.reduceMul, if_true, if_false, decide_true, decide_false, reduceCtorEq, List.cons_append, List.nil_append, List.append_nil, Option.bind_some, Option.map_some, Option.some.injEq, BEq.rfl, Bool.false_beq, Bool.true_beq, beq_self_eq_true, Bool.not_false, Bool.not_true, Bool.false_eq_true, List.getElem?_cons_zero, List.getElem?_cons_succ, reduceIte, e0, e1, e2, es, hb, h8, hf, hf2]; refine hK _ _ ?_; clear hK K)
      | (refine c_drw (by kernel_rfl) fun K hK => ?_; simp only [go_sem, Int.reduceEq, Int.reduceLE, Int.reduceLT, Int.reduceNe, Int.reduceNeg, Int.reduceAdd, Int.reduceSub, Int.reduceMul, ne_eq, not_false_eq_true, Nat.reduceLT, Nat.reduceLeDiff, Nat.reduceEqDiff, Nat.reduceAdd, Nat.reduceSub, Nat.reduceMul, if_true, if_false, decide_true, decide_false, reduceCtorEq, List.cons_append, List.nil_append, List.append_nil, Option.bind_some, Option.map_some, Option.some.injEq, BEq.rfl, Bool.false_beq, Bool.true_beq, beq_self_eq_true, Bool.not_false, Bool.not_true, Bool.false_eq_true, List.getElem?_cons_zero, List.getElem?_cons_succ, reduceIte, e0, e1, e2, es, hb, h8, hf, hf2]; refine hK _ _ ?_; clear hK K)
      | (refine c_cond ?_; simp only [go_sem, Int.reduceEq, Int.reduceLE, Int.reduceLT, Int.reduceNe, Int.reduceNeg, Int.reduceAdd, Int.reduceSub, Int.reduceMul, ne_eq, not_false_eq_true, Nat.reduceLT, Nat.reduceLeDiff, Nat.reduceEqDiff, Nat.reduceAdd, Nat.reduceSub, Nat.reduceMul, if_true, if_false, decide_true, decide_false, reduceCtorEq, List.cons_append, List.nil_append, List.append_nil, Option.bind_some, Option.map_some, Option.some.injEq, BEq.rfl, Bool.false_beq, Bool.true_beq, beq_self_eq_true, Bool.not_false, Bool.not_true, Bool.false_eq_true, List.getElem?_cons_zero, List.getElem?_cons_succ, reduceIte, e0, e1, e2, es, hb, h8, hf, hf2])
      | (show endW _ _ _ _ _; simp only [go_sem, Int.reduceEq, Int.reduceLE, Int.reduceLT, Int.reduceNe, Int.reduceNeg, Int.reduceAdd, Int.reduceSub, Int.reduceMul, ne_eq, not_false_eq_true, Nat.reduceLT, Nat.reduceLeDiff, Nat.reduceEqDiff, Nat.reduceAdd, Nat.reduceSub, Nat.reduceMul, if_true, if_false, decide_true, decide_false, reduceCtorEq, List.cons_append, List.nil_append, List.append_nil, Option.bind_some, Option.map_some, Option.some.injEq, BEq.rfl, Bool.false_beq, Bool.true_beq, beq_self_eq_true, Bool.not_false, Bool.not_true, Bool.false_eq_true, List.getElem?_cons_zero, List.getElem?_cons_succ, reduceIte, e0, e1, e2, es, hb, h8, hf, hf2]))
    exact PutK_err (by rw [putS, if_pos (by omega)])
  have hb0 : 0 ≤ b := by omega
  have hp := pow_le (b := b) (by omega) (by omega)
  have hP := power b h (by omega) (by omega)
  have hPc : (((2 ^ b.toNat : Nat) : Int)) = (2 : Int) ^ b.toNat := by push_cast; rfl
  rw [hPc] at hP
  have hP0 : (2 : Int) ^ b.toNat ≠ 0 := by omega
  have hrem : f.tmod (2 ^ b.toNat) = f % 2 ^ b.toNat := Int.tmod_eq_emod_of_nonneg (by omega)
  by_cases hz : f % 2 ^ b.toNat ≠ 0
  · have hz2 : (f % 2 ^ b.toNat != 0) = true := by simpa using hz
    repeat (first
      | refine q_nn ?_
      | refine q_nr ?_
      | refine q_ne ?_
      | refine q_en ?_
      | refine q_er ?_
      | refine q_es ?_
      | refine q_eo rfl ?_
      | refine q_gn ?_
      | refine q_gr ?_
      | refine q_ge ?_
      | refine c_seq ?_
      | refine c_block ?_
      | refine c_scope ?_
      | refine c_skip ?_
      | refine c_label ?_
      | refine c_ret ?_
      | refine c_exit ?_
      | (refine c_reg fun K hK => ?_; simp only [go_sem, Int.reduceEq, Int.reduceLE, Int.reduceLT, Int.reduceNe, Int.reduceNeg, Int.reduceAdd, Int.reduceSub, Int.reduceMul, ne_eq, not_false_eq_true, Nat.reduceLT, Nat.reduceLeDiff, Nat.reduceEqDiff, Nat.reduceAdd, Nat.reduceSub, Nat.reduceMul, if_true, if_false, decide_true, decide_false, reduceCtorEq, List.cons_append, List.nil_append, List.append_nil, Option.bind_some, Option.map_some, Option.some.injEq, BEq.rfl, Bool.false_beq, Bool.true_beq, beq_self_eq_true, Bool.not_false, Bool.not_true, Bool.false_eq_true, List.getElem?_cons_zero, List.getElem?_cons_succ, reduceIte, e0, e1, e2, es, d2, d3, d5, bs23]; refine hK _ _ ?_; clear hK K)
      | (refine c_drw (by kernel_rfl) fun K hK => ?_; simp only [go_sem, Int.reduceEq, Int.reduceLE, Int.reduceLT, Int.reduceNe, Int.reduceNeg, Int.reduceAdd, Int.reduceSub, Int.reduceMul, ne_eq, not_false_eq_true, Nat.reduceLT, Nat.reduceLeDiff, Nat.reduceEqDiff, Nat.reduceAdd, Nat.reduceSub, Nat.reduceMul, if_true, if_false, decide_true, decide_false, reduceCtorEq, List.cons_append, List.nil_append, List.append_nil, Option.bind_some, Option.map_some, Option.some.injEq, BEq.rfl, Bool.false_beq, Bool.true_beq, beq_self_eq_true, Bool.not_false, Bool.not_true, Bool.false_eq_true, List.getElem?_cons_zero, List.getElem?_cons_succ, reduceIte, e0, e1, e2, es, d2, d3, d5, bs23]; refine hK _ _ ?_; clear hK K)
      | (refine c_cond ?_; simp only [go_sem, Int.reduceEq, Int.reduceLE, Int.reduceLT, Int.reduceNe, Int.reduceNeg, Int.reduceAdd, Int.reduceSub, Int.reduceMul, ne_eq, not_false_eq_true, Nat.reduceLT, Nat.reduceLeDiff, Nat.reduceEqDiff, Nat.reduceAdd, Nat.reduceSub, Nat.reduceMul, if_true, if_false, decide_true, decide_false, reduceCtorEq, List.cons_append, List.nil_append, List.append_nil, Option.bind_some, Option.map_some, Option.some.injEq, BEq.rfl, Bool.false_beq, Bool.true_beq, beq_self_eq_true, Bool.not_false, Bool.not_true, Bool.false_eq_true, List.getElem?_cons_zero, List.getElem?_cons_succ, reduceIte, e0, e1, e2, es, d2, d3, d5, bs23])
      | (show endW _ _ _ _ _; simp only [go_sem, Int.reduceEq, Int.reduceLE, Int.reduceLT, Int.reduceNe, Int.reduceNeg, Int.reduceAdd, Int.reduceSub, Int.reduceMul, ne_eq, not_false_eq_true, Nat.reduceLT, Nat.reduceLeDiff, Nat.reduceEqDiff, Nat.reduceAdd, Nat.reduceSub, Nat.reduceMul, if_true, if_false, decide_true, decide_false, reduceCtorEq, List.cons_append, List.nil_append, List.append_nil, Option.bind_some, Option.map_some, Option.some.injEq, BEq.rfl, Bool.false_beq, Bool.true_beq, beq_self_eq_true, Bool.not_false, Bool.not_true, Bool.false_eq_true, List.getElem?_cons_zero, List.getElem?_cons_succ, reduceIte, e0, e1, e2, es, d2, d3, d5, bs23]))
    (refine c_reg fun K hK => ?_; simp only [go_sem, Int.reduceEq, Int.reduceLE, Int.reduceLT, Int.reduceNe, Int.reduceNeg, Int.reduceAdd, Int.reduceSub, Int.reduceMul, ne_eq, not_false_eq_true, Nat.reduceLT, Nat.reduceLeDiff, Nat.reduceEqDiff, Nat.reduceAdd, Nat.reduceSub, Nat.reduceMul, if_true, if_false, decide_true, decide_false, reduceCtorEq, List.cons_append, List.nil_append, List.append_nil, Option.bind_some, Option.map_some, Option.some.injEq, BEq.rfl, Bool.false_beq, Bool.true_beq, beq_self_eq_true, Bool.not_false, Bool.not_true, Bool.false_eq_true, List.getElem?_cons_zero, List.getElem?_cons_succ, reduceIte, e0, e1, e2, es, d2, d3, d5, bs23, hb, h8, hf, hf2, hP0, hrem, hz2]; refine callM_of (hP) ?_; rintro v h' ⟨rfl, rfl⟩; simp only [go_sem, Int.reduceEq, Int.reduceLE, Int.reduceLT, Int.reduceNe, Int.reduceNeg, Int.reduceAdd, Int.reduceSub, Int.reduceMul, ne_eq, not_false_eq_true, Nat.reduceLT, Nat.reduceLeDiff, Nat.reduceEqDiff, Nat.reduceAdd, Nat.reduceSub, Nat.reduceMul, if_true, if_false, decide_true, decide_false, reduceCtorEq, List.cons_append, List.nil_append, List.append_nil, Option.bind_some, Option.map_some, Option.some.injEq, BEq.rfl, Bool.false_beq, Bool.true_beq, beq_self_eq_true, Bool.not_false, Bool.not_true, Bool.false_eq_true, List.getElem?_cons_zero, List.getElem?_cons_succ, reduceIte, e0, e1, e2, es, d2, d3, d5, bs23, hb, h8, hf, hf2, hP0, hrem, hz2]; refine hK _ _ ?_; clear hK K)
    repeat (first
      | refine q_nn ?_
      | refine q_nr ?_
      | refine q_ne ?_
      | refine q_en ?_
      | refine q_er ?_
      | refine q_es ?_
      | refine q_eo rfl ?_
      | refine q_gn ?_
      | refine q_gr ?_
      | refine q_ge ?_
      | refine c_seq ?_
      | refine c_block ?_
      | refine c_scope ?_
      | refine c_skip ?_
      | refine c_label ?_
      | refine c_ret ?_
      | refine c_exit ?_
      | (refine c_reg fun K hK => ?_; simp only [go_sem, Int.reduceEq, Int.reduceLE, Int.reduceLT, Int.reduceNe, Int.reduceNeg, Int.reduceAdd, Int.reduceSub, Int.reduceMul, ne_eq, not_false_eq_true, Nat.reduceLT, Nat.reduceLeDiff, Nat.reduceEqDiff, Nat.reduceAdd, Nat.reduceSub, Nat.reduceMul, if_true, if_false, decide_true, decide_false, reduceCtorEq, List.cons_append, List.nil_append, List.append_nil, Option.bind_some, Option.map_some, Option.some.injEq, BEq.rfl, Bool.false_beq, Bool.true_beq, beq_self_eq_true, Bool.not_false, Bool.not_true, Bool.false_eq_true, List.getElem?_cons_zero, List.getElem?_cons_succ, reduceIte, e0, e1, e2, es, d2, d3, d5, bs23]; refine hK _ _ ?_; clear hK K)
      | (refine c_drw (by kernel_rfl) fun K hK => ?_; simp only [go_sem, Int.reduceEq, Int.reduceLE, Int.reduceLT, Int.reduceNe, Int.reduceNeg, Int.reduceAdd, Int.reduceSub, Int.reduceMul, ne_eq, not_false_eq_true, Nat.reduceLT, Nat.reduceLeDiff, Nat.reduceEqDiff, Nat.reduceAdd, Nat.reduceSub, Nat.reduceMul, if_true, if_false, decide_true, decide_false, reduceCtorEq, List.cons_append, List.nil_append, List.append_nil, Option.bind_some, Option.map_some, Option.some.injEq, BEq.rfl, Bool.false_beq, Bool.true_beq, beq_self_eq_true, Bool.not_false, Bool.not_true, Bool.false_eq_true, List.getElem?_cons_zero, List.getElem?_cons_succ, reduceIte, e0, e1, e2, es, d2, d3, d5, bs23]; refine hK _ _ ?_; clear hK K)
      | (refine c_cond ?_; simp only [go_sem, Int.reduceEq, Int.reduceLE, Int.reduceLT, Int.reduceNe, Int.reduceNeg, Int.reduceAdd, Int.reduceSub, Int.reduceMul, ne_eq, not_false_eq_true, Nat.reduceLT, Nat.reduceLeDiff, Nat.reduceEqDiff, Nat.reduceAdd, Nat.reduceSub, Nat.reduceMul, if_true, if_false, decide_true, decide_false, reduceCtorEq, List.cons_append, List.nil_append, List.append_nil, Option.bind_some, Option.map_some, Option.some.injEq, BEq.rfl, Bool.false_beq, Bool.true_beq, beq_self_eq_true, Bool.not_false, Bool.not_true, Bool.false_eq_true, List.getElem?_cons_zero, List.getElem?_cons_succ, reduceIte, e0, e1, e2, es, d2, d3, d5, bs23])
      | (show endW _ _ _ _ _; simp only [go_sem, Int.reduceEq, Int.reduceLE, Int.reduceLT, Int.reduceNe, Int.reduceNeg, Int.reduceAdd, Int.reduceSub, Int.reduceMul, ne_eq, not_false_eq_true, Nat.reduceLT, Nat.reduceLeDiff, Nat.reduceEqDiff, Nat.reduceAdd, Nat.reduceSub, Nat.reduceMul, if_true, if_false, decide_true, decide_false, reduceCtorEq, List.cons_append, List.nil_append, List.append_nil, Option.bind_some, Option.map_some, Option.some.injEq, BEq.rfl, Bool.false_beq, Bool.true_beq, beq_self_eq_true, Bool.not_false, Bool.not_true, Bool.false_eq_true, List.getElem?_cons_zero, List.getElem?_cons_succ, reduceIte, e0, e1, e2, es, d2, d3, d5, bs23]))
    exact PutK_err (by rw [putS, if_pos (by simp [hz])])
  have hz : f % 2 ^ b.toNat = 0 := by omega
  have hz2 : (f % 2 ^ b.toNat != 0) = false := by simpa using hz
  by_cases hn : n < 0
  · repeat (first
      | refine q_nn ?_
      | refine q_nr ?_
      | refine q_ne ?_
      | refine q_en ?_
      | refine q_er ?_
      | refine q_es ?_
      | refine q_eo rfl ?_
      | refine q_gn ?_
      | refine q_gr ?_
      | refine q_ge ?_
      | refine c_seq ?_
      | refine c_block ?_
      | refine c_scope ?_
      | refine c_skip ?_
      | refine c_label ?_
      | refine c_ret ?_
      | refine c_exit ?_
      | (refine c_reg fun K hK => ?_; simp only [go_sem, Int.reduceEq, Int.reduceLE, Int.reduceLT, Int.reduceNe, Int.reduceNeg, Int.reduceAdd, Int.reduceSub, Int.reduceMul, ne_eq, not_false_eq_true, Nat.reduceLT, Nat.reduceLeDiff, Nat.reduceEqDiff, Nat.reduceAdd, Nat.reduceSub, Nat.reduceMul, if_true, if_false, decide_true, decide_false, reduceCtorEq, List.cons_append, List.nil_append, List.append_nil, Option.bind_some, Option.map_some, Option.some.injEq, BEq.rfl, Bool.false_beq, Bool.true_beq, beq_self_eq_true, Bool.not_false, Bool.not_true, Bool.false_eq_true, List.getElem?_cons_zero, List.getElem?_cons_succ, reduceIte, e0, e1, e2, es, d2, d3, d5, bs23]; refine hK _ _ ?_; clear hK K)
      | (refine c_drw (by kernel_rfl) fun K hK => ?_; simp only [go_sem, Int.reduceEq, Int.reduceLE, Int.reduceLT, Int.reduceNe, Int.reduceNeg, Int.reduceAdd, Int.reduceSub, Int.reduceMul, ne_eq, not_false_eq_true, Nat.reduceLT, Nat.reduceLeDiff, Nat.reduceEqDiff, Nat.reduceAdd, Nat.reduceSub, Nat.reduceMul, if_true, if_false, decide_true, decide_false, reduceCtorEq, List.cons_append, List.nil_append, List.append_nil, Option.bind_some, Option.map_some, Option.some.injEq, BEq.rfl, Bool.false_beq, Bool.true_beq, beq_self_eq_true, Bool.not_false, Bool.not_true, Bool.false_eq_true, List.getElem?_cons_zero, List.getElem?_cons_succ, reduceIte, e0, e1, e2, es, d2, d3, d5, bs23]; refine hK _ _ ?_; clear hK K)
      | (refine c_cond ?_; simp only [go_sem, Int.reduceEq, Int.reduceLE, Int.reduceLT, Int.reduceNe, Int.reduceNeg, Int.reduceAdd, Int.reduceSub, Int.reduceMul, ne_eq, not_false_eq_true, Nat.reduceLT, Nat.reduceLeDiff, Nat.reduceEqDiff, Nat.reduceAdd, Nat.reduceSub, Nat.reduceMul, if_true, if_false, decide_true, decide_false, reduceCtorEq, List.cons_append, List.nil_append, List.append_nil, Option.bind_some, Option.map_some, Option.some.injEq, BEq.rfl, Bool.false_beq, Bool.true_beq, beq_self_eq_true, Bool.not_false, Bool.not_true, Bool.false_eq_true, List.getElem?_cons_zero, List.getElem?_cons_succ, reduceIte, e0, e1, e2, es, d2, d3, d5, bs23])
      | (show endW _ _ _ _ _; simp only [go_sem, Int.reduceEq, Int.reduceLE, Int.reduceLT, Int.reduceNe, Int.reduceNeg, Int.reduceAdd, Int.reduceSub, Int.reduceMul, ne_eq, not_false_eq_true, Nat.reduceLT, Nat.reduceLeDiff, Nat.reduceEqDiff, Nat.reduceAdd, Nat.reduceSub, Nat.reduceMul, if_true, if_false, decide_true, decide_false, reduceCtorEq, List.cons_append, List.nil_append, List.append_nil, Option.bind_some, Option.map_some, Option.some.injEq, BEq.rfl, Bool.false_beq, Bool.true_beq, beq_self_eq_true, Bool.not_false, Bool.not_true, Bool.false_eq_true, List.getElem?_cons_zero, List.getElem?_cons_succ, reduceIte, e0, e1, e2, es, d2, d3, d5, bs23]))
    (refine c_reg fun K hK => ?_; simp only [go_sem, Int.reduceEq, Int.reduceLE, Int.reduceLT, Int.reduceNe, Int.reduceNeg, Int.reduceAdd, Int.reduceSub, Int.reduceMul, ne_eq, not_false_eq_true, Nat.reduceLT, Nat.reduceLeDiff, Nat.reduceEqDiff, Nat.reduceAdd, Nat.reduceSub, Nat.reduceMul, if_true, if_false, decide_true, decide_false, reduceCtorEq, List.cons_append, List.nil_append, List.append_nil, Option.bind_some, Option.map_some, Option.some.injEq, BEq.rfl, Bool.false_beq, Bool.true_beq, beq_self_eq_true, Bool.not_false, Bool.not_true, Bool.false_eq_true, List.getElem?_cons_zero, List.getElem?_cons_succ, reduceIte, e0, e1, e2, es, d2, d3, d5, bs23, hb, h8, hf, hf2, hP0, hrem, hz2, hn]; refine callM_of (hP) ?_; rintro v h' ⟨rfl, rfl⟩; simp only [go_sem, Int.reduceEq, Int.reduceLE, Int.reduceLT, Int.reduceNe, Int.reduceNeg, Int.reduceAdd, Int.reduceSub, Int.reduceMul, ne_eq, not_false_eq_true, Nat.reduceLT, Nat.reduceLeDiff, Nat.reduceEqDiff, Nat.reduceAdd, Nat.reduceSub, Nat.reduceMul, if_true, if_false, decide_true, decide_false, reduceCtorEq, List.cons_append, List.nil_append, List.append_nil, Option.bind_some, Option.map_some, Option.some.injEq, BEq.rfl, Bool.false_beq, Bool.true_beq, beq_self_eq_true, Bool.not_false, Bool.not_true, Bool.false_eq_true, List.getElem?_cons_zero, List.getElem?_cons_succ, reduceIte, e0, e1, e2, es, d2, d3, d5, bs23, hb, h8, hf, hf2, hP0, hrem, hz2, hn]; refine hK _ _ ?_; clear hK K)
    repeat (first
      | refine q_nn ?_
      | refine q_nr ?_
      | refine q_ne ?_
      | refine q_en ?_
      | refine q_er ?_
      | refine q_es ?_
      | refine q_eo rfl ?_
      | refine q_gn ?_
      | refine q_gr ?_
      | refine q_ge ?_
      | refine c_seq ?_
      | refine c_block ?_
      | refine c_scope ?_
      | refine c_skip ?_
      | refine c_label ?_
      | refine c_ret ?_
      | refine c_exit ?_
      | (refine c_reg fun K hK => ?_; simp only [go_sem, Int.reduceEq, Int.reduceLE, Int.reduceLT, Int.reduceNe, Int.reduceNeg, Int.reduceAdd, Int.reduceSub, Int.reduceMul, ne_eq, not_false_eq_true, Nat.reduceLT, Nat.reduceLeDiff, Nat.reduceEqDiff, Nat.reduceAdd, Nat.reduceSub, Nat.reduceMul, if_true, if_false, decide_true, decide_false, reduceCtorEq, List.cons_append, List.nil_append, List.append_nil, Option.bind_some, Option.map_some, Option.some.injEq, BEq.rfl, Bool.false_beq, Bool.true_beq, beq_self_eq_true, Bool.not_false, Bool.not_true, Bool.false_eq_true, List.getElem?_cons_zero, List.getElem?_cons_succ, reduceIte, e0, e1, e2, es, d2, d3, d5, bs23]; refine hK _ _ ?_; clear hK K)
      | (refine c_drw (by kernel_rfl) fun K hK => ?_; simp only [go_sem, Int.reduceEq, Int.reduceLE, Int.reduceLT, Int.reduceNe, Int.reduceNeg, Int.reduceAdd, Int.reduceSub, Int.reduceMul, ne_eq, not_false_eq_true, Nat.reduceLT, Nat.reduceLeDiff, Nat.reduceEqDiff, Nat.reduceAdd, Nat.reduceSub, Nat.reduceMul, if_true, if_false, decide_true, decide_false, reduceCtorEq, List.cons_append, List.nil_append, List.append_nil, Option.bind_some, Option.map_some, Option.some.injEq, BEq.rfl, Bool.false_beq, Bool.true_beq, beq_self_eq_true, Bool.not_false, Bool.not_true, Bool.false_eq_true, List.getElem?_cons_zero, List.getElem?_cons_succ, reduceIte, e0, e1, e2, es, d2, d3, d5, bs23]; refine hK _ _ ?_; clear hK K)
      | (refine c_cond ?_; simp only [go_sem, Int.reduceEq, Int.reduceLE, Int.reduceLT, Int.reduceNe, Int.reduceNeg, Int.reduceAdd, Int.reduceSub, Int.reduceMul, ne_eq, not_false_eq_true, Nat.reduceLT, Nat.reduceLeDiff, Nat.reduceEqDiff, Nat.reduceAdd, Nat.reduceSub, Nat.reduceMul, if_true, if_false, decide_true, decide_false, reduceCtorEq, List.cons_append, List.nil_append, List.append_nil, Option.bind_some, Option.map_some, Option.some.injEq, BEq.rfl, Bool.false_beq, Bool.true_beq, beq_self_eq_true, Bool.not_false, Bool.not_true, Bool.false_eq_true, List.getElem?_cons_zero, List.getElem?_cons_succ, reduceIte, e0, e1, e2, es, d2, d3, d5, bs23])
      | (show endW _ _ _ _ _; simp only [go_sem, Int.reduceEq, Int.reduceLE, Int.reduceLT, Int.reduceNe, Int.reduceNeg, Int.reduceAdd, Int.reduceSub, Int.reduceMul, ne_eq, not_false_eq_true, Nat.reduceLT, Nat.reduceLeDiff, Nat.reduceEqDiff, Nat.reduceAdd, Nat.reduceSub, Nat.reduceMul, if_true, if_false, decide_true, decide_false, reduceCtorEq, List.cons_append, List.nil_append, List.append_nil, Option.bind_some, Option.map_some, Option.some.injEq, BEq.rfl, Bool.false_beq, Bool.true_beq, beq_self_eq_true, Bool.not_false, Bool.not_true, Bool.false_eq_true, List.getElem?_cons_zero, List.getElem?_cons_succ, reduceIte, e0, e1, e2, es, d2, d3, d5, bs23]))
    exact PutK_err (by rw [putS, if_pos (by omega)])
  by_cases hn2 : n > 2147483647
  · repeat (first
      | refine q_nn ?_
      | refine q_nr ?_
      | refine q_ne ?_
      | refine q_en ?_
      | refine q_er ?_
      | refine q_es ?_
      | refine q_eo rfl ?_
      | refine q_gn ?_
      | refine q_gr ?_
      | refine q_ge ?_
      | refine c_seq ?_
      | refine c_block ?_
      | refine c_scope ?_
      | refine c_skip ?_
      | refine c_label ?_
      | refine c_ret ?_
      | refine c_exit ?_
      | (refine c_reg fun K hK => ?_; simp only [go_sem, Int.reduceEq, Int.reduceLE, Int.reduceLT, Int.reduceNe, Int.reduceNeg, Int.reduceAdd, Int.reduceSub, Int.reduceMul, ne_eq, not_false_eq_true, Nat.reduceLT, Nat.reduceLeDiff, Nat.reduceEqDiff, Nat.reduceAdd, Nat.reduceSub, Nat.reduceMul, if_true, if_false, decide_true, decide_false, reduceCtorEq, List.cons_append, List.nil_append, List.append_nil, Option.bind_some, Option.map_some, Option.some.injEq, BEq.rfl, Bool.false_beq, Bool.true_beq, beq_self_eq_true, Bool.not_false, Bool.not_true, Bool.false_eq_true, List.getElem?_cons_zero, List.getElem?_cons_succ, reduceIte, e0, e1, e2, es, d2, d3, d5, bs23]; refine hK _ _ ?_; clear hK K)
      | (refine c_drw (by kernel_rfl) fun K hK => ?_; simp only [go_sem, Int.reduceEq, Int.reduceLE, Int.reduceLT, Int.reduceNe, Int.reduceNeg, Int.reduceAdd, Int.reduceSub, Int.reduceMul, ne_eq, not_false_eq_true, Nat.reduceLT, Nat.reduceLeDiff, Nat.reduceEqDiff, Nat.reduceAdd, Nat.reduceSub, Nat.reduceMul, if_true, if_false, decide_true, decide_false, reduceCtorEq, List.cons_append, List.nil_append, List.append_nil, Option.bind_some, Option.map_some, Option.some.injEq, BEq.rfl, Bool.false_beq, Bool.true_beq, beq_self_eq_true, Bool.not_false, Bool.not_true, Bool.false_eq_true, List.getElem?_cons_zero, List.getElem?_cons_succ, reduceIte, e0, e1, e2, es, d2, d3, d5, bs23]; refine hK _ _ ?_; clear hK K)
      | (refine c_cond ?_; simp only [go_sem, Int.reduceEq, Int.reduceLE, Int.reduceLT, Int.reduceNe, Int.reduceNeg, Int.reduceAdd, Int.reduceSub, Int.reduceMul, ne_eq, not_false_eq_true, Nat.reduceLT, Nat.reduceLeDiff, Nat.reduceEqDiff, Nat.reduceAdd, Nat.reduceSub, Nat.reduceMul, if_true, if_false, decide_true, decide_false, reduceCtorEq, List.cons_append, List.nil_append, List.append_nil, Option.bind_some, Option.map_some, Option.some.injEq, BEq.rfl, Bool.false_beq, Bool.true_beq, beq_self_eq_true, Bool.not_false, Bool.not_true, Bool.false_eq_true, List.getElem?_cons_zero, List.getElem?_cons_succ, reduceIte, e0, e1, e2, es, d2, d3, d5, bs23])
      | (show endW _ _ _ _ _; simp only [go_sem, Int.reduceEq, Int.reduceLE, Int.reduceLT, Int.reduceNe, Int.reduceNeg, Int.reduceAdd, Int.reduceSub, Int.reduceMul, ne_eq, not_false_eq_true, Nat.reduceLT, Nat.reduceLeDiff, Nat.reduceEqDiff, Nat.reduceAdd, Nat.reduceSub, Nat.reduceMul, if_true, if_false, decide_true, decide_false, reduceCtorEq, List.cons_append, List.nil_append, List.append_nil, Option.bind_some, Option.map_some, Option.some.injEq, BEq.rfl, Bool.false_beq, Bool.true_beq, beq_self_eq_true, Bool.not_false, Bool.not_true, Bool.false_eq_true, List.getElem?_cons_zero, List.getElem?_cons_succ, reduceIte, e0, e1, e2, es, d2, d3, d5, bs23]))
    (refine c_reg fun K hK => ?_; simp only [go_sem, Int.reduceEq, Int.reduceLE, Int.reduceLT, Int.reduceNe, Int.reduceNeg, Int.reduceAdd, Int.reduceSub, Int.reduceMul, ne_eq, not_false_eq_true, Nat.reduceLT, Nat.reduceLeDiff, Nat.reduceEqDiff, Nat.reduceAdd, Nat.reduceSub, Nat.reduceMul, if_true, if_false, decide_true, decide_false, reduceCtorEq, List.cons_append, List.nil_append, List.append_nil, Option.bind_some, Option.map_some, Option.some.injEq, BEq.rfl, Bool.false_beq, Bool.true_beq, beq_self_eq_true, Bool.not_false, Bool.not_true, Bool.false_eq_true, List.getElem?_cons_zero, List.getElem?_cons_succ, reduceIte, e0, e1, e2, es, d2, d3, d5, bs23, hb, h8, hf, hf2, hP0, hrem, hz2, hn, hn2]; refine callM_of (hP) ?_; rintro v h' ⟨rfl, rfl⟩; simp only [go_sem, Int.reduceEq, Int.reduceLE, Int.reduceLT, Int.reduceNe, Int.reduceNeg, Int.reduceAdd, Int.reduceSub, Int.reduceMul, ne_eq, not_false_eq_true, Nat.reduceLT, Nat.reduceLeDiff, Nat.reduceEqDiff, Nat.reduceAdd, Nat.reduceSub, Nat.reduceMul, if_true, if_false, decide_true, decide_false, reduceCtorEq, List.cons_append, List.nil_append, List.append_nil, Option.bind_some, Option.map_some, Option.some.injEq, BEq.rfl, Bool.false_beq, Bool.true_beq, beq_self_eq_true, Bool.not_false, Bool.not_true, Bool.false_eq_true, List.getElem?_cons_zero, List.getElem?_cons_succ, reduceIte, e0, e1, e2, es, d2, d3, d5, bs23, hb, h8, hf, hf2, hP0, hrem, hz2, hn, hn2]; refine hK _ _ ?_; clear hK K)
    repeat (first
      | refine q_nn ?_
      | refine q_nr ?_
      | refine q_ne ?_
      | refine q_en ?_
      | refine q_er ?_
      | refine q_es ?_
      | refine q_eo rfl ?_
      | refine q_gn ?_
      | refine q_gr ?_
      | refine q_ge ?_
      | refine c_seq ?_
      | refine c_block ?_
      | refine c_scope ?_
      | refine c_skip ?_
      | refine c_label ?_
      | refine c_ret ?_
      | refine c_exit ?_
      | (refine c_reg fun K hK => ?_; simp only [go_sem, Int.reduceEq, Int.reduceLE, Int.reduceLT, Int.reduceNe, Int.reduceNeg, Int.reduceAdd, Int.reduceSub, Int.reduceMul, ne_eq, not_false_eq_true, Nat.reduceLT, Nat.reduceLeDiff, Nat.reduceEqDiff, Nat.reduceAdd, Nat.reduceSub, Nat.reduceMul, if_true, if_false, decide_true, decide_false, reduceCtorEq, List.cons_append, List.nil_append, List.append_nil, Option.bind_some, Option.map_some, Option.some.injEq, BEq.rfl, Bool.false_beq, Bool.true_beq, beq_self_eq_true, Bool.not_false, Bool.not_true, Bool.false_eq_true, List.getElem?_cons_zero, List.getElem?_cons_succ, reduceIte, e0, e1, e2, es, d2, d3, d5, bs23]; refine hK _ _ ?_; clear hK K)
      | (refine c_drw (by kernel_rfl) fun K hK => ?_; simp only [go_sem, Int.reduceEq, Int.reduceLE, Int.reduceLT, Int.reduceNe, Int.reduceNeg, Int.reduceAdd, Int.reduceSub, Int.reduceMul, ne_eq, not_false_eq_true, Nat.reduceLT, Nat.reduceLeDiff, Nat.reduceEqDiff, Nat.reduceAdd, Nat.reduceSub, Nat.reduceMul, if_true, if_false, decide_true, decide_false, reduceCtorEq, List.cons_append, List.nil_append, List.append_nil, Option.bind_some, Option.map_some, Option.some.injEq, BEq.rfl, Bool.false_beq, Bool.true_beq, beq_self_eq_true, Bool.not_false, Bool.not_true, Bool.false_eq_true, List.getElem?_cons_zero, List.getElem?_cons_succ, reduceIte, e0, e1, e2, es, d2, d3, d5, bs23]; refine hK _ _ ?_; clear hK K)
      | (refine c_cond ?_; simp only [go_sem, Int.reduceEq, Int.reduceLE, Int.reduceLT, Int.reduceNe, Int.reduceNeg, Int.reduceAdd, Int.reduceSub, Int.reduceMul, ne_eq, not_false_eq_true, Nat.reduceLT, Nat.reduceLeDiff, Nat.reduceEqDiff, Nat.reduceAdd, Nat.reduceSub, Nat.reduceMul, if_true, if_false, decide_true, decide_false, reduceCtorEq, List.cons_append, List.nil_append, List.append_nil, Option.bind_some, Option.map_some, Option.some.injEq, BEq.rfl, Bool.false_beq, Bool.true_beq, beq_self_eq_true, Bool.not_false, Bool.not_true, Bool.false_eq_true, List.getElem?_cons_zero, List.getElem?_cons_succ, reduceIte, e0, e1, e2, es, d2, d3, d5, bs23])
      | (show endW _ _ _ _ _; simp only [go_sem, Int.reduceEq, Int.reduceLE, Int.reduceLT, Int.reduceNe, Int.reduceNeg, Int.reduceAdd, Int.reduceSub, Int.reduceMul, ne_eq, not_false_eq_true, Nat.reduceLT, Nat.reduceLeDiff, Nat.reduceEqDiff, Nat.reduceAdd, Nat.reduceSub, Nat.reduceMul, if_true, if_false, decide_true, decide_false, reduceCtorEq, List.cons_append, List.nil_append, List.append_nil, Option.bind_some, Option.map_some, Option.some.injEq, BEq.rfl, Bool.false_beq, Bool.true_beq, beq_self_eq_true, Bool.not_false, Bool.not_true, Bool.false_eq_true, List.getElem?_cons_zero, List.getElem?_cons_succ, reduceIte, e0, e1, e2, es, d2, d3, d5, bs23]))
    exact PutK_err (by rw [putS, if_pos (by omega)])
  have hS : putS b f n = (if n < 2 ^ b.toNat - 1 then (0, [((f + n) % 256).toNat]) else (0, ((f + (2 ^ b.toNat - 1)) % 256).toNat :: putL (n - (2 ^ b.toNat - 1)).toNat)) := by
    rw [putS, if_neg (by rintro (h | h | h | h | h | h | h) <;> first | exact h hz | omega)]
  rw [hS]
  have hm : IntKind.i64.wrap (2 ^ b.toNat - 1) = 2 ^ b.toNat - 1 := wrap_i64 (by omega) (by omega)
  repeat (first
      | refine q_nn ?_
      | refine q_nr ?_
      | refine q_ne ?_
      | refine q_en ?_
      | refine q_er ?_
      | refine q_es ?_
      | refine q_eo rfl ?_
      | refine q_gn ?_
      | refine q_gr ?_
      | refine q_ge ?_
      | refine c_seq ?_
      | refine c_block ?_
      | refine c_scope ?_
      | refine c_skip ?_
      | refine c_label ?_
      | refine c_ret ?_
      | refine c_exit ?_
      | (refine c_reg fun K hK => ?_; simp only [go_sem, Int.reduceEq, Int.reduceLE, Int.reduceLT, Int.reduceNe, Int.reduceNeg, Int.reduceAdd, Int.reduceSub, Int.reduceMul, ne_eq, not_false_eq_true, Nat.reduceLT, Nat.reduceLeDiff, Nat.reduceEqDiff, Nat.reduceAdd, Nat.reduceSub, Nat.reduceMul, if_true, if_false, decide_true, decide_false, reduceCtorEq, List.cons_append, List.nil_append, List.append_nil, Option.bind_some, Option.map_some, Option.some.injEq, BEq.rfl, Bool.false_beq, Bool.true_beq, beq_self_eq_true, Bool.not_false, Bool.not_true, Bool.false_eq_true, List.getElem?_cons_zero, List.getElem?_cons_succ, reduceIte, e0, e1, e2, es, d2, d3, d5, bs23]; refine hK _ _ ?_; clear hK K)
      | (refine c_drw (by kernel_rfl) fun K hK => ?_; simp only [go_sem, Int.reduceEq, Int.reduceLE, Int.reduceLT, Int.reduceNe, Int.reduceNeg, Int.reduceAdd, Int.reduceSub, Int.reduceMul, ne_eq, not_false_eq_true, Nat.reduceLT, Nat.reduceLeDiff, Nat.reduceEqDiff, Nat.reduceAdd, Nat.reduceSub, Nat.reduceMul, if_true, if_false, decide_true, decide_false, reduceCtorEq, List.cons_append, List.nil_append, List.append_nil, Option.bind_some, Option.map_some, Option.some.injEq, BEq.rfl, Bool.false_beq, Bool.true_beq, beq_self_eq_true, Bool.not_false, Bool.not_true, Bool.false_eq_true, List.getElem?_cons_zero, List.getElem?_cons_succ, reduceIte, e0, e1, e2, es, d2, d3, d5, bs23]; refine hK _ _ ?_; clear hK K)
      | (refine c_cond ?_; simp only [go_sem, Int.reduceEq, Int.reduceLE, Int.reduceLT, Int.reduceNe, Int.reduceNeg, Int.reduceAdd, Int.reduceSub, Int.reduceMul, ne_eq, not_false_eq_true, Nat.reduceLT, Nat.reduceLeDiff, Nat.reduceEqDiff, Nat.reduceAdd, Nat.reduceSub, Nat.reduceMul, if_true, if_false, decide_true, decide_false, reduceCtorEq, List.cons_append, List.nil_append, List.append_nil, Option.bind_some, Option.map_some, Option.some.injEq, BEq.rfl, Bool.false_beq, Bool.true_beq, beq_self_eq_true, Bool.not_false, Bool.not_true, Bool.false_eq_true, List.getElem?_cons_zero, List.getElem?_cons_succ, reduceIte, e0, e1, e2, es, d2, d3, d5, bs23])
      | (show endW _ _ _ _ _; simp only [go_sem, Int.reduceEq, Int.reduceLE, Int.reduceLT, Int.reduceNe, Int.reduceNeg, Int.reduceAdd, Int.reduceSub, Int.reduceMul, ne_eq, not_false_eq_true, Nat.reduceLT, Nat.reduceLeDiff, Nat.reduceEqDiff, Nat.reduceAdd, Nat.reduceSub, Nat.reduceMul, if_true, if_false, decide_true, decide_false, reduceCtorEq, List.cons_append, List.nil_append, List.append_nil, Option.bind_some, Option.map_some, Option.some.injEq, BEq.rfl, Bool.false_beq, Bool.true_beq, beq_self_eq_true, Bool.not_false, Bool.not_true, Bool.false_eq_true, List.getElem?_cons_zero, List.getElem?_cons_succ, reduceIte, e0, e1, e2, es, d2, d3, d5, bs23]))
  (refine c_reg fun K hK => ?_; simp only [go_sem, Int.reduceEq, Int.reduceLE, Int.reduceLT, Int.reduceNe, Int.reduceNeg, Int.reduceAdd, Int.reduceSub, Int.reduceMul, ne_eq, not_false_eq_true, Nat.reduceLT, Nat.reduceLeDiff, Nat.reduceEqDiff, Nat.reduceAdd, Nat.reduceSub, Nat.reduceMul, if_true, if_false, decide_true, decide_false, reduceCtorEq, List.cons_append, List.nil_append, List.append_nil, Option.bind_some, Option.map_some, Option.some.injEq, BEq.rfl, Bool.false_beq, Bool.true_beq, beq_self_eq_true, Bool.not_false, Bool.not_true, Bool.false_eq_true, List.getElem?_cons_zero, List.getElem?_cons_succ, reduceIte, e0, e1, e2, es, d2, d3, d5, bs23, hb, h8, hf, hf2, hP0, hrem, hz2, hn, hn2]; refine callM_of (hP) ?_; rintro v h' ⟨rfl, rfl⟩; simp only [go_sem, Int.reduceEq, Int.reduceLE, Int.reduceLT, Int.reduceNe, Int.reduceNeg, Int.reduceAdd, Int.reduceSub, Int.reduceMul, ne_eq, not_false_eq_true, Nat.reduceLT, Nat.reduceLeDiff, Nat.reduceEqDiff, Nat.reduceAdd, Nat.reduceSub, Nat.reduceMul, if_true, if_false, decide_true, decide_false, reduceCtorEq, List.cons_append, List.nil_append, List.append_nil, Option.bind_some, Option.map_some, Option.some.injEq, BEq.rfl, Bool.false_beq, Bool.true_beq, beq_self_eq_true, Bool.not_false, Bool.not_true, Bool.false_eq_true, List.getElem?_cons_zero, List.getElem?_cons_succ, reduceIte, e0, e1, e2, es, d2, d3, d5, bs23, hb, h8, hf, hf2, hP0, hrem, hz2, hn, hn2]; refine hK _ _ ?_; clear hK K)
  repeat (first
      | refine q_nn ?_
      | refine q_nr ?_
      | refine q_ne ?_
      | refine q_en ?_
      | refine q_er ?_
      | refine q_es ?_
      | refine q_eo rfl ?_
      | refine q_gn ?_
      | refine q_gr ?_
      | refine q_ge ?_
      | refine c_seq ?_
      | refine c_block ?_
      | refine c_scope ?_
      | refine c_skip ?_
      | refine c_label ?_
      | refine c_ret ?_
      | refine c_exit ?_
      | (refine c_reg fun K hK => ?_; simp only [go_sem, Int.reduceEq, Int.reduceLE, Int.reduceLT, Int.reduceNe, Int.reduceNeg, Int.reduceAdd, Int.reduceSub, Int.reduceMul, ne_eq, not_false_eq_true, Nat.reduceLT, Nat.reduceLeDiff, Nat.reduceEqDiff, Nat.reduceAdd, Nat.reduceSub, Nat.reduceMul, if_true, if_false, decide_true, decide_false, reduceCtorEq, List.cons_append, List.nil_append, List.append_nil, Option.bind_some, Option.map_some, Option.some.injEq, BEq.rfl, Bool.false_beq, Bool.true_beq, beq_self_eq_true, Bool.not_false, Bool.not_true, Bool.false_eq_true, List.getElem?_cons_zero, List.getElem?_cons_succ, reduceIte, e0, e1, e2, es, d2, d3, d5, bs23]; refine hK _ _ ?_; clear hK K)
      | (refine c_drw (by kernel_rfl) fun K hK => ?_; simp only [go_sem, Int.reduceEq, Int.reduceLE, Int.reduceLT, Int.reduceNe, Int.reduceNeg, Int.reduceAdd, Int.reduceSub, Int.reduceMul, ne_eq, not_false_eq_true, Nat.reduceLT, Nat.reduceLeDiff, Nat.reduceEqDiff, Nat.reduceAdd, Nat.reduceSub, Nat.reduceMul, if_true, if_false, decide_true, decide_false, reduceCtorEq, List.cons_append, List.nil_append, List.append_nil, Option.bind_some, Option.map_some, Option.some.injEq, BEq.rfl, Bool.false_beq, Bool.true_beq, beq_self_eq_true, Bool.not_false, Bool.not_true, Bool.false_eq_true, List.getElem?_cons_zero, List.getElem?_cons_succ, reduceIte, e0, e1, e2, es, d2, d3, d5, bs23]; refine hK _ _ ?_; clear hK K)
      | (refine c_cond ?_; simp only [go_sem, Int.reduceEq, Int.reduceLE, Int.reduceLT, Int.reduceNe, Int.reduceNeg, Int.reduceAdd, Int.reduceSub, Int.reduceMul, ne_eq, not_false_eq_true, Nat.reduceLT, Nat.reduceLeDiff, Nat.reduceEqDiff, Nat.reduceAdd, Nat.reduceSub, Nat.reduceMul, if_true, if_false, decide_true, decide_false, reduceCtorEq, List.cons_append, List.nil_append, List.append_nil, Option.bind_some, Option.map_some, Option.some.injEq, BEq.rfl, Bool.false_beq, Bool.true_beq, beq_self_eq_true, Bool.not_false, Bool.not_true, Bool.false_eq_true, List.getElem?_cons_zero, List.getElem?_cons_succ, reduceIte, e0, e1, e2, es, d2, d3, d5, bs23])
      | (show endW _ _ _ _ _; simp only [go_sem, Int.reduceEq, Int.reduceLE, Int.reduceLT, Int.reduceNe, Int.reduceNeg, Int.reduceAdd, Int.reduceSub, Int.reduceMul, ne_eq, not_false_eq_true, Nat.reduceLT, Nat.reduceLeDiff, Nat.reduceEqDiff, Nat.reduceAdd, Nat.reduceSub, Nat.reduceMul, if_true, if_false, decide_true, decide_false, reduceCtorEq, List.cons_append, List.nil_append, List.append_nil, Option.bind_some, Option.map_some, Option.some.injEq, BEq.rfl, Bool.false_beq, Bool.true_beq, beq_self_eq_true, Bool.not_false, Bool.not_true, Bool.false_eq_true, List.getElem?_cons_zero, List.getElem?_cons_succ, reduceIte, e0, e1, e2, es, d2, d3, d5, bs23]))
  (refine c_reg fun K hK => ?_; simp only [go_sem, Int.reduceEq, Int.reduceLE, Int.reduceLT, Int.reduceNe, Int.reduceNeg, Int.reduceAdd, Int.reduceSub, Int.reduceMul, ne_eq, not_false_eq_true, Nat.reduceLT, Nat.reduceLeDiff, Nat.reduceEqDiff, Nat.reduceAdd, Nat.reduceSub, Nat.reduceMul, if_true, if_false, decide_true, decide_false, reduceCtorEq, List.cons_append, List.nil_append, List.append_nil, Option.bind_some, Option.map_some, Option.some.injEq, BEq.rfl, Bool.false_beq, Bool.true_beq, beq_self_eq_true, Bool.not_false, Bool.not_true, Bool.false_eq_true, List.getElem?_cons_zero, List.getElem?_cons_succ, reduceIte, e0, e1, e2, es, d2, d3, d5, bs23, hm]; refine callM_of (hP) ?_; rintro v h' ⟨rfl, rfl⟩; simp only [go_sem, Int.reduceEq, Int.reduceLE, Int.reduceLT, Int.reduceNe, Int.reduceNeg, Int.reduceAdd, Int.reduceSub, Int.reduceMul, ne_eq, not_false_eq_true, Nat.reduceLT, Nat.reduceLeDiff, Nat.reduceEqDiff, Nat.reduceAdd, Nat.reduceSub, Nat.reduceMul, if_true, if_false, decide_true, decide_false, reduceCtorEq, List.cons_append, List.nil_append, List.append_nil, Option.bind_some, Option.map_some, Option.some.injEq, BEq.rfl, Bool.false_beq, Bool.true_beq, beq_self_eq_true, Bool.not_false, Bool.not_true, Bool.false_eq_true, List.getElem?_cons_zero, List.getElem?_cons_succ, reduceIte, e0, e1, e2, es, d2, d3, d5, bs23, hm]; refine hK _ _ ?_; clear hK K)
  generalize hM : (2 : Int) ^ b.toNat - 1 = M at *
  by_cases hl : n < M
  · rw [if_pos hl]
    have hw : IntKind.u8.wrap (IntKind.i64.wrap (f + n)) = (((f + n) % 256).toNat : Int) := by
      rw [wrap_i64 (by omega) (by omega)]
      simp only [wrap_u8]; omega
    repeat (first
      | refine q_nn ?_
      | refine q_nr ?_
      | refine q_ne ?_
      | refine q_en ?_
      | refine q_er ?_
      | refine q_es ?_
      | refine q_eo rfl ?_
      | refine q_gn ?_
      | refine q_gr ?_
      | refine q_ge ?_
      | refine c_seq ?_
      | refine c_block ?_
      | refine c_scope ?_
      | refine c_skip ?_
      | refine c_label ?_
      | refine c_ret ?_
      | refine c_exit ?_
      | (refine c_reg fun K hK => ?_; simp only [go_sem, Int.reduceEq, Int.reduceLE, Int.reduceLT, Int.reduceNe, Int.reduceNeg, Int.reduceAdd, Int.reduceSub, Int.reduceMul, ne_eq, not_false_eq_true, Nat.reduceLT, Nat.reduceLeDiff, Nat.reduceEqDiff, Nat.reduceAdd, Nat.reduceSub, Nat.reduceMul, if_true, if_false, decide_true, decide_false, reduceCtorEq, List.cons_append, List.nil_append, List.append_nil, Option.bind_some, Option.map_some, Option.some.injEq, BEq.rfl, Bool.false_beq, Bool.true_beq, beq_self_eq_true, Bool.not_false, Bool.not_true, Bool.false_eq_true, List.getElem?_cons_zero, List.getElem?_cons_succ, reduceIte, e0, e1, e2, es, d2, d3, d5, bs23, hl, hw, conv_int d3 d5, conv_int d2 d5]; refine hK _ _ ?_; clear hK K)
      | (refine c_drw (by kernel_rfl) fun K hK => ?_; simp only [go_sem, Int.reduceEq, Int.reduceLE, Int.reduceLT, Int.reduceNe, Int.reduceNeg, Int.reduceAdd, Int.reduceSub, Int.reduceMul, ne_eq, not_false_eq_true, Nat.reduceLT, Nat.reduceLeDiff, Nat.reduceEqDiff, Nat.reduceAdd, Nat.reduceSub, Nat.reduceMul, if_true, if_false, decide_true, decide_false, reduceCtorEq, List.cons_append, List.nil_append, List.append_nil, Option.bind_some, Option.map_some, Option.some.injEq, BEq.rfl, Bool.false_beq, Bool.true_beq, beq_self_eq_true, Bool.not_false, Bool.not_true, Bool.false_eq_true, List.getElem?_cons_zero, List.getElem?_cons_succ, reduceIte, e0, e1, e2, es, d2, d3, d5, bs23, hl, hw, conv_int d3 d5, conv_int d2 d5]; refine hK _ _ ?_; clear hK K)
      | (refine c_cond ?_; simp only [go_sem, Int.reduceEq, Int.reduceLE, Int.reduceLT, Int.reduceNe, Int.reduceNeg, Int.reduceAdd, Int.reduceSub, Int.reduceMul, ne_eq, not_false_eq_true, Nat.reduceLT, Nat.reduceLeDiff, Nat.reduceEqDiff, Nat.reduceAdd, Nat.reduceSub, Nat.reduceMul, if_true, if_false, decide_true, decide_false, reduceCtorEq, List.cons_append, List.nil_append, List.append_nil, Option.bind_some, Option.map_some, Option.some.injEq, BEq.rfl, Bool.false_beq, Bool.true_beq, beq_self_eq_true, Bool.not_false, Bool.not_true, Bool.false_eq_true, List.getElem?_cons_zero, List.getElem?_cons_succ, reduceIte, e0, e1, e2, es, d2, d3, d5, bs23, hl, hw, conv_int d3 d5, conv_int d2 d5])
      | (show endW _ _ _ _ _; simp only [go_sem, Int.reduceEq, Int.reduceLE, Int.reduceLT, Int.reduceNe, Int.reduceNeg, Int.reduceAdd, Int.reduceSub, Int.reduceMul, ne_eq, not_false_eq_true, Nat.reduceLT, Nat.reduceLeDiff, Nat.reduceEqDiff, Nat.reduceAdd, Nat.reduceSub, Nat.reduceMul, if_true, if_false, decide_true, decide_false, reduceCtorEq, List.cons_append, List.nil_append, List.append_nil, Option.bind_some, Option.map_some, Option.some.injEq, BEq.rfl, Bool.false_beq, Bool.true_beq, beq_self_eq_true, Bool.not_false, Bool.not_true, Bool.false_eq_true, List.getElem?_cons_zero, List.getElem?_cons_succ, reduceIte, e0, e1, e2, es, d2, d3, d5, bs23, hl, hw, conv_int d3 d5, conv_int d2 d5]))
    exact PutK_one rfl
  rw [if_neg hl]
  have hw : IntKind.u8.wrap (IntKind.i64.wrap (f + M)) = (((f + M) % 256).toNat : Int) := by
    rw [wrap_i64 (by omega) (by omega)]
    simp only [wrap_u8]; omega
  have hw2 : IntKind.i64.wrap (n - M) = ((n - M).toNat : Int) := by
    rw [wrap_i64 (by omega) (by omega)]; omega
  repeat (first
      | refine q_nn ?_
      | refine q_nr ?_
      | refine q_ne ?_
      | refine q_en ?_
      | refine q_er ?_
      | refine q_es ?_
      | refine q_eo rfl ?_
      | refine q_gn ?_
      | refine q_gr ?_
      | refine q_ge ?_
      | refine c_seq ?_
      | refine c_block ?_
      | refine c_scope ?_
      | refine c_skip ?_
      | refine c_label ?_
      | refine c_ret ?_
      | refine c_exit ?_
      | (refine c_reg fun K hK => ?_; simp only [go_sem, Int.reduceEq, Int.reduceLE, Int.reduceLT, Int.reduceNe, Int.reduceNeg, Int.reduceAdd, Int.reduceSub, Int.reduceMul, ne_eq, not_false_eq_true, Nat.reduceLT, Nat.reduceLeDiff, Nat.reduceEqDiff, Nat.reduceAdd, Nat.reduceSub, Nat.reduceMul, if_true, if_false, decide_true, decide_false, reduceCtorEq, List.cons_append, List.nil_append, List.append_nil, Option.bind_some, Option.map_some, Option.some.injEq, BEq.rfl, Bool.false_beq, Bool.true_beq, beq_self_eq_true, Bool.not_false, Bool.not_true, Bool.false_eq_true, List.getElem?_cons_zero, List.getElem?_cons_succ, reduceIte, e0, e1, e2, es, d2, d3, d5, bs23, hl, hw, hw2, conv_int d3 d5, conv_int d2 d5]; refine hK _ _ ?_; clear hK K)
      | (refine c_drw (by kernel_rfl) fun K hK => ?_; simp only [go_sem, Int.reduceEq, Int.reduceLE, Int.reduceLT, Int.reduceNe, Int.reduceNeg, Int.reduceAdd, Int.reduceSub, Int.reduceMul, ne_eq, not_false_eq_true, Nat.reduceLT, Nat.reduceLeDiff, Nat.reduceEqDiff, Nat.reduceAdd, Nat.reduceSub, Nat.reduceMul, if_true, if_false, decide_true, decide_false, reduceCtorEq, List.cons_append, List.nil_append, List.append_nil, Option.bind_some, Option.map_some, Option.some.injEq, BEq.rfl, Bool.false_beq, Bool.true_beq, beq_self_eq_true, Bool.not_false, Bool.not_true, Bool.false_eq_true, List.getElem?_cons_zero, List.getElem?_cons_succ, reduceIte, e0, e1, e2, es, d2, d3, d5, bs23, hl, hw, hw2, conv_int d3 d5, conv_int d2 d5]; refine hK _ _ ?_; clear hK K)
      | (refine c_cond ?_; simp only [go_sem, Int.reduceEq, Int.reduceLE, Int.reduceLT, Int.reduceNe, Int.reduceNeg, Int.reduceAdd, Int.reduceSub, Int.reduceMul, ne_eq, not_false_eq_true, Nat.reduceLT, Nat.reduceLeDiff, Nat.reduceEqDiff, Nat.reduceAdd, Nat.reduceSub, Nat.reduceMul, if_true, if_false, decide_true, decide_false, reduceCtorEq, List.cons_append, List.nil_append, List.append_nil, Option.bind_some, Option.map_some, Option.some.injEq, BEq.rfl, Bool.false_beq, Bool.true_beq, beq_self_eq_true, Bool.not_false, Bool.not_true, Bool.false_eq_true, List.getElem?_cons_zero, List.getElem?_cons_succ, reduceIte, e0, e1, e2, es, d2, d3, d5, bs23, hl, hw, hw2, conv_int d3 d5, conv_int d2 d5])
      | (show endW _ _ _ _ _; simp only [go_sem, Int.reduceEq, Int.reduceLE, Int.reduceLT, Int.reduceNe, Int.reduceNeg, Int.reduceAdd, Int.reduceSub, Int.reduceMul, ne_eq, not_false_eq_true, Nat.reduceLT, Nat.reduceLeDiff, Nat.reduceEqDiff, Nat.reduceAdd, Nat.reduceSub, Nat.reduceMul, if_true, if_false, decide_true, decide_false, reduceCtorEq, List.cons_append, List.nil_append, List.append_nil, Option.bind_some, Option.map_some, Option.some.injEq, BEq.rfl, Bool.false_beq, Bool.true_beq, beq_self_eq_true, Bool.not_false, Bool.not_true, Bool.false_eq_true, List.getElem?_cons_zero, List.getElem?_cons_succ, reduceIte, e0, e1, e2, es, d2, d3, d5, bs23, hl, hw, hw2, conv_int d3 d5, conv_int d2 d5]))
  refine c_loop (fun m s => ∃ (a : AV) (l : List Nat), s.marks = [] ∧ s.tm.size = 74 ∧ s.tm.get 2 = .int .i64 (m : Int) ∧ s.tm.get 9 = a ∧ Tt h.size s.h 1 a (cellsB l) ∧ Keeps h.size h s.h ∧
    l ++ putL m = ((f + M) % 256).toNat :: putL (n - M).toNat ∧ m + l.length ≤ 2147483700) (n - M).toNat ?_ ?_
  · refine ⟨_, [((f + M) % 256).toNat], rfl, ?_, ?_, rfl, ?_, (Keeps.refl _ _).push (Nat.le_refl _) _, rfl, by simp; omega⟩
    · simp only [Tm.size_set, es]
    · simp [Tm.get_set]
    · simp only [Tm.get_set, Nat.reduceEqDiff, if_false, if_true]
      exact .some _ _ _ _ (by rw [AH.get_push, if_pos rfl]; rfl) (Nat.le_refl _) (by simp) rfl
  · rintro m ⟨tm2, mk, h2⟩ ⟨a, l, h1, h2', h3, h4, h5, h6, h7, h9⟩
    simp only at h1 h2' h3 h4 h5 h6
    subst h1
    have hbz : h.size ≤ h2.size := h6.1
    by_cases hk : 128 ≤ m
    · have hk0 : ((m : Int) ≥ 128) := by omega
      have hor : IntKind.u8.wrap (IntKind.i64.wrap (128 + (m : Int).tmod 128)) = ((m % 128 + 128 : Nat) : Int) := by
        rw [Int.tmod_eq_emod_of_nonneg (by omega), wrap_i64 (by omega) (by omega), wrap_u8]
        omega
      have hsh : IntKind.i64.wrap ((m : Int).tdiv 128) = ((m / 128 : Nat) : Int) := by
        rw [Int.tdiv_eq_ediv_of_nonneg (by omega), wrap_i64 (by omega) (by omega)]
        omega
      obtain ⟨z, h3a, hz1, hz3, hz4⟩ := h5.appendLit (T := Try.T) (t := 23) (xt := 23) (e := 5) (n := 1) (m := l.length) (new := [.int .u8 ((m % 128 + 128 : Nat) : Int)]) rfl rfl rfl rfl (by omega) rfl (by decide) (by rw [cellsB_length]; omega) rfl (by omega)
        (by have : (Try.T 5).bytes = 1 := rfl
            rw [this]; omega) (by omega) h6.1
      repeat (first
      | refine q_nn ?_
      | refine q_nr ?_
      | refine q_ne ?_
      | refine q_en ?_
      | refine q_er ?_
      | refine q_es ?_
      | refine q_eo rfl ?_
      | refine q_gn ?_
      | refine q_gr ?_
      | refine q_ge ?_
      | refine c_seq ?_
      | refine c_block ?_
      | refine c_scope ?_
      | refine c_skip ?_
      | refine c_label ?_
      | refine c_ret ?_
      | refine c_exit ?_
      | (refine c_reg fun K hK => ?_; simp only [go_sem, Int.reduceEq, Int.reduceLE, Int.reduceLT, Int.reduceNe, Int.reduceNeg, Int.reduceAdd, Int.reduceSub, Int.reduceMul, ne_eq, not_false_eq_true, Nat.reduceLT, Nat.reduceLeDiff, Nat.reduceEqDiff, Nat.reduceAdd, Nat.reduceSub, Nat.reduceMul, if_true, if_false, decide_true, decide_false, reduceCtorEq, List.cons_append, List.nil_append, List.append_nil, Option.bind_some, Option.map_some, Option.some.injEq, BEq.rfl, Bool.false_beq, Bool.true_beq, beq_self_eq_true, Bool.not_false, Bool.not_true, Bool.false_eq_true, List.getElem?_cons_zero, List.getElem?_cons_succ, reduceIte, h2', h3, h4, hk0, hor, hsh, e0, e1, e2, es, d2, d3, d5, bs23, hz1, conv_int d2 d5]; refine hK _ _ ?_; clear hK K)
      | (refine c_drw (by kernel_rfl) fun K hK => ?_; simp only [go_sem, Int.reduceEq, Int.reduceLE, Int.reduceLT, Int.reduceNe, Int.reduceNeg, Int.reduceAdd, Int.reduceSub, Int.reduceMul, ne_eq, not_false_eq_true, Nat.reduceLT, Nat.reduceLeDiff, Nat.reduceEqDiff, Nat.reduceAdd, Nat.reduceSub, Nat.reduceMul, if_true, if_false, decide_true, decide_false, reduceCtorEq, List.cons_append, List.nil_append, List.append_nil, Option.bind_some, Option.map_some, Option.some.injEq, BEq.rfl, Bool.false_beq, Bool.true_beq, beq_self_eq_true, Bool.not_false, Bool.not_true, Bool.false_eq_true, List.getElem?_cons_zero, List.getElem?_cons_succ, reduceIte, h2', h3, h4, hk0, hor, hsh, e0, e1, e2, es, d2, d3, d5, bs23, hz1, conv_int d2 d5]; refine hK _ _ ?_; clear hK K)
      | (refine c_cond ?_; simp only [go_sem, Int.reduceEq, Int.reduceLE, Int.reduceLT, Int.reduceNe, Int.reduceNeg, Int.reduceAdd, Int.reduceSub, Int.reduceMul, ne_eq, not_false_eq_true, Nat.reduceLT, Nat.reduceLeDiff, Nat.reduceEqDiff, Nat.reduceAdd, Nat.reduceSub, Nat.reduceMul, if_true, if_false, decide_true, decide_false, reduceCtorEq, List.cons_append, List.nil_append, List.append_nil, Option.bind_some, Option.map_some, Option.some.injEq, BEq.rfl, Bool.false_beq, Bool.true_beq, beq_self_eq_true, Bool.not_false, Bool.not_true, Bool.false_eq_true, List.getElem?_cons_zero, List.getElem?_cons_succ, reduceIte, h2', h3, h4, hk0, hor, hsh, e0, e1, e2, es, d2, d3, d5, bs23, hz1, conv_int d2 d5])
      | (show endW _ _ _ _ _; simp only [go_sem, Int.reduceEq, Int.reduceLE, Int.reduceLT, Int.reduceNe, Int.reduceNeg, Int.reduceAdd, Int.reduceSub, Int.reduceMul, ne_eq, not_false_eq_true, Nat.reduceLT, Nat.reduceLeDiff, Nat.reduceEqDiff, Nat.reduceAdd, Nat.reduceSub, Nat.reduceMul, if_true, if_false, decide_true, decide_false, reduceCtorEq, List.cons_append, List.nil_append, List.append_nil, Option.bind_some, Option.map_some, Option.some.injEq, BEq.rfl, Bool.false_beq, Bool.true_beq, beq_self_eq_true, Bool.not_false, Bool.not_true, Bool.false_eq_true, List.getElem?_cons_zero, List.getElem?_cons_succ, reduceIte, h2', h3, h4, hk0, hor, hsh, e0, e1, e2, es, d2, d3, d5, bs23, hz1, conv_int d2 d5]))
      refine ⟨m / 128, by omega, z, l ++ [m % 128 + 128], rfl, ?_, ?_, ?_, ?_, h6.trans hz4 (Nat.le_refl _), ?_, ?_⟩
      · simp only [Tm.size_set, h2']
      · simp [Tm.get_set]
      · simp [Tm.get_set]
      · rw [cellsB_append]; exact hz3
      · rw [← h7, List.append_assoc]
        conv => rhs; rw [putL, if_pos hk]
        rfl
      · simp; omega
    · have hk0 : ¬ ((m : Int) ≥ 128) := by omega
      have hw3 : IntKind.u8.wrap (m : Int) = ((m : Nat) : Int) := by rw [wrap_u8]; omega
      obtain ⟨z, h3a, hz1, hz3, hz4⟩ := h5.appendLit (T := Try.T) (t := 23) (xt := 23) (e := 5) (n := 1) (m := l.length) (new := [.int .u8 (m : Int)]) rfl rfl rfl rfl (by omega) rfl (by decide) (by rw [cellsB_length]; omega) rfl (by omega)
        (by have : (Try.T 5).bytes = 1 := rfl
            rw [this]; omega) (by omega) h6.1
      repeat (first
      | refine q_nn ?_
      | refine q_nr ?_
      | refine q_ne ?_
      | refine q_en ?_
      | refine q_er ?_
      | refine q_es ?_
      | refine q_eo rfl ?_
      | refine q_gn ?_
      | refine q_gr ?_
      | refine q_ge ?_
      | refine c_seq ?_
      | refine c_block ?_
      | refine c_scope ?_
      | refine c_skip ?_
      | refine c_label ?_
      | refine c_ret ?_
      | refine c_exit ?_
      | (refine c_reg fun K hK => ?_; simp only [go_sem, Int.reduceEq, Int.reduceLE, Int.reduceLT, Int.reduceNe, Int.reduceNeg, Int.reduceAdd, Int.reduceSub, Int.reduceMul, ne_eq, not_false_eq_true, Nat.reduceLT, Nat.reduceLeDiff, Nat.reduceEqDiff, Nat.reduceAdd, Nat.reduceSub, Nat.reduceMul, if_true, if_false, decide_true, decide_false, reduceCtorEq, List.cons_append, List.nil_append, List.append_nil, Option.bind_some, Option.map_some, Option.some.injEq, BEq.rfl, Bool.false_beq, Bool.true_beq, beq_self_eq_true, Bool.not_false, Bool.not_true, Bool.false_eq_true, List.getElem?_cons_zero, List.getElem?_cons_succ, reduceIte, h2', h3, h4, hk0, e0, e1, e2, es, d2, d3, d5, bs23, hw3, hz1, conv_int d2 d5]; refine hK _ _ ?_; clear hK K)
      | (refine c_drw (by kernel_rfl) fun K hK => ?_; simp only [go_sem, Int.reduceEq, Int.reduceLE, Int.reduceLT, Int.reduceNe, Int.reduceNeg, Int.reduceAdd, Int.reduceSub, Int.reduceMul, ne_eq, not_false_eq_true, Nat.reduceLT, Nat.reduceLeDiff, Nat.reduceEqDiff, Nat.reduceAdd, Nat.reduceSub, Nat.reduceMul, if_true, if_false, decide_true, decide_false, reduceCtorEq, List.cons_append, List.nil_append, List.append_nil, Option.bind_some, Option.map_some, Option.some.injEq, BEq.rfl, Bool.false_beq, Bool.true_beq, beq_self_eq_true, Bool.not_false, Bool.not_true, Bool.false_eq_true, List.getElem?_cons_zero, List.getElem?_cons_succ, reduceIte, h2', h3, h4, hk0, e0, e1, e2, es, d2, d3, d5, bs23, hw3, hz1, conv_int d2 d5]; refine hK _ _ ?_; clear hK K)
      | (refine c_cond ?_; simp only [go_sem, Int.reduceEq, Int.reduceLE, Int.reduceLT, Int.reduceNe, Int.reduceNeg, Int.reduceAdd, Int.reduceSub, Int.reduceMul, ne_eq, not_false_eq_true, Nat.reduceLT, Nat.reduceLeDiff, Nat.reduceEqDiff, Nat.reduceAdd, Nat.reduceSub, Nat.reduceMul, if_true, if_false, decide_true, decide_false, reduceCtorEq, List.cons_append, List.nil_append, List.append_nil, Option.bind_some, Option.map_some, Option.some.injEq, BEq.rfl, Bool.false_beq, Bool.true_beq, beq_self_eq_true, Bool.not_false, Bool.not_true, Bool.false_eq_true, List.getElem?_cons_zero, List.getElem?_cons_succ, reduceIte, h2', h3, h4, hk0, e0, e1, e2, es, d2, d3, d5, bs23, hw3, hz1, conv_int d2 d5])
      | (show endW _ _ _ _ _; simp only [go_sem, Int.reduceEq, Int.reduceLE, Int.reduceLT, Int.reduceNe, Int.reduceNeg, Int.reduceAdd, Int.reduceSub, Int.reduceMul, ne_eq, not_false_eq_true, Nat.reduceLT, Nat.reduceLeDiff, Nat.reduceEqDiff, Nat.reduceAdd, Nat.reduceSub, Nat.reduceMul, if_true, if_false, decide_true, decide_false, reduceCtorEq, List.cons_append, List.nil_append, List.append_nil, Option.bind_some, Option.map_some, Option.some.injEq, BEq.rfl, Bool.false_beq, Bool.true_beq, beq_self_eq_true, Bool.not_false, Bool.not_true, Bool.false_eq_true, List.getElem?_cons_zero, List.getElem?_cons_succ, reduceIte, h2', h3, h4, hk0, e0, e1, e2, es, d2, d3, d5, bs23, hw3, hz1, conv_int d2 d5]))
      refine ⟨z, rfl, ?_, h6.trans hz4 (Nat.le_refl _)⟩
      have e : ((f + M) % 256).toNat :: putL (n - M).toNat = l ++ [m] := by rw [← h7, putL, if_neg hk]
      show Tt h.size h3a 1 z (cellsB (((f + M) % 256).toNat :: putL (n - M).toNat))
      rw [e, cellsB_append]
      exact hz3
end Go.Proofs.Ytbmfigafbilbmaa
