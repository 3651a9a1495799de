/- 'PrefixOrder' is true for every bits and both numbers: no conditions. Len and Put are shown to be those of one list of bytes; the rest is arithmetic. -/
import Derived.Test.YtbmfigafbilbmaaAbsPfxPlain
import Derived.Test.YtbmfigafbilbmaaAbsPrefixSeat
import Derived.OpenShut
set_option linter.unusedSimpArgs false
set_option linter.unusedVariables false
namespace Go.Proofs.Ytbmfigafbilbmaa
open Go.Abs Go.RowKit Go.ChangeShapes
set_option maxRecDepth 100000


set_option maxHeartbeats 4000000 in
theorem prefixOrderRun (b n m : Int) : callW Try.prog Try.T 7 [.int .i64 b, .int .i64 n, .int .i64 m] AH.empty fun v _ => v = .bool true := by
  refine callW_of (n := 104) (rs := [.tmp 6]) Try.func7 rfl rfl rfl ?_
  have e0 : (Tm.enter [AV.int IntKind.i64 b, AV.int IntKind.i64 n, AV.int IntKind.i64 m] 104).get 0 = .int .i64 b := rfl
  have e1 : (Tm.enter [AV.int IntKind.i64 b, AV.int IntKind.i64 n, AV.int IntKind.i64 m] 104).get 1 = .int .i64 n := rfl
  have e2 : (Tm.enter [AV.int IntKind.i64 b, AV.int IntKind.i64 n, AV.int IntKind.i64 m] 104).get 2 = .int .i64 m := rfl
  have es : (Tm.enter [AV.int IntKind.i64 b, AV.int IntKind.i64 n, AV.int IntKind.i64 m] 104).size = 104 := rfl
  generalize (Tm.enter [AV.int IntKind.i64 b, AV.int IntKind.i64 n, AV.int IntKind.i64 m] 104) = tm at *
  repeat (first
      | refine q_nn ?_
      | refine q_nr ?_
      | refine q_ne ?_
      | refine q_en ?_
      | refine q_er ?_
      | refine q_es ?_
      | refine q_eo rfl ?_
      | refine q_gn ?_
      | refine q_gr ?_
      | refine q_ge ?_
      | refine c_seq ?_
      | refine c_block ?_
      | refine c_scope ?_
      | refine c_skip ?_
      | refine c_label ?_
      | refine c_ret ?_
      | refine c_exit ?_
      | (refine c_reg fun K hK => ?_; simp only [go_sem, Int.reduceEq, Int.reduceLE, Int.reduceLT, Int.reduceNe, Int.reduceNeg, Int.reduceAdd, Int.reduceSub, Int.reduceMul, ne_eq, not_false_eq_true, Nat.reduceLT, Nat.reduceLeDiff, Nat.reduceEqDiff, Nat.reduceAdd, Nat.reduceSub, Nat.reduceMul, if_true, if_false, decide_true, decide_false, reduceCtorEq, List.cons_append, List.nil_append, List.append_nil, Option.bind_some, Option.map_some, Option.some.injEq, BEq.rfl, Bool.false_beq, Bool.true_beq, beq_self_eq_true, Bool.not_false, Bool.not_true, Bool.false_eq_true, List.getElem?_cons_zero, List.getElem?_cons_succ, reduceIte, e0, e1, e2, es, d2, d3, d5]; refine hK _ _ ?_; clear hK K)
      | (refine c_drw (by kernel_rfl) fun K hK => ?_; simp only [go_sem, Int.reduceEq, Int.reduceLE, Int.reduceLT, Int.reduceNe, Int.reduceNeg, Int.reduceAdd, Int.reduceSub, Int.reduceMul, ne_eq, not_false_eq_true, Nat.reduceLT, Nat.reduceLeDiff, Nat.reduceEqDiff, Nat.reduceAdd, Nat.reduceSub, Nat.reduceMul, if_true, if_false, decide_true, decide_false, reduceCtorEq, List.cons_append, List.nil_append, List.append_nil, Option.bind_some, Option.map_some, Option.some.injEq, BEq.rfl, Bool.false_beq, Bool.true_beq, beq_self_eq_true, Bool.not_false, Bool.not_true, Bool.false_eq_true, List.getElem?_cons_zero, List.getElem?_cons_succ, reduceIte, e0, e1, e2, es, d2, d3, d5]; refine hK _ _ ?_; clear hK K)
      | (refine c_cond ?_; simp only [go_sem, Int.reduceEq, Int.reduceLE, Int.reduceLT, Int.reduceNe, Int.reduceNeg, Int.reduceAdd, Int.reduceSub, Int.reduceMul, ne_eq, not_false_eq_true, Nat.reduceLT, Nat.reduceLeDiff, Nat.reduceEqDiff, Nat.reduceAdd, Nat.reduceSub, Nat.reduceMul, if_true, if_false, decide_true, decide_false, reduceCtorEq, List.cons_append, List.nil_append, List.append_nil, Option.bind_some, Option.map_some, Option.some.injEq, BEq.rfl, Bool.false_beq, Bool.true_beq, beq_self_eq_true, Bool.not_false, Bool.not_true, Bool.false_eq_true, List.getElem?_cons_zero, List.getElem?_cons_succ, reduceIte, e0, e1, e2, es, d2, d3, d5])
      | (show endW _ _ _ _ _; simp only [go_sem, Int.reduceEq, Int.reduceLE, Int.reduceLT, Int.reduceNe, Int.reduceNeg, Int.reduceAdd, Int.reduceSub, Int.reduceMul, ne_eq, not_false_eq_true, Nat.reduceLT, Nat.reduceLeDiff, Nat.reduceEqDiff, Nat.reduceAdd, Nat.reduceSub, Nat.reduceMul, if_true, if_false, decide_true, decide_false, reduceCtorEq, List.cons_append, List.nil_append, List.append_nil, Option.bind_some, Option.map_some, Option.some.injEq, BEq.rfl, Bool.false_beq, Bool.true_beq, beq_self_eq_true, Bool.not_false, Bool.not_true, Bool.false_eq_true, List.getElem?_cons_zero, List.getElem?_cons_succ, reduceIte, e0, e1, e2, es, d2, d3, d5]))
  (refine c_reg fun K hK => ?_; simp only [go_sem, Int.reduceEq, Int.reduceLE, Int.reduceLT, Int.reduceNe, Int.reduceNeg, Int.reduceAdd, Int.reduceSub, Int.reduceMul, ne_eq, not_false_eq_true, Nat.reduceLT, Nat.reduceLeDiff, Nat.reduceEqDiff, Nat.reduceAdd, Nat.reduceSub, Nat.reduceMul, if_true, if_false, decide_true, decide_false, reduceCtorEq, List.cons_append, List.nil_append, List.append_nil, Option.bind_some, Option.map_some, Option.some.injEq, BEq.rfl, Bool.false_beq, Bool.true_beq, beq_self_eq_true, Bool.not_false, Bool.not_true, Bool.false_eq_true, List.getElem?_cons_zero, List.getElem?_cons_succ, reduceIte, e0, e1, e2, es, d2, d3, d5]; refine callM_of (begun (K := fun v _ => v = .bool true) (fun _ => rfl)) ?_; rintro v h0 rfl; simp only [go_sem, Int.reduceEq, Int.reduceLE, Int.reduceLT, Int.reduceNe, Int.reduceNeg, Int.reduceAdd, Int.reduceSub, Int.reduceMul, ne_eq, not_false_eq_true, Nat.reduceLT, Nat.reduceLeDiff, Nat.reduceEqDiff, Nat.reduceAdd, Nat.reduceSub, Nat.reduceMul, if_true, if_false, decide_true, decide_false, reduceCtorEq, List.cons_append, List.nil_append, List.append_nil, Option.bind_some, Option.map_some, Option.some.injEq, BEq.rfl, Bool.false_beq, Bool.true_beq, beq_self_eq_true, Bool.not_false, Bool.not_true, Bool.false_eq_true, List.getElem?_cons_zero, List.getElem?_cons_succ, reduceIte, e0, e1, e2, es, d2, d3, d5]; refine hK _ _ ?_; clear hK K)
  by_cases hb : b < 1
  · repeat (first
      | refine q_nn ?_
      | refine q_nr ?_
      | refine q_ne ?_
      | refine q_en ?_
      | refine q_er ?_
      | refine q_es ?_
      | refine q_eo rfl ?_
      | refine q_gn ?_
      | refine q_gr ?_
      | refine q_ge ?_
      | refine c_seq ?_
      | refine c_block ?_
      | refine c_scope ?_
      | refine c_skip ?_
      | refine c_label ?_
      | refine c_ret ?_
      | refine c_exit ?_
      | (refine c_reg fun K hK => ?_; simp only [go_sem, Int.reduceEq, Int.reduceLE, Int.reduceLT, Int.reduceNe, Int.reduceNeg, Int.reduceAdd, Int.reduceSub, Int.reduceMul, ne_eq, not_false_eq_true, Nat.reduceLT, Nat.reduceLeDiff, Nat.reduceEqDiff, Nat.reduceAdd, Nat.reduceSub, Nat.reduceMul, if_true, if_false, decide_true, decide_false, reduceCtorEq, List.cons_append, List.nil_append, List.append_nil, Option.bind_some, Option.map_some, Option.some.injEq, BEq.rfl, Bool.false_beq, Bool.true_beq, beq_self_eq_true, Bool.not_false, Bool.not_true, Bool.false_eq_true, List.getElem?_cons_zero, List.getElem?_cons_succ, reduceIte, e0, e1, e2, es, d2, d3, d5, hb]; refine hK _ _ ?_; clear hK K)
      | (refine c_drw (by kernel_rfl) fun K hK => ?_; simp only [go_sem, Int.reduceEq, Int.reduceLE, Int.reduceLT, Int.reduceNe, Int.reduceNeg, Int.reduceAdd, Int.reduceSub, Int.reduceMul, ne_eq, not_false_eq_true, Nat.reduceLT, Nat.reduceLeDiff, Nat.reduceEqDiff, Nat.reduceAdd, Nat.reduceSub, Nat.reduceMul, if_true, if_false, decide_true, decide_false, reduceCtorEq, List.cons_append, List.nil_append, List.append_nil, Option.bind_some, Option.map_some, Option.some.injEq, BEq.rfl, Bool.false_beq, Bool.true_beq, beq_self_eq_true, Bool.not_false, Bool.not_true, Bool.false_eq_true, List.getElem?_cons_zero, List.getElem?_cons_succ, reduceIte, e0, e1, e2, es, d2, d3, d5, hb]; refine hK _ _ ?_; clear hK K)
      | (refine c_cond ?_; simp only [go_sem, Int.reduceEq, Int.reduceLE, Int.reduceLT, Int.reduceNe, Int.reduceNeg, Int.reduceAdd, Int.reduceSub, Int.reduceMul, ne_eq, not_false_eq_true, Nat.reduceLT, Nat.reduceLeDiff, Nat.reduceEqDiff, Nat.reduceAdd, Nat.reduceSub, Nat.reduceMul, if_true, if_false, decide_true, decide_false, reduceCtorEq, List.cons_append, List.nil_append, List.append_nil, Option.bind_some, Option.map_some, Option.some.injEq, BEq.rfl, Bool.false_beq, Bool.true_beq, beq_self_eq_true, Bool.not_false, Bool.not_true, Bool.false_eq_true, List.getElem?_cons_zero, List.getElem?_cons_succ, reduceIte, e0, e1, e2, es, d2, d3, d5, hb])
      | (show endW _ _ _ _ _; simp only [go_sem, Int.reduceEq, Int.reduceLE, Int.reduceLT, Int.reduceNe, Int.reduceNeg, Int.reduceAdd, Int.reduceSub, Int.reduceMul, ne_eq, not_false_eq_true, Nat.reduceLT, Nat.reduceLeDiff, Nat.reduceEqDiff, Nat.reduceAdd, Nat.reduceSub, Nat.reduceMul, if_true, if_false, decide_true, decide_false, reduceCtorEq, List.cons_append, List.nil_append, List.append_nil, Option.bind_some, Option.map_some, Option.some.injEq, BEq.rfl, Bool.false_beq, Bool.true_beq, beq_self_eq_true, Bool.not_false, Bool.not_true, Bool.false_eq_true, List.getElem?_cons_zero, List.getElem?_cons_succ, reduceIte, e0, e1, e2, es, d2, d3, d5, hb]))
  by_cases h7 : b > 7
  · repeat (first
      | refine q_nn ?_
      | refine q_nr ?_
      | refine q_ne ?_
      | refine q_en ?_
      | refine q_er ?_
      | refine q_es ?_
      | refine q_eo rfl ?_
      | refine q_gn ?_
      | refine q_gr ?_
      | refine q_ge ?_
      | refine c_seq ?_
      | refine c_block ?_
      | refine c_scope ?_
      | refine c_skip ?_
      | refine c_label ?_
      | refine c_ret ?_
      | refine c_exit ?_
      | (refine c_reg fun K hK => ?_; simp only [go_sem, Int.reduceEq, Int.reduceLE, Int.reduceLT, Int.reduceNe, Int.reduceNeg, Int.reduceAdd, Int.reduceSub, Int.reduceMul, ne_eq, not_false_eq_true, Nat.reduceLT, Nat.reduceLeDiff, Nat.reduceEqDiff, Nat.reduceAdd, Nat.reduceSub, Nat.reduceMul, if_true, if_false, decide_true, decide_false, reduceCtorEq, List.cons_append, List.nil_append, List.append_nil, Option.bind_some, Option.map_some, Option.some.injEq, BEq.rfl, Bool.false_beq, Bool.true_beq, beq_self_eq_true, Bool.not_false, Bool.not_true, Bool.false_eq_true, List.getElem?_cons_zero, List.getElem?_cons_succ, reduceIte, e0, e1, e2, es, d2, d3, d5, hb, h7]; refine hK _ _ ?_; clear hK K)
      | (refine c_drw (by kernel_rfl) fun K hK => ?_; simp only [go_sem, Int.reduceEq, Int.reduceLE, Int.reduceLT, Int.reduceNe, Int.reduceNeg, Int.reduceAdd, Int.reduceSub, Int.reduceMul, ne_eq, not_false_eq_true, Nat.reduceLT, Nat.reduceLeDiff, Nat.reduceEqDiff, Nat.reduceAdd, Nat.reduceSub, Nat.reduceMul, if_true, if_false, decide_true, decide_false, reduceCtorEq, List.cons_append, List.nil_append, List.append_nil, Option.bind_some, Option.map_some, Option.some.injEq, BEq.rfl, Bool.false_beq, Bool.true_beq, beq_self_eq_true, Bool.not_false, Bool.not_true, Bool.false_eq_true, List.getElem?_cons_zero, List.getElem?_cons_succ, reduceIte, e0, e1, e2, es, d2, d3, d5, hb, h7]; refine hK _ _ ?_; clear hK K)
      | (refine c_cond ?_; simp only [go_sem, Int.reduceEq, Int.reduceLE, Int.reduceLT, Int.reduceNe, Int.reduceNeg, Int.reduceAdd, Int.reduceSub, Int.reduceMul, ne_eq, not_false_eq_true, Nat.reduceLT, Nat.reduceLeDiff, Nat.reduceEqDiff, Nat.reduceAdd, Nat.reduceSub, Nat.reduceMul, if_true, if_false, decide_true, decide_false, reduceCtorEq, List.cons_append, List.nil_append, List.append_nil, Option.bind_some, Option.map_some, Option.some.injEq, BEq.rfl, Bool.false_beq, Bool.true_beq, beq_self_eq_true, Bool.not_false, Bool.not_true, Bool.false_eq_true, List.getElem?_cons_zero, List.getElem?_cons_succ, reduceIte, e0, e1, e2, es, d2, d3, d5, hb, h7])
      | (show endW _ _ _ _ _; simp only [go_sem, Int.reduceEq, Int.reduceLE, Int.reduceLT, Int.reduceNe, Int.reduceNeg, Int.reduceAdd, Int.reduceSub, Int.reduceMul, ne_eq, not_false_eq_true, Nat.reduceLT, Nat.reduceLeDiff, Nat.reduceEqDiff, Nat.reduceAdd, Nat.reduceSub, Nat.reduceMul, if_true, if_false, decide_true, decide_false, reduceCtorEq, List.cons_append, List.nil_append, List.append_nil, Option.bind_some, Option.map_some, Option.some.injEq, BEq.rfl, Bool.false_beq, Bool.true_beq, beq_self_eq_true, Bool.not_false, Bool.not_true, Bool.false_eq_true, List.getElem?_cons_zero, List.getElem?_cons_succ, reduceIte, e0, e1, e2, es, d2, d3, d5, hb, h7]))
  by_cases hn : n < 0
  · repeat (first
      | refine q_nn ?_
      | refine q_nr ?_
      | refine q_ne ?_
      | refine q_en ?_
      | refine q_er ?_
      | refine q_es ?_
      | refine q_eo rfl ?_
      | refine q_gn ?_
      | refine q_gr ?_
      | refine q_ge ?_
      | refine c_seq ?_
      | refine c_block ?_
      | refine c_scope ?_
      | refine c_skip ?_
      | refine c_label ?_
      | refine c_ret ?_
      | refine c_exit ?_
      | (refine c_reg fun K hK => ?_; simp only [go_sem, Int.reduceEq, Int.reduceLE, Int.reduceLT, Int.reduceNe, Int.reduceNeg, Int.reduceAdd, Int.reduceSub, Int.reduceMul, ne_eq, not_false_eq_true, Nat.reduceLT, Nat.reduceLeDiff, Nat.reduceEqDiff, Nat.reduceAdd, Nat.reduceSub, Nat.reduceMul, if_true, if_false, decide_true, decide_false, reduceCtorEq, List.cons_append, List.nil_append, List.append_nil, Option.bind_some, Option.map_some, Option.some.injEq, BEq.rfl, Bool.false_beq, Bool.true_beq, beq_self_eq_true, Bool.not_false, Bool.not_true, Bool.false_eq_true, List.getElem?_cons_zero, List.getElem?_cons_succ, reduceIte, e0, e1, e2, es, d2, d3, d5, hb, h7, hn]; refine hK _ _ ?_; clear hK K)
      | (refine c_drw (by kernel_rfl) fun K hK => ?_; simp only [go_sem, Int.reduceEq, Int.reduceLE, Int.reduceLT, Int.reduceNe, Int.reduceNeg, Int.reduceAdd, Int.reduceSub, Int.reduceMul, ne_eq, not_false_eq_true, Nat.reduceLT, Nat.reduceLeDiff, Nat.reduceEqDiff, Nat.reduceAdd, Nat.reduceSub, Nat.reduceMul, if_true, if_false, decide_true, decide_false, reduceCtorEq, List.cons_append, List.nil_append, List.append_nil, Option.bind_some, Option.map_some, Option.some.injEq, BEq.rfl, Bool.false_beq, Bool.true_beq, beq_self_eq_true, Bool.not_false, Bool.not_true, Bool.false_eq_true, List.getElem?_cons_zero, List.getElem?_cons_succ, reduceIte, e0, e1, e2, es, d2, d3, d5, hb, h7, hn]; refine hK _ _ ?_; clear hK K)
      | (refine c_cond ?_; simp only [go_sem, Int.reduceEq, Int.reduceLE, Int.reduceLT, Int.reduceNe, Int.reduceNeg, Int.reduceAdd, Int.reduceSub, Int.reduceMul, ne_eq, not_false_eq_true, Nat.reduceLT, Nat.reduceLeDiff, Nat.reduceEqDiff, Nat.reduceAdd, Nat.reduceSub, Nat.reduceMul, if_true, if_false, decide_true, decide_false, reduceCtorEq, List.cons_append, List.nil_append, List.append_nil, Option.bind_some, Option.map_some, Option.some.injEq, BEq.rfl, Bool.false_beq, Bool.true_beq, beq_self_eq_true, Bool.not_false, Bool.not_true, Bool.false_eq_true, List.getElem?_cons_zero, List.getElem?_cons_succ, reduceIte, e0, e1, e2, es, d2, d3, d5, hb, h7, hn])
      | (show endW _ _ _ _ _; simp only [go_sem, Int.reduceEq, Int.reduceLE, Int.reduceLT, Int.reduceNe, Int.reduceNeg, Int.reduceAdd, Int.reduceSub, Int.reduceMul, ne_eq, not_false_eq_true, Nat.reduceLT, Nat.reduceLeDiff, Nat.reduceEqDiff, Nat.reduceAdd, Nat.reduceSub, Nat.reduceMul, if_true, if_false, decide_true, decide_false, reduceCtorEq, List.cons_append, List.nil_append, List.append_nil, Option.bind_some, Option.map_some, Option.some.injEq, BEq.rfl, Bool.false_beq, Bool.true_beq, beq_self_eq_true, Bool.not_false, Bool.not_true, Bool.false_eq_true, List.getElem?_cons_zero, List.getElem?_cons_succ, reduceIte, e0, e1, e2, es, d2, d3, d5, hb, h7, hn]))
  by_cases hnm : n > m
  · repeat (first
      | refine q_nn ?_
      | refine q_nr ?_
      | refine q_ne ?_
      | refine q_en ?_
      | refine q_er ?_
      | refine q_es ?_
      | refine q_eo rfl ?_
      | refine q_gn ?_
      | refine q_gr ?_
      | refine q_ge ?_
      | refine c_seq ?_
      | refine c_block ?_
      | refine c_scope ?_
      | refine c_skip ?_
      | refine c_label ?_
      | refine c_ret ?_
      | refine c_exit ?_
      | (refine c_reg fun K hK => ?_; simp only [go_sem, Int.reduceEq, Int.reduceLE, Int.reduceLT, Int.reduceNe, Int.reduceNeg, Int.reduceAdd, Int.reduceSub, Int.reduceMul, ne_eq, not_false_eq_true, Nat.reduceLT, Nat.reduceLeDiff, Nat.reduceEqDiff, Nat.reduceAdd, Nat.reduceSub, Nat.reduceMul, if_true, if_false, decide_true, decide_false, reduceCtorEq, List.cons_append, List.nil_append, List.append_nil, Option.bind_some, Option.map_some, Option.some.injEq, BEq.rfl, Bool.false_beq, Bool.true_beq, beq_self_eq_true, Bool.not_false, Bool.not_true, Bool.false_eq_true, List.getElem?_cons_zero, List.getElem?_cons_succ, reduceIte, e0, e1, e2, es, d2, d3, d5, hb, h7, hn, hnm]; refine hK _ _ ?_; clear hK K)
      | (refine c_drw (by kernel_rfl) fun K hK => ?_; simp only [go_sem, Int.reduceEq, Int.reduceLE, Int.reduceLT, Int.reduceNe, Int.reduceNeg, Int.reduceAdd, Int.reduceSub, Int.reduceMul, ne_eq, not_false_eq_true, Nat.reduceLT, Nat.reduceLeDiff, Nat.reduceEqDiff, Nat.reduceAdd, Nat.reduceSub, Nat.reduceMul, if_true, if_false, decide_true, decide_false, reduceCtorEq, List.cons_append, List.nil_append, List.append_nil, Option.bind_some, Option.map_some, Option.some.injEq, BEq.rfl, Bool.false_beq, Bool.true_beq, beq_self_eq_true, Bool.not_false, Bool.not_true, Bool.false_eq_true, List.getElem?_cons_zero, List.getElem?_cons_succ, reduceIte, e0, e1, e2, es, d2, d3, d5, hb, h7, hn, hnm]; refine hK _ _ ?_; clear hK K)
      | (refine c_cond ?_; simp only [go_sem, Int.reduceEq, Int.reduceLE, Int.reduceLT, Int.reduceNe, Int.reduceNeg, Int.reduceAdd, Int.reduceSub, Int.reduceMul, ne_eq, not_false_eq_true, Nat.reduceLT, Nat.reduceLeDiff, Nat.reduceEqDiff, Nat.reduceAdd, Nat.reduceSub, Nat.reduceMul, if_true, if_false, decide_true, decide_false, reduceCtorEq, List.cons_append, List.nil_append, List.append_nil, Option.bind_some, Option.map_some, Option.some.injEq, BEq.rfl, Bool.false_beq, Bool.true_beq, beq_self_eq_true, Bool.not_false, Bool.not_true, Bool.false_eq_true, List.getElem?_cons_zero, List.getElem?_cons_succ, reduceIte, e0, e1, e2, es, d2, d3, d5, hb, h7, hn, hnm])
      | (show endW _ _ _ _ _; simp only [go_sem, Int.reduceEq, Int.reduceLE, Int.reduceLT, Int.reduceNe, Int.reduceNeg, Int.reduceAdd, Int.reduceSub, Int.reduceMul, ne_eq, not_false_eq_true, Nat.reduceLT, Nat.reduceLeDiff, Nat.reduceEqDiff, Nat.reduceAdd, Nat.reduceSub, Nat.reduceMul, if_true, if_false, decide_true, decide_false, reduceCtorEq, List.cons_append, List.nil_append, List.append_nil, Option.bind_some, Option.map_some, Option.some.injEq, BEq.rfl, Bool.false_beq, Bool.true_beq, beq_self_eq_true, Bool.not_false, Bool.not_true, Bool.false_eq_true, List.getElem?_cons_zero, List.getElem?_cons_succ, reduceIte, e0, e1, e2, es, d2, d3, d5, hb, h7, hn, hnm]))
  by_cases hm : m > 2147483647
  · repeat (first
      | refine q_nn ?_
      | refine q_nr ?_
      | refine q_ne ?_
      | refine q_en ?_
      | refine q_er ?_
      | refine q_es ?_
      | refine q_eo rfl ?_
      | refine q_gn ?_
      | refine q_gr ?_
      | refine q_ge ?_
      | refine c_seq ?_
      | refine c_block ?_
      | refine c_scope ?_
      | refine c_skip ?_
      | refine c_label ?_
      | refine c_ret ?_
      | refine c_exit ?_
      | (refine c_reg fun K hK => ?_; simp only [go_sem, Int.reduceEq, Int.reduceLE, Int.reduceLT, Int.reduceNe, Int.reduceNeg, Int.reduceAdd, Int.reduceSub, Int.reduceMul, ne_eq, not_false_eq_true, Nat.reduceLT, Nat.reduceLeDiff, Nat.reduceEqDiff, Nat.reduceAdd, Nat.reduceSub, Nat.reduceMul, if_true, if_false, decide_true, decide_false, reduceCtorEq, List.cons_append, List.nil_append, List.append_nil, Option.bind_some, Option.map_some, Option.some.injEq, BEq.rfl, Bool.false_beq, Bool.true_beq, beq_self_eq_true, Bool.not_false, Bool.not_true, Bool.false_eq_true, List.getElem?_cons_zero, List.getElem?_cons_succ, reduceIte, e0, e1, e2, es, d2, d3, d5, hb, h7, hn, hnm, hm]; refine hK _ _ ?_; clear hK K)
      | (refine c_drw (by kernel_rfl) fun K hK => ?_; simp only [go_sem, Int.reduceEq, Int.reduceLE, Int.reduceLT, Int.reduceNe, Int.reduceNeg, Int.reduceAdd, Int.reduceSub, Int.reduceMul, ne_eq, not_false_eq_true, Nat.reduceLT, Nat.reduceLeDiff, Nat.reduceEqDiff, Nat.reduceAdd, Nat.reduceSub, Nat.reduceMul, if_true, if_false, decide_true, decide_false, reduceCtorEq, List.cons_append, List.nil_append, List.append_nil, Option.bind_some, Option.map_some, Option.some.injEq, BEq.rfl, Bool.false_beq, Bool.true_beq, beq_self_eq_true, Bool.not_false, Bool.not_true, Bool.false_eq_true, List.getElem?_cons_zero, List.getElem?_cons_succ, reduceIte, e0, e1, e2, es, d2, d3, d5, hb, h7, hn, hnm, hm]; refine hK _ _ ?_; clear hK K)
      | (refine c_cond ?_; simp only [go_sem, Int.reduceEq, Int.reduceLE, Int.reduceLT, Int.reduceNe, Int.reduceNeg, Int.reduceAdd, Int.reduceSub, Int.reduceMul, ne_eq, not_false_eq_true, Nat.reduceLT, Nat.reduceLeDiff, Nat.reduceEqDiff, Nat.reduceAdd, Nat.reduceSub, Nat.reduceMul, if_true, if_false, decide_true, decide_false, reduceCtorEq, List.cons_append, List.nil_append, List.append_nil, Option.bind_some, Option.map_some, Option.some.injEq, BEq.rfl, Bool.false_beq, Bool.true_beq, beq_self_eq_true, Bool.not_false, Bool.not_true, Bool.false_eq_true, List.getElem?_cons_zero, List.getElem?_cons_succ, reduceIte, e0, e1, e2, es, d2, d3, d5, hb, h7, hn, hnm, hm])
      | (show endW _ _ _ _ _; simp only [go_sem, Int.reduceEq, Int.reduceLE, Int.reduceLT, Int.reduceNe, Int.reduceNeg, Int.reduceAdd, Int.reduceSub, Int.reduceMul, ne_eq, not_false_eq_true, Nat.reduceLT, Nat.reduceLeDiff, Nat.reduceEqDiff, Nat.reduceAdd, Nat.reduceSub, Nat.reduceMul, if_true, if_false, decide_true, decide_false, reduceCtorEq, List.cons_append, List.nil_append, List.append_nil, Option.bind_some, Option.map_some, Option.some.injEq, BEq.rfl, Bool.false_beq, Bool.true_beq, beq_self_eq_true, Bool.not_false, Bool.not_true, Bool.false_eq_true, List.getElem?_cons_zero, List.getElem?_cons_succ, reduceIte, e0, e1, e2, es, d2, d3, d5, hb, h7, hn, hnm, hm]))
  have hw : IntKind.i64.wrap (b + 1) = b + 1 := wrap_i64 (by omega) (by omega)
  repeat (first
      | refine q_nn ?_
      | refine q_nr ?_
      | refine q_ne ?_
      | refine q_en ?_
      | refine q_er ?_
      | refine q_es ?_
      | refine q_eo rfl ?_
      | refine q_gn ?_
      | refine q_gr ?_
      | refine q_ge ?_
      | refine c_seq ?_
      | refine c_block ?_
      | refine c_scope ?_
      | refine c_skip ?_
      | refine c_label ?_
      | refine c_ret ?_
      | refine c_exit ?_
      | (refine c_reg fun K hK => ?_; simp only [go_sem, Int.reduceEq, Int.reduceLE, Int.reduceLT, Int.reduceNe, Int.reduceNeg, Int.reduceAdd, Int.reduceSub, Int.reduceMul, ne_eq, not_false_eq_true, Nat.reduceLT, Nat.reduceLeDiff, Nat.reduceEqDiff, Nat.reduceAdd, Nat.reduceSub, Nat.reduceMul, if_true, if_false, decide_true, decide_false, reduceCtorEq, List.cons_append, List.nil_append, List.append_nil, Option.bind_some, Option.map_some, Option.some.injEq, BEq.rfl, Bool.false_beq, Bool.true_beq, beq_self_eq_true, Bool.not_false, Bool.not_true, Bool.false_eq_true, List.getElem?_cons_zero, List.getElem?_cons_succ, reduceIte, e0, e1, e2, es, d2, d3, d5, hb, h7, hn, hnm, hm]; refine hK _ _ ?_; clear hK K)
      | (refine c_drw (by kernel_rfl) fun K hK => ?_; simp only [go_sem, Int.reduceEq, Int.reduceLE, Int.reduceLT, Int.reduceNe, Int.reduceNeg, Int.reduceAdd, Int.reduceSub, Int.reduceMul, ne_eq, not_false_eq_true, Nat.reduceLT, Nat.reduceLeDiff, Nat.reduceEqDiff, Nat.reduceAdd, Nat.reduceSub, Nat.reduceMul, if_true, if_false, decide_true, decide_false, reduceCtorEq, List.cons_append, List.nil_append, List.append_nil, Option.bind_some, Option.map_some, Option.some.injEq, BEq.rfl, Bool.false_beq, Bool.true_beq, beq_self_eq_true, Bool.not_false, Bool.not_true, Bool.false_eq_true, List.getElem?_cons_zero, List.getElem?_cons_succ, reduceIte, e0, e1, e2, es, d2, d3, d5, hb, h7, hn, hnm, hm]; refine hK _ _ ?_; clear hK K)
      | (refine c_cond ?_; simp only [go_sem, Int.reduceEq, Int.reduceLE, Int.reduceLT, Int.reduceNe, Int.reduceNeg, Int.reduceAdd, Int.reduceSub, Int.reduceMul, ne_eq, not_false_eq_true, Nat.reduceLT, Nat.reduceLeDiff, Nat.reduceEqDiff, Nat.reduceAdd, Nat.reduceSub, Nat.reduceMul, if_true, if_false, decide_true, decide_false, reduceCtorEq, List.cons_append, List.nil_append, List.append_nil, Option.bind_some, Option.map_some, Option.some.injEq, BEq.rfl, Bool.false_beq, Bool.true_beq, beq_self_eq_true, Bool.not_false, Bool.not_true, Bool.false_eq_true, List.getElem?_cons_zero, List.getElem?_cons_succ, reduceIte, e0, e1, e2, es, d2, d3, d5, hb, h7, hn, hnm, hm])
      | (show endW _ _ _ _ _; simp only [go_sem, Int.reduceEq, Int.reduceLE, Int.reduceLT, Int.reduceNe, Int.reduceNeg, Int.reduceAdd, Int.reduceSub, Int.reduceMul, ne_eq, not_false_eq_true, Nat.reduceLT, Nat.reduceLeDiff, Nat.reduceEqDiff, Nat.reduceAdd, Nat.reduceSub, Nat.reduceMul, if_true, if_false, decide_true, decide_false, reduceCtorEq, List.cons_append, List.nil_append, List.append_nil, Option.bind_some, Option.map_some, Option.some.injEq, BEq.rfl, Bool.false_beq, Bool.true_beq, beq_self_eq_true, Bool.not_false, Bool.not_true, Bool.false_eq_true, List.getElem?_cons_zero, List.getElem?_cons_succ, reduceIte, e0, e1, e2, es, d2, d3, d5, hb, h7, hn, hnm, hm]))
  (refine c_reg fun K hK => ?_; simp only [go_sem, Int.reduceEq, Int.reduceLE, Int.reduceLT, Int.reduceNe, Int.reduceNeg, Int.reduceAdd, Int.reduceSub, Int.reduceMul, ne_eq, not_false_eq_true, Nat.reduceLT, Nat.reduceLeDiff, Nat.reduceEqDiff, Nat.reduceAdd, Nat.reduceSub, Nat.reduceMul, if_true, if_false, decide_true, decide_false, reduceCtorEq, List.cons_append, List.nil_append, List.append_nil, Option.bind_some, Option.map_some, Option.some.injEq, BEq.rfl, Bool.false_beq, Bool.true_beq, beq_self_eq_true, Bool.not_false, Bool.not_true, Bool.false_eq_true, List.getElem?_cons_zero, List.getElem?_cons_succ, reduceIte, e0, e1, e2, es, d2, d3, d5]; refine callM_of (len b n h0) ?_; rintro v h1 ⟨rfl, hk1⟩; simp only [go_sem, Int.reduceEq, Int.reduceLE, Int.reduceLT, Int.reduceNe, Int.reduceNeg, Int.reduceAdd, Int.reduceSub, Int.reduceMul, ne_eq, not_false_eq_true, Nat.reduceLT, Nat.reduceLeDiff, Nat.reduceEqDiff, Nat.reduceAdd, Nat.reduceSub, Nat.reduceMul, if_true, if_false, decide_true, decide_false, reduceCtorEq, List.cons_append, List.nil_append, List.append_nil, Option.bind_some, Option.map_some, Option.some.injEq, BEq.rfl, Bool.false_beq, Bool.true_beq, beq_self_eq_true, Bool.not_false, Bool.not_true, Bool.false_eq_true, List.getElem?_cons_zero, List.getElem?_cons_succ, reduceIte, e0, e1, e2, es, d2, d3, d5]; refine hK _ _ ?_; clear hK K)
  repeat (first
      | refine q_nn ?_
      | refine q_nr ?_
      | refine q_ne ?_
      | refine q_en ?_
      | refine q_er ?_
      | refine q_es ?_
      | refine q_eo rfl ?_
      | refine q_gn ?_
      | refine q_gr ?_
      | refine q_ge ?_
      | refine c_seq ?_
      | refine c_block ?_
      | refine c_scope ?_
      | refine c_skip ?_
      | refine c_label ?_
      | refine c_ret ?_
      | refine c_exit ?_
      | (refine c_reg fun K hK => ?_; simp only [go_sem, Int.reduceEq, Int.reduceLE, Int.reduceLT, Int.reduceNe, Int.reduceNeg, Int.reduceAdd, Int.reduceSub, Int.reduceMul, ne_eq, not_false_eq_true, Nat.reduceLT, Nat.reduceLeDiff, Nat.reduceEqDiff, Nat.reduceAdd, Nat.reduceSub, Nat.reduceMul, if_true, if_false, decide_true, decide_false, reduceCtorEq, List.cons_append, List.nil_append, List.append_nil, Option.bind_some, Option.map_some, Option.some.injEq, BEq.rfl, Bool.false_beq, Bool.true_beq, beq_self_eq_true, Bool.not_false, Bool.not_true, Bool.false_eq_true, List.getElem?_cons_zero, List.getElem?_cons_succ, reduceIte, e0, e1, e2, es, d2, d3, d5]; refine hK _ _ ?_; clear hK K)
      | (refine c_drw (by kernel_rfl) fun K hK => ?_; simp only [go_sem, Int.reduceEq, Int.reduceLE, Int.reduceLT, Int.reduceNe, Int.reduceNeg, Int.reduceAdd, Int.reduceSub, Int.reduceMul, ne_eq, not_false_eq_true, Nat.reduceLT, Nat.reduceLeDiff, Nat.reduceEqDiff, Nat.reduceAdd, Nat.reduceSub, Nat.reduceMul, if_true, if_false, decide_true, decide_false, reduceCtorEq, List.cons_append, List.nil_append, List.append_nil, Option.bind_some, Option.map_some, Option.some.injEq, BEq.rfl, Bool.false_beq, Bool.true_beq, beq_self_eq_true, Bool.not_false, Bool.not_true, Bool.false_eq_true, List.getElem?_cons_zero, List.getElem?_cons_succ, reduceIte, e0, e1, e2, es, d2, d3, d5]; refine hK _ _ ?_; clear hK K)
      | (refine c_cond ?_; simp only [go_sem, Int.reduceEq, Int.reduceLE, Int.reduceLT, Int.reduceNe, Int.reduceNeg, Int.reduceAdd, Int.reduceSub, Int.reduceMul, ne_eq, not_false_eq_true, Nat.reduceLT, Nat.reduceLeDiff, Nat.reduceEqDiff, Nat.reduceAdd, Nat.reduceSub, Nat.reduceMul, if_true, if_false, decide_true, decide_false, reduceCtorEq, List.cons_append, List.nil_append, List.append_nil, Option.bind_some, Option.map_some, Option.some.injEq, BEq.rfl, Bool.false_beq, Bool.true_beq, beq_self_eq_true, Bool.not_false, Bool.not_true, Bool.false_eq_true, List.getElem?_cons_zero, List.getElem?_cons_succ, reduceIte, e0, e1, e2, es, d2, d3, d5])
      | (show endW _ _ _ _ _; simp only [go_sem, Int.reduceEq, Int.reduceLE, Int.reduceLT, Int.reduceNe, Int.reduceNeg, Int.reduceAdd, Int.reduceSub, Int.reduceMul, ne_eq, not_false_eq_true, Nat.reduceLT, Nat.reduceLeDiff, Nat.reduceEqDiff, Nat.reduceAdd, Nat.reduceSub, Nat.reduceMul, if_true, if_false, decide_true, decide_false, reduceCtorEq, List.cons_append, List.nil_append, List.append_nil, Option.bind_some, Option.map_some, Option.some.injEq, BEq.rfl, Bool.false_beq, Bool.true_beq, beq_self_eq_true, Bool.not_false, Bool.not_true, Bool.false_eq_true, List.getElem?_cons_zero, List.getElem?_cons_succ, reduceIte, e0, e1, e2, es, d2, d3, d5]))
  (refine c_reg fun K hK => ?_; simp only [go_sem, Int.reduceEq, Int.reduceLE, Int.reduceLT, Int.reduceNe, Int.reduceNeg, Int.reduceAdd, Int.reduceSub, Int.reduceMul, ne_eq, not_false_eq_true, Nat.reduceLT, Nat.reduceLeDiff, Nat.reduceEqDiff, Nat.reduceAdd, Nat.reduceSub, Nat.reduceMul, if_true, if_false, decide_true, decide_false, reduceCtorEq, List.cons_append, List.nil_append, List.append_nil, Option.bind_some, Option.map_some, Option.some.injEq, BEq.rfl, Bool.false_beq, Bool.true_beq, beq_self_eq_true, Bool.not_false, Bool.not_true, Bool.false_eq_true, List.getElem?_cons_zero, List.getElem?_cons_succ, reduceIte, e0, e1, e2, es, d2, d3, d5]; refine callM_of (len b m h1) ?_; rintro v h2 ⟨rfl, hk2⟩; simp only [go_sem, Int.reduceEq, Int.reduceLE, Int.reduceLT, Int.reduceNe, Int.reduceNeg, Int.reduceAdd, Int.reduceSub, Int.reduceMul, ne_eq, not_false_eq_true, Nat.reduceLT, Nat.reduceLeDiff, Nat.reduceEqDiff, Nat.reduceAdd, Nat.reduceSub, Nat.reduceMul, if_true, if_false, decide_true, decide_false, reduceCtorEq, List.cons_append, List.nil_append, List.append_nil, Option.bind_some, Option.map_some, Option.some.injEq, BEq.rfl, Bool.false_beq, Bool.true_beq, beq_self_eq_true, Bool.not_false, Bool.not_true, Bool.false_eq_true, List.getElem?_cons_zero, List.getElem?_cons_succ, reduceIte, e0, e1, e2, es, d2, d3, d5]; refine hK _ _ ?_; clear hK K)
  repeat (first
      | refine q_nn ?_
      | refine q_nr ?_
      | refine q_ne ?_
      | refine q_en ?_
      | refine q_er ?_
      | refine q_es ?_
      | refine q_eo rfl ?_
      | refine q_gn ?_
      | refine q_gr ?_
      | refine q_ge ?_
      | refine c_seq ?_
      | refine c_block ?_
      | refine c_scope ?_
      | refine c_skip ?_
      | refine c_label ?_
      | refine c_ret ?_
      | refine c_exit ?_
      | (refine c_reg fun K hK => ?_; simp only [go_sem, Int.reduceEq, Int.reduceLE, Int.reduceLT, Int.reduceNe, Int.reduceNeg, Int.reduceAdd, Int.reduceSub, Int.reduceMul, ne_eq, not_false_eq_true, Nat.reduceLT, Nat.reduceLeDiff, Nat.reduceEqDiff, Nat.reduceAdd, Nat.reduceSub, Nat.reduceMul, if_true, if_false, decide_true, decide_false, reduceCtorEq, List.cons_append, List.nil_append, List.append_nil, Option.bind_some, Option.map_some, Option.some.injEq, BEq.rfl, Bool.false_beq, Bool.true_beq, beq_self_eq_true, Bool.not_false, Bool.not_true, Bool.false_eq_true, List.getElem?_cons_zero, List.getElem?_cons_succ, reduceIte, e0, e1, e2, es, d2, d3, d5]; refine hK _ _ ?_; clear hK K)
      | (refine c_drw (by kernel_rfl) fun K hK => ?_; simp only [go_sem, Int.reduceEq, Int.reduceLE, Int.reduceLT, Int.reduceNe, Int.reduceNeg, Int.reduceAdd, Int.reduceSub, Int.reduceMul, ne_eq, not_false_eq_true, Nat.reduceLT, Nat.reduceLeDiff, Nat.reduceEqDiff, Nat.reduceAdd, Nat.reduceSub, Nat.reduceMul, if_true, if_false, decide_true, decide_false, reduceCtorEq, List.cons_append, List.nil_append, List.append_nil, Option.bind_some, Option.map_some, Option.some.injEq, BEq.rfl, Bool.false_beq, Bool.true_beq, beq_self_eq_true, Bool.not_false, Bool.not_true, Bool.false_eq_true, List.getElem?_cons_zero, List.getElem?_cons_succ, reduceIte, e0, e1, e2, es, d2, d3, d5]; refine hK _ _ ?_; clear hK K)
      | (refine c_cond ?_; simp only [go_sem, Int.reduceEq, Int.reduceLE, Int.reduceLT, Int.reduceNe, Int.reduceNeg, Int.reduceAdd, Int.reduceSub, Int.reduceMul, ne_eq, not_false_eq_true, Nat.reduceLT, Nat.reduceLeDiff, Nat.reduceEqDiff, Nat.reduceAdd, Nat.reduceSub, Nat.reduceMul, if_true, if_false, decide_true, decide_false, reduceCtorEq, List.cons_append, List.nil_append, List.append_nil, Option.bind_some, Option.map_some, Option.some.injEq, BEq.rfl, Bool.false_beq, Bool.true_beq, beq_self_eq_true, Bool.not_false, Bool.not_true, Bool.false_eq_true, List.getElem?_cons_zero, List.getElem?_cons_succ, reduceIte, e0, e1, e2, es, d2, d3, d5])
      | (show endW _ _ _ _ _; simp only [go_sem, Int.reduceEq, Int.reduceLE, Int.reduceLT, Int.reduceNe, Int.reduceNeg, Int.reduceAdd, Int.reduceSub, Int.reduceMul, ne_eq, not_false_eq_true, Nat.reduceLT, Nat.reduceLeDiff, Nat.reduceEqDiff, Nat.reduceAdd, Nat.reduceSub, Nat.reduceMul, if_true, if_false, decide_true, decide_false, reduceCtorEq, List.cons_append, List.nil_append, List.append_nil, Option.bind_some, Option.map_some, Option.some.injEq, BEq.rfl, Bool.false_beq, Bool.true_beq, beq_self_eq_true, Bool.not_false, Bool.not_true, Bool.false_eq_true, List.getElem?_cons_zero, List.getElem?_cons_succ, reduceIte, e0, e1, e2, es, d2, d3, d5]))
  (refine c_reg fun K hK => ?_; simp only [go_sem, Int.reduceEq, Int.reduceLE, Int.reduceLT, Int.reduceNe, Int.reduceNeg, Int.reduceAdd, Int.reduceSub, Int.reduceMul, ne_eq, not_false_eq_true, Nat.reduceLT, Nat.reduceLeDiff, Nat.reduceEqDiff, Nat.reduceAdd, Nat.reduceSub, Nat.reduceMul, if_true, if_false, decide_true, decide_false, reduceCtorEq, List.cons_append, List.nil_append, List.append_nil, Option.bind_some, Option.map_some, Option.some.injEq, BEq.rfl, Bool.false_beq, Bool.true_beq, beq_self_eq_true, Bool.not_false, Bool.not_true, Bool.false_eq_true, List.getElem?_cons_zero, List.getElem?_cons_succ, reduceIte, e0, e1, e2, es, d2, d3, d5, hw]; refine callM_of (len (b + 1) n h2) ?_; rintro v h3 ⟨rfl, hk3⟩; simp only [go_sem, Int.reduceEq, Int.reduceLE, Int.reduceLT, Int.reduceNe, Int.reduceNeg, Int.reduceAdd, Int.reduceSub, Int.reduceMul, ne_eq, not_false_eq_true, Nat.reduceLT, Nat.reduceLeDiff, Nat.reduceEqDiff, Nat.reduceAdd, Nat.reduceSub, Nat.reduceMul, if_true, if_false, decide_true, decide_false, reduceCtorEq, List.cons_append, List.nil_append, List.append_nil, Option.bind_some, Option.map_some, Option.some.injEq, BEq.rfl, Bool.false_beq, Bool.true_beq, beq_self_eq_true, Bool.not_false, Bool.not_true, Bool.false_eq_true, List.getElem?_cons_zero, List.getElem?_cons_succ, reduceIte, e0, e1, e2, es, d2, d3, d5, hw]; refine hK _ _ ?_; clear hK K)
  repeat (first
      | refine q_nn ?_
      | refine q_nr ?_
      | refine q_ne ?_
      | refine q_en ?_
      | refine q_er ?_
      | refine q_es ?_
      | refine q_eo rfl ?_
      | refine q_gn ?_
      | refine q_gr ?_
      | refine q_ge ?_
      | refine c_seq ?_
      | refine c_block ?_
      | refine c_scope ?_
      | refine c_skip ?_
      | refine c_label ?_
      | refine c_ret ?_
      | refine c_exit ?_
      | (refine c_reg fun K hK => ?_; simp only [go_sem, Int.reduceEq, Int.reduceLE, Int.reduceLT, Int.reduceNe, Int.reduceNeg, Int.reduceAdd, Int.reduceSub, Int.reduceMul, ne_eq, not_false_eq_true, Nat.reduceLT, Nat.reduceLeDiff, Nat.reduceEqDiff, Nat.reduceAdd, Nat.reduceSub, Nat.reduceMul, if_true, if_false, decide_true, decide_false, reduceCtorEq, List.cons_append, List.nil_append, List.append_nil, Option.bind_some, Option.map_some, Option.some.injEq, BEq.rfl, Bool.false_beq, Bool.true_beq, beq_self_eq_true, Bool.not_false, Bool.not_true, Bool.false_eq_true, List.getElem?_cons_zero, List.getElem?_cons_succ, reduceIte, e0, e1, e2, es, d2, d3, d5]; refine hK _ _ ?_; clear hK K)
      | (refine c_drw (by kernel_rfl) fun K hK => ?_; simp only [go_sem, Int.reduceEq, Int.reduceLE, Int.reduceLT, Int.reduceNe, Int.reduceNeg, Int.reduceAdd, Int.reduceSub, Int.reduceMul, ne_eq, not_false_eq_true, Nat.reduceLT, Nat.reduceLeDiff, Nat.reduceEqDiff, Nat.reduceAdd, Nat.reduceSub, Nat.reduceMul, if_true, if_false, decide_true, decide_false, reduceCtorEq, List.cons_append, List.nil_append, List.append_nil, Option.bind_some, Option.map_some, Option.some.injEq, BEq.rfl, Bool.false_beq, Bool.true_beq, beq_self_eq_true, Bool.not_false, Bool.not_true, Bool.false_eq_true, List.getElem?_cons_zero, List.getElem?_cons_succ, reduceIte, e0, e1, e2, es, d2, d3, d5]; refine hK _ _ ?_; clear hK K)
      | (refine c_cond ?_; simp only [go_sem, Int.reduceEq, Int.reduceLE, Int.reduceLT, Int.reduceNe, Int.reduceNeg, Int.reduceAdd, Int.reduceSub, Int.reduceMul, ne_eq, not_false_eq_true, Nat.reduceLT, Nat.reduceLeDiff, Nat.reduceEqDiff, Nat.reduceAdd, Nat.reduceSub, Nat.reduceMul, if_true, if_false, decide_true, decide_false, reduceCtorEq, List.cons_append, List.nil_append, List.append_nil, Option.bind_some, Option.map_some, Option.some.injEq, BEq.rfl, Bool.false_beq, Bool.true_beq, beq_self_eq_true, Bool.not_false, Bool.not_true, Bool.false_eq_true, List.getElem?_cons_zero, List.getElem?_cons_succ, reduceIte, e0, e1, e2, es, d2, d3, d5])
      | (show endW _ _ _ _ _; simp only [go_sem, Int.reduceEq, Int.reduceLE, Int.reduceLT, Int.reduceNe, Int.reduceNeg, Int.reduceAdd, Int.reduceSub, Int.reduceMul, ne_eq, not_false_eq_true, Nat.reduceLT, Nat.reduceLeDiff, Nat.reduceEqDiff, Nat.reduceAdd, Nat.reduceSub, Nat.reduceMul, if_true, if_false, decide_true, decide_false, reduceCtorEq, List.cons_append, List.nil_append, List.append_nil, Option.bind_some, Option.map_some, Option.some.injEq, BEq.rfl, Bool.false_beq, Bool.true_beq, beq_self_eq_true, Bool.not_false, Bool.not_true, Bool.false_eq_true, List.getElem?_cons_zero, List.getElem?_cons_succ, reduceIte, e0, e1, e2, es, d2, d3, d5]))
  (refine c_reg fun K hK => ?_; simp only [go_sem, Int.reduceEq, Int.reduceLE, Int.reduceLT, Int.reduceNe, Int.reduceNeg, Int.reduceAdd, Int.reduceSub, Int.reduceMul, ne_eq, not_false_eq_true, Nat.reduceLT, Nat.reduceLeDiff, Nat.reduceEqDiff, Nat.reduceAdd, Nat.reduceSub, Nat.reduceMul, if_true, if_false, decide_true, decide_false, reduceCtorEq, List.cons_append, List.nil_append, List.append_nil, Option.bind_some, Option.map_some, Option.some.injEq, BEq.rfl, Bool.false_beq, Bool.true_beq, beq_self_eq_true, Bool.not_false, Bool.not_true, Bool.false_eq_true, List.getElem?_cons_zero, List.getElem?_cons_succ, reduceIte, e0, e1, e2, es, d2, d3, d5]; refine callM_of (put b 0 n h3) ?_; rintro v h4 ⟨a4, rfl, ha4, hk4⟩; simp only [go_sem, Int.reduceEq, Int.reduceLE, Int.reduceLT, Int.reduceNe, Int.reduceNeg, Int.reduceAdd, Int.reduceSub, Int.reduceMul, ne_eq, not_false_eq_true, Nat.reduceLT, Nat.reduceLeDiff, Nat.reduceEqDiff, Nat.reduceAdd, Nat.reduceSub, Nat.reduceMul, if_true, if_false, decide_true, decide_false, reduceCtorEq, List.cons_append, List.nil_append, List.append_nil, Option.bind_some, Option.map_some, Option.some.injEq, BEq.rfl, Bool.false_beq, Bool.true_beq, beq_self_eq_true, Bool.not_false, Bool.not_true, Bool.false_eq_true, List.getElem?_cons_zero, List.getElem?_cons_succ, reduceIte, e0, e1, e2, es, d2, d3, d5]; refine hK _ _ ?_; clear hK K)
  repeat (first
      | refine q_nn ?_
      | refine q_nr ?_
      | refine q_ne ?_
      | refine q_en ?_
      | refine q_er ?_
      | refine q_es ?_
      | refine q_eo rfl ?_
      | refine q_gn ?_
      | refine q_gr ?_
      | refine q_ge ?_
      | refine c_seq ?_
      | refine c_block ?_
      | refine c_scope ?_
      | refine c_skip ?_
      | refine c_label ?_
      | refine c_ret ?_
      | refine c_exit ?_
      | (refine c_reg fun K hK => ?_; simp only [go_sem, Int.reduceEq, Int.reduceLE, Int.reduceLT, Int.reduceNe, Int.reduceNeg, Int.reduceAdd, Int.reduceSub, Int.reduceMul, ne_eq, not_false_eq_true, Nat.reduceLT, Nat.reduceLeDiff, Nat.reduceEqDiff, Nat.reduceAdd, Nat.reduceSub, Nat.reduceMul, if_true, if_false, decide_true, decide_false, reduceCtorEq, List.cons_append, List.nil_append, List.append_nil, Option.bind_some, Option.map_some, Option.some.injEq, BEq.rfl, Bool.false_beq, Bool.true_beq, beq_self_eq_true, Bool.not_false, Bool.not_true, Bool.false_eq_true, List.getElem?_cons_zero, List.getElem?_cons_succ, reduceIte, e0, e1, e2, es, d2, d3, d5]; refine hK _ _ ?_; clear hK K)
      | (refine c_drw (by kernel_rfl) fun K hK => ?_; simp only [go_sem, Int.reduceEq, Int.reduceLE, Int.reduceLT, Int.reduceNe, Int.reduceNeg, Int.reduceAdd, Int.reduceSub, Int.reduceMul, ne_eq, not_false_eq_true, Nat.reduceLT, Nat.reduceLeDiff, Nat.reduceEqDiff, Nat.reduceAdd, Nat.reduceSub, Nat.reduceMul, if_true, if_false, decide_true, decide_false, reduceCtorEq, List.cons_append, List.nil_append, List.append_nil, Option.bind_some, Option.map_some, Option.some.injEq, BEq.rfl, Bool.false_beq, Bool.true_beq, beq_self_eq_true, Bool.not_false, Bool.not_true, Bool.false_eq_true, List.getElem?_cons_zero, List.getElem?_cons_succ, reduceIte, e0, e1, e2, es, d2, d3, d5]; refine hK _ _ ?_; clear hK K)
      | (refine c_cond ?_; simp only [go_sem, Int.reduceEq, Int.reduceLE, Int.reduceLT, Int.reduceNe, Int.reduceNeg, Int.reduceAdd, Int.reduceSub, Int.reduceMul, ne_eq, not_false_eq_true, Nat.reduceLT, Nat.reduceLeDiff, Nat.reduceEqDiff, Nat.reduceAdd, Nat.reduceSub, Nat.reduceMul, if_true, if_false, decide_true, decide_false, reduceCtorEq, List.cons_append, List.nil_append, List.append_nil, Option.bind_some, Option.map_some, Option.some.injEq, BEq.rfl, Bool.false_beq, Bool.true_beq, beq_self_eq_true, Bool.not_false, Bool.not_true, Bool.false_eq_true, List.getElem?_cons_zero, List.getElem?_cons_succ, reduceIte, e0, e1, e2, es, d2, d3, d5])
      | (show endW _ _ _ _ _; simp only [go_sem, Int.reduceEq, Int.reduceLE, Int.reduceLT, Int.reduceNe, Int.reduceNeg, Int.reduceAdd, Int.reduceSub, Int.reduceMul, ne_eq, not_false_eq_true, Nat.reduceLT, Nat.reduceLeDiff, Nat.reduceEqDiff, Nat.reduceAdd, Nat.reduceSub, Nat.reduceMul, if_true, if_false, decide_true, decide_false, reduceCtorEq, List.cons_append, List.nil_append, List.append_nil, Option.bind_some, Option.map_some, Option.some.injEq, BEq.rfl, Bool.false_beq, Bool.true_beq, beq_self_eq_true, Bool.not_false, Bool.not_true, Bool.false_eq_true, List.getElem?_cons_zero, List.getElem?_cons_succ, reduceIte, e0, e1, e2, es, d2, d3, d5]))
  (refine c_reg fun K hK => ?_; simp only [go_sem, Int.reduceEq, Int.reduceLE, Int.reduceLT, Int.reduceNe, Int.reduceNeg, Int.reduceAdd, Int.reduceSub, Int.reduceMul, ne_eq, not_false_eq_true, Nat.reduceLT, Nat.reduceLeDiff, Nat.reduceEqDiff, Nat.reduceAdd, Nat.reduceSub, Nat.reduceMul, if_true, if_false, decide_true, decide_false, reduceCtorEq, List.cons_append, List.nil_append, List.append_nil, Option.bind_some, Option.map_some, Option.some.injEq, BEq.rfl, Bool.false_beq, Bool.true_beq, beq_self_eq_true, Bool.not_false, Bool.not_true, Bool.false_eq_true, List.getElem?_cons_zero, List.getElem?_cons_succ, reduceIte, e0, e1, e2, es, d2, d3, d5]; refine callM_of (put b 0 m h4) ?_; rintro v h5 ⟨a5, rfl, ha5, hk5⟩; simp only [go_sem, Int.reduceEq, Int.reduceLE, Int.reduceLT, Int.reduceNe, Int.reduceNeg, Int.reduceAdd, Int.reduceSub, Int.reduceMul, ne_eq, not_false_eq_true, Nat.reduceLT, Nat.reduceLeDiff, Nat.reduceEqDiff, Nat.reduceAdd, Nat.reduceSub, Nat.reduceMul, if_true, if_false, decide_true, decide_false, reduceCtorEq, List.cons_append, List.nil_append, List.append_nil, Option.bind_some, Option.map_some, Option.some.injEq, BEq.rfl, Bool.false_beq, Bool.true_beq, beq_self_eq_true, Bool.not_false, Bool.not_true, Bool.false_eq_true, List.getElem?_cons_zero, List.getElem?_cons_succ, reduceIte, e0, e1, e2, es, d2, d3, d5]; refine hK _ _ ?_; clear hK K)
  have c1 := (ha4.keep hk5 (Nat.le_refl _)).convS (T := Try.T) (t := 23) (u := 9) (e := 5) rfl rfl rfl
  have c2 := ha5.convS (T := Try.T) (t := 23) (u := 9) (e := 5) rfl rfl rfl
  have x1 := putS_err (b := b) (n := n) (by omega) (by omega) (by omega) (by omega)
  have x2 := putS_err (b := b) (n := m) (by omega) (by omega) (by omega) (by omega)
  have x3 := putS_err (b := b + 1) (n := n) (by omega) (by omega) (by omega) (by omega)
  have y1 := putS_mono (b := b) (n := n) (m := m) (by omega) (by omega) (by omega) (by omega) (by omega)
  have y2 := putS_bits (b := b) (n := n) (by omega) (by omega) (by omega) (by omega)
  have s1 := putS_small (b := b) (n := n) (by omega) (by omega) (by omega) (by omega)
  have s2 := putS_small (b := b) (n := m) (by omega) (by omega) (by omega) (by omega)
  have y1' : (((putS b 0 n).2.length : Nat) : Int) ≤ (((putS b 0 m).2.length : Nat) : Int) := by omega
  have y2' : (((putS (b + 1) 0 n).2.length : Nat) : Int) ≤ (((putS b 0 n).2.length : Nat) : Int) := by omega
  have hsame : ((strB (putS b 0 n).2 == strB (putS b 0 m).2) == (n == m)) = true := by
    by_cases e : n = m
    · subst e; simp
    · have : ¬ strB (putS b 0 n).2 = strB (putS b 0 m).2 := fun h => e (putS_inj (by omega) (by omega) (by omega) (by omega) (by omega) (by omega) (strB_inj _ _ s1 s2 h))
      have f1 : (n == m) = false := by simpa using e
      have f2 : (strB (putS b 0 n).2 == strB (putS b 0 m).2) = false := by simpa using this
      rw [f1, f2]; rfl
  repeat (first
      | refine q_nn ?_
      | refine q_nr ?_
      | refine q_ne ?_
      | refine q_en ?_
      | refine q_er ?_
      | refine q_es ?_
      | refine q_eo rfl ?_
      | refine q_gn ?_
      | refine q_gr ?_
      | refine q_ge ?_
      | refine c_seq ?_
      | refine c_block ?_
      | refine c_scope ?_
      | refine c_skip ?_
      | refine c_label ?_
      | refine c_ret ?_
      | refine c_exit ?_
      | (refine c_reg fun K hK => ?_; simp only [go_sem, Int.reduceEq, Int.reduceLE, Int.reduceLT, Int.reduceNe, Int.reduceNeg, Int.reduceAdd, Int.reduceSub, Int.reduceMul, ne_eq, not_false_eq_true, Nat.reduceLT, Nat.reduceLeDiff, Nat.reduceEqDiff, Nat.reduceAdd, Nat.reduceSub, Nat.reduceMul, if_true, if_false, decide_true, decide_false, reduceCtorEq, List.cons_append, List.nil_append, List.append_nil, Option.bind_some, Option.map_some, Option.some.injEq, BEq.rfl, Bool.false_beq, Bool.true_beq, beq_self_eq_true, Bool.not_false, Bool.not_true, Bool.false_eq_true, List.getElem?_cons_zero, List.getElem?_cons_succ, reduceIte, e0, e1, e2, es, d2, d3, d5, c1, c2, x1, x2, x3, y1', y2', hsame, bool_eql (T := Try.T) (t := 4) rfl]; refine hK _ _ ?_; clear hK K)
      | (refine c_drw (by kernel_rfl) fun K hK => ?_; simp only [go_sem, Int.reduceEq, Int.reduceLE, Int.reduceLT, Int.reduceNe, Int.reduceNeg, Int.reduceAdd, Int.reduceSub, Int.reduceMul, ne_eq, not_false_eq_true, Nat.reduceLT, Nat.reduceLeDiff, Nat.reduceEqDiff, Nat.reduceAdd, Nat.reduceSub, Nat.reduceMul, if_true, if_false, decide_true, decide_false, reduceCtorEq, List.cons_append, List.nil_append, List.append_nil, Option.bind_some, Option.map_some, Option.some.injEq, BEq.rfl, Bool.false_beq, Bool.true_beq, beq_self_eq_true, Bool.not_false, Bool.not_true, Bool.false_eq_true, List.getElem?_cons_zero, List.getElem?_cons_succ, reduceIte, e0, e1, e2, es, d2, d3, d5, c1, c2, x1, x2, x3, y1', y2', hsame, bool_eql (T := Try.T) (t := 4) rfl]; refine hK _ _ ?_; clear hK K)
      | (refine c_cond ?_; simp only [go_sem, Int.reduceEq, Int.reduceLE, Int.reduceLT, Int.reduceNe, Int.reduceNeg, Int.reduceAdd, Int.reduceSub, Int.reduceMul, ne_eq, not_false_eq_true, Nat.reduceLT, Nat.reduceLeDiff, Nat.reduceEqDiff, Nat.reduceAdd, Nat.reduceSub, Nat.reduceMul, if_true, if_false, decide_true, decide_false, reduceCtorEq, List.cons_append, List.nil_append, List.append_nil, Option.bind_some, Option.map_some, Option.some.injEq, BEq.rfl, Bool.false_beq, Bool.true_beq, beq_self_eq_true, Bool.not_false, Bool.not_true, Bool.false_eq_true, List.getElem?_cons_zero, List.getElem?_cons_succ, reduceIte, e0, e1, e2, es, d2, d3, d5, c1, c2, x1, x2, x3, y1', y2', hsame, bool_eql (T := Try.T) (t := 4) rfl])
      | (show endW _ _ _ _ _; simp only [go_sem, Int.reduceEq, Int.reduceLE, Int.reduceLT, Int.reduceNe, Int.reduceNeg, Int.reduceAdd, Int.reduceSub, Int.reduceMul, ne_eq, not_false_eq_true, Nat.reduceLT, Nat.reduceLeDiff, Nat.reduceEqDiff, Nat.reduceAdd, Nat.reduceSub, Nat.reduceMul, if_true, if_false, decide_true, decide_false, reduceCtorEq, List.cons_append, List.nil_append, List.append_nil, Option.bind_some, Option.map_some, Option.some.injEq, BEq.rfl, Bool.false_beq, Bool.true_beq, beq_self_eq_true, Bool.not_false, Bool.not_true, Bool.false_eq_true, List.getElem?_cons_zero, List.getElem?_cons_succ, reduceIte, e0, e1, e2, es, d2, d3, d5, c1, c2, x1, x2, x3, y1', y2', hsame, bool_eql (T := Try.T) (t := 4) rfl]))
theorem prefixOrderLifted (os : Os) (started : os.Started) (H : Type) (enc : TypeId × Value → H) :
    ReturnsInHanded {} Try.checked os 7 .any (Rows.prefixOrderSpec.pre6 enc Try.prog Try.f7 Rows.prefixOrderRow.domain false) (Rows.prefixOrderSpec.post enc Try.prog Try.f7 false true false false) := by
  refine returnsInHanded_of_change (C := Try.checked) own started (by kernel_rfl) Try.func7
    (ChangeSpec.witness6 (enc := enc) (C := Try.checked) false ⟨#[], #[.int .i64 0, .int .i64 0, .int .i64 0], []⟩ 8 (by kernel_rfl) (by kernel_rfl) (by kernel_rfl) (by kernel_rfl)) ?_
  intro W base args ds gs before hval hW _ _
  have hW' := hW
  obtain ⟨p, q, hA0, hV, rfl, _, _⟩ := hW
  have hA : DataW.TrodAll enc Try.prog W 0 (fun _ => true) true Try.f7.params.toList args.toList ds p := hA0
  rw [Try.params7] at hA hval
  obtain ⟨v0, vs0, d0, ds0, p0, q0, hargs, rfl, rfl, k0, r0⟩ := trodAll_cons hA
  obtain ⟨v1, vs1, d1, ds1, p1, q1, rfl, rfl, rfl, k1, r1⟩ := trodAll_cons r0
  obtain ⟨v2, vs2, d2, ds2, p2, q2, rfl, rfl, rfl, k2, r2⟩ := trodAll_cons r1
  obtain ⟨rfl, rfl, rfl⟩ := trodAll_nil r2
  obtain rfl : args = #[v0, v1, v2] := by cases args; simp_all
  obtain ⟨rfl, rfl⟩ := trodVars_none hV
  obtain ⟨a0, rfl, rfl, rfl, w0⟩ := open_int Try.underlying3 (hval 0 3 v0 rfl rfl) k0
  obtain ⟨a1, rfl, rfl, rfl, w1⟩ := open_int Try.underlying2 (hval 1 2 v1 rfl rfl) k1
  obtain ⟨a2, rfl, rfl, rfl, w2⟩ := open_int Try.underlying2 (hval 2 2 v2 rfl rfl) k2
  obtain ⟨n, h', hr⟩ := callW_run (prefixOrderRun a0 a1 a2)
  refine (calls_true mixed tok fok hr (.cons _ _ _ _ (.int _ _) (.cons _ _ _ _ (.int _ _) (.cons _ _ _ _ (.int _ _) .nil)))).mono ?_
  rintro e W' ⟨rfl, hb⟩
  exact ⟨_, rfl, post_true laidOut (by kernel_rfl) (by kernel_rfl) Try.underlying4 rfl hW' rfl hb⟩
theorem prefixOrder : Rows.PrefixOrderSaid :=
  OpenClaim.holds_of_wide 7 Try.f7 rfl rfl rfl rfl rfl rfl rfl ⟨rfl, rfl, rfl, rfl, rfl⟩ rfl rfl rfl rfl rfl (by kernel_rfl) Try.func7 (by kernel_rfl)
    (of_decide_eq_true (by kernel_rfl)) (by unfold Func.isWrapper; first | (rw [if_pos (by decide +kernel)]; kernel_rfl) | (rw [if_neg (by decide +kernel)]; exact ⟨rfl, rfl⟩))
    (fun os started H enc _ => prefixOrderLifted os started H enc)
#print axioms prefixOrder
end Go.Proofs.Ytbmfigafbilbmaa
