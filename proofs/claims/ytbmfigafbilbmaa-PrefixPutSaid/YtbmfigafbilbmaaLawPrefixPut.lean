/- 'PrefixPut' is true for every bits, first byte and number: no conditions. Both Puts are shown to give the same list of bytes. -/
import Derived.Test.YtbmfigafbilbmaaAbsPfxb
import Derived.Test.YtbmfigafbilbmaaAbsPrefixSeat
import Derived.OpenShut
set_option linter.unusedSimpArgs false
set_option linter.unusedVariables false
namespace Go.Proofs.Ytbmfigafbilbmaa
open Go.Abs Go.RowKit Go.ChangeShapes
set_option maxRecDepth 100000

set_option maxHeartbeats 4000000 in
theorem prefixPutRun (b f n : Int) : callW Try.prog Try.T 3 [.int .i64 b, .int .i64 f, .int .i64 n] AH.empty fun v _ => v = .bool true := by
  refine callW_of (n := 67) (rs := [.tmp 6]) Try.func3 rfl rfl rfl ?_
  have e0 : (Tm.enter [AV.int IntKind.i64 b, AV.int IntKind.i64 f, AV.int IntKind.i64 n] 67).get 0 = .int .i64 b := rfl
  have e1 : (Tm.enter [AV.int IntKind.i64 b, AV.int IntKind.i64 f, AV.int IntKind.i64 n] 67).get 1 = .int .i64 f := rfl
  have e2 : (Tm.enter [AV.int IntKind.i64 b, AV.int IntKind.i64 f, AV.int IntKind.i64 n] 67).get 2 = .int .i64 n := rfl
  have es : (Tm.enter [AV.int IntKind.i64 b, AV.int IntKind.i64 f, AV.int IntKind.i64 n] 67).size = 67 := rfl
  generalize (Tm.enter [AV.int IntKind.i64 b, AV.int IntKind.i64 f, AV.int IntKind.i64 n] 67) = tm at *
  repeat (first
      | refine q_nn ?_
      | refine q_nr ?_
      | refine q_ne ?_
      | refine q_en ?_
      | refine q_er ?_
      | refine q_es ?_
      | refine q_eo rfl ?_
      | refine q_gn ?_
      | refine q_gr ?_
      | refine q_ge ?_
      | refine c_seq ?_
      | refine c_block ?_
      | refine c_scope ?_
      | refine c_skip ?_
      | refine c_label ?_
      | refine c_ret ?_
      | refine c_exit ?_
      | (refine c_reg fun K hK => ?_; simp only [go_sem, Int.reduceEq, Int.reduceLE, Int.reduceLT, Int.reduceNe, Int.reduceNeg, Int.reduceAdd, Int.reduceSub, Int.reduceMul, ne_eq, not_false_eq_true, Nat.reduceLT, Nat.reduceLeDiff, Nat.reduceEqDiff, Nat.reduceAdd, Nat.reduceSub, Nat.reduceMul, if_true, if_false, decide_true, decide_false, reduceCtorEq, List.cons_append, List.nil_append, List.append_nil, Option.bind_some, Option.map_some, Option.some.injEq, BEq.rfl, Bool.false_beq, Bool.true_beq, beq_self_eq_true, Bool.not_false, Bool.not_true, Bool.false_eq_true, List.getElem?_cons_zero, List.getElem?_cons_succ, reduceIte, e0, e1, e2, es, d2, d3, d5]; refine hK _ _ ?_; clear hK K)
      | (refine c_drw (by kernel_rfl) fun K hK => ?_; simp only [go_sem, Int.reduceEq, Int.reduceLE, Int.reduceLT, Int.reduceNe, Int.reduceNeg, Int.reduceAdd, Int.reduceSub, Int.reduceMul, ne_eq, not_false_eq_true, Nat.reduceLT, Nat.reduceLeDiff, Nat.reduceEqDiff, Nat.reduceAdd, Nat.reduceSub, Nat.reduceMul, if_true, if_false, decide_true, decide_false, reduceCtorEq, List.cons_append, List.nil_append, List.append_nil, Option.bind_some, Option.map_some, Option.some.injEq, BEq.rfl, Bool.false_beq, Bool.true_beq, beq_self_eq_true, Bool.not_false, Bool.not_true, Bool.false_eq_true, List.getElem?_cons_zero, List.getElem?_cons_succ, reduceIte, e0, e1, e2, es, d2, d3, d5]; refine hK _ _ ?_; clear hK K)
      | (refine c_cond ?_; simp only [go_sem, Int.reduceEq, Int.reduceLE, Int.reduceLT, Int.reduceNe, Int.reduceNeg, Int.reduceAdd, Int.reduceSub, Int.reduceMul, ne_eq, not_false_eq_true, Nat.reduceLT, Nat.reduceLeDiff, Nat.reduceEqDiff, Nat.reduceAdd, Nat.reduceSub, Nat.reduceMul, if_true, if_false, decide_true, decide_false, reduceCtorEq, List.cons_append, List.nil_append, List.append_nil, Option.bind_some, Option.map_some, Option.some.injEq, BEq.rfl, Bool.false_beq, Bool.true_beq, beq_self_eq_true, Bool.not_false, Bool.not_true, Bool.false_eq_true, List.getElem?_cons_zero, List.getElem?_cons_succ, reduceIte, e0, e1, e2, es, d2, d3, d5])
      | (show endW _ _ _ _ _; simp only [go_sem, Int.reduceEq, Int.reduceLE, Int.reduceLT, Int.reduceNe, Int.reduceNeg, Int.reduceAdd, Int.reduceSub, Int.reduceMul, ne_eq, not_false_eq_true, Nat.reduceLT, Nat.reduceLeDiff, Nat.reduceEqDiff, Nat.reduceAdd, Nat.reduceSub, Nat.reduceMul, if_true, if_false, decide_true, decide_false, reduceCtorEq, List.cons_append, List.nil_append, List.append_nil, Option.bind_some, Option.map_some, Option.some.injEq, BEq.rfl, Bool.false_beq, Bool.true_beq, beq_self_eq_true, Bool.not_false, Bool.not_true, Bool.false_eq_true, List.getElem?_cons_zero, List.getElem?_cons_succ, reduceIte, e0, e1, e2, es, d2, d3, d5]))
  (refine c_reg fun K hK => ?_; simp only [go_sem, Int.reduceEq, Int.reduceLE, Int.reduceLT, Int.reduceNe, Int.reduceNeg, Int.reduceAdd, Int.reduceSub, Int.reduceMul, ne_eq, not_false_eq_true, Nat.reduceLT, Nat.reduceLeDiff, Nat.reduceEqDiff, Nat.reduceAdd, Nat.reduceSub, Nat.reduceMul, if_true, if_false, decide_true, decide_false, reduceCtorEq, List.cons_append, List.nil_append, List.append_nil, Option.bind_some, Option.map_some, Option.some.injEq, BEq.rfl, Bool.false_beq, Bool.true_beq, beq_self_eq_true, Bool.not_false, Bool.not_true, Bool.false_eq_true, List.getElem?_cons_zero, List.getElem?_cons_succ, reduceIte, e0, e1, e2, es, d2, d3, d5]; refine callM_of (begun (K := fun v _ => v = .bool true) (fun _ => rfl)) ?_; rintro v h0 rfl; simp only [go_sem, Int.reduceEq, Int.reduceLE, Int.reduceLT, Int.reduceNe, Int.reduceNeg, Int.reduceAdd, Int.reduceSub, Int.reduceMul, ne_eq, not_false_eq_true, Nat.reduceLT, Nat.reduceLeDiff, Nat.reduceEqDiff, Nat.reduceAdd, Nat.reduceSub, Nat.reduceMul, if_true, if_false, decide_true, decide_false, reduceCtorEq, List.cons_append, List.nil_append, List.append_nil, Option.bind_some, Option.map_some, Option.some.injEq, BEq.rfl, Bool.false_beq, Bool.true_beq, beq_self_eq_true, Bool.not_false, Bool.not_true, Bool.false_eq_true, List.getElem?_cons_zero, List.getElem?_cons_succ, reduceIte, e0, e1, e2, es, d2, d3, d5]; refine hK _ _ ?_; clear hK K)
  repeat (first
      | refine q_nn ?_
      | refine q_nr ?_
      | refine q_ne ?_
      | refine q_en ?_
      | refine q_er ?_
      | refine q_es ?_
      | refine q_eo rfl ?_
      | refine q_gn ?_
      | refine q_gr ?_
      | refine q_ge ?_
      | refine c_seq ?_
      | refine c_block ?_
      | refine c_scope ?_
      | refine c_skip ?_
      | refine c_label ?_
      | refine c_ret ?_
      | refine c_exit ?_
      | (refine c_reg fun K hK => ?_; simp only [go_sem, Int.reduceEq, Int.reduceLE, Int.reduceLT, Int.reduceNe, Int.reduceNeg, Int.reduceAdd, Int.reduceSub, Int.reduceMul, ne_eq, not_false_eq_true, Nat.reduceLT, Nat.reduceLeDiff, Nat.reduceEqDiff, Nat.reduceAdd, Nat.reduceSub, Nat.reduceMul, if_true, if_false, decide_true, decide_false, reduceCtorEq, List.cons_append, List.nil_append, List.append_nil, Option.bind_some, Option.map_some, Option.some.injEq, BEq.rfl, Bool.false_beq, Bool.true_beq, beq_self_eq_true, Bool.not_false, Bool.not_true, Bool.false_eq_true, List.getElem?_cons_zero, List.getElem?_cons_succ, reduceIte, e0, e1, e2, es, d2, d3, d5]; refine hK _ _ ?_; clear hK K)
      | (refine c_drw (by kernel_rfl) fun K hK => ?_; simp only [go_sem, Int.reduceEq, Int.reduceLE, Int.reduceLT, Int.reduceNe, Int.reduceNeg, Int.reduceAdd, Int.reduceSub, Int.reduceMul, ne_eq, not_false_eq_true, Nat.reduceLT, Nat.reduceLeDiff, Nat.reduceEqDiff, Nat.reduceAdd, Nat.reduceSub, Nat.reduceMul, if_true, if_false, decide_true, decide_false, reduceCtorEq, List.cons_append, List.nil_append, List.append_nil, Option.bind_some, Option.map_some, Option.some.injEq, BEq.rfl, Bool.false_beq, Bool.true_beq, beq_self_eq_true, Bool.not_false, Bool.not_true, Bool.false_eq_true, List.getElem?_cons_zero, List.getElem?_cons_succ, reduceIte, e0, e1, e2, es, d2, d3, d5]; refine hK _ _ ?_; clear hK K)
      | (refine c_cond ?_; simp only [go_sem, Int.reduceEq, Int.reduceLE, Int.reduceLT, Int.reduceNe, Int.reduceNeg, Int.reduceAdd, Int.reduceSub, Int.reduceMul, ne_eq, not_false_eq_true, Nat.reduceLT, Nat.reduceLeDiff, Nat.reduceEqDiff, Nat.reduceAdd, Nat.reduceSub, Nat.reduceMul, if_true, if_false, decide_true, decide_false, reduceCtorEq, List.cons_append, List.nil_append, List.append_nil, Option.bind_some, Option.map_some, Option.some.injEq, BEq.rfl, Bool.false_beq, Bool.true_beq, beq_self_eq_true, Bool.not_false, Bool.not_true, Bool.false_eq_true, List.getElem?_cons_zero, List.getElem?_cons_succ, reduceIte, e0, e1, e2, es, d2, d3, d5])
      | (show endW _ _ _ _ _; simp only [go_sem, Int.reduceEq, Int.reduceLE, Int.reduceLT, Int.reduceNe, Int.reduceNeg, Int.reduceAdd, Int.reduceSub, Int.reduceMul, ne_eq, not_false_eq_true, Nat.reduceLT, Nat.reduceLeDiff, Nat.reduceEqDiff, Nat.reduceAdd, Nat.reduceSub, Nat.reduceMul, if_true, if_false, decide_true, decide_false, reduceCtorEq, List.cons_append, List.nil_append, List.append_nil, Option.bind_some, Option.map_some, Option.some.injEq, BEq.rfl, Bool.false_beq, Bool.true_beq, beq_self_eq_true, Bool.not_false, Bool.not_true, Bool.false_eq_true, List.getElem?_cons_zero, List.getElem?_cons_succ, reduceIte, e0, e1, e2, es, d2, d3, d5]))
  (refine c_reg fun K hK => ?_; simp only [go_sem, Int.reduceEq, Int.reduceLE, Int.reduceLT, Int.reduceNe, Int.reduceNeg, Int.reduceAdd, Int.reduceSub, Int.reduceMul, ne_eq, not_false_eq_true, Nat.reduceLT, Nat.reduceLeDiff, Nat.reduceEqDiff, Nat.reduceAdd, Nat.reduceSub, Nat.reduceMul, if_true, if_false, decide_true, decide_false, reduceCtorEq, List.cons_append, List.nil_append, List.append_nil, Option.bind_some, Option.map_some, Option.some.injEq, BEq.rfl, Bool.false_beq, Bool.true_beq, beq_self_eq_true, Bool.not_false, Bool.not_true, Bool.false_eq_true, List.getElem?_cons_zero, List.getElem?_cons_succ, reduceIte, e0, e1, e2, es, d2, d3, d5]; refine callM_of (put b f n h0) ?_; rintro v h1 ⟨a1, rfl, ha1, hk1⟩; simp only [go_sem, Int.reduceEq, Int.reduceLE, Int.reduceLT, Int.reduceNe, Int.reduceNeg, Int.reduceAdd, Int.reduceSub, Int.reduceMul, ne_eq, not_false_eq_true, Nat.reduceLT, Nat.reduceLeDiff, Nat.reduceEqDiff, Nat.reduceAdd, Nat.reduceSub, Nat.reduceMul, if_true, if_false, decide_true, decide_false, reduceCtorEq, List.cons_append, List.nil_append, List.append_nil, Option.bind_some, Option.map_some, Option.some.injEq, BEq.rfl, Bool.false_beq, Bool.true_beq, beq_self_eq_true, Bool.not_false, Bool.not_true, Bool.false_eq_true, List.getElem?_cons_zero, List.getElem?_cons_succ, reduceIte, e0, e1, e2, es, d2, d3, d5]; refine hK _ _ ?_; clear hK K)
  repeat (first
      | refine q_nn ?_
      | refine q_nr ?_
      | refine q_ne ?_
      | refine q_en ?_
      | refine q_er ?_
      | refine q_es ?_
      | refine q_eo rfl ?_
      | refine q_gn ?_
      | refine q_gr ?_
      | refine q_ge ?_
      | refine c_seq ?_
      | refine c_block ?_
      | refine c_scope ?_
      | refine c_skip ?_
      | refine c_label ?_
      | refine c_ret ?_
      | refine c_exit ?_
      | (refine c_reg fun K hK => ?_; simp only [go_sem, Int.reduceEq, Int.reduceLE, Int.reduceLT, Int.reduceNe, Int.reduceNeg, Int.reduceAdd, Int.reduceSub, Int.reduceMul, ne_eq, not_false_eq_true, Nat.reduceLT, Nat.reduceLeDiff, Nat.reduceEqDiff, Nat.reduceAdd, Nat.reduceSub, Nat.reduceMul, if_true, if_false, decide_true, decide_false, reduceCtorEq, List.cons_append, List.nil_append, List.append_nil, Option.bind_some, Option.map_some, Option.some.injEq, BEq.rfl, Bool.false_beq, Bool.true_beq, beq_self_eq_true, Bool.not_false, Bool.not_true, Bool.false_eq_true, List.getElem?_cons_zero, List.getElem?_cons_succ, reduceIte, e0, e1, e2, es, d2, d3, d5]; refine hK _ _ ?_; clear hK K)
      | (refine c_drw (by kernel_rfl) fun K hK => ?_; simp only [go_sem, Int.reduceEq, Int.reduceLE, Int.reduceLT, Int.reduceNe, Int.reduceNeg, Int.reduceAdd, Int.reduceSub, Int.reduceMul, ne_eq, not_false_eq_true, Nat.reduceLT, Nat.reduceLeDiff, Nat.reduceEqDiff, Nat.reduceAdd, Nat.reduceSub, Nat.reduceMul, if_true, if_false, decide_true, decide_false, reduceCtorEq, List.cons_append, List.nil_append, List.append_nil, Option.bind_some, Option.map_some, Option.some.injEq, BEq.rfl, Bool.false_beq, Bool.true_beq, beq_self_eq_true, Bool.not_false, Bool.not_true, Bool.false_eq_true, List.getElem?_cons_zero, List.getElem?_cons_succ, reduceIte, e0, e1, e2, es, d2, d3, d5]; refine hK _ _ ?_; clear hK K)
      | (refine c_cond ?_; simp only [go_sem, Int.reduceEq, Int.reduceLE, Int.reduceLT, Int.reduceNe, Int.reduceNeg, Int.reduceAdd, Int.reduceSub, Int.reduceMul, ne_eq, not_false_eq_true, Nat.reduceLT, Nat.reduceLeDiff, Nat.reduceEqDiff, Nat.reduceAdd, Nat.reduceSub, Nat.reduceMul, if_true, if_false, decide_true, decide_false, reduceCtorEq, List.cons_append, List.nil_append, List.append_nil, Option.bind_some, Option.map_some, Option.some.injEq, BEq.rfl, Bool.false_beq, Bool.true_beq, beq_self_eq_true, Bool.not_false, Bool.not_true, Bool.false_eq_true, List.getElem?_cons_zero, List.getElem?_cons_succ, reduceIte, e0, e1, e2, es, d2, d3, d5])
      | (show endW _ _ _ _ _; simp only [go_sem, Int.reduceEq, Int.reduceLE, Int.reduceLT, Int.reduceNe, Int.reduceNeg, Int.reduceAdd, Int.reduceSub, Int.reduceMul, ne_eq, not_false_eq_true, Nat.reduceLT, Nat.reduceLeDiff, Nat.reduceEqDiff, Nat.reduceAdd, Nat.reduceSub, Nat.reduceMul, if_true, if_false, decide_true, decide_false, reduceCtorEq, List.cons_append, List.nil_append, List.append_nil, Option.bind_some, Option.map_some, Option.some.injEq, BEq.rfl, Bool.false_beq, Bool.true_beq, beq_self_eq_true, Bool.not_false, Bool.not_true, Bool.false_eq_true, List.getElem?_cons_zero, List.getElem?_cons_succ, reduceIte, e0, e1, e2, es, d2, d3, d5]))
  (refine c_reg fun K hK => ?_; simp only [go_sem, Int.reduceEq, Int.reduceLE, Int.reduceLT, Int.reduceNe, Int.reduceNeg, Int.reduceAdd, Int.reduceSub, Int.reduceMul, ne_eq, not_false_eq_true, Nat.reduceLT, Nat.reduceLeDiff, Nat.reduceEqDiff, Nat.reduceAdd, Nat.reduceSub, Nat.reduceMul, if_true, if_false, decide_true, decide_false, reduceCtorEq, List.cons_append, List.nil_append, List.append_nil, Option.bind_some, Option.map_some, Option.some.injEq, BEq.rfl, Bool.false_beq, Bool.true_beq, beq_self_eq_true, Bool.not_false, Bool.not_true, Bool.false_eq_true, List.getElem?_cons_zero, List.getElem?_cons_succ, reduceIte, e0, e1, e2, es, d2, d3, d5]; refine callM_of (refPut b f n h1) ?_; rintro v h2 ⟨a2, rfl, ha2, hk2⟩; simp only [go_sem, Int.reduceEq, Int.reduceLE, Int.reduceLT, Int.reduceNe, Int.reduceNeg, Int.reduceAdd, Int.reduceSub, Int.reduceMul, ne_eq, not_false_eq_true, Nat.reduceLT, Nat.reduceLeDiff, Nat.reduceEqDiff, Nat.reduceAdd, Nat.reduceSub, Nat.reduceMul, if_true, if_false, decide_true, decide_false, reduceCtorEq, List.cons_append, List.nil_append, List.append_nil, Option.bind_some, Option.map_some, Option.some.injEq, BEq.rfl, Bool.false_beq, Bool.true_beq, beq_self_eq_true, Bool.not_false, Bool.not_true, Bool.false_eq_true, List.getElem?_cons_zero, List.getElem?_cons_succ, reduceIte, e0, e1, e2, es, d2, d3, d5]; refine hK _ _ ?_; clear hK K)
  repeat (first
      | refine q_nn ?_
      | refine q_nr ?_
      | refine q_ne ?_
      | refine q_en ?_
      | refine q_er ?_
      | refine q_es ?_
      | refine q_eo rfl ?_
      | refine q_gn ?_
      | refine q_gr ?_
      | refine q_ge ?_
      | refine c_seq ?_
      | refine c_block ?_
      | refine c_scope ?_
      | refine c_skip ?_
      | refine c_label ?_
      | refine c_ret ?_
      | refine c_exit ?_
      | (refine c_reg fun K hK => ?_; simp only [go_sem, Int.reduceEq, Int.reduceLE, Int.reduceLT, Int.reduceNe, Int.reduceNeg, Int.reduceAdd, Int.reduceSub, Int.reduceMul, ne_eq, not_false_eq_true, Nat.reduceLT, Nat.reduceLeDiff, Nat.reduceEqDiff, Nat.reduceAdd, Nat.reduceSub, Nat.reduceMul, if_true, if_false, decide_true, decide_false, reduceCtorEq, List.cons_append, List.nil_append, List.append_nil, Option.bind_some, Option.map_some, Option.some.injEq, BEq.rfl, Bool.false_beq, Bool.true_beq, beq_self_eq_true, Bool.not_false, Bool.not_true, Bool.false_eq_true, List.getElem?_cons_zero, List.getElem?_cons_succ, reduceIte, e0, e1, e2, es, d2, d3, d5]; refine hK _ _ ?_; clear hK K)
      | (refine c_drw (by kernel_rfl) fun K hK => ?_; simp only [go_sem, Int.reduceEq, Int.reduceLE, Int.reduceLT, Int.reduceNe, Int.reduceNeg, Int.reduceAdd, Int.reduceSub, Int.reduceMul, ne_eq, not_false_eq_true, Nat.reduceLT, Nat.reduceLeDiff, Nat.reduceEqDiff, Nat.reduceAdd, Nat.reduceSub, Nat.reduceMul, if_true, if_false, decide_true, decide_false, reduceCtorEq, List.cons_append, List.nil_append, List.append_nil, Option.bind_some, Option.map_some, Option.some.injEq, BEq.rfl, Bool.false_beq, Bool.true_beq, beq_self_eq_true, Bool.not_false, Bool.not_true, Bool.false_eq_true, List.getElem?_cons_zero, List.getElem?_cons_succ, reduceIte, e0, e1, e2, es, d2, d3, d5]; refine hK _ _ ?_; clear hK K)
      | (refine c_cond ?_; simp only [go_sem, Int.reduceEq, Int.reduceLE, Int.reduceLT, Int.reduceNe, Int.reduceNeg, Int.reduceAdd, Int.reduceSub, Int.reduceMul, ne_eq, not_false_eq_true, Nat.reduceLT, Nat.reduceLeDiff, Nat.reduceEqDiff, Nat.reduceAdd, Nat.reduceSub, Nat.reduceMul, if_true, if_false, decide_true, decide_false, reduceCtorEq, List.cons_append, List.nil_append, List.append_nil, Option.bind_some, Option.map_some, Option.some.injEq, BEq.rfl, Bool.false_beq, Bool.true_beq, beq_self_eq_true, Bool.not_false, Bool.not_true, Bool.false_eq_true, List.getElem?_cons_zero, List.getElem?_cons_succ, reduceIte, e0, e1, e2, es, d2, d3, d5])
      | (show endW _ _ _ _ _; simp only [go_sem, Int.reduceEq, Int.reduceLE, Int.reduceLT, Int.reduceNe, Int.reduceNeg, Int.reduceAdd, Int.reduceSub, Int.reduceMul, ne_eq, not_false_eq_true, Nat.reduceLT, Nat.reduceLeDiff, Nat.reduceEqDiff, Nat.reduceAdd, Nat.reduceSub, Nat.reduceMul, if_true, if_false, decide_true, decide_false, reduceCtorEq, List.cons_append, List.nil_append, List.append_nil, Option.bind_some, Option.map_some, Option.some.injEq, BEq.rfl, Bool.false_beq, Bool.true_beq, beq_self_eq_true, Bool.not_false, Bool.not_true, Bool.false_eq_true, List.getElem?_cons_zero, List.getElem?_cons_succ, reduceIte, e0, e1, e2, es, d2, d3, d5]))
  (refine c_reg fun K hK => ?_; simp only [go_sem, Int.reduceEq, Int.reduceLE, Int.reduceLT, Int.reduceNe, Int.reduceNeg, Int.reduceAdd, Int.reduceSub, Int.reduceMul, ne_eq, not_false_eq_true, Nat.reduceLT, Nat.reduceLeDiff, Nat.reduceEqDiff, Nat.reduceAdd, Nat.reduceSub, Nat.reduceMul, if_true, if_false, decide_true, decide_false, reduceCtorEq, List.cons_append, List.nil_append, List.append_nil, Option.bind_some, Option.map_some, Option.some.injEq, BEq.rfl, Bool.false_beq, Bool.true_beq, beq_self_eq_true, Bool.not_false, Bool.not_true, Bool.false_eq_true, List.getElem?_cons_zero, List.getElem?_cons_succ, reduceIte, e0, e1, e2, es, d2, d3, d5]; refine callM_of (len b n h2) ?_; rintro v h3 ⟨rfl, hk3⟩; simp only [go_sem, Int.reduceEq, Int.reduceLE, Int.reduceLT, Int.reduceNe, Int.reduceNeg, Int.reduceAdd, Int.reduceSub, Int.reduceMul, ne_eq, not_false_eq_true, Nat.reduceLT, Nat.reduceLeDiff, Nat.reduceEqDiff, Nat.reduceAdd, Nat.reduceSub, Nat.reduceMul, if_true, if_false, decide_true, decide_false, reduceCtorEq, List.cons_append, List.nil_append, List.append_nil, Option.bind_some, Option.map_some, Option.some.injEq, BEq.rfl, Bool.false_beq, Bool.true_beq, beq_self_eq_true, Bool.not_false, Bool.not_true, Bool.false_eq_true, List.getElem?_cons_zero, List.getElem?_cons_succ, reduceIte, e0, e1, e2, es, d2, d3, d5]; refine hK _ _ ?_; clear hK K)
  repeat (first
      | refine q_nn ?_
      | refine q_nr ?_
      | refine q_ne ?_
      | refine q_en ?_
      | refine q_er ?_
      | refine q_es ?_
      | refine q_eo rfl ?_
      | refine q_gn ?_
      | refine q_gr ?_
      | refine q_ge ?_
      | refine c_seq ?_
      | refine c_block ?_
      | refine c_scope ?_
      | refine c_skip ?_
      | refine c_label ?_
      | refine c_ret ?_
      | refine c_exit ?_
      | (refine c_reg fun K hK => ?_; simp only [go_sem, Int.reduceEq, Int.reduceLE, Int.reduceLT, Int.reduceNe, Int.reduceNeg, Int.reduceAdd, Int.reduceSub, Int.reduceMul, ne_eq, not_false_eq_true, Nat.reduceLT, Nat.reduceLeDiff, Nat.reduceEqDiff, Nat.reduceAdd, Nat.reduceSub, Nat.reduceMul, if_true, if_false, decide_true, decide_false, reduceCtorEq, List.cons_append, List.nil_append, List.append_nil, Option.bind_some, Option.map_some, Option.some.injEq, BEq.rfl, Bool.false_beq, Bool.true_beq, beq_self_eq_true, Bool.not_false, Bool.not_true, Bool.false_eq_true, List.getElem?_cons_zero, List.getElem?_cons_succ, reduceIte, e0, e1, e2, es, d2, d3, d5]; refine hK _ _ ?_; clear hK K)
      | (refine c_drw (by kernel_rfl) fun K hK => ?_; simp only [go_sem, Int.reduceEq, Int.reduceLE, Int.reduceLT, Int.reduceNe, Int.reduceNeg, Int.reduceAdd, Int.reduceSub, Int.reduceMul, ne_eq, not_false_eq_true, Nat.reduceLT, Nat.reduceLeDiff, Nat.reduceEqDiff, Nat.reduceAdd, Nat.reduceSub, Nat.reduceMul, if_true, if_false, decide_true, decide_false, reduceCtorEq, List.cons_append, List.nil_append, List.append_nil, Option.bind_some, Option.map_some, Option.some.injEq, BEq.rfl, Bool.false_beq, Bool.true_beq, beq_self_eq_true, Bool.not_false, Bool.not_true, Bool.false_eq_true, List.getElem?_cons_zero, List.getElem?_cons_succ, reduceIte, e0, e1, e2, es, d2, d3, d5]; refine hK _ _ ?_; clear hK K)
      | (refine c_cond ?_; simp only [go_sem, Int.reduceEq, Int.reduceLE, Int.reduceLT, Int.reduceNe, Int.reduceNeg, Int.reduceAdd, Int.reduceSub, Int.reduceMul, ne_eq, not_false_eq_true, Nat.reduceLT, Nat.reduceLeDiff, Nat.reduceEqDiff, Nat.reduceAdd, Nat.reduceSub, Nat.reduceMul, if_true, if_false, decide_true, decide_false, reduceCtorEq, List.cons_append, List.nil_append, List.append_nil, Option.bind_some, Option.map_some, Option.some.injEq, BEq.rfl, Bool.false_beq, Bool.true_beq, beq_self_eq_true, Bool.not_false, Bool.not_true, Bool.false_eq_true, List.getElem?_cons_zero, List.getElem?_cons_succ, reduceIte, e0, e1, e2, es, d2, d3, d5])
      | (show endW _ _ _ _ _; simp only [go_sem, Int.reduceEq, Int.reduceLE, Int.reduceLT, Int.reduceNe, Int.reduceNeg, Int.reduceAdd, Int.reduceSub, Int.reduceMul, ne_eq, not_false_eq_true, Nat.reduceLT, Nat.reduceLeDiff, Nat.reduceEqDiff, Nat.reduceAdd, Nat.reduceSub, Nat.reduceMul, if_true, if_false, decide_true, decide_false, reduceCtorEq, List.cons_append, List.nil_append, List.append_nil, Option.bind_some, Option.map_some, Option.some.injEq, BEq.rfl, Bool.false_beq, Bool.true_beq, beq_self_eq_true, Bool.not_false, Bool.not_true, Bool.false_eq_true, List.getElem?_cons_zero, List.getElem?_cons_succ, reduceIte, e0, e1, e2, es, d2, d3, d5]))
  (refine c_reg fun K hK => ?_; simp only [go_sem, Int.reduceEq, Int.reduceLE, Int.reduceLT, Int.reduceNe, Int.reduceNeg, Int.reduceAdd, Int.reduceSub, Int.reduceMul, ne_eq, not_false_eq_true, Nat.reduceLT, Nat.reduceLeDiff, Nat.reduceEqDiff, Nat.reduceAdd, Nat.reduceSub, Nat.reduceMul, if_true, if_false, decide_true, decide_false, reduceCtorEq, List.cons_append, List.nil_append, List.append_nil, Option.bind_some, Option.map_some, Option.some.injEq, BEq.rfl, Bool.false_beq, Bool.true_beq, beq_self_eq_true, Bool.not_false, Bool.not_true, Bool.false_eq_true, List.getElem?_cons_zero, List.getElem?_cons_succ, reduceIte, e0, e1, e2, es, d2, d3, d5]; refine callM_of (refPut b 0 n h3) ?_; rintro v h4 ⟨a4, rfl, ha4, hk4⟩; simp only [go_sem, Int.reduceEq, Int.reduceLE, Int.reduceLT, Int.reduceNe, Int.reduceNeg, Int.reduceAdd, Int.reduceSub, Int.reduceMul, ne_eq, not_false_eq_true, Nat.reduceLT, Nat.reduceLeDiff, Nat.reduceEqDiff, Nat.reduceAdd, Nat.reduceSub, Nat.reduceMul, if_true, if_false, decide_true, decide_false, reduceCtorEq, List.cons_append, List.nil_append, List.append_nil, Option.bind_some, Option.map_some, Option.some.injEq, BEq.rfl, Bool.false_beq, Bool.true_beq, beq_self_eq_true, Bool.not_false, Bool.not_true, Bool.false_eq_true, List.getElem?_cons_zero, List.getElem?_cons_succ, reduceIte, e0, e1, e2, es, d2, d3, d5]; refine hK _ _ ?_; clear hK K)
  have c1 := (((ha1.keep hk2 (Nat.le_refl _)).keep hk3 (Nat.le_refl _)).keep hk4 (Nat.le_refl _)).convS (T := Try.T) (t := 23) (u := 9) (e := 5) rfl rfl rfl
  have c2 := ((ha2.keep hk3 (Nat.le_refl _)).keep hk4 (Nat.le_refl _)).convS (T := Try.T) (t := 23) (u := 9) (e := 5) rfl rfl rfl
  have hl := ha4.lenB (T := Try.T) (t := 23) (e := 5) (n := (putS b 0 n).2.length) rfl (by rw [cellsB_length]; omega) (by omega)
  repeat (first
      | refine q_nn ?_
      | refine q_nr ?_
      | refine q_ne ?_
      | refine q_en ?_
      | refine q_er ?_
      | refine q_es ?_
      | refine q_eo rfl ?_
      | refine q_gn ?_
      | refine q_gr ?_
      | refine q_ge ?_
      | refine c_seq ?_
      | refine c_block ?_
      | refine c_scope ?_
      | refine c_skip ?_
      | refine c_label ?_
      | refine c_ret ?_
      | refine c_exit ?_
      | (refine c_reg fun K hK => ?_; simp only [go_sem, Int.reduceEq, Int.reduceLE, Int.reduceLT, Int.reduceNe, Int.reduceNeg, Int.reduceAdd, Int.reduceSub, Int.reduceMul, ne_eq, not_false_eq_true, Nat.reduceLT, Nat.reduceLeDiff, Nat.reduceEqDiff, Nat.reduceAdd, Nat.reduceSub, Nat.reduceMul, if_true, if_false, decide_true, decide_false, reduceCtorEq, List.cons_append, List.nil_append, List.append_nil, Option.bind_some, Option.map_some, Option.some.injEq, BEq.rfl, Bool.false_beq, Bool.true_beq, beq_self_eq_true, Bool.not_false, Bool.not_true, Bool.false_eq_true, List.getElem?_cons_zero, List.getElem?_cons_succ, reduceIte, e0, e1, e2, es, d2, d3, d5, c1, c2, hl]; refine hK _ _ ?_; clear hK K)
      | (refine c_drw (by kernel_rfl) fun K hK => ?_; simp only [go_sem, Int.reduceEq, Int.reduceLE, Int.reduceLT, Int.reduceNe, Int.reduceNeg, Int.reduceAdd, Int.reduceSub, Int.reduceMul, ne_eq, not_false_eq_true, Nat.reduceLT, Nat.reduceLeDiff, Nat.reduceEqDiff, Nat.reduceAdd, Nat.reduceSub, Nat.reduceMul, if_true, if_false, decide_true, decide_false, reduceCtorEq, List.cons_append, List.nil_append, List.append_nil, Option.bind_some, Option.map_some, Option.some.injEq, BEq.rfl, Bool.false_beq, Bool.true_beq, beq_self_eq_true, Bool.not_false, Bool.not_true, Bool.false_eq_true, List.getElem?_cons_zero, List.getElem?_cons_succ, reduceIte, e0, e1, e2, es, d2, d3, d5, c1, c2, hl]; refine hK _ _ ?_; clear hK K)
      | (refine c_cond ?_; simp only [go_sem, Int.reduceEq, Int.reduceLE, Int.reduceLT, Int.reduceNe, Int.reduceNeg, Int.reduceAdd, Int.reduceSub, Int.reduceMul, ne_eq, not_false_eq_true, Nat.reduceLT, Nat.reduceLeDiff, Nat.reduceEqDiff, Nat.reduceAdd, Nat.reduceSub, Nat.reduceMul, if_true, if_false, decide_true, decide_false, reduceCtorEq, List.cons_append, List.nil_append, List.append_nil, Option.bind_some, Option.map_some, Option.some.injEq, BEq.rfl, Bool.false_beq, Bool.true_beq, beq_self_eq_true, Bool.not_false, Bool.not_true, Bool.false_eq_true, List.getElem?_cons_zero, List.getElem?_cons_succ, reduceIte, e0, e1, e2, es, d2, d3, d5, c1, c2, hl])
      | (show endW _ _ _ _ _; simp only [go_sem, Int.reduceEq, Int.reduceLE, Int.reduceLT, Int.reduceNe, Int.reduceNeg, Int.reduceAdd, Int.reduceSub, Int.reduceMul, ne_eq, not_false_eq_true, Nat.reduceLT, Nat.reduceLeDiff, Nat.reduceEqDiff, Nat.reduceAdd, Nat.reduceSub, Nat.reduceMul, if_true, if_false, decide_true, decide_false, reduceCtorEq, List.cons_append, List.nil_append, List.append_nil, Option.bind_some, Option.map_some, Option.some.injEq, BEq.rfl, Bool.false_beq, Bool.true_beq, beq_self_eq_true, Bool.not_false, Bool.not_true, Bool.false_eq_true, List.getElem?_cons_zero, List.getElem?_cons_succ, reduceIte, e0, e1, e2, es, d2, d3, d5, c1, c2, hl]))
theorem prefixPutLifted (os : Os) (started : os.Started) (H : Type) (enc : TypeId × Value → H) :
    ReturnsInHanded {} Try.checked os 3 .any (Rows.prefixPutSpec.pre6 enc Try.prog Try.f3 Rows.prefixPutRow.domain false) (Rows.prefixPutSpec.post enc Try.prog Try.f3 false true false false) := by
  refine returnsInHanded_of_change (C := Try.checked) own started (by kernel_rfl) Try.func3
    (ChangeSpec.witness6 (enc := enc) (C := Try.checked) false ⟨#[], #[.int .i64 0, .int .i64 0, .int .i64 0], []⟩ 8 (by kernel_rfl) (by kernel_rfl) (by kernel_rfl) (by kernel_rfl)) ?_
  intro W base args ds gs before hval hW _ _
  have hW' := hW
  obtain ⟨p, q, hA0, hV, rfl, _, _⟩ := hW
  have hA : DataW.TrodAll enc Try.prog W 0 (fun _ => true) true Try.f3.params.toList args.toList ds p := hA0
  rw [Try.params3] at hA hval
  obtain ⟨v0, vs0, d0, ds0, p0, q0, hargs, rfl, rfl, k0, r0⟩ := trodAll_cons hA
  obtain ⟨v1, vs1, d1, ds1, p1, q1, rfl, rfl, rfl, k1, r1⟩ := trodAll_cons r0
  obtain ⟨v2, vs2, d2, ds2, p2, q2, rfl, rfl, rfl, k2, r2⟩ := trodAll_cons r1
  obtain ⟨rfl, rfl, rfl⟩ := trodAll_nil r2
  obtain rfl : args = #[v0, v1, v2] := by cases args; simp_all
  obtain ⟨rfl, rfl⟩ := trodVars_none hV
  obtain ⟨a0, rfl, rfl, rfl, w0⟩ := open_int Try.underlying3 (hval 0 3 v0 rfl rfl) k0
  obtain ⟨a1, rfl, rfl, rfl, w1⟩ := open_int Try.underlying3 (hval 1 3 v1 rfl rfl) k1
  obtain ⟨a2, rfl, rfl, rfl, w2⟩ := open_int Try.underlying2 (hval 2 2 v2 rfl rfl) k2
  obtain ⟨n, h', hr⟩ := callW_run (prefixPutRun a0 a1 a2)
  refine (calls_true mixed tok fok hr (.cons _ _ _ _ (.int _ _) (.cons _ _ _ _ (.int _ _) (.cons _ _ _ _ (.int _ _) .nil)))).mono ?_
  rintro e W' ⟨rfl, hb⟩
  exact ⟨_, rfl, post_true laidOut (by kernel_rfl) (by kernel_rfl) Try.underlying4 rfl hW' rfl hb⟩
theorem prefixPut : Rows.PrefixPutSaid :=
  OpenClaim.holds_of_wide 3 Try.f3 rfl rfl rfl rfl rfl rfl rfl ⟨rfl, rfl, rfl, rfl, rfl⟩ rfl rfl rfl rfl rfl (by kernel_rfl) Try.func3 (by kernel_rfl)
    (of_decide_eq_true (by kernel_rfl)) (by unfold Func.isWrapper; first | (rw [if_pos (by decide +kernel)]; kernel_rfl) | (rw [if_neg (by decide +kernel)]; exact ⟨rfl, rfl⟩))
    (fun os started H enc _ => prefixPutLifted os started H enc)
#print axioms prefixPut
end Go.Proofs.Ytbmfigafbilbmaa
