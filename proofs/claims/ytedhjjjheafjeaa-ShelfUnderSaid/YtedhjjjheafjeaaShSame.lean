/- shelf: same: all that is told, of code and reference. -/
import Derived.Test.YtedhjjjheafjeaaShIter
set_option linter.unusedSimpArgs false
set_option linter.unusedVariables false
namespace Go.Proofs.Ytedhjjjheafjeaa
open Go.Abs
set_option maxRecDepth 100000
theorem bang_map {α : Type} [Inhabited α] {l : List (Int × α)} {k : Nat} (h : k < l.length) (f : Int × α → Int) : (l.map f)[k]! = f (l[k]!) := by
  rw [getElem!_pos _ k (by rw [List.length_map]; exact h), getElem!_pos l k h, List.getElem_map]
def getV (s : Sh Int) (id : Int) : Int × Bool := match fpos s.l id with | some k => ((s.l[k]!).2, true) | none => (0, false)
theorem getI_eq (s : Sh Int) (id : Int) : (match fpos s.l id with | some k => AV.tuple [.int .i64 (s.l[k]!).2, .bool true] | none => .tuple [.int .i64 0, .bool false]) = .tuple [.int .i64 (getV s id).1, .bool (getV s id).2] := by
  unfold getV
  cases fpos s.l id <;> rfl
theorem getR_eq (s : Sh Int) (id : Int) : (match idx (rOf s).a id with | some k => AV.tuple [.int .i64 ((rOf s).b[k]!), .bool true] | none => .tuple [.int .i64 0, .bool false]) = .tuple [.int .i64 (getV s id).1, .bool (getV s id).2] := by
  have e : idx (rOf s).a id = fpos s.l id := idx_map
  rw [e]
  unfold getV
  cases hf : fpos s.l id with
  | none => rfl
  | some k =>
    obtain ⟨_, _, _, hk⟩ := fpos_get hf
    have : (rOf s).b[k]! = (s.l[k]!).2 := bang_map hk _
    simp only [this]
theorem whereR_eq {s : Sh Int} {n : Nat} (ok : ShOk s n) (id : Int) : (match idx (rOf s).a id with | some _ => AV.tuple [.int .i64 1, .int .i64 0] | none => match idx (rOf s).c id with | some k => .tuple [.int .i64 2, .int .i64 ((rOf s).d[k]!)] | none => if 1 ≤ id ∧ id ≤ (rOf s).top then .tuple [.int .i64 3, .int .i64 0] else .tuple [.int .i64 0, .int .i64 0]) = .tuple [.int .i64 (whereS s id).1, .int .i64 (whereS s id).2] := by
  have e : idx (rOf s).a id = fpos s.l id := idx_map
  have e2 : idx (rOf s).c id = fpos s.t id := idx_map
  have e3 : (rOf s).top = s.top := rfl
  rw [e, e2, e3]
  unfold whereS
  cases hf : fpos s.l id with
  | some k =>
    obtain ⟨x, hx, he, _⟩ := fpos_get hf
    have := ok.lo x (List.mem_of_getElem? hx)
    have hni : ¬ (id < 1 ∨ id > s.top) := by omega
    rw [if_neg hni]
  | none =>
    cases hf2 : fpos s.t id with
    | some k =>
      obtain ⟨x, hx, he, hk⟩ := fpos_get hf2
      have := ok.tb x (List.mem_of_getElem? hx)
      have hni : ¬ (id < 1 ∨ id > s.top) := by omega
      rw [if_neg hni]
      have : (rOf s).d[k]! = (s.t[k]!).2 := bang_map hk _
      simp only [this]
    | none =>
      by_cases c : 1 ≤ id ∧ id ≤ s.top
      · simp only [c, and_self, if_true]
        rw [if_neg (by omega)]
      · simp only [c, if_false]
        rw [if_pos (by omega)]
set_option maxHeartbeats 8000000 in
theorem sameOk (p q : Nat) (s : Sh Int) (id : Int) (h0 : AH) (n : Nat) (t : Two (fun _ => False) h0 p q s) (ok : ShOk s n) (hn : n ≤ 900) :
    callW Try.prog Try.T 11 [.ptr (some (p, 0)), .ptr (some (q, 0)), .int .i64 id] h0 fun v h' => v = .bool true ∧ Keeps h0.size h0 h' := by
  refine callW_hide fun KK hKK => ?_
  have hln := ok.ln
  have htl := ok.tl
  have la : (rOf s).a.length ≤ 1000 := by unfold rOf; simp only [List.length_map]; omega
  have lb : (rOf s).b.length = (rOf s).a.length := by unfold rOf; simp only [List.length_map]
  have lc : (rOf s).c.length ≤ 1000 := by unfold rOf; simp only [List.length_map]; omega
  have ld : (rOf s).d.length = (rOf s).c.length := by unfold rOf; simp only [List.length_map]
  refine callW_in (n := 173) (rs := [.cell 6 4]) (m := 173) Try.func11 rfl rfl rfl rfl fun tr ht => ?_; have e0 := ht 0 _ rfl; have e1 := ht 1 _ rfl; have e2 := ht 2 _ rfl; clear ht
  refine c_seq ?_
  refine c_reg fun K hK => ?_
  simp (disch := first | (with_unfolding_all first | exact Lk.mk rfl | exact Seen.of rfl) | assumption | (fail_if_success with_reducible first | refine Seen.of ?_ | apply Sl.frame | apply Ow.frame); omega) only [go_sem, Int.reduceEq, Int.reduceLE, Int.reduceLT, Int.reduceNe, Int.reduceNeg, Int.reduceAdd, Int.reduceSub, Int.reduceMul, Int.reduceToNat, Nat.reduceLT, Nat.reduceLeDiff, Nat.reduceEqDiff, Nat.reduceAdd, Nat.reduceSub, Nat.reduceMul, reduceCtorEq, reduceIte, e0, e1, e2]
  refine hK _ _ ?_
  clear hK K
  refine q_nn ?_
  refine c_hide fun h1 hh1 => ?_
  have k1 : Keeps h0.size h0 h1 := by rw [hh1]; exact ((Keeps.refl _ _).push (Nat.le_refl _) _).push (by simp (disch := first | (with_unfolding_all first | exact Lk.mk rfl | exact Seen.of rfl) | assumption | (fail_if_success with_reducible first | refine Seen.of ?_ | apply Sl.frame | apply Ow.frame); omega) only [go_sem, Int.reduceEq, Int.reduceLE, Int.reduceLT, Int.reduceNe, Int.reduceNeg, Int.reduceAdd, Int.reduceSub, Int.reduceMul, Int.reduceToNat, Nat.reduceLT, Nat.reduceLeDiff, Nat.reduceEqDiff, Nat.reduceAdd, Nat.reduceSub, Nat.reduceMul, reduceCtorEq, reduceIte]; omega) _
  have z1 : h1.size = h0.size + 2 := by rw [hh1]; simp (disch := first | (with_unfolding_all first | exact Lk.mk rfl | exact Seen.of rfl) | assumption | (fail_if_success with_reducible first | refine Seen.of ?_ | apply Sl.frame | apply Ow.frame); omega) only [go_sem, Int.reduceEq, Int.reduceLE, Int.reduceLT, Int.reduceNe, Int.reduceNeg, Int.reduceAdd, Int.reduceSub, Int.reduceMul, Int.reduceToNat, Nat.reduceLT, Nat.reduceLeDiff, Nat.reduceEqDiff, Nat.reduceAdd, Nat.reduceSub, Nat.reduceMul, reduceCtorEq, reduceIte]
  have b4 : h1.get h0.size = some (.cells [.ptr (some (q, 0))]) := by rw [hh1]; simp (disch := first | (with_unfolding_all first | exact Lk.mk rfl | exact Seen.of rfl) | assumption | (fail_if_success with_reducible first | refine Seen.of ?_ | apply Sl.frame | apply Ow.frame); omega) only [go_sem, Int.reduceEq, Int.reduceLE, Int.reduceLT, Int.reduceNe, Int.reduceNeg, Int.reduceAdd, Int.reduceSub, Int.reduceMul, Int.reduceToNat, Nat.reduceLT, Nat.reduceLeDiff, Nat.reduceEqDiff, Nat.reduceAdd, Nat.reduceSub, Nat.reduceMul, reduceCtorEq, reduceIte]
  have b6 : h1.get (h0.size + 1) = some (.cells [.bool false]) := by rw [hh1]; simp (disch := first | (with_unfolding_all first | exact Lk.mk rfl | exact Seen.of rfl) | assumption | (fail_if_success with_reducible first | refine Seen.of ?_ | apply Sl.frame | apply Ow.frame); omega) only [go_sem, Int.reduceEq, Int.reduceLE, Int.reduceLT, Int.reduceNe, Int.reduceNeg, Int.reduceAdd, Int.reduceSub, Int.reduceMul, Int.reduceToNat, Nat.reduceLT, Nat.reduceLeDiff, Nat.reduceEqDiff, Nat.reduceAdd, Nat.reduceSub, Nat.reduceMul, reduceCtorEq, reduceIte]
  clear hh1
  obtain ⟨Oc, Or, hc, hr, hd, hF⟩ := t.keep (F' := fun b => b = h0.size ∨ b = h0.size + 1) k1 (fun b hb => .inr (by omega))
  clear t
  repeat' (first
      | (with_reducible first | refine q_nn ?_ | refine q_nr ?_ | refine q_ne ?_ | refine q_en ?_ | refine q_er ?_ | refine q_es ?_ | refine q_gn ?_ | refine q_gr ?_ | refine q_ge ?_ | refine c_seq ?_ | refine c_block ?_ | refine c_scope ?_ | refine c_skip ?_ | refine c_label ?_ | refine c_ret ?_ | refine c_exit ?_ | (refine hK _ _ ?_; clear hK K) | refine seg_nil ?_) | ((with_reducible refine q_eo ?_ ?_); exact rfl)
      | ((with_reducible first | refine c_reg fun K hK => ?_ | refine c_drw (by decide +kernel) fun K hK => ?_ | refine c_cond ?_ | refine seg_cons fun K hK => ?_ | show endW _ _ _ _ _ | refine ifb_dec (fun _ => ?_) (fun _ => ?_) | refine ifb_ieq (fun _ => ?_) (fun _ => ?_) | refine ifb_seq (fun _ => ?_) (fun _ => ?_)) <;> try simp (disch := first | (with_unfolding_all first | exact Lk.mk rfl | exact Seen.of rfl) | assumption | (fail_if_success with_reducible first | refine Seen.of ?_ | apply Sl.frame | apply Ow.frame); omega) only [go_sem, Int.reduceEq, Int.reduceLE, Int.reduceLT, Int.reduceNe, Int.reduceNeg, Int.reduceAdd, Int.reduceSub, Int.reduceMul, Int.reduceToNat, Nat.reduceLT, Nat.reduceLeDiff, Nat.reduceEqDiff, Nat.reduceAdd, Nat.reduceSub, Nat.reduceMul, reduceCtorEq, reduceIte, e0, e1, e2]))
  refine callM_of (getI Oc p s id h1 n hc ok (by omega)) ?_
  rintro v h2 ⟨hv, k2⟩
  obtain rfl := hv.trans (getI_eq s id)
  clear hv
  have b4 := (k2.2 _ (by omega)).trans b4
  have b6 := (k2.2 _ (by omega)).trans b6
  have hc := hc.after k2
  have hr := hr.after k2
  have z2 := k2.1
  refine vI ?_; repeat' (first
      | (with_reducible first | refine q_nn ?_ | refine q_nr ?_ | refine q_ne ?_ | refine q_en ?_ | refine q_er ?_ | refine q_es ?_ | refine q_gn ?_ | refine q_gr ?_ | refine q_ge ?_ | refine c_seq ?_ | refine c_block ?_ | refine c_scope ?_ | refine c_skip ?_ | refine c_label ?_ | refine c_ret ?_ | refine c_exit ?_ | (refine hK _ _ ?_; clear hK K) | refine seg_nil ?_) | ((with_reducible refine q_eo ?_ ?_); exact rfl)
      | ((with_reducible first | refine vO ?_ | refine c_reg fun K hK => ?_ | refine c_drw (by decide +kernel) fun K hK => ?_ | refine c_cond ?_ | refine seg_cons fun K hK => ?_ | show endW _ _ _ _ _ | refine ifb_dec (fun _ => ?_) (fun _ => ?_) | refine ifb_ieq (fun _ => ?_) (fun _ => ?_) | refine ifb_seq (fun _ => ?_) (fun _ => ?_)) <;> try simp (disch := first | (with_unfolding_all first | exact Lk.mk rfl | exact Seen.of rfl) | assumption | (fail_if_success with_reducible first | refine Seen.of ?_ | apply Sl.frame | apply Ow.frame); omega) only [go_sem, Int.reduceEq, Int.reduceLE, Int.reduceLT, Int.reduceNe, Int.reduceNeg, Int.reduceAdd, Int.reduceSub, Int.reduceMul, Int.reduceToNat, Nat.reduceLT, Nat.reduceLeDiff, Nat.reduceEqDiff, Nat.reduceAdd, Nat.reduceSub, Nat.reduceMul, reduceCtorEq, reduceIte, e0, e1, e2, b4]))
  refine callM_of (rget _ q (rOf s) id h2 hr la lb) ?_
  rintro v h3 ⟨hv, rfl⟩
  obtain rfl := hv.trans (getR_eq s id)
  clear hv
  refine vI ?_; repeat' (first
      | (with_reducible first | refine q_nn ?_ | refine q_nr ?_ | refine q_ne ?_ | refine q_en ?_ | refine q_er ?_ | refine q_es ?_ | refine q_gn ?_ | refine q_gr ?_ | refine q_ge ?_ | refine c_seq ?_ | refine c_block ?_ | refine c_scope ?_ | refine c_skip ?_ | refine c_label ?_ | refine c_ret ?_ | refine c_exit ?_ | (refine hK _ _ ?_; clear hK K) | refine seg_nil ?_) | ((with_reducible refine q_eo ?_ ?_); exact rfl)
      | ((with_reducible first | refine vO ?_ | refine c_reg fun K hK => ?_ | refine c_drw (by decide +kernel) fun K hK => ?_ | refine c_cond ?_ | refine seg_cons fun K hK => ?_ | show endW _ _ _ _ _ | refine ifb_dec (fun _ => ?_) (fun _ => ?_) | refine ifb_ieq (fun _ => ?_) (fun _ => ?_) | refine ifb_seq (fun _ => ?_) (fun _ => ?_)) <;> try simp (disch := first | (with_unfolding_all first | exact Lk.mk rfl | exact Seen.of rfl) | assumption | (fail_if_success with_reducible first | refine Seen.of ?_ | apply Sl.frame | apply Ow.frame); omega) only [go_sem, Int.reduceEq, Int.reduceLE, Int.reduceLT, Int.reduceNe, Int.reduceNeg, Int.reduceAdd, Int.reduceSub, Int.reduceMul, Int.reduceToNat, Nat.reduceLT, Nat.reduceLeDiff, Nat.reduceEqDiff, Nat.reduceAdd, Nat.reduceSub, Nat.reduceMul, reduceCtorEq, reduceIte, e0, e1, e2, b4]))
  refine callM_of (whereI _ p s id h3 n hc ok (by omega)) ?_
  rintro v h4 ⟨rfl, k4⟩
  have b4 := (k4.2 _ (by omega)).trans b4
  have b6 := (k4.2 _ (by omega)).trans b6
  have hc := hc.after k4
  have hr := hr.after k4
  have z4 := k4.1
  refine vI ?_; repeat' (first
      | (with_reducible first | refine q_nn ?_ | refine q_nr ?_ | refine q_ne ?_ | refine q_en ?_ | refine q_er ?_ | refine q_es ?_ | refine q_gn ?_ | refine q_gr ?_ | refine q_ge ?_ | refine c_seq ?_ | refine c_block ?_ | refine c_scope ?_ | refine c_skip ?_ | refine c_label ?_ | refine c_ret ?_ | refine c_exit ?_ | (refine hK _ _ ?_; clear hK K) | refine seg_nil ?_) | ((with_reducible refine q_eo ?_ ?_); exact rfl)
      | ((with_reducible first | refine vO ?_ | refine c_reg fun K hK => ?_ | refine c_drw (by decide +kernel) fun K hK => ?_ | refine c_cond ?_ | refine seg_cons fun K hK => ?_ | show endW _ _ _ _ _ | refine ifb_dec (fun _ => ?_) (fun _ => ?_) | refine ifb_ieq (fun _ => ?_) (fun _ => ?_) | refine ifb_seq (fun _ => ?_) (fun _ => ?_)) <;> try simp (disch := first | (with_unfolding_all first | exact Lk.mk rfl | exact Seen.of rfl) | assumption | (fail_if_success with_reducible first | refine Seen.of ?_ | apply Sl.frame | apply Ow.frame); omega) only [go_sem, Int.reduceEq, Int.reduceLE, Int.reduceLT, Int.reduceNe, Int.reduceNeg, Int.reduceAdd, Int.reduceSub, Int.reduceMul, Int.reduceToNat, Nat.reduceLT, Nat.reduceLeDiff, Nat.reduceEqDiff, Nat.reduceAdd, Nat.reduceSub, Nat.reduceMul, reduceCtorEq, reduceIte, e0, e1, e2, b4]))
  refine callM_of (rwhere _ q (rOf s) id h4 hr la lc ld) ?_
  rintro v h5 ⟨hv, rfl⟩
  obtain rfl := hv.trans (whereR_eq ok id)
  clear hv
  have kA : Keeps h0.size h0 h5 := ⟨by omega, fun b hb => by rw [k4.2 b (by omega), k2.2 b (by omega), k1.2 b hb]⟩
  generalize hOc : O1 (O1 Oc h1) h3 = Pc at *
  generalize hOr : O1 (O1 Or h1) h3 = Pr at *
  clear hOc hOr hF hd k1 k2 k4
  have hr' := hr
  obtain ⟨v1, v2, v3, v4, g1, g2, g3, g4, u⟩ := hr'
  have hcq := u.hc
  have s1 := u.o1.sl
  have hl1 : (rOf s).a.length = s.l.length := by unfold rOf; simp only [List.length_map]
  have htop : (rOf s).top = s.top := rfl
  refine vI ?_; repeat' (first
      | (with_reducible first | refine q_nn ?_ | refine q_nr ?_ | refine q_ne ?_ | refine q_en ?_ | refine q_er ?_ | refine q_es ?_ | refine q_gn ?_ | refine q_gr ?_ | refine q_ge ?_ | refine c_seq ?_ | refine c_block ?_ | refine c_scope ?_ | refine c_skip ?_ | refine c_label ?_ | refine c_ret ?_ | refine c_exit ?_ | (refine hK _ _ ?_; clear hK K) | refine seg_nil ?_) | ((with_reducible refine q_eo ?_ ?_); exact rfl)
      | ((with_reducible first | refine vO ?_ | refine c_reg fun K hK => ?_ | refine c_drw (by decide +kernel) fun K hK => ?_ | refine c_cond ?_ | refine seg_cons fun K hK => ?_ | show endW _ _ _ _ _ | refine ifb_dec (fun _ => ?_) (fun _ => ?_) | refine ifb_ieq (fun _ => ?_) (fun _ => ?_) | refine ifb_seq (fun _ => ?_) (fun _ => ?_)) <;> try simp (disch := first | (with_unfolding_all first | exact Lk.mk rfl | exact Seen.of rfl) | assumption | (fail_if_success with_reducible first | refine Seen.of ?_ | apply Sl.frame | apply Ow.frame); omega) only [go_sem, Int.reduceEq, Int.reduceLE, Int.reduceLT, Int.reduceNe, Int.reduceNeg, Int.reduceAdd, Int.reduceSub, Int.reduceMul, Int.reduceToNat, Nat.reduceLT, Nat.reduceLeDiff, Nat.reduceEqDiff, Nat.reduceAdd, Nat.reduceSub, Nat.reduceMul, reduceCtorEq, reduceIte, e0, e1, e2, b4]))
  refine c_looseW [(21, 0), (24, 0), (30, 21), (33, 21)] (by decide +kernel) ?_; repeat' (first
      | (with_reducible first | refine q_nn ?_ | refine q_nr ?_ | refine q_ne ?_ | refine q_en ?_ | refine q_er ?_ | refine q_es ?_ | refine q_gn ?_ | refine q_gr ?_ | refine q_ge ?_ | refine c_seq ?_ | refine c_block ?_ | refine c_scope ?_ | refine c_skip ?_ | refine c_label ?_ | refine c_ret ?_ | refine c_exit ?_ | (refine hK _ _ ?_; clear hK K) | refine seg_nil ?_) | ((with_reducible refine q_eo ?_ ?_); exact rfl)
      | ((with_reducible first | refine c_reg fun K hK => ?_ | refine c_drw (by decide +kernel) fun K hK => ?_ | refine c_cond ?_ | refine seg_cons fun K hK => ?_ | show endW _ _ _ _ _ | refine ifb_dec (fun _ => ?_) (fun _ => ?_) | refine ifb_ieq (fun _ => ?_) (fun _ => ?_) | refine ifb_seq (fun _ => ?_) (fun _ => ?_)) <;> try simp (disch := first | (with_unfolding_all first | exact Lk.mk rfl | exact Seen.of rfl) | assumption | (fail_if_success with_reducible first | refine Seen.of ?_ | apply Sl.frame | apply Ow.frame); omega) only [go_sem, Int.reduceEq, Int.reduceLE, Int.reduceLT, Int.reduceNe, Int.reduceNeg, Int.reduceAdd, Int.reduceSub, Int.reduceMul, Int.reduceToNat, Nat.reduceLT, Nat.reduceLeDiff, Nat.reduceEqDiff, Nat.reduceAdd, Nat.reduceSub, Nat.reduceMul, reduceCtorEq, reduceIte, e0, e1, e2, b4, hcq, beq_self_eq_true, Bool.not_true])
      | with_reducible refine obl_and (by simp (disch := first | (with_unfolding_all first | exact Lk.mk rfl | exact Seen.of rfl) | assumption | (fail_if_success with_reducible first | refine Seen.of ?_ | apply Sl.frame | apply Ow.frame); omega) only [go_sem, Int.reduceEq, Int.reduceLE, Int.reduceLT, Int.reduceNe, Int.reduceNeg, Int.reduceAdd, Int.reduceSub, Int.reduceMul, Int.reduceToNat, Nat.reduceLT, Nat.reduceLeDiff, Nat.reduceEqDiff, Nat.reduceAdd, Nat.reduceSub, Nat.reduceMul, reduceCtorEq, reduceIte, e0, e1, e2, b4, hcq, beq_self_eq_true, Bool.not_true]) ?_)
  refine callM_of (topI _ p s h5 hc) ?_
  rintro v h6 ⟨rfl, rfl⟩
  rw [← htop]
  refine vI ?_; repeat' (first
      | (with_reducible first | refine q_nn ?_ | refine q_nr ?_ | refine q_ne ?_ | refine q_en ?_ | refine q_er ?_ | refine q_es ?_ | refine q_gn ?_ | refine q_gr ?_ | refine q_ge ?_ | refine c_seq ?_ | refine c_block ?_ | refine c_scope ?_ | refine c_skip ?_ | refine c_label ?_ | refine c_ret ?_ | refine c_exit ?_ | (refine hK _ _ ?_; clear hK K) | refine seg_nil ?_) | ((with_reducible refine q_eo ?_ ?_); exact rfl)
      | ((with_reducible first | refine vO ?_ | refine c_reg fun K hK => ?_ | refine c_drw (by decide +kernel) fun K hK => ?_ | refine c_cond ?_ | refine seg_cons fun K hK => ?_ | show endW _ _ _ _ _ | refine ifb_dec (fun _ => ?_) (fun _ => ?_) | refine ifb_ieq (fun _ => ?_) (fun _ => ?_) | refine ifb_seq (fun _ => ?_) (fun _ => ?_)) <;> try simp (disch := first | (with_unfolding_all first | exact Lk.mk rfl | exact Seen.of rfl) | assumption | (fail_if_success with_reducible first | refine Seen.of ?_ | apply Sl.frame | apply Ow.frame); omega) only [go_sem, Int.reduceEq, Int.reduceLE, Int.reduceLT, Int.reduceNe, Int.reduceNeg, Int.reduceAdd, Int.reduceSub, Int.reduceMul, Int.reduceToNat, Nat.reduceLT, Nat.reduceLeDiff, Nat.reduceEqDiff, Nat.reduceAdd, Nat.reduceSub, Nat.reduceMul, reduceCtorEq, reduceIte, e0, e1, e2, b4, hcq, beq_self_eq_true, Bool.not_true])
      | with_reducible refine obl_and (by simp (disch := first | (with_unfolding_all first | exact Lk.mk rfl | exact Seen.of rfl) | assumption | (fail_if_success with_reducible first | refine Seen.of ?_ | apply Sl.frame | apply Ow.frame); omega) only [go_sem, Int.reduceEq, Int.reduceLE, Int.reduceLT, Int.reduceNe, Int.reduceNeg, Int.reduceAdd, Int.reduceSub, Int.reduceMul, Int.reduceToNat, Nat.reduceLT, Nat.reduceLeDiff, Nat.reduceEqDiff, Nat.reduceAdd, Nat.reduceSub, Nat.reduceMul, reduceCtorEq, reduceIte, e0, e1, e2, b4, hcq, beq_self_eq_true, Bool.not_true]) ?_)
  refine callM_of (lenI _ p s h6 hc) ?_
  rintro v h7 ⟨rfl, rfl⟩
  rw [← hl1]
  refine vI ?_; repeat' (first
      | (with_reducible first | refine q_nn ?_ | refine q_nr ?_ | refine q_ne ?_ | refine q_en ?_ | refine q_er ?_ | refine q_es ?_ | refine q_gn ?_ | refine q_gr ?_ | refine q_ge ?_ | refine c_seq ?_ | refine c_block ?_ | refine c_scope ?_ | refine c_skip ?_ | refine c_label ?_ | refine c_ret ?_ | refine c_exit ?_ | (refine hK _ _ ?_; clear hK K) | refine seg_nil ?_) | ((with_reducible refine q_eo ?_ ?_); exact rfl)
      | ((with_reducible first | refine vO ?_ | refine c_reg fun K hK => ?_ | refine c_drw (by decide +kernel) fun K hK => ?_ | refine c_cond ?_ | refine seg_cons fun K hK => ?_ | show endW _ _ _ _ _ | refine ifb_dec (fun _ => ?_) (fun _ => ?_) | refine ifb_ieq (fun _ => ?_) (fun _ => ?_) | refine ifb_seq (fun _ => ?_) (fun _ => ?_)) <;> try simp (disch := first | (with_unfolding_all first | exact Lk.mk rfl | exact Seen.of rfl) | assumption | (fail_if_success with_reducible first | refine Seen.of ?_ | apply Sl.frame | apply Ow.frame); omega) only [go_sem, Int.reduceEq, Int.reduceLE, Int.reduceLT, Int.reduceNe, Int.reduceNeg, Int.reduceAdd, Int.reduceSub, Int.reduceMul, Int.reduceToNat, Nat.reduceLT, Nat.reduceLeDiff, Nat.reduceEqDiff, Nat.reduceAdd, Nat.reduceSub, Nat.reduceMul, reduceCtorEq, reduceIte, e0, e1, e2, b4, hcq, beq_self_eq_true, Bool.not_true])
      | with_reducible refine obl_and (by simp (disch := first | (with_unfolding_all first | exact Lk.mk rfl | exact Seen.of rfl) | assumption | (fail_if_success with_reducible first | refine Seen.of ?_ | apply Sl.frame | apply Ow.frame); omega) only [go_sem, Int.reduceEq, Int.reduceLE, Int.reduceLT, Int.reduceNe, Int.reduceNeg, Int.reduceAdd, Int.reduceSub, Int.reduceMul, Int.reduceToNat, Nat.reduceLT, Nat.reduceLeDiff, Nat.reduceEqDiff, Nat.reduceAdd, Nat.reduceSub, Nat.reduceMul, reduceCtorEq, reduceIte, e0, e1, e2, b4, hcq, beq_self_eq_true, Bool.not_true]) ?_)
  refine cM_hide fun h8 hh8 => ?_
  have k8 : Keeps h7.size h7 h8 := by rw [hh8]; exact ((Keeps.refl _ _).push (Nat.le_refl _) _).set (Nat.le_refl _) _
  have c8 : h8.get h7.size = some (.cells [.int .i64 0]) := by rw [hh8]; simp (disch := first | (with_unfolding_all first | exact Lk.mk rfl | exact Seen.of rfl) | assumption | (fail_if_success with_reducible first | refine Seen.of ?_ | apply Sl.frame | apply Ow.frame); omega) only [go_sem, Int.reduceEq, Int.reduceLE, Int.reduceLT, Int.reduceNe, Int.reduceNeg, Int.reduceAdd, Int.reduceSub, Int.reduceMul, Int.reduceToNat, Nat.reduceLT, Nat.reduceLeDiff, Nat.reduceEqDiff, Nat.reduceAdd, Nat.reduceSub, Nat.reduceMul, reduceCtorEq, reduceIte]
  have z8 : h8.size = h7.size + 1 := by rw [hh8]; simp (disch := first | (with_unfolding_all first | exact Lk.mk rfl | exact Seen.of rfl) | assumption | (fail_if_success with_reducible first | refine Seen.of ?_ | apply Sl.frame | apply Ow.frame); omega) only [go_sem, Int.reduceEq, Int.reduceLE, Int.reduceLT, Int.reduceNe, Int.reduceNeg, Int.reduceAdd, Int.reduceSub, Int.reduceMul, Int.reduceToNat, Nat.reduceLT, Nat.reduceLeDiff, Nat.reduceEqDiff, Nat.reduceAdd, Nat.reduceSub, Nat.reduceMul, reduceCtorEq, reduceIte]
  clear hh8
  refine callM_of (allI p h8) ?_
  rintro v h9 ⟨rfl, hh9⟩
  have z9 : h9.size = h8.size + 1 := by rw [hh9]; simp (disch := first | (with_unfolding_all first | exact Lk.mk rfl | exact Seen.of rfl) | assumption | (fail_if_success with_reducible first | refine Seen.of ?_ | apply Sl.frame | apply Ow.frame); omega) only [go_sem, Int.reduceEq, Int.reduceLE, Int.reduceLT, Int.reduceNe, Int.reduceNeg, Int.reduceAdd, Int.reduceSub, Int.reduceMul, Int.reduceToNat, Nat.reduceLT, Nat.reduceLeDiff, Nat.reduceEqDiff, Nat.reduceAdd, Nat.reduceSub, Nat.reduceMul, reduceCtorEq, reduceIte]
  have c9 : h9.get h8.size = some (.cells [.ptr (some (p, 0))]) := by rw [hh9]; simp (disch := first | (with_unfolding_all first | exact Lk.mk rfl | exact Seen.of rfl) | assumption | (fail_if_success with_reducible first | refine Seen.of ?_ | apply Sl.frame | apply Ow.frame); omega) only [go_sem, Int.reduceEq, Int.reduceLE, Int.reduceLT, Int.reduceNe, Int.reduceNeg, Int.reduceAdd, Int.reduceSub, Int.reduceMul, Int.reduceToNat, Nat.reduceLT, Nat.reduceLeDiff, Nat.reduceEqDiff, Nat.reduceAdd, Nat.reduceSub, Nat.reduceMul, reduceCtorEq, reduceIte]
  have f9 : ∀ b, b < h8.size → h9.get b = h8.get b := fun b hb => by rw [hh9, AH.get_push, if_neg (by omega)]
  clear hh9
  refine vI ?_; repeat' (first
      | (with_reducible first | refine q_nn ?_ | refine q_nr ?_ | refine q_ne ?_ | refine q_en ?_ | refine q_er ?_ | refine q_es ?_ | refine q_gn ?_ | refine q_gr ?_ | refine q_ge ?_ | refine c_seq ?_ | refine c_block ?_ | refine c_scope ?_ | refine c_skip ?_ | refine c_label ?_ | refine c_ret ?_ | refine c_exit ?_ | (refine hK _ _ ?_; clear hK K) | refine seg_nil ?_) | ((with_reducible refine q_eo ?_ ?_); exact rfl)
      | ((with_reducible first | refine vO ?_ | refine c_reg fun K hK => ?_ | refine c_drw (by decide +kernel) fun K hK => ?_ | refine c_cond ?_ | refine seg_cons fun K hK => ?_ | show endW _ _ _ _ _ | refine ifb_dec (fun _ => ?_) (fun _ => ?_) | refine ifb_ieq (fun _ => ?_) (fun _ => ?_) | refine ifb_seq (fun _ => ?_) (fun _ => ?_)) <;> try simp (disch := first | (with_unfolding_all first | exact Lk.mk rfl | exact Seen.of rfl) | assumption | (fail_if_success with_reducible first | refine Seen.of ?_ | apply Sl.frame | apply Ow.frame); omega) only [go_sem, Int.reduceEq, Int.reduceLE, Int.reduceLT, Int.reduceNe, Int.reduceNeg, Int.reduceAdd, Int.reduceSub, Int.reduceMul, Int.reduceToNat, Nat.reduceLT, Nat.reduceLeDiff, Nat.reduceEqDiff, Nat.reduceAdd, Nat.reduceSub, Nat.reduceMul, reduceCtorEq, reduceIte, e0, e1, e2])
      | with_reducible refine obl_and (by simp (disch := first | (with_unfolding_all first | exact Lk.mk rfl | exact Seen.of rfl) | assumption | (fail_if_success with_reducible first | refine Seen.of ?_ | apply Sl.frame | apply Ow.frame); omega) only [go_sem, Int.reduceEq, Int.reduceLE, Int.reduceLT, Int.reduceNe, Int.reduceNeg, Int.reduceAdd, Int.reduceSub, Int.reduceMul, Int.reduceToNat, Nat.reduceLT, Nat.reduceLeDiff, Nat.reduceEqDiff, Nat.reduceAdd, Nat.reduceSub, Nat.reduceMul, reduceCtorEq, reduceIte, e0, e1, e2]) ?_)
  refine codeW_base fun tr3 ho3 => ?_
  have q0 := ho3 0 (Seen.of rfl); simp (disch := first | (with_unfolding_all first | exact Lk.mk rfl | exact Seen.of rfl) | assumption | (fail_if_success with_reducible first | refine Seen.of ?_ | apply Sl.frame | apply Ow.frame); omega) only [go_sem, Int.reduceEq, Int.reduceLE, Int.reduceLT, Int.reduceNe, Int.reduceNeg, Int.reduceAdd, Int.reduceSub, Int.reduceMul, Int.reduceToNat, Nat.reduceLT, Nat.reduceLeDiff, Nat.reduceEqDiff, Nat.reduceAdd, Nat.reduceSub, Nat.reduceMul, reduceCtorEq, reduceIte, e0, e1, e2] at q0; have q4 := ho3 4 (Seen.of rfl); simp (disch := first | (with_unfolding_all first | exact Lk.mk rfl | exact Seen.of rfl) | assumption | (fail_if_success with_reducible first | refine Seen.of ?_ | apply Sl.frame | apply Ow.frame); omega) only [go_sem, Int.reduceEq, Int.reduceLE, Int.reduceLT, Int.reduceNe, Int.reduceNeg, Int.reduceAdd, Int.reduceSub, Int.reduceMul, Int.reduceToNat, Nat.reduceLT, Nat.reduceLeDiff, Nat.reduceEqDiff, Nat.reduceAdd, Nat.reduceSub, Nat.reduceMul, reduceCtorEq, reduceIte, e0, e1, e2] at q4; have q6 := ho3 6 (Seen.of rfl); simp (disch := first | (with_unfolding_all first | exact Lk.mk rfl | exact Seen.of rfl) | assumption | (fail_if_success with_reducible first | refine Seen.of ?_ | apply Sl.frame | apply Ow.frame); omega) only [go_sem, Int.reduceEq, Int.reduceLE, Int.reduceLT, Int.reduceNe, Int.reduceNeg, Int.reduceAdd, Int.reduceSub, Int.reduceMul, Int.reduceToNat, Nat.reduceLT, Nat.reduceLeDiff, Nat.reduceEqDiff, Nat.reduceAdd, Nat.reduceSub, Nat.reduceMul, reduceCtorEq, reduceIte, e0, e1, e2] at q6; have q15 := ho3 15 (Seen.of rfl); simp (disch := first | (with_unfolding_all first | exact Lk.mk rfl | exact Seen.of rfl) | assumption | (fail_if_success with_reducible first | refine Seen.of ?_ | apply Sl.frame | apply Ow.frame); omega) only [go_sem, Int.reduceEq, Int.reduceLE, Int.reduceLT, Int.reduceNe, Int.reduceNeg, Int.reduceAdd, Int.reduceSub, Int.reduceMul, Int.reduceToNat, Nat.reduceLT, Nat.reduceLeDiff, Nat.reduceEqDiff, Nat.reduceAdd, Nat.reduceSub, Nat.reduceMul, reduceCtorEq, reduceIte, e0, e1, e2] at q15; have q87 := ho3 87 (Seen.of rfl); simp (disch := first | (with_unfolding_all first | exact Lk.mk rfl | exact Seen.of rfl) | assumption | (fail_if_success with_reducible first | refine Seen.of ?_ | apply Sl.frame | apply Ow.frame); omega) only [go_sem, Int.reduceEq, Int.reduceLE, Int.reduceLT, Int.reduceNe, Int.reduceNeg, Int.reduceAdd, Int.reduceSub, Int.reduceMul, Int.reduceToNat, Nat.reduceLT, Nat.reduceLeDiff, Nat.reduceEqDiff, Nat.reduceAdd, Nat.reduceSub, Nat.reduceMul, reduceCtorEq, reduceIte, e0, e1, e2] at q87
  refine c_rangeR (g := 40) (cap := [.ptr (some (h8.size, 0))]) (by simp (disch := first | (with_unfolding_all first | exact Lk.mk rfl | exact Seen.of rfl) | assumption | (fail_if_success with_reducible first | refine Seen.of ?_ | apply Sl.frame | apply Ow.frame); omega) only [go_sem, Int.reduceEq, Int.reduceLE, Int.reduceLT, Int.reduceNe, Int.reduceNeg, Int.reduceAdd, Int.reduceSub, Int.reduceMul, Int.reduceToNat, Nat.reduceLT, Nat.reduceLeDiff, Nat.reduceEqDiff, Nat.reduceAdd, Nat.reduceSub, Nat.reduceMul, reduceCtorEq, reduceIte, q87]) fun R hR => ?_
  have zb : ((h9.push (.defs false)).push R).size = h9.size + 2 := by simp (disch := first | (with_unfolding_all first | exact Lk.mk rfl | exact Seen.of rfl) | assumption | (fail_if_success with_reducible first | refine Seen.of ?_ | apply Sl.frame | apply Ow.frame); omega) only [go_sem, Int.reduceEq, Int.reduceLE, Int.reduceLT, Int.reduceNe, Int.reduceNeg, Int.reduceAdd, Int.reduceSub, Int.reduceMul, Int.reduceToNat, Nat.reduceLT, Nat.reduceLeDiff, Nat.reduceEqDiff, Nat.reduceAdd, Nat.reduceSub, Nat.reduceMul, reduceCtorEq, reduceIte]
  have fb : ∀ b, b < h7.size → ((h9.push (.defs false)).push R).get b = h7.get b := fun b hb => by
    rw [← k8.2 b hb, ← f9 b (by omega)]; simp (disch := first | (with_unfolding_all first | exact Lk.mk rfl | exact Seen.of rfl) | assumption | (fail_if_success with_reducible first | refine Seen.of ?_ | apply Sl.frame | apply Ow.frame); omega) only [go_sem, Int.reduceEq, Int.reduceLE, Int.reduceLT, Int.reduceNe, Int.reduceNeg, Int.reduceAdd, Int.reduceSub, Int.reduceMul, Int.reduceToNat, Nat.reduceLT, Nat.reduceLeDiff, Nat.reduceEqDiff, Nat.reduceAdd, Nat.reduceSub, Nat.reduceMul, reduceCtorEq, reduceIte]
  have gc : ((h9.push (.defs false)).push R).get h7.size = some (.cells [.int .i64 0]) := by
    rw [← c8, ← f9 h7.size (by omega)]; simp (disch := first | (with_unfolding_all first | exact Lk.mk rfl | exact Seen.of rfl) | assumption | (fail_if_success with_reducible first | refine Seen.of ?_ | apply Sl.frame | apply Ow.frame); omega) only [go_sem, Int.reduceEq, Int.reduceLE, Int.reduceLT, Int.reduceNe, Int.reduceNeg, Int.reduceAdd, Int.reduceSub, Int.reduceMul, Int.reduceToNat, Nat.reduceLT, Nat.reduceLeDiff, Nat.reduceEqDiff, Nat.reduceAdd, Nat.reduceSub, Nat.reduceMul, reduceCtorEq, reduceIte]
  have gx : ((h9.push (.defs false)).push R).get h8.size = some (.cells [.ptr (some (p, 0))]) := by
    rw [← c9]; simp (disch := first | (with_unfolding_all first | exact Lk.mk rfl | exact Seen.of rfl) | assumption | (fail_if_success with_reducible first | refine Seen.of ?_ | apply Sl.frame | apply Ow.frame); omega) only [go_sem, Int.reduceEq, Int.reduceLE, Int.reduceLT, Int.reduceNe, Int.reduceNeg, Int.reduceAdd, Int.reduceSub, Int.reduceMul, Int.reduceToNat, Nat.reduceLT, Nat.reduceLeDiff, Nat.reduceEqDiff, Nat.reduceAdd, Nat.reduceSub, Nat.reduceMul, reduceCtorEq, reduceIte]
  have gR : ((h9.push (.defs false)).push R).get (h9.size + 1) = some R := by simp (disch := first | (with_unfolding_all first | exact Lk.mk rfl | exact Seen.of rfl) | assumption | (fail_if_success with_reducible first | refine Seen.of ?_ | apply Sl.frame | apply Ow.frame); omega) only [go_sem, Int.reduceEq, Int.reduceLE, Int.reduceLT, Int.reduceNe, Int.reduceNeg, Int.reduceAdd, Int.reduceSub, Int.reduceMul, Int.reduceToNat, Nat.reduceLT, Nat.reduceLeDiff, Nat.reduceEqDiff, Nat.reduceAdd, Nat.reduceSub, Nat.reduceMul, reduceCtorEq, reduceIte]
  have gm : ((h9.push (.defs false)).push R).get h9.size = some (.defs false) := by simp (disch := first | (with_unfolding_all first | exact Lk.mk rfl | exact Seen.of rfl) | assumption | (fail_if_success with_reducible first | refine Seen.of ?_ | apply Sl.frame | apply Ow.frame); omega) only [go_sem, Int.reduceEq, Int.reduceLE, Int.reduceLT, Int.reduceNe, Int.reduceNeg, Int.reduceAdd, Int.reduceSub, Int.reduceMul, Int.reduceToNat, Nat.reduceLT, Nat.reduceLeDiff, Nat.reduceEqDiff, Nat.reduceAdd, Nat.reduceSub, Nat.reduceMul, reduceCtorEq, reduceIte]
  generalize (h9.push (.defs false)).push R = hb at *
  clear f9 k8 c8 c9
  have old : ∀ h : AH, (∀ b, b < hb.size → ¬ b = h7.size → ¬ b = h9.size + 1 → h.get b = hb.get b) → ∀ b, b < h7.size → h.get b = h7.get b := fun h hf b hb => by rw [hf b (by omega) (by omega) (by omega), fb b hb]
  have hq := u.hq
  refine callW_mono (shIter _ h8.size p s hb
    (fun h => hb.size ≤ h.size ∧ (∀ b, b < hb.size → ¬ b = h7.size → ¬ b = h9.size + 1 → h.get b = hb.get b) ∧ h.get h7.size = some (.cells [.int .i64 (s.l.length : Int)]) ∧ h.get (h9.size + 1) = some R)
    (fun cur s' h => s' = s ∧ ∃ k : Nat, Pos s.l cur k ∧ hb.size ≤ h.size ∧ (∀ b, b < hb.size → ¬ b = h7.size → ¬ b = h9.size + 1 → h.get b = hb.get b) ∧ h.get h7.size = some (.cells [.int .i64 (k : Int)]) ∧ h.get (h9.size + 1) = some R) ?_ ?_ ?_ ?_ ?_) ?_
  · rintro cur s' h ⟨rfl, k, hk, hz, hf, -, -⟩
    have ho := old h hf
    exact ⟨Pc, n, hc.frame (fun x hx _ => ho x hx) (by omega) (fun _ _ => rfl), ok, by omega, (hf _ (by omega) (by omega) (by omega)).trans gx, by omega⟩
  · refine ⟨rfl, 0, ⟨by omega, fun j x hj => by omega, fun j x _ hx => (ok.lo x (List.mem_of_getElem? hx)).1⟩, Nat.le_refl _, fun _ _ _ _ => rfl, gc, gR⟩
  · rintro cur s' h h' ⟨rfl, k, hk, hz, hf, hcj, hRj⟩ kp
    have := kp.1
    exact ⟨rfl, k, hk, by omega, fun b b1 b2 b3 => by rw [kp.2 b (by omega)]; exact hf b b1 b2 b3, (kp.2 _ (by omega)).trans hcj, (kp.2 _ (by omega)).trans hRj⟩
  · rintro cur s' hz1 k x ⟨rfl, k', hk', hz, hf, hcj, hRj⟩ hk hx
    obtain rfl := hk'.uniq hk
    have ho := old hz1 hf
    have hkl := (List.getElem?_eq_some_iff.1 hx).1
    have hxb : s'.l[k']! = x := by
      have := bang_some hkl
      rw [hx] at this; exact (Option.some.inj this).symm
    have e1' : (rOf s').a[k']! = x.1 := by rw [← hxb]; exact bang_map hkl _
    have e2' : (rOf s').b[k']! = x.2 := by rw [← hxb]; exact bang_map hkl _
    refine y_roundR hR hRj (setAll_two .mk .mk) ?_
    refine codeW_hide fun Q1 hQ1 => ?_
    repeat' (first
      | (with_reducible first | refine q_nn ?_ | refine q_nr ?_ | refine q_ne ?_ | refine q_en ?_ | refine q_er ?_ | refine q_es ?_ | refine q_gn ?_ | refine q_gr ?_ | refine q_ge ?_ | refine c_seq ?_ | refine c_block ?_ | refine c_scope ?_ | refine c_skip ?_ | refine c_label ?_ | refine c_ret ?_ | refine c_exit ?_ | (refine hK _ _ ?_; clear hK K) | refine seg_nil ?_) | ((with_reducible refine q_eo ?_ ?_); exact rfl)
      | ((with_reducible first | refine c_reg fun K hK => ?_ | refine c_drw (by decide +kernel) fun K hK => ?_ | refine c_cond ?_ | refine seg_cons fun K hK => ?_ | show endW _ _ _ _ _ | refine ifb_dec (fun _ => ?_) (fun _ => ?_) | refine ifb_ieq (fun _ => ?_) (fun _ => ?_) | refine ifb_seq (fun _ => ?_) (fun _ => ?_)) <;> try simp (disch := first | (with_unfolding_all first | exact Lk.mk rfl | exact Seen.of rfl) | assumption | (fail_if_success with_reducible first | refine Seen.of ?_ | apply Sl.frame | apply Ow.frame); omega) only [go_sem, Int.reduceEq, Int.reduceLE, Int.reduceLT, Int.reduceNe, Int.reduceNeg, Int.reduceAdd, Int.reduceSub, Int.reduceMul, Int.reduceToNat, Nat.reduceLT, Nat.reduceLeDiff, Nat.reduceEqDiff, Nat.reduceAdd, Nat.reduceSub, Nat.reduceMul, reduceCtorEq, reduceIte])
      | with_reducible refine obl_and (by simp (disch := first | (with_unfolding_all first | exact Lk.mk rfl | exact Seen.of rfl) | assumption | (fail_if_success with_reducible first | refine Seen.of ?_ | apply Sl.frame | apply Ow.frame); omega) only [go_sem, Int.reduceEq, Int.reduceLE, Int.reduceLT, Int.reduceNe, Int.reduceNeg, Int.reduceAdd, Int.reduceSub, Int.reduceMul, Int.reduceToNat, Nat.reduceLT, Nat.reduceLeDiff, Nat.reduceEqDiff, Nat.reduceAdd, Nat.reduceSub, Nat.reduceMul, reduceCtorEq, reduceIte]) ?_)
    refine hQ1 _ _ ?_
    clear hQ1 Q1
    refine ⟨rfl, hRj, fun hy zy fy ly => ?_⟩
    dsimp only at zy fy
    have oh : ∀ b, b < h7.size → hy.get b = h7.get b := fun b hb2 => (fy b (by omega)).trans (ho b hb2)
    have x4 := (oh h0.size (by omega)).trans b4
    have xq := (oh q hq).trans hcq
    have sa := (u.o1.frame (h' := hy) (fun i hi => oh i (u.o1.lt hi)) (by omega)).sl
    have sb := (u.o2.frame (h' := hy) (fun i hi => oh i (u.o2.lt hi)) (by omega)).sl
    have xj := (fy h7.size (by omega)).trans hcj
    have hnt : ((k' : Nat) : Int).toNat = k' := Int.toNat_natCast _
    refine codeW_hide fun Q2 hQ2 => ?_
    repeat' (first
      | (with_reducible first | refine q_nn ?_ | refine q_nr ?_ | refine q_ne ?_ | refine q_en ?_ | refine q_er ?_ | refine q_es ?_ | refine q_gn ?_ | refine q_gr ?_ | refine q_ge ?_ | refine c_seq ?_ | refine c_block ?_ | refine c_scope ?_ | refine c_skip ?_ | refine c_label ?_ | refine c_ret ?_ | refine c_exit ?_ | (refine hK _ _ ?_; clear hK K) | refine seg_nil ?_) | ((with_reducible refine q_eo ?_ ?_); exact rfl)
      | ((with_reducible first | refine c_reg fun K hK => ?_ | refine c_drw (by decide +kernel) fun K hK => ?_ | refine c_cond ?_ | refine seg_cons fun K hK => ?_ | show endW _ _ _ _ _ | refine ifb_dec (fun _ => ?_) (fun _ => ?_) | refine ifb_ieq (fun _ => ?_) (fun _ => ?_) | refine ifb_seq (fun _ => ?_) (fun _ => ?_)) <;> try simp (disch := first | (with_unfolding_all first | exact Lk.mk rfl | exact Seen.of rfl) | assumption | (fail_if_success with_reducible first | refine Seen.of ?_ | apply Sl.frame | apply Ow.frame); omega) only [go_sem, Int.reduceEq, Int.reduceLE, Int.reduceLT, Int.reduceNe, Int.reduceNeg, Int.reduceAdd, Int.reduceSub, Int.reduceMul, Int.reduceToNat, Nat.reduceLT, Nat.reduceLeDiff, Nat.reduceEqDiff, Nat.reduceAdd, Nat.reduceSub, Nat.reduceMul, reduceCtorEq, reduceIte, x4, xq, xj, q0, q4, q6, q15, hnt, e1', e2'])
      | with_reducible refine obl_and (by simp (disch := first | (with_unfolding_all first | exact Lk.mk rfl | exact Seen.of rfl) | assumption | (fail_if_success with_reducible first | refine Seen.of ?_ | apply Sl.frame | apply Ow.frame); omega) only [go_sem, Int.reduceEq, Int.reduceLE, Int.reduceLT, Int.reduceNe, Int.reduceNeg, Int.reduceAdd, Int.reduceSub, Int.reduceMul, Int.reduceToNat, Nat.reduceLT, Nat.reduceLeDiff, Nat.reduceEqDiff, Nat.reduceAdd, Nat.reduceSub, Nat.reduceMul, reduceCtorEq, reduceIte, x4, xq, xj, q0, q4, q6, q15, hnt, e1', e2']) ?_)
    refine hQ2 _ _ ?_
    refine ⟨(hs_ne (by omega)).trans ly, fun hx' zx fx lx => ?_⟩
    dsimp only at zx fx
    rw [AH.size_set] at zx
    refine .inl ⟨rfl, s', rfl, k' + 1, Pos.next ok.so hx, by omega, fun b b1 b2 b3 => ?_, ?_, lx.trans (congrArg some (AO.fin_normal hR))⟩
    · rw [fx b b3, AH.get_set, if_neg b2, fy b b3, hf b b1 b2 b3]
    · rw [fx _ (by omega), AH.get_set, if_pos rfl]; rfl
  · rintro cur s' h ⟨rfl, k, hk, hz, hf, hcj, hRj⟩ hp
    obtain rfl := hk.uniq hp
    exact ⟨hz, hf, hcj, hRj⟩
  · rintro _ hh ⟨hz, hf, hcj, hRj⟩
    have ho := old hh hf
    refine EndR_fin (e := .normal) hR (by rw [AO.fin_normal hR]; exact hRj) ?_
    have x4 : (hh.set (h9.size + 1) .dead).get h0.size = some (.cells [.ptr (some (q, 0))]) := by rw [AH.get_set, if_neg (by omega), ho _ (by omega)]; exact b4
    have x6 : (hh.set (h9.size + 1) .dead).get (h0.size + 1) = some (.cells [.bool false]) := by rw [AH.get_set, if_neg (by omega), ho _ (by omega)]; exact b6
    have xq : (hh.set (h9.size + 1) .dead).get q = some (.cells [v1, v2, v3, v4, .int .i64 (rOf s).top]) := by rw [AH.get_set, if_neg (by omega), ho q hq]; exact hcq
    have xj : (hh.set (h9.size + 1) .dead).get h7.size = some (.cells [.int .i64 (s.l.length : Int)]) := by rw [AH.get_set, if_neg (by omega)]; exact hcj
    have xm : (hh.set (h9.size + 1) .dead).get h9.size = some (.defs false) := by rw [AH.get_set, if_neg (by omega), hf h9.size (by omega) (by omega) (by omega)]; exact gm
    have zz : (hh.set (h9.size + 1) .dead).size = hh.size := by simp (disch := first | (with_unfolding_all first | exact Lk.mk rfl | exact Seen.of rfl) | assumption | (fail_if_success with_reducible first | refine Seen.of ?_ | apply Sl.frame | apply Ow.frame); omega) only [go_sem, Int.reduceEq, Int.reduceLE, Int.reduceLT, Int.reduceNe, Int.reduceNeg, Int.reduceAdd, Int.reduceSub, Int.reduceMul, Int.reduceToNat, Nat.reduceLT, Nat.reduceLeDiff, Nat.reduceEqDiff, Nat.reduceAdd, Nat.reduceSub, Nat.reduceMul, reduceCtorEq, reduceIte]
    have oz : ∀ b, b < h7.size → (hh.set (h9.size + 1) .dead).get b = h7.get b := fun b hb => by rw [AH.get_set, if_neg (by omega), ho b hb]
    generalize hh.set (h9.size + 1) .dead = hy at *
    have sq := (u.o1.frame (h' := hy) (fun i hi => oz i (u.o1.lt hi)) (by omega)).sl
    rw [← hl1] at xj
    repeat' (first
      | (with_reducible first | refine q_nn ?_ | refine q_nr ?_ | refine q_ne ?_ | refine q_en ?_ | refine q_er ?_ | refine q_es ?_ | refine q_gn ?_ | refine q_gr ?_ | refine q_ge ?_ | refine c_seq ?_ | refine c_block ?_ | refine c_scope ?_ | refine c_skip ?_ | refine c_label ?_ | refine c_ret ?_ | refine c_exit ?_ | (refine hK _ _ ?_; clear hK K) | refine seg_nil ?_) | ((with_reducible refine q_eo ?_ ?_); exact rfl)
      | ((with_reducible first | refine c_reg fun K hK => ?_ | refine c_drw (by decide +kernel) fun K hK => ?_ | refine c_cond ?_ | refine seg_cons fun K hK => ?_ | show endW _ _ _ _ _ | refine ifb_dec (fun _ => ?_) (fun _ => ?_) | refine ifb_ieq (fun _ => ?_) (fun _ => ?_) | refine ifb_seq (fun _ => ?_) (fun _ => ?_)) <;> try simp (disch := first | (with_unfolding_all first | exact Lk.mk rfl | exact Seen.of rfl) | assumption | (fail_if_success with_reducible first | refine Seen.of ?_ | apply Sl.frame | apply Ow.frame); omega) only [go_sem, Int.reduceEq, Int.reduceLE, Int.reduceLT, Int.reduceNe, Int.reduceNeg, Int.reduceAdd, Int.reduceSub, Int.reduceMul, Int.reduceToNat, Nat.reduceLT, Nat.reduceLeDiff, Nat.reduceEqDiff, Nat.reduceAdd, Nat.reduceSub, Nat.reduceMul, reduceCtorEq, reduceIte, x4, xq, xj, q0, q4, q6, q15])
      | with_reducible refine obl_and (by simp (disch := first | (with_unfolding_all first | exact Lk.mk rfl | exact Seen.of rfl) | assumption | (fail_if_success with_reducible first | refine Seen.of ?_ | apply Sl.frame | apply Ow.frame); omega) only [go_sem, Int.reduceEq, Int.reduceLE, Int.reduceLT, Int.reduceNe, Int.reduceNeg, Int.reduceAdd, Int.reduceSub, Int.reduceMul, Int.reduceToNat, Nat.reduceLT, Nat.reduceLeDiff, Nat.reduceEqDiff, Nat.reduceAdd, Nat.reduceSub, Nat.reduceMul, reduceCtorEq, reduceIte, x4, xq, xj, q0, q4, q6, q15]) ?_)
    refine cM_hide fun g0 hg0 => ?_
    have y4 : g0.get h0.size = some (.cells [.ptr (some (q, 0))]) := by rw [hg0, AH.get_set, if_neg (by omega)]; exact x4
    have y6 : g0.get (h0.size + 1) = some (.cells [.bool false]) := by rw [hg0, AH.get_set, if_neg (by omega)]; exact x6
    have yj : g0.get h7.size = some (.cells [.int .i64 0]) := by rw [hg0, AH.get_set, if_pos rfl]
    have ym : g0.get h9.size = some (.defs false) := by rw [hg0, AH.get_set, if_neg (by omega)]; exact xm
    have zg : g0.size = hh.size := by rw [hg0, AH.size_set]; exact zz
    have og : ∀ b, b < h7.size → g0.get b = h7.get b := fun b hb => by rw [hg0, AH.get_set, if_neg (by omega)]; exact oz b hb
    clear hg0 x4 x6 xq xj xm oz sq zz
    have hcg : ShC LI Pc g0 p s := hc.frame (fun x hx _ => og x hx) (by omega) (fun _ _ => rfl)
    refine callM_of (tombsI Pc p s g0 hcg htl) ?_
    rintro v g1' ⟨rfl, kt, zt, a, jt, hjt, ct, st⟩
    have kz := kt.1
    have y4 := (kt.2 _ (by omega)).trans y4
    have y6 := (kt.2 _ (by omega)).trans y6
    have yj := (kt.2 _ (by omega)).trans yj
    have ym := (kt.2 _ (by omega)).trans ym
    have og : ∀ b, b < h7.size → g1'.get b = h7.get b := fun b hb => (kt.2 b (by omega)).trans (og b hb)
    refine vI ?_; repeat' (first
      | (with_reducible first | refine q_nn ?_ | refine q_nr ?_ | refine q_ne ?_ | refine q_en ?_ | refine q_er ?_ | refine q_es ?_ | refine q_gn ?_ | refine q_gr ?_ | refine q_ge ?_ | refine c_seq ?_ | refine c_block ?_ | refine c_scope ?_ | refine c_skip ?_ | refine c_label ?_ | refine c_ret ?_ | refine c_exit ?_ | (refine hK _ _ ?_; clear hK K) | refine seg_nil ?_) | ((with_reducible refine q_eo ?_ ?_); exact rfl)
      | ((with_reducible first | refine vO ?_ | refine c_reg fun K hK => ?_ | refine c_drw (by decide +kernel) fun K hK => ?_ | refine c_cond ?_ | refine seg_cons fun K hK => ?_ | show endW _ _ _ _ _ | refine ifb_dec (fun _ => ?_) (fun _ => ?_) | refine ifb_ieq (fun _ => ?_) (fun _ => ?_) | refine ifb_seq (fun _ => ?_) (fun _ => ?_)) <;> try simp (disch := first | (with_unfolding_all first | exact Lk.mk rfl | exact Seen.of rfl) | assumption | (fail_if_success with_reducible first | refine Seen.of ?_ | apply Sl.frame | apply Ow.frame); omega) only [go_sem, Int.reduceEq, Int.reduceLE, Int.reduceLT, Int.reduceNe, Int.reduceNeg, Int.reduceAdd, Int.reduceSub, Int.reduceMul, Int.reduceToNat, Nat.reduceLT, Nat.reduceLeDiff, Nat.reduceEqDiff, Nat.reduceAdd, Nat.reduceSub, Nat.reduceMul, reduceCtorEq, reduceIte, q0, q4, q6, q15])
      | with_reducible refine obl_and (by simp (disch := first | (with_unfolding_all first | exact Lk.mk rfl | exact Seen.of rfl) | assumption | (fail_if_success with_reducible first | refine Seen.of ?_ | apply Sl.frame | apply Ow.frame); omega) only [go_sem, Int.reduceEq, Int.reduceLE, Int.reduceLT, Int.reduceNe, Int.reduceNeg, Int.reduceAdd, Int.reduceSub, Int.reduceMul, Int.reduceToNat, Nat.reduceLT, Nat.reduceLeDiff, Nat.reduceEqDiff, Nat.reduceAdd, Nat.reduceSub, Nat.reduceMul, reduceCtorEq, reduceIte, q0, q4, q6, q15]) ?_)
    refine codeW_base fun tr4 ho4 => ?_
    have w0 := ho4 0 (Seen.of rfl); simp (disch := first | (with_unfolding_all first | exact Lk.mk rfl | exact Seen.of rfl) | assumption | (fail_if_success with_reducible first | refine Seen.of ?_ | apply Sl.frame | apply Ow.frame); omega) only [go_sem, Int.reduceEq, Int.reduceLE, Int.reduceLT, Int.reduceNe, Int.reduceNeg, Int.reduceAdd, Int.reduceSub, Int.reduceMul, Int.reduceToNat, Nat.reduceLT, Nat.reduceLeDiff, Nat.reduceEqDiff, Nat.reduceAdd, Nat.reduceSub, Nat.reduceMul, reduceCtorEq, reduceIte, q0, q4, q6, q15] at w0; have w4 := ho4 4 (Seen.of rfl); simp (disch := first | (with_unfolding_all first | exact Lk.mk rfl | exact Seen.of rfl) | assumption | (fail_if_success with_reducible first | refine Seen.of ?_ | apply Sl.frame | apply Ow.frame); omega) only [go_sem, Int.reduceEq, Int.reduceLE, Int.reduceLT, Int.reduceNe, Int.reduceNeg, Int.reduceAdd, Int.reduceSub, Int.reduceMul, Int.reduceToNat, Nat.reduceLT, Nat.reduceLeDiff, Nat.reduceEqDiff, Nat.reduceAdd, Nat.reduceSub, Nat.reduceMul, reduceCtorEq, reduceIte, q0, q4, q6, q15] at w4; have w6 := ho4 6 (Seen.of rfl); simp (disch := first | (with_unfolding_all first | exact Lk.mk rfl | exact Seen.of rfl) | assumption | (fail_if_success with_reducible first | refine Seen.of ?_ | apply Sl.frame | apply Ow.frame); omega) only [go_sem, Int.reduceEq, Int.reduceLE, Int.reduceLT, Int.reduceNe, Int.reduceNeg, Int.reduceAdd, Int.reduceSub, Int.reduceMul, Int.reduceToNat, Nat.reduceLT, Nat.reduceLeDiff, Nat.reduceEqDiff, Nat.reduceAdd, Nat.reduceSub, Nat.reduceMul, reduceCtorEq, reduceIte, q0, q4, q6, q15] at w6; have w15 := ho4 15 (Seen.of rfl); simp (disch := first | (with_unfolding_all first | exact Lk.mk rfl | exact Seen.of rfl) | assumption | (fail_if_success with_reducible first | refine Seen.of ?_ | apply Sl.frame | apply Ow.frame); omega) only [go_sem, Int.reduceEq, Int.reduceLE, Int.reduceLT, Int.reduceNe, Int.reduceNeg, Int.reduceAdd, Int.reduceSub, Int.reduceMul, Int.reduceToNat, Nat.reduceLT, Nat.reduceLeDiff, Nat.reduceEqDiff, Nat.reduceAdd, Nat.reduceSub, Nat.reduceMul, reduceCtorEq, reduceIte, q0, q4, q6, q15] at w15; have w132 := ho4 132 (Seen.of rfl); simp (disch := first | (with_unfolding_all first | exact Lk.mk rfl | exact Seen.of rfl) | assumption | (fail_if_success with_reducible first | refine Seen.of ?_ | apply Sl.frame | apply Ow.frame); omega) only [go_sem, Int.reduceEq, Int.reduceLE, Int.reduceLT, Int.reduceNe, Int.reduceNeg, Int.reduceAdd, Int.reduceSub, Int.reduceMul, Int.reduceToNat, Nat.reduceLT, Nat.reduceLeDiff, Nat.reduceEqDiff, Nat.reduceAdd, Nat.reduceSub, Nat.reduceMul, reduceCtorEq, reduceIte, q0, q4, q6, q15] at w132
    refine c_rangeR (g := 56) (cap := [.ptr (some (g0.size, 0))]) (by simp (disch := first | (with_unfolding_all first | exact Lk.mk rfl | exact Seen.of rfl) | assumption | (fail_if_success with_reducible first | refine Seen.of ?_ | apply Sl.frame | apply Ow.frame); omega) only [go_sem, Int.reduceEq, Int.reduceLE, Int.reduceLT, Int.reduceNe, Int.reduceNeg, Int.reduceAdd, Int.reduceSub, Int.reduceMul, Int.reduceToNat, Nat.reduceLT, Nat.reduceLeDiff, Nat.reduceEqDiff, Nat.reduceAdd, Nat.reduceSub, Nat.reduceMul, reduceCtorEq, reduceIte, w132]) fun R2 hR2 => ?_
    have zb2 : ((g1'.push (.defs false)).push R2).size = g1'.size + 2 := by simp (disch := first | (with_unfolding_all first | exact Lk.mk rfl | exact Seen.of rfl) | assumption | (fail_if_success with_reducible first | refine Seen.of ?_ | apply Sl.frame | apply Ow.frame); omega) only [go_sem, Int.reduceEq, Int.reduceLE, Int.reduceLT, Int.reduceNe, Int.reduceNeg, Int.reduceAdd, Int.reduceSub, Int.reduceMul, Int.reduceToNat, Nat.reduceLT, Nat.reduceLeDiff, Nat.reduceEqDiff, Nat.reduceAdd, Nat.reduceSub, Nat.reduceMul, reduceCtorEq, reduceIte]
    have fb2 : ∀ b, b < g1'.size → ((g1'.push (.defs false)).push R2).get b = g1'.get b := fun b hb => by simp (disch := first | (with_unfolding_all first | exact Lk.mk rfl | exact Seen.of rfl) | assumption | (fail_if_success with_reducible first | refine Seen.of ?_ | apply Sl.frame | apply Ow.frame); omega) only [go_sem, Int.reduceEq, Int.reduceLE, Int.reduceLT, Int.reduceNe, Int.reduceNeg, Int.reduceAdd, Int.reduceSub, Int.reduceMul, Int.reduceToNat, Nat.reduceLT, Nat.reduceLeDiff, Nat.reduceEqDiff, Nat.reduceAdd, Nat.reduceSub, Nat.reduceMul, reduceCtorEq, reduceIte]
    have gR2 : ((g1'.push (.defs false)).push R2).get (g1'.size + 1) = some R2 := by simp (disch := first | (with_unfolding_all first | exact Lk.mk rfl | exact Seen.of rfl) | assumption | (fail_if_success with_reducible first | refine Seen.of ?_ | apply Sl.frame | apply Ow.frame); omega) only [go_sem, Int.reduceEq, Int.reduceLE, Int.reduceLT, Int.reduceNe, Int.reduceNeg, Int.reduceAdd, Int.reduceSub, Int.reduceMul, Int.reduceToNat, Nat.reduceLT, Nat.reduceLeDiff, Nat.reduceEqDiff, Nat.reduceAdd, Nat.reduceSub, Nat.reduceMul, reduceCtorEq, reduceIte]
    have gm2 : ((g1'.push (.defs false)).push R2).get g1'.size = some (.defs false) := by simp (disch := first | (with_unfolding_all first | exact Lk.mk rfl | exact Seen.of rfl) | assumption | (fail_if_success with_reducible first | refine Seen.of ?_ | apply Sl.frame | apply Ow.frame); omega) only [go_sem, Int.reduceEq, Int.reduceLE, Int.reduceLT, Int.reduceNe, Int.reduceNeg, Int.reduceAdd, Int.reduceSub, Int.reduceMul, Int.reduceToNat, Nat.reduceLT, Nat.reduceLeDiff, Nat.reduceEqDiff, Nat.reduceAdd, Nat.reduceSub, Nat.reduceMul, reduceCtorEq, reduceIte]
    generalize (g1'.push (.defs false)).push R2 = gb at *
    have old2 : ∀ h : AH, (∀ b, b < gb.size → ¬ b = h7.size → ¬ b = g1'.size + 1 → h.get b = gb.get b) → ∀ b, b < h7.size → h.get b = h7.get b := fun h hf b hb => by rw [hf b (by omega) (by omega) (by omega), fb2 b (by omega), og b hb]
    have hlc : (rOf s).c.length = s.t.length := by unfold rOf; simp only [List.length_map]
    refine callW_mono (tombIter _ g0.size jt a s.t gb
      (fun h => gb.size ≤ h.size ∧ (∀ b, b < gb.size → ¬ b = h7.size → ¬ b = g1'.size + 1 → h.get b = gb.get b) ∧ h.get h7.size = some (.cells [.int .i64 (s.t.length : Int)]) ∧ h.get (g1'.size + 1) = some R2)
      (fun k h => gb.size ≤ h.size ∧ (∀ b, b < gb.size → ¬ b = h7.size → ¬ b = g1'.size + 1 → h.get b = gb.get b) ∧ h.get h7.size = some (.cells [.int .i64 (k : Int)]) ∧ h.get (g1'.size + 1) = some R2) (by omega) ?_ ?_ ?_ ?_ (fun h hh => hh)) ?_
    · rintro k h ⟨hz, hf, -, -⟩
      exact ⟨(hf _ (by omega) (by omega) (by omega)).trans ((fb2 _ (by omega)).trans ct), st.frame (fun hi => (hf _ (by omega) (by omega) (by omega)).trans (fb2 _ hi)) (by omega)⟩
    · exact ⟨Nat.le_refl _, fun _ _ _ _ => rfl, (fb2 _ (by omega)).trans yj, gR2⟩
    · rintro k h h' ⟨hz, hf, hcj, hRj⟩ kp
      have := kp.1
      exact ⟨by omega, fun b b1 b2 b3 => by rw [kp.2 b (by omega)]; exact hf b b1 b2 b3, (kp.2 _ (by omega)).trans hcj, (kp.2 _ (by omega)).trans hRj⟩
    · rintro k' hz1 x hx ⟨hz, hf, hcj, hRj⟩
      have ho := old2 hz1 hf
      have hkl := (List.getElem?_eq_some_iff.1 hx).1
      have hxb : s.t[k']! = x := by
        have := bang_some hkl
        rw [hx] at this; exact (Option.some.inj this).symm
      have e1' : (rOf s).c[k']! = x.1 := by rw [← hxb]; exact bang_map hkl _
      have e2' : (rOf s).d[k']! = x.2 := by rw [← hxb]; exact bang_map hkl _
      refine y_roundR hR2 hRj (setAll_two .mk .mk) ?_
      refine codeW_hide fun Q1 hQ1 => ?_
      repeat' (first
      | (with_reducible first | refine q_nn ?_ | refine q_nr ?_ | refine q_ne ?_ | refine q_en ?_ | refine q_er ?_ | refine q_es ?_ | refine q_gn ?_ | refine q_gr ?_ | refine q_ge ?_ | refine c_seq ?_ | refine c_block ?_ | refine c_scope ?_ | refine c_skip ?_ | refine c_label ?_ | refine c_ret ?_ | refine c_exit ?_ | (refine hK _ _ ?_; clear hK K) | refine seg_nil ?_) | ((with_reducible refine q_eo ?_ ?_); exact rfl)
      | ((with_reducible first | refine c_reg fun K hK => ?_ | refine c_drw (by decide +kernel) fun K hK => ?_ | refine c_cond ?_ | refine seg_cons fun K hK => ?_ | show endW _ _ _ _ _ | refine ifb_dec (fun _ => ?_) (fun _ => ?_) | refine ifb_ieq (fun _ => ?_) (fun _ => ?_) | refine ifb_seq (fun _ => ?_) (fun _ => ?_)) <;> try simp (disch := first | (with_unfolding_all first | exact Lk.mk rfl | exact Seen.of rfl) | assumption | (fail_if_success with_reducible first | refine Seen.of ?_ | apply Sl.frame | apply Ow.frame); omega) only [go_sem, Int.reduceEq, Int.reduceLE, Int.reduceLT, Int.reduceNe, Int.reduceNeg, Int.reduceAdd, Int.reduceSub, Int.reduceMul, Int.reduceToNat, Nat.reduceLT, Nat.reduceLeDiff, Nat.reduceEqDiff, Nat.reduceAdd, Nat.reduceSub, Nat.reduceMul, reduceCtorEq, reduceIte])
      | with_reducible refine obl_and (by simp (disch := first | (with_unfolding_all first | exact Lk.mk rfl | exact Seen.of rfl) | assumption | (fail_if_success with_reducible first | refine Seen.of ?_ | apply Sl.frame | apply Ow.frame); omega) only [go_sem, Int.reduceEq, Int.reduceLE, Int.reduceLT, Int.reduceNe, Int.reduceNeg, Int.reduceAdd, Int.reduceSub, Int.reduceMul, Int.reduceToNat, Nat.reduceLT, Nat.reduceLeDiff, Nat.reduceEqDiff, Nat.reduceAdd, Nat.reduceSub, Nat.reduceMul, reduceCtorEq, reduceIte]) ?_)
      refine hQ1 _ _ ?_
      clear hQ1 Q1
      refine ⟨rfl, hRj, fun hy zy fy ly => ?_⟩
      dsimp only at zy fy
      have oh : ∀ b, b < h7.size → hy.get b = h7.get b := fun b hb2 => (fy b (by omega)).trans (ho b hb2)
      have x4 := (oh h0.size (by omega)).trans b4
      have xq := (oh q hq).trans hcq
      have sa := (u.o3.frame (h' := hy) (fun i hi => oh i (u.o3.lt hi)) (by omega)).sl
      have sb := (u.o4.frame (h' := hy) (fun i hi => oh i (u.o4.lt hi)) (by omega)).sl
      have xj := (fy h7.size (by omega)).trans hcj
      have hnt : ((k' : Nat) : Int).toNat = k' := Int.toNat_natCast _
      refine codeW_hide fun Q2 hQ2 => ?_
      repeat' (first
      | (with_reducible first | refine q_nn ?_ | refine q_nr ?_ | refine q_ne ?_ | refine q_en ?_ | refine q_er ?_ | refine q_es ?_ | refine q_gn ?_ | refine q_gr ?_ | refine q_ge ?_ | refine c_seq ?_ | refine c_block ?_ | refine c_scope ?_ | refine c_skip ?_ | refine c_label ?_ | refine c_ret ?_ | refine c_exit ?_ | (refine hK _ _ ?_; clear hK K) | refine seg_nil ?_) | ((with_reducible refine q_eo ?_ ?_); exact rfl)
      | ((with_reducible first | refine c_reg fun K hK => ?_ | refine c_drw (by decide +kernel) fun K hK => ?_ | refine c_cond ?_ | refine seg_cons fun K hK => ?_ | show endW _ _ _ _ _ | refine ifb_dec (fun _ => ?_) (fun _ => ?_) | refine ifb_ieq (fun _ => ?_) (fun _ => ?_) | refine ifb_seq (fun _ => ?_) (fun _ => ?_)) <;> try simp (disch := first | (with_unfolding_all first | exact Lk.mk rfl | exact Seen.of rfl) | assumption | (fail_if_success with_reducible first | refine Seen.of ?_ | apply Sl.frame | apply Ow.frame); omega) only [go_sem, Int.reduceEq, Int.reduceLE, Int.reduceLT, Int.reduceNe, Int.reduceNeg, Int.reduceAdd, Int.reduceSub, Int.reduceMul, Int.reduceToNat, Nat.reduceLT, Nat.reduceLeDiff, Nat.reduceEqDiff, Nat.reduceAdd, Nat.reduceSub, Nat.reduceMul, reduceCtorEq, reduceIte, x4, xq, xj, w0, w4, w6, w15, hnt, e1', e2'])
      | with_reducible refine obl_and (by simp (disch := first | (with_unfolding_all first | exact Lk.mk rfl | exact Seen.of rfl) | assumption | (fail_if_success with_reducible first | refine Seen.of ?_ | apply Sl.frame | apply Ow.frame); omega) only [go_sem, Int.reduceEq, Int.reduceLE, Int.reduceLT, Int.reduceNe, Int.reduceNeg, Int.reduceAdd, Int.reduceSub, Int.reduceMul, Int.reduceToNat, Nat.reduceLT, Nat.reduceLeDiff, Nat.reduceEqDiff, Nat.reduceAdd, Nat.reduceSub, Nat.reduceMul, reduceCtorEq, reduceIte, x4, xq, xj, w0, w4, w6, w15, hnt, e1', e2']) ?_)
      refine hQ2 _ _ ?_
      refine ⟨(hs_ne (by omega)).trans ly, fun hx' zx fx lx => ?_⟩
      dsimp only at zx fx
      rw [AH.size_set] at zx
      refine .inl ⟨rfl, by omega, fun b b1 b2 b3 => ?_, ?_, lx.trans (congrArg some (AO.fin_normal hR2))⟩
      · rw [fx b b3, AH.get_set, if_neg b2, fy b b3, hf b b1 b2 b3]
      · rw [fx _ (by omega), AH.get_set, if_pos rfl]; rfl
    · rintro _ hh2 ⟨hz, hf, hcj, hRj⟩
      have ho := old2 hh2 hf
      refine EndR_fin (e := .normal) hR2 (by rw [AO.fin_normal hR2]; exact hRj) ?_
      have x4 : (hh2.set (g1'.size + 1) .dead).get h0.size = some (.cells [.ptr (some (q, 0))]) := by rw [AH.get_set, if_neg (by omega), ho _ (by omega)]; exact b4
      have x6 : (hh2.set (g1'.size + 1) .dead).get (h0.size + 1) = some (.cells [.bool false]) := by rw [AH.get_set, if_neg (by omega), ho _ (by omega)]; exact b6
      have xq : (hh2.set (g1'.size + 1) .dead).get q = some (.cells [v1, v2, v3, v4, .int .i64 (rOf s).top]) := by rw [AH.get_set, if_neg (by omega), ho q hq]; exact hcq
      have xj : (hh2.set (g1'.size + 1) .dead).get h7.size = some (.cells [.int .i64 (s.t.length : Int)]) := by rw [AH.get_set, if_neg (by omega)]; exact hcj
      have xm : (hh2.set (g1'.size + 1) .dead).get h9.size = some (.defs false) := by rw [AH.get_set, if_neg (by omega), hf h9.size (by omega) (by omega) (by omega), fb2 _ (by omega)]; exact ym
      have xm2 : (hh2.set (g1'.size + 1) .dead).get g1'.size = some (.defs false) := by rw [AH.get_set, if_neg (by omega), hf g1'.size (by omega) (by omega) (by omega)]; exact gm2
      have zz : (hh2.set (g1'.size + 1) .dead).size = hh2.size := by simp (disch := first | (with_unfolding_all first | exact Lk.mk rfl | exact Seen.of rfl) | assumption | (fail_if_success with_reducible first | refine Seen.of ?_ | apply Sl.frame | apply Ow.frame); omega) only [go_sem, Int.reduceEq, Int.reduceLE, Int.reduceLT, Int.reduceNe, Int.reduceNeg, Int.reduceAdd, Int.reduceSub, Int.reduceMul, Int.reduceToNat, Nat.reduceLT, Nat.reduceLeDiff, Nat.reduceEqDiff, Nat.reduceAdd, Nat.reduceSub, Nat.reduceMul, reduceCtorEq, reduceIte]
      have oz : ∀ b, b < h7.size → (hh2.set (g1'.size + 1) .dead).get b = h7.get b := fun b hb => by rw [AH.get_set, if_neg (by omega), ho b hb]
      generalize hh2.set (g1'.size + 1) .dead = hy at *
      have sq := (u.o3.frame (h' := hy) (fun i hi => oz i (u.o3.lt hi)) (by omega)).sl
      rw [← hlc] at xj
      repeat' (first
      | (with_reducible first | refine q_nn ?_ | refine q_nr ?_ | refine q_ne ?_ | refine q_en ?_ | refine q_er ?_ | refine q_es ?_ | refine q_gn ?_ | refine q_gr ?_ | refine q_ge ?_ | refine c_seq ?_ | refine c_block ?_ | refine c_scope ?_ | refine c_skip ?_ | refine c_label ?_ | refine c_ret ?_ | refine c_exit ?_ | (refine hK _ _ ?_; clear hK K) | refine seg_nil ?_) | ((with_reducible refine q_eo ?_ ?_); exact rfl)
      | ((with_reducible first | refine c_reg fun K hK => ?_ | refine c_drw (by decide +kernel) fun K hK => ?_ | refine c_cond ?_ | refine seg_cons fun K hK => ?_ | show endW _ _ _ _ _ | refine ifb_dec (fun _ => ?_) (fun _ => ?_) | refine ifb_ieq (fun _ => ?_) (fun _ => ?_) | refine ifb_seq (fun _ => ?_) (fun _ => ?_)) <;> try simp (disch := first | (with_unfolding_all first | exact Lk.mk rfl | exact Seen.of rfl) | assumption | (fail_if_success with_reducible first | refine Seen.of ?_ | apply Sl.frame | apply Ow.frame); omega) only [go_sem, Int.reduceEq, Int.reduceLE, Int.reduceLT, Int.reduceNe, Int.reduceNeg, Int.reduceAdd, Int.reduceSub, Int.reduceMul, Int.reduceToNat, Nat.reduceLT, Nat.reduceLeDiff, Nat.reduceEqDiff, Nat.reduceAdd, Nat.reduceSub, Nat.reduceMul, reduceCtorEq, reduceIte, x4, x6, xq, xj, xm, xm2, w0, w4, w6, w15])
      | with_reducible refine obl_and (by simp (disch := first | (with_unfolding_all first | exact Lk.mk rfl | exact Seen.of rfl) | assumption | (fail_if_success with_reducible first | refine Seen.of ?_ | apply Sl.frame | apply Ow.frame); omega) only [go_sem, Int.reduceEq, Int.reduceLE, Int.reduceLT, Int.reduceNe, Int.reduceNeg, Int.reduceAdd, Int.reduceSub, Int.reduceMul, Int.reduceToNat, Nat.reduceLT, Nat.reduceLeDiff, Nat.reduceEqDiff, Nat.reduceAdd, Nat.reduceSub, Nat.reduceMul, reduceCtorEq, reduceIte, x4, x6, xq, xj, xm, xm2, w0, w4, w6, w15]) ?_)
      refine hKK _ _ ⟨rfl, ⟨by simp only [AH.size_set]; omega, fun b hb => ?_⟩⟩
      rw [AH.get_set, if_neg (by omega), AH.get_set, if_neg (by omega), AH.get_set, if_neg (by omega), oz b (by omega), kA.2 b hb]
end Go.Proofs.Ytedhjjjheafjeaa
