/- shelf: the code's shelf of numbers: Open, bury, Close. -/
import Derived.Test.YtedhjjjheafjeaaShCI
set_option linter.unusedSimpArgs false
set_option linter.unusedVariables false
namespace Go.Proofs.Ytedhjjjheafjeaa
open Go.Abs
set_option maxRecDepth 100000
theorem newI (h0 : AH) : callW Try.prog Try.T 9 [] h0 fun v h' => v = .ptr (some (h0.size, 0)) ∧ h' = h0.push (.cells [.slice none 0 0 0 true, .slice none 0 0 0 true, .int .i64 0]) := by
  refine callW_in (n := 3) (rs := [.tmp 0]) (m := 3) Try.func9 rfl rfl rfl rfl fun tr ht => ?_; clear ht
  repeat' (first
      | (with_reducible first | refine q_nn ?_ | refine q_nr ?_ | refine q_ne ?_ | refine q_en ?_ | refine q_er ?_ | refine q_es ?_ | refine q_gn ?_ | refine q_gr ?_ | refine q_ge ?_ | refine c_seq ?_ | refine c_block ?_ | refine c_scope ?_ | refine c_skip ?_ | refine c_label ?_ | refine c_ret ?_ | refine c_exit ?_ | (refine hK _ _ ?_; clear hK K) | refine seg_nil ?_) | ((with_reducible refine q_eo ?_ ?_); exact rfl)
      | ((with_reducible first | refine c_reg fun K hK => ?_ | refine c_drw (by decide +kernel) fun K hK => ?_ | refine c_cond ?_ | refine seg_cons fun K hK => ?_ | show endW _ _ _ _ _ | refine ifb_dec (fun _ => ?_) (fun _ => ?_) | refine ifb_ieq (fun _ => ?_) (fun _ => ?_) | refine ifb_seq (fun _ => ?_) (fun _ => ?_)) <;> try simp (disch := first | (with_unfolding_all first | exact Lk.mk rfl | exact Seen.of rfl) | assumption | (fail_if_success with_reducible first | refine Seen.of ?_ | apply Sl.frame | apply Ow.frame); omega) only [go_sem, Int.reduceEq, Int.reduceLE, Int.reduceLT, Int.reduceNe, Int.reduceNeg, Int.reduceAdd, Int.reduceSub, Int.reduceMul, Int.reduceToNat, Nat.reduceLT, Nat.reduceLeDiff, Nat.reduceEqDiff, Nat.reduceAdd, Nat.reduceSub, Nat.reduceMul, reduceCtorEq, reduceIte]))
theorem newCI (h0 : AH) : ShC LI (fun x => if x = h0.size then 1 else 0) (h0.push (.cells [.slice none 0 0 0 true, .slice none 0 0 0 true, .int .i64 0])) h0.size { l := [], t := [], top := 0 } :=
  ⟨_, _, none, none, by rw [AH.get_push, if_pos rfl], by simp, by simp, .nil _ _, .nil _ _, by simp, by simp⟩
set_option maxHeartbeats 4000000 in
theorem buryI (O : Nat → Nat) (p : Nat) (s : Sh Int) (id why : Int) (h0 : AH) (hl : ShC LI O h0 p s) (ht : s.t.length ≤ 16) :
    callW Try.prog Try.T 52 [.ptr (some (p, 0)), .int .i64 id, .int .i64 why] h0 fun v h' => StC LI O h0 h' p { s with t := buryT s.t id why } := by
  refine callW_hide fun KK hKK => ?_
  obtain ⟨v1, v2, g1, g2, hc, hp, hO, o1, o2, t1, t2⟩ := hl
  have qb := fun h : AH => bsR_agg (T := Try.T) (h := h) (t := 58) (e := 77) (n := 2) (cs := [.int .i64 id, .int .i64 why]) rfl rfl rfl rfl (by omega) rfl rfl
  have gp1 : ∀ x, g1 = some x → ¬ x = p := fun x hx e => by have := t1 x hx; rw [e, hO] at this; omega
  have gp2 : ∀ x, g2 = some x → ¬ x = p := fun x hx e => by have := t2 x hx; rw [e, hO] at this; omega
  have g12 : ∀ x, g1 = some x → ¬ g2 = some x := fun x hx e => by have a := t1 x hx; have b := t2 x e; omega
  refine callW_in (n := 36) (rs := []) (m := 36) Try.func52 rfl rfl rfl rfl fun tr ht => ?_; have e0 := ht 0 _ rfl; have e1 := ht 1 _ rfl; have e2 := ht 2 _ rfl; clear ht
  repeat' (first
      | (with_reducible first | refine q_nn ?_ | refine q_nr ?_ | refine q_ne ?_ | refine q_en ?_ | refine q_er ?_ | refine q_es ?_ | refine q_gn ?_ | refine q_gr ?_ | refine q_ge ?_ | refine c_seq ?_ | refine c_block ?_ | refine c_scope ?_ | refine c_skip ?_ | refine c_label ?_ | refine c_ret ?_ | refine c_exit ?_ | (refine hK _ _ ?_; clear hK K) | refine seg_nil ?_) | ((with_reducible refine q_eo ?_ ?_); exact rfl)
      | ((with_reducible first | refine c_reg fun K hK => ?_ | refine c_drw (by decide +kernel) fun K hK => ?_ | refine c_cond ?_ | refine seg_cons fun K hK => ?_ | show endW _ _ _ _ _ | refine ifb_dec (fun _ => ?_) (fun _ => ?_) | refine ifb_ieq (fun _ => ?_) (fun _ => ?_) | refine ifb_seq (fun _ => ?_) (fun _ => ?_)) <;> try simp (disch := first | (with_unfolding_all first | exact Lk.mk rfl | exact Seen.of rfl) | assumption | (fail_if_success with_reducible first | refine Seen.of ?_ | apply Sl.frame | apply Ow.frame); omega) only [go_sem, Int.reduceEq, Int.reduceLE, Int.reduceLT, Int.reduceNe, Int.reduceNeg, Int.reduceAdd, Int.reduceSub, Int.reduceMul, Int.reduceToNat, Nat.reduceLT, Nat.reduceLeDiff, Nat.reduceEqDiff, Nat.reduceAdd, Nat.reduceSub, Nat.reduceMul, reduceCtorEq, reduceIte, e0, e1, e2, hc, qb]))
  refine Try.al58 (E := LI) (id, why) o2.ow rfl rfl (by exact .mk) (by omega) fun z h3 i3 o3 hi3 z3 f3 => ?_
  obtain ⟨g3, og3, hg3⟩ := OwN.of (g := g2) o3 hi3 rfl
  have nb : ∀ x, x < h0.size → ¬ g2 = some x → h3.get x = h0.get x := fun x hx hgx => by
    refine f3 x hx ?_
    cases hg : g2 with
    | none => simp; omega
    | some y => simp only [Option.getD_some]; intro e; exact hgx (by rw [hg, e])
  have c3 := (nb p hp (fun e => gp2 p e rfl)).trans hc
  have one3 := og3.one
  have cel3 := og3.cells
  have oa := o1.frame (h' := h3) (fun i hi => nb i (o1.lt hi) (g12 i hi)) z3
  have gp3 : ∀ x, g3 = some x → ¬ x = p := fun x hx e => by
    rcases hg3 with h | h | ⟨j, h, hj⟩
    · rw [h] at hx; cases hx
    · exact gp2 x (by rw [← h]; exact hx) e
    · rw [h] at hx; cases hx; omega
  have og := og3.frame (h' := h3.set p (.cells [v1, z, .int .i64 s.top])) (fun i hi => by rw [AH.get_set, if_neg (gp3 i hi)]) (by simp)
  have ob := oa.frame (h' := h3.set p (.cells [v1, z, .int .i64 s.top])) (fun i hi => by rw [AH.get_set, if_neg (gp1 i hi)]) (by simp)
  have hln : (s.t ++ [(id, why)]).length = s.t.length + 1 := by simp
  have sg := og.sl
  clear f3 hi3 o3
  by_cases hlong : s.t.length = 16
  · refine vI ?_; repeat' (first
      | (with_reducible first | refine q_nn ?_ | refine q_nr ?_ | refine q_ne ?_ | refine q_en ?_ | refine q_er ?_ | refine q_es ?_ | refine q_gn ?_ | refine q_gr ?_ | refine q_ge ?_ | refine c_seq ?_ | refine c_block ?_ | refine c_scope ?_ | refine c_skip ?_ | refine c_label ?_ | refine c_ret ?_ | refine c_exit ?_ | (refine hK _ _ ?_; clear hK K) | refine seg_nil ?_) | ((with_reducible refine q_eo ?_ ?_); exact rfl)
      | ((with_reducible first | refine vO ?_ | refine c_reg fun K hK => ?_ | refine c_drw (by decide +kernel) fun K hK => ?_ | refine c_cond ?_ | refine seg_cons fun K hK => ?_ | show endW _ _ _ _ _ | refine ifb_dec (fun _ => ?_) (fun _ => ?_) | refine ifb_ieq (fun _ => ?_) (fun _ => ?_) | refine ifb_seq (fun _ => ?_) (fun _ => ?_)) <;> try simp (disch := first | (with_unfolding_all first | exact Lk.mk rfl | exact Seen.of rfl) | assumption | (fail_if_success with_reducible first | refine Seen.of ?_ | apply Sl.frame | apply Ow.frame); omega) only [go_sem, Int.reduceEq, Int.reduceLE, Int.reduceLT, Int.reduceNe, Int.reduceNeg, Int.reduceAdd, Int.reduceSub, Int.reduceMul, Int.reduceToNat, Nat.reduceLT, Nat.reduceLeDiff, Nat.reduceEqDiff, Nat.reduceAdd, Nat.reduceSub, Nat.reduceMul, reduceCtorEq, reduceIte, e0, e1, e2, c3, one3, cel3, stC_1 (Seen.of one3), hln, hlong]))
    have e17 : ((17 : Nat) : Int) - 16 = 1 := rfl
    rw [e17]
    refine callM_of (deleteT z _ _ 0 1 _ og.ow (by rw [hln]; omega) (by omega) (by omega) (by rw [hln]; omega)) ?_
    rintro v h4 ⟨o4, z4, f4⟩
    simp only [AH.size_set] at z4 f4
    have hbt : buryT s.t id why = (s.t ++ [(id, why)]).take (0 : Int).toNat ++ (s.t ++ [(id, why)]).drop (1 : Int).toNat := by
      unfold buryT
      rw [hln, hlong]; rfl
    rw [← hbt] at o4
    obtain ⟨g4, og4, hg4⟩ := OwN.of (g := g3) (b := h3.size) o4 (.inl rfl) (by simp)
    have nb4 : ∀ x, x < h3.size → ¬ g3 = some x → h4.get x = (h3.set p (.cells [v1, z, .int .i64 s.top])).get x := fun x hx hgx => by
      refine f4 x ?_
      cases hg : g3 with
      | none => simp; omega
      | some y => simp only [Option.getD_some]; intro e; exact hgx (by rw [hg, e])
    have c4 : h4.get p = some (.cells [v1, z, .int .i64 s.top]) := by rw [nb4 p (by omega) (fun e => gp3 p e rfl), AH.get_set, if_pos rfl]
    have one4 := og4.one
    have cel4 := og4.cells
    have g31 : ∀ x, g1 = some x → ¬ g3 = some x := fun x hx e => by
      rcases hg3 with h | h | ⟨j, h, hj⟩
      · rw [h] at e; cases e
      · exact g12 x hx (by rw [← h]; exact e)
      · rw [h] at e; cases e; have := o1.lt hx; omega
    have gp4 : ∀ x, g4 = some x → ¬ x = p := fun x hx e => by
      rcases hg4 with h | h | ⟨j, h, hj⟩
      · rw [h] at hx; cases hx
      · exact gp3 x (by rw [← h]; exact hx) e
      · rw [h] at hx; cases hx; omega
    refine vI ?_; repeat' (first
      | (with_reducible first | refine q_nn ?_ | refine q_nr ?_ | refine q_ne ?_ | refine q_en ?_ | refine q_er ?_ | refine q_es ?_ | refine q_gn ?_ | refine q_gr ?_ | refine q_ge ?_ | refine c_seq ?_ | refine c_block ?_ | refine c_scope ?_ | refine c_skip ?_ | refine c_label ?_ | refine c_ret ?_ | refine c_exit ?_ | (refine hK _ _ ?_; clear hK K) | refine seg_nil ?_) | ((with_reducible refine q_eo ?_ ?_); exact rfl)
      | ((with_reducible first | refine vO ?_ | refine c_reg fun K hK => ?_ | refine c_drw (by decide +kernel) fun K hK => ?_ | refine c_cond ?_ | refine seg_cons fun K hK => ?_ | show endW _ _ _ _ _ | refine ifb_dec (fun _ => ?_) (fun _ => ?_) | refine ifb_ieq (fun _ => ?_) (fun _ => ?_) | refine ifb_seq (fun _ => ?_) (fun _ => ?_)) <;> try simp (disch := first | (with_unfolding_all first | exact Lk.mk rfl | exact Seen.of rfl) | assumption | (fail_if_success with_reducible first | refine Seen.of ?_ | apply Sl.frame | apply Ow.frame); omega) only [go_sem, Int.reduceEq, Int.reduceLE, Int.reduceLT, Int.reduceNe, Int.reduceNeg, Int.reduceAdd, Int.reduceSub, Int.reduceMul, Int.reduceToNat, Nat.reduceLT, Nat.reduceLeDiff, Nat.reduceEqDiff, Nat.reduceAdd, Nat.reduceSub, Nat.reduceMul, reduceCtorEq, reduceIte, e0, e1, e2, c4, one4, cel4, stC_1 (Seen.of one4)]))
    refine hKK _ _ (mkC (g1 := g1) (g2 := g2) hp hO (fun x hx => ⟨o1.lt hx, t1 x hx⟩) (fun x hx => ⟨o2.lt hx, t2 x hx⟩) (by rw [AH.size_set]; omega) (by rw [AH.get_set, if_pos rfl]) (o1.frame (fun i hi => ?_) (by rw [AH.size_set]; omega)) (og4.frame (fun i hi => by rw [AH.get_set, if_neg (gp4 i hi)]) (by simp)) 3 (.inr (.inl rfl)) ?_ (fun x hx hxp hx1 hx2 => ?_))
    · have := o1.lt hi
      rw [AH.get_set, if_neg (gp1 i hi), nb4 i (by omega) (g31 i hi), AH.get_set, if_neg (gp1 i hi), nb i this (g12 i hi)]
    · rcases hg4 with h | h | ⟨j, h, hj⟩
      · exact .inl h
      · rcases hg3 with h' | h' | ⟨j, h', hj⟩
        · exact .inl (h.trans h')
        · exact .inr (.inl (h.trans h'))
        · exact .inr (.inr ⟨j, h.trans h', hj, rfl⟩)
      · exact .inr (.inr ⟨j, h, by omega, rfl⟩)
    · rw [AH.get_set, if_neg hxp, nb4 x (by omega) (fun e => by
        rcases hg3 with h' | h' | ⟨j, h', hj⟩
        · rw [h'] at e; cases e
        · exact hx2 (by rw [← h']; exact e)
        · rw [h'] at e; cases e; omega), AH.get_set, if_neg hxp, nb x hx hx2]
  · have hbt : buryT s.t id why = s.t ++ [(id, why)] := by
      unfold buryT
      rw [hln, show s.t.length + 1 - 16 = 0 by omega, List.drop_zero]
    refine vI ?_; repeat' (first
      | (with_reducible first | refine q_nn ?_ | refine q_nr ?_ | refine q_ne ?_ | refine q_en ?_ | refine q_er ?_ | refine q_es ?_ | refine q_gn ?_ | refine q_gr ?_ | refine q_ge ?_ | refine c_seq ?_ | refine c_block ?_ | refine c_scope ?_ | refine c_skip ?_ | refine c_label ?_ | refine c_ret ?_ | refine c_exit ?_ | (refine hK _ _ ?_; clear hK K) | refine seg_nil ?_) | ((with_reducible refine q_eo ?_ ?_); exact rfl)
      | ((with_reducible first | refine vO ?_ | refine c_reg fun K hK => ?_ | refine c_drw (by decide +kernel) fun K hK => ?_ | refine c_cond ?_ | refine seg_cons fun K hK => ?_ | show endW _ _ _ _ _ | refine ifb_dec (fun _ => ?_) (fun _ => ?_) | refine ifb_ieq (fun _ => ?_) (fun _ => ?_) | refine ifb_seq (fun _ => ?_) (fun _ => ?_)) <;> try simp (disch := first | (with_unfolding_all first | exact Lk.mk rfl | exact Seen.of rfl) | assumption | (fail_if_success with_reducible first | refine Seen.of ?_ | apply Sl.frame | apply Ow.frame); omega) only [go_sem, Int.reduceEq, Int.reduceLE, Int.reduceLT, Int.reduceNe, Int.reduceNeg, Int.reduceAdd, Int.reduceSub, Int.reduceMul, Int.reduceToNat, Nat.reduceLT, Nat.reduceLeDiff, Nat.reduceEqDiff, Nat.reduceAdd, Nat.reduceSub, Nat.reduceMul, reduceCtorEq, reduceIte, e0, e1, e2, c3, one3, cel3, stC_1 (Seen.of one3), hln]))
    refine hKK _ _ (mkC (g1 := g1) (g2 := g2) hp hO (fun x hx => ⟨o1.lt hx, t1 x hx⟩) (fun x hx => ⟨o2.lt hx, t2 x hx⟩) (by rw [AH.size_set]; omega) (by rw [AH.get_set, if_pos rfl]) ob (by rw [hbt]; exact og) 3 (.inr (.inl rfl)) ?_ (fun x hx hxp hx1 hx2 => by rw [AH.get_set, if_neg hxp, nb x hx hx2]))
    rcases hg3 with h | h | ⟨j, h, hj⟩
    · exact .inl h
    · exact .inr (.inl h)
    · exact .inr (.inr ⟨j, h, hj, rfl⟩)
set_option maxHeartbeats 4000000 in
theorem openI (O : Nat → Nat) (p : Nat) (s : Sh Int) (id : Int) (x : Int) (h0 : AH) (hl : ShC LI O h0 p s) (hn : s.l.length ≤ 1000) :
    callW Try.prog Try.T 20 [.ptr (some (p, 0)), .int .i64 id, .int .i64 x] h0 fun v h' => v = .int .i64 (freshE s.top id) ∧ StC LI O h0 h' p (openS s id x) := by
  refine callW_hide fun KK hKK => ?_
  have hl0 := hl
  obtain ⟨v1, v2, g1, g2, hc, hp, hO, o1, o2, t1, t2⟩ := hl0
  have qb := fun h : AH => bsR_agg (T := Try.T) (h := h) (t := 57) (e := 62) (n := 2) (cs := [.int .i64 id, .int .i64 x]) rfl rfl rfl rfl (by omega) rfl rfl
  refine callW_in (n := 30) (rs := [.tmp 6]) (m := 30) Try.func20 rfl rfl rfl rfl fun tr ht => ?_; have e0 := ht 0 _ rfl; have e1 := ht 1 _ rfl; have e2 := ht 2 _ rfl; clear ht
  repeat' (first
      | (with_reducible first | refine q_nn ?_ | refine q_nr ?_ | refine q_ne ?_ | refine q_en ?_ | refine q_er ?_ | refine q_es ?_ | refine q_gn ?_ | refine q_gr ?_ | refine q_ge ?_ | refine c_seq ?_ | refine c_block ?_ | refine c_scope ?_ | refine c_skip ?_ | refine c_label ?_ | refine c_ret ?_ | refine c_exit ?_ | (refine hK _ _ ?_; clear hK K) | refine seg_nil ?_) | ((with_reducible refine q_eo ?_ ?_); exact rfl)
      | ((with_reducible first | refine c_reg fun K hK => ?_ | refine c_drw (by decide +kernel) fun K hK => ?_ | refine c_cond ?_ | refine seg_cons fun K hK => ?_ | show endW _ _ _ _ _ | refine ifb_dec (fun _ => ?_) (fun _ => ?_) | refine ifb_ieq (fun _ => ?_) (fun _ => ?_) | refine ifb_seq (fun _ => ?_) (fun _ => ?_)) <;> try simp (disch := first | (with_unfolding_all first | exact Lk.mk rfl | exact Seen.of rfl) | assumption | (fail_if_success with_reducible first | refine Seen.of ?_ | apply Sl.frame | apply Ow.frame); omega) only [go_sem, Int.reduceEq, Int.reduceLE, Int.reduceLT, Int.reduceNe, Int.reduceNeg, Int.reduceAdd, Int.reduceSub, Int.reduceMul, Int.reduceToNat, Nat.reduceLT, Nat.reduceLeDiff, Nat.reduceEqDiff, Nat.reduceAdd, Nat.reduceSub, Nat.reduceMul, reduceCtorEq, reduceIte, e0, e1, e2]))
  refine callM_of (freshI O p s id h0 hl) ?_
  rintro v h1 ⟨rfl, rfl⟩
  unfold openS at hKK
  by_cases hf : freshE s.top id = 0
  · rw [hf] at hKK ⊢
    rw [if_pos rfl] at hKK
    refine vI ?_; repeat' (first
      | (with_reducible first | refine q_nn ?_ | refine q_nr ?_ | refine q_ne ?_ | refine q_en ?_ | refine q_er ?_ | refine q_es ?_ | refine q_gn ?_ | refine q_gr ?_ | refine q_ge ?_ | refine c_seq ?_ | refine c_block ?_ | refine c_scope ?_ | refine c_skip ?_ | refine c_label ?_ | refine c_ret ?_ | refine c_exit ?_ | (refine hK _ _ ?_; clear hK K) | refine seg_nil ?_) | ((with_reducible refine q_eo ?_ ?_); exact rfl)
      | ((with_reducible first | refine vO ?_ | refine c_reg fun K hK => ?_ | refine c_drw (by decide +kernel) fun K hK => ?_ | refine c_cond ?_ | refine seg_cons fun K hK => ?_ | show endW _ _ _ _ _ | refine ifb_dec (fun _ => ?_) (fun _ => ?_) | refine ifb_ieq (fun _ => ?_) (fun _ => ?_) | refine ifb_seq (fun _ => ?_) (fun _ => ?_)) <;> try simp (disch := first | (with_unfolding_all first | exact Lk.mk rfl | exact Seen.of rfl) | assumption | (fail_if_success with_reducible first | refine Seen.of ?_ | apply Sl.frame | apply Ow.frame); omega) only [go_sem, Int.reduceEq, Int.reduceLE, Int.reduceLT, Int.reduceNe, Int.reduceNeg, Int.reduceAdd, Int.reduceSub, Int.reduceMul, Int.reduceToNat, Nat.reduceLT, Nat.reduceLeDiff, Nat.reduceEqDiff, Nat.reduceAdd, Nat.reduceSub, Nat.reduceMul, reduceCtorEq, reduceIte, e0, e1, e2, hc, qb]))
    have gp1 : ∀ x, g1 = some x → ¬ x = p := fun x hx e => by have := t1 x hx; rw [e, hO] at this; omega
    have gp2 : ∀ x, g2 = some x → ¬ x = p := fun x hx e => by have := t2 x hx; rw [e, hO] at this; omega
    have g12 : ∀ x, g2 = some x → ¬ g1 = some x := fun x hx e => by have a := t2 x hx; have b := t1 x e; omega
    have oa := o1.frame (h' := h1.set p (.cells [v1, v2, .int .i64 id])) (fun i hi => by rw [AH.get_set, if_neg (gp1 i hi)]) (by simp)
    refine Try.al57 (E := LI) (id, x) oa.ow rfl rfl (by exact .mk) (by omega) fun z h3 i3 o3 hi3 z3 f3 => ?_
    obtain ⟨g3, og3, hg3⟩ := OwN.of (g := g1) o3 hi3 rfl
    simp only [AH.size_set] at z3 f3 hg3
    have nb : ∀ x, x < h1.size → ¬ g1 = some x → h3.get x = (h1.set p (.cells [v1, v2, .int .i64 id])).get x := fun x hx hgx => by
      refine f3 x hx ?_
      cases hg : g1 with
      | none => simp; omega
      | some y => simp only [Option.getD_some]; intro e; exact hgx (by rw [hg, e])
    have c3 : h3.get p = some (.cells [v1, v2, .int .i64 id]) := by rw [nb p hp (fun e => gp1 p e rfl), AH.get_set, if_pos rfl]
    have one3 := og3.one
    have cel3 := og3.cells
    have gp3 : ∀ x, g3 = some x → ¬ x = p := fun x hx e => by
      rcases hg3 with h | h | ⟨j, h, hj⟩
      · rw [h] at hx; cases hx
      · exact gp1 x (by rw [← h]; exact hx) e
      · rw [h] at hx; cases hx; omega
    refine vI ?_; repeat' (first
      | (with_reducible first | refine q_nn ?_ | refine q_nr ?_ | refine q_ne ?_ | refine q_en ?_ | refine q_er ?_ | refine q_es ?_ | refine q_gn ?_ | refine q_gr ?_ | refine q_ge ?_ | refine c_seq ?_ | refine c_block ?_ | refine c_scope ?_ | refine c_skip ?_ | refine c_label ?_ | refine c_ret ?_ | refine c_exit ?_ | (refine hK _ _ ?_; clear hK K) | refine seg_nil ?_) | ((with_reducible refine q_eo ?_ ?_); exact rfl)
      | ((with_reducible first | refine vO ?_ | refine c_reg fun K hK => ?_ | refine c_drw (by decide +kernel) fun K hK => ?_ | refine c_cond ?_ | refine seg_cons fun K hK => ?_ | show endW _ _ _ _ _ | refine ifb_dec (fun _ => ?_) (fun _ => ?_) | refine ifb_ieq (fun _ => ?_) (fun _ => ?_) | refine ifb_seq (fun _ => ?_) (fun _ => ?_)) <;> try simp (disch := first | (with_unfolding_all first | exact Lk.mk rfl | exact Seen.of rfl) | assumption | (fail_if_success with_reducible first | refine Seen.of ?_ | apply Sl.frame | apply Ow.frame); omega) only [go_sem, Int.reduceEq, Int.reduceLE, Int.reduceLT, Int.reduceNe, Int.reduceNeg, Int.reduceAdd, Int.reduceSub, Int.reduceMul, Int.reduceToNat, Nat.reduceLT, Nat.reduceLeDiff, Nat.reduceEqDiff, Nat.reduceAdd, Nat.reduceSub, Nat.reduceMul, reduceCtorEq, reduceIte, e0, e1, e2, c3, one3, cel3, stC_1 (Seen.of one3)]))
    refine hKK _ _ ⟨rfl, mkC (g1 := g1) (g2 := g2) hp hO (fun x hx => ⟨o1.lt hx, t1 x hx⟩) (fun x hx => ⟨o2.lt hx, t2 x hx⟩) (by rw [AH.size_set]; omega) (by rw [AH.get_set, if_pos rfl]) (og3.frame (fun i hi => by rw [AH.get_set, if_neg (gp3 i hi)]) (by simp)) (o2.frame (fun i hi => ?_) (by rw [AH.size_set]; omega)) 2 ?_ (.inr (.inl rfl)) (fun x hx hxp hx1 hx2 => by rw [AH.get_set, if_neg hxp, nb x hx hx1, AH.get_set, if_neg hxp])⟩
    · rw [AH.get_set, if_neg (gp2 i hi), nb i (o2.lt hi) (g12 i hi), AH.get_set, if_neg (gp2 i hi)]
    · rcases hg3 with h | h | ⟨j, h, hj⟩
      · exact .inl h
      · exact .inr (.inl h)
      · exact .inr (.inr ⟨j, h, hj, rfl⟩)
  · rw [if_neg hf] at hKK
    refine vI ?_; repeat' (first
      | (with_reducible first | refine q_nn ?_ | refine q_nr ?_ | refine q_ne ?_ | refine q_en ?_ | refine q_er ?_ | refine q_es ?_ | refine q_gn ?_ | refine q_gr ?_ | refine q_ge ?_ | refine c_seq ?_ | refine c_block ?_ | refine c_scope ?_ | refine c_skip ?_ | refine c_label ?_ | refine c_ret ?_ | refine c_exit ?_ | (refine hK _ _ ?_; clear hK K) | refine seg_nil ?_) | ((with_reducible refine q_eo ?_ ?_); exact rfl)
      | ((with_reducible first | refine vO ?_ | refine c_reg fun K hK => ?_ | refine c_drw (by decide +kernel) fun K hK => ?_ | refine c_cond ?_ | refine seg_cons fun K hK => ?_ | show endW _ _ _ _ _ | refine ifb_dec (fun _ => ?_) (fun _ => ?_) | refine ifb_ieq (fun _ => ?_) (fun _ => ?_) | refine ifb_seq (fun _ => ?_) (fun _ => ?_)) <;> try simp (disch := first | (with_unfolding_all first | exact Lk.mk rfl | exact Seen.of rfl) | assumption | (fail_if_success with_reducible first | refine Seen.of ?_ | apply Sl.frame | apply Ow.frame); omega) only [go_sem, Int.reduceEq, Int.reduceLE, Int.reduceLT, Int.reduceNe, Int.reduceNeg, Int.reduceAdd, Int.reduceSub, Int.reduceMul, Int.reduceToNat, Nat.reduceLT, Nat.reduceLeDiff, Nat.reduceEqDiff, Nat.reduceAdd, Nat.reduceSub, Nat.reduceMul, reduceCtorEq, reduceIte, e0, e1, e2]))
    exact hKK _ _ ⟨rfl, stKeep hl (Keeps.refl _ _)⟩
set_option maxHeartbeats 4000000 in
theorem closeI (O : Nat → Nat) (p : Nat) (s : Sh Int) (id why : Int) (h0 : AH) (n : Nat) (hl : ShC LI O h0 p s) (ok : ShOk s n) (hn : n ≤ 1000) :
    callW Try.prog Try.T 23 [.ptr (some (p, 0)), .int .i64 id, .int .i64 why] h0 fun v h' => v = .int .i64 (closeE s id why) ∧ StC LI O h0 h' p (closeS s id why) := by
  refine callW_hide fun KK hKK => ?_
  have hl0 := hl
  have hln := ok.ln
  unfold closeE closeS at hKK
  refine callW_in (n := 39) (rs := [.tmp 6]) (m := 39) Try.func23 rfl rfl rfl rfl fun tr ht => ?_; have e0 := ht 0 _ rfl; have e1 := ht 1 _ rfl; have e2 := ht 2 _ rfl; clear ht
  repeat' (first
      | (with_reducible first | refine q_nn ?_ | refine q_nr ?_ | refine q_ne ?_ | refine q_en ?_ | refine q_er ?_ | refine q_es ?_ | refine q_gn ?_ | refine q_gr ?_ | refine q_ge ?_ | refine c_seq ?_ | refine c_block ?_ | refine c_scope ?_ | refine c_skip ?_ | refine c_label ?_ | refine c_ret ?_ | refine c_exit ?_ | (refine hK _ _ ?_; clear hK K) | refine seg_nil ?_) | ((with_reducible refine q_eo ?_ ?_); exact rfl)
      | ((with_reducible first | refine c_reg fun K hK => ?_ | refine c_drw (by decide +kernel) fun K hK => ?_ | refine c_cond ?_ | refine seg_cons fun K hK => ?_ | show endW _ _ _ _ _ | refine ifb_dec (fun _ => ?_) (fun _ => ?_) | refine ifb_ieq (fun _ => ?_) (fun _ => ?_) | refine ifb_seq (fun _ => ?_) (fun _ => ?_)) <;> try simp (disch := first | (with_unfolding_all first | exact Lk.mk rfl | exact Seen.of rfl) | assumption | (fail_if_success with_reducible first | refine Seen.of ?_ | apply Sl.frame | apply Ow.frame); omega) only [go_sem, Int.reduceEq, Int.reduceLE, Int.reduceLT, Int.reduceNe, Int.reduceNeg, Int.reduceAdd, Int.reduceSub, Int.reduceMul, Int.reduceToNat, Nat.reduceLT, Nat.reduceLeDiff, Nat.reduceEqDiff, Nat.reduceAdd, Nat.reduceSub, Nat.reduceMul, reduceCtorEq, reduceIte, e0, e1, e2]))
  refine callM_of (may why h0) ?_
  rintro v h1 ⟨rfl, rfl⟩
  cases hm : mayB why with
  | false =>
    rw [hm, if_neg (by decide), if_neg (by decide)] at hKK
    refine vI ?_; repeat' (first
      | (with_reducible first | refine q_nn ?_ | refine q_nr ?_ | refine q_ne ?_ | refine q_en ?_ | refine q_er ?_ | refine q_es ?_ | refine q_gn ?_ | refine q_gr ?_ | refine q_ge ?_ | refine c_seq ?_ | refine c_block ?_ | refine c_scope ?_ | refine c_skip ?_ | refine c_label ?_ | refine c_ret ?_ | refine c_exit ?_ | (refine hK _ _ ?_; clear hK K) | refine seg_nil ?_) | ((with_reducible refine q_eo ?_ ?_); exact rfl)
      | ((with_reducible first | refine vO ?_ | refine c_reg fun K hK => ?_ | refine c_drw (by decide +kernel) fun K hK => ?_ | refine c_cond ?_ | refine seg_cons fun K hK => ?_ | show endW _ _ _ _ _ | refine ifb_dec (fun _ => ?_) (fun _ => ?_) | refine ifb_ieq (fun _ => ?_) (fun _ => ?_) | refine ifb_seq (fun _ => ?_) (fun _ => ?_)) <;> try simp (disch := first | (with_unfolding_all first | exact Lk.mk rfl | exact Seen.of rfl) | assumption | (fail_if_success with_reducible first | refine Seen.of ?_ | apply Sl.frame | apply Ow.frame); omega) only [go_sem, Int.reduceEq, Int.reduceLE, Int.reduceLT, Int.reduceNe, Int.reduceNeg, Int.reduceAdd, Int.reduceSub, Int.reduceMul, Int.reduceToNat, Nat.reduceLT, Nat.reduceLeDiff, Nat.reduceEqDiff, Nat.reduceAdd, Nat.reduceSub, Nat.reduceMul, reduceCtorEq, reduceIte, e0, e1, e2]))
    exact hKK _ _ ⟨rfl, stKeep hl (Keeps.refl _ _)⟩
  | true =>
    rw [hm, if_pos rfl, if_pos rfl] at hKK
    refine vI ?_; repeat' (first
      | (with_reducible first | refine q_nn ?_ | refine q_nr ?_ | refine q_ne ?_ | refine q_en ?_ | refine q_er ?_ | refine q_es ?_ | refine q_gn ?_ | refine q_gr ?_ | refine q_ge ?_ | refine c_seq ?_ | refine c_block ?_ | refine c_scope ?_ | refine c_skip ?_ | refine c_label ?_ | refine c_ret ?_ | refine c_exit ?_ | (refine hK _ _ ?_; clear hK K) | refine seg_nil ?_) | ((with_reducible refine q_eo ?_ ?_); exact rfl)
      | ((with_reducible first | refine vO ?_ | refine c_reg fun K hK => ?_ | refine c_drw (by decide +kernel) fun K hK => ?_ | refine c_cond ?_ | refine seg_cons fun K hK => ?_ | show endW _ _ _ _ _ | refine ifb_dec (fun _ => ?_) (fun _ => ?_) | refine ifb_ieq (fun _ => ?_) (fun _ => ?_) | refine ifb_seq (fun _ => ?_) (fun _ => ?_)) <;> try simp (disch := first | (with_unfolding_all first | exact Lk.mk rfl | exact Seen.of rfl) | assumption | (fail_if_success with_reducible first | refine Seen.of ?_ | apply Sl.frame | apply Ow.frame); omega) only [go_sem, Int.reduceEq, Int.reduceLE, Int.reduceLT, Int.reduceNe, Int.reduceNeg, Int.reduceAdd, Int.reduceSub, Int.reduceMul, Int.reduceToNat, Nat.reduceLT, Nat.reduceLeDiff, Nat.reduceEqDiff, Nat.reduceAdd, Nat.reduceSub, Nat.reduceMul, reduceCtorEq, reduceIte, e0, e1, e2]))
    refine callM_of (placeI O p s id h1 n hl ok hn) ?_
    rintro v h2 ⟨k, hk, rfl, k2⟩
    rw [hk.fpos ok.so] at hKK
    have hl2 := hl.after k2
    cases hh : hit s.l id k with
    | false =>
      rw [hh] at hKK
      refine vI ?_; repeat' (first
      | (with_reducible first | refine q_nn ?_ | refine q_nr ?_ | refine q_ne ?_ | refine q_en ?_ | refine q_er ?_ | refine q_es ?_ | refine q_gn ?_ | refine q_gr ?_ | refine q_ge ?_ | refine c_seq ?_ | refine c_block ?_ | refine c_scope ?_ | refine c_skip ?_ | refine c_label ?_ | refine c_ret ?_ | refine c_exit ?_ | (refine hK _ _ ?_; clear hK K) | refine seg_nil ?_) | ((with_reducible refine q_eo ?_ ?_); exact rfl)
      | ((with_reducible first | refine vO ?_ | refine c_reg fun K hK => ?_ | refine c_drw (by decide +kernel) fun K hK => ?_ | refine c_cond ?_ | refine seg_cons fun K hK => ?_ | show endW _ _ _ _ _ | refine ifb_dec (fun _ => ?_) (fun _ => ?_) | refine ifb_ieq (fun _ => ?_) (fun _ => ?_) | refine ifb_seq (fun _ => ?_) (fun _ => ?_)) <;> try simp (disch := first | (with_unfolding_all first | exact Lk.mk rfl | exact Seen.of rfl) | assumption | (fail_if_success with_reducible first | refine Seen.of ?_ | apply Sl.frame | apply Ow.frame); omega) only [go_sem, Int.reduceEq, Int.reduceLE, Int.reduceLT, Int.reduceNe, Int.reduceNeg, Int.reduceAdd, Int.reduceSub, Int.reduceMul, Int.reduceToNat, Nat.reduceLT, Nat.reduceLeDiff, Nat.reduceEqDiff, Nat.reduceAdd, Nat.reduceSub, Nat.reduceMul, reduceCtorEq, reduceIte, e0, e1, e2]))
      exact hKK _ _ ⟨rfl, stKeep hl k2⟩
    | true =>
      rw [hh] at hKK
      have hkl : k < s.l.length := by
        unfold hit at hh
        cases hx : s.l[k]? with
        | none => rw [hx] at hh; cases hh
        | some x => exact (List.getElem?_eq_some_iff.1 hx).1
      have hl2' := hl2
      obtain ⟨v1, v2, g1, g2, hc, hp, hO, o1, o2, t1, t2⟩ := hl2'
      have gp1 : ∀ x, g1 = some x → ¬ x = p := fun x hx e => by have := t1 x hx; rw [e, hO] at this; omega
      have gp2 : ∀ x, g2 = some x → ¬ x = p := fun x hx e => by have := t2 x hx; rw [e, hO] at this; omega
      have g12 : ∀ x, g2 = some x → ¬ g1 = some x := fun x hx e => by have a := t2 x hx; have b := t1 x e; omega
      refine vI ?_; repeat' (first
      | (with_reducible first | refine q_nn ?_ | refine q_nr ?_ | refine q_ne ?_ | refine q_en ?_ | refine q_er ?_ | refine q_es ?_ | refine q_gn ?_ | refine q_gr ?_ | refine q_ge ?_ | refine c_seq ?_ | refine c_block ?_ | refine c_scope ?_ | refine c_skip ?_ | refine c_label ?_ | refine c_ret ?_ | refine c_exit ?_ | (refine hK _ _ ?_; clear hK K) | refine seg_nil ?_) | ((with_reducible refine q_eo ?_ ?_); exact rfl)
      | ((with_reducible first | refine vO ?_ | refine c_reg fun K hK => ?_ | refine c_drw (by decide +kernel) fun K hK => ?_ | refine c_cond ?_ | refine seg_cons fun K hK => ?_ | show endW _ _ _ _ _ | refine ifb_dec (fun _ => ?_) (fun _ => ?_) | refine ifb_ieq (fun _ => ?_) (fun _ => ?_) | refine ifb_seq (fun _ => ?_) (fun _ => ?_)) <;> try simp (disch := first | (with_unfolding_all first | exact Lk.mk rfl | exact Seen.of rfl) | assumption | (fail_if_success with_reducible first | refine Seen.of ?_ | apply Sl.frame | apply Ow.frame); omega) only [go_sem, Int.reduceEq, Int.reduceLE, Int.reduceLT, Int.reduceNe, Int.reduceNeg, Int.reduceAdd, Int.reduceSub, Int.reduceMul, Int.reduceToNat, Nat.reduceLT, Nat.reduceLeDiff, Nat.reduceEqDiff, Nat.reduceAdd, Nat.reduceSub, Nat.reduceMul, reduceCtorEq, reduceIte, e0, e1, e2, hc]))
      refine callM_of (deleteI v1 _ s.l (k : Int) ((k : Int) + 1) h2 o1.ow (by omega) (by omega) (by omega) (by omega)) ?_
      rintro v h3 ⟨o3, z3, f3⟩
      have hdr : s.l.take (k : Int).toNat ++ s.l.drop ((k : Int) + 1).toNat = s.l.eraseIdx k := by
        rw [List.eraseIdx_eq_take_drop_succ]; rfl
      rw [hdr] at o3
      obtain ⟨g3, og3, hg3⟩ := OwN.of (g := g1) (b := h2.size) o3 (.inl rfl) rfl
      have nb : ∀ x, x < h2.size → ¬ g1 = some x → h3.get x = h2.get x := fun x hx hgx => by
        refine f3 x ?_
        cases hg : g1 with
        | none => simp; omega
        | some y => simp only [Option.getD_some]; intro e; exact hgx (by rw [hg, e])
      have c3 := (nb p hp (fun e => gp1 p e rfl)).trans hc
      have one3 := og3.one
      have cel3 := og3.cells
      have gp3 : ∀ x, g3 = some x → ¬ x = p := fun x hx e => by
        rcases hg3 with h | h | ⟨j, h, hj⟩
        · rw [h] at hx; cases hx
        · exact gp1 x (by rw [← h]; exact hx) e
        · rw [h] at hx; cases hx; omega
      have st : StC LI (O1 O h1) h2 (h3.set p (.cells [v, v2, .int .i64 s.top])) p { s with l := s.l.eraseIdx k } := by
        refine mkC (g1 := g1) (g2 := g2) hp hO (fun x hx => ⟨o1.lt hx, t1 x hx⟩) (fun x hx => ⟨o2.lt hx, t2 x hx⟩) (by rw [AH.size_set]; omega) (by rw [AH.get_set, if_pos rfl]) (og3.frame (fun i hi => by rw [AH.get_set, if_neg (gp3 i hi)]) (by simp)) (o2.frame (fun i hi => ?_) (by rw [AH.size_set]; omega)) 2 ?_ (.inr (.inl rfl)) (fun x hx hxp hx1 hx2 => by rw [AH.get_set, if_neg hxp, nb x hx hx1])
        · rw [AH.get_set, if_neg (gp2 i hi), nb i (o2.lt hi) (g12 i hi)]
        · rcases hg3 with h | h | ⟨j, h, hj⟩
          · exact .inl h
          · exact .inr (.inl h)
          · exact .inr (.inr ⟨j, h, hj, rfl⟩)
      refine vI ?_; repeat' (first
      | (with_reducible first | refine q_nn ?_ | refine q_nr ?_ | refine q_ne ?_ | refine q_en ?_ | refine q_er ?_ | refine q_es ?_ | refine q_gn ?_ | refine q_gr ?_ | refine q_ge ?_ | refine c_seq ?_ | refine c_block ?_ | refine c_scope ?_ | refine c_skip ?_ | refine c_label ?_ | refine c_ret ?_ | refine c_exit ?_ | (refine hK _ _ ?_; clear hK K) | refine seg_nil ?_) | ((with_reducible refine q_eo ?_ ?_); exact rfl)
      | ((with_reducible first | refine vO ?_ | refine c_reg fun K hK => ?_ | refine c_drw (by decide +kernel) fun K hK => ?_ | refine c_cond ?_ | refine seg_cons fun K hK => ?_ | show endW _ _ _ _ _ | refine ifb_dec (fun _ => ?_) (fun _ => ?_) | refine ifb_ieq (fun _ => ?_) (fun _ => ?_) | refine ifb_seq (fun _ => ?_) (fun _ => ?_)) <;> try simp (disch := first | (with_unfolding_all first | exact Lk.mk rfl | exact Seen.of rfl) | assumption | (fail_if_success with_reducible first | refine Seen.of ?_ | apply Sl.frame | apply Ow.frame); omega) only [go_sem, Int.reduceEq, Int.reduceLE, Int.reduceLT, Int.reduceNe, Int.reduceNeg, Int.reduceAdd, Int.reduceSub, Int.reduceMul, Int.reduceToNat, Nat.reduceLT, Nat.reduceLeDiff, Nat.reduceEqDiff, Nat.reduceAdd, Nat.reduceSub, Nat.reduceMul, reduceCtorEq, reduceIte, e0, e1, e2, c3, one3, cel3, stC_1 (Seen.of one3)]))
      have stz := st
      obtain ⟨zz, ff, Oz, az, lz⟩ := stz
      refine callM_of (buryI Oz p { s with l := s.l.eraseIdx k } id why _ lz ok.tl) ?_
      rintro v' h5 st5
      refine vI ?_; repeat' (first
      | (with_reducible first | refine q_nn ?_ | refine q_nr ?_ | refine q_ne ?_ | refine q_en ?_ | refine q_er ?_ | refine q_es ?_ | refine q_gn ?_ | refine q_gr ?_ | refine q_ge ?_ | refine c_seq ?_ | refine c_block ?_ | refine c_scope ?_ | refine c_skip ?_ | refine c_label ?_ | refine c_ret ?_ | refine c_exit ?_ | (refine hK _ _ ?_; clear hK K) | refine seg_nil ?_) | ((with_reducible refine q_eo ?_ ?_); exact rfl)
      | ((with_reducible first | refine vO ?_ | refine c_reg fun K hK => ?_ | refine c_drw (by decide +kernel) fun K hK => ?_ | refine c_cond ?_ | refine seg_cons fun K hK => ?_ | show endW _ _ _ _ _ | refine ifb_dec (fun _ => ?_) (fun _ => ?_) | refine ifb_ieq (fun _ => ?_) (fun _ => ?_) | refine ifb_seq (fun _ => ?_) (fun _ => ?_)) <;> try simp (disch := first | (with_unfolding_all first | exact Lk.mk rfl | exact Seen.of rfl) | assumption | (fail_if_success with_reducible first | refine Seen.of ?_ | apply Sl.frame | apply Ow.frame); omega) only [go_sem, Int.reduceEq, Int.reduceLE, Int.reduceLT, Int.reduceNe, Int.reduceNeg, Int.reduceAdd, Int.reduceSub, Int.reduceMul, Int.reduceToNat, Nat.reduceLT, Nat.reduceLeDiff, Nat.reduceEqDiff, Nat.reduceAdd, Nat.reduceSub, Nat.reduceMul, reduceCtorEq, reduceIte, e0, e1, e2]))
      refine hKK _ _ ⟨rfl, StC.after k2 ?_⟩
      obtain ⟨z5, f5, O5, a5, l5⟩ := st5
      exact ⟨by omega, fun x hx hx0 => by rw [f5 x (by omega) (by rw [az x hx]; exact hx0), ff x hx hx0], O5, fun x hx => by rw [a5 x (by omega), az x hx], l5⟩
set_option maxHeartbeats 4000000 in
theorem getI (O : Nat → Nat) (p : Nat) (s : Sh Int) (id : Int) (h0 : AH) (n : Nat) (hl : ShC LI O h0 p s) (ok : ShOk s n) (hn : n ≤ 1000) :
    callW Try.prog Try.T 25 [.ptr (some (p, 0)), .int .i64 id] h0 fun v h' => v = (match fpos s.l id with | some k => .tuple [.int .i64 (s.l[k]!).2, .bool true] | none => .tuple [.int .i64 0, .bool false]) ∧ Keeps h0.size h0 h' := by
  refine callW_hide fun KK hKK => ?_
  have hl0 := hl
  obtain ⟨v1, v2, g1, g2, hc, hp, hO, o1, o2, t1, t2⟩ := hl0
  refine callW_in (n := 29) (rs := [.tmp 4, .tmp 5]) (m := 29) Try.func25 rfl rfl rfl rfl fun tr ht => ?_; have e0 := ht 0 _ rfl; have e1 := ht 1 _ rfl; clear ht
  repeat' (first
      | (with_reducible first | refine q_nn ?_ | refine q_nr ?_ | refine q_ne ?_ | refine q_en ?_ | refine q_er ?_ | refine q_es ?_ | refine q_gn ?_ | refine q_gr ?_ | refine q_ge ?_ | refine c_seq ?_ | refine c_block ?_ | refine c_scope ?_ | refine c_skip ?_ | refine c_label ?_ | refine c_ret ?_ | refine c_exit ?_ | (refine hK _ _ ?_; clear hK K) | refine seg_nil ?_) | ((with_reducible refine q_eo ?_ ?_); exact rfl)
      | ((with_reducible first | refine c_reg fun K hK => ?_ | refine c_drw (by decide +kernel) fun K hK => ?_ | refine c_cond ?_ | refine seg_cons fun K hK => ?_ | show endW _ _ _ _ _ | refine ifb_dec (fun _ => ?_) (fun _ => ?_) | refine ifb_ieq (fun _ => ?_) (fun _ => ?_) | refine ifb_seq (fun _ => ?_) (fun _ => ?_)) <;> try simp (disch := first | (with_unfolding_all first | exact Lk.mk rfl | exact Seen.of rfl) | assumption | (fail_if_success with_reducible first | refine Seen.of ?_ | apply Sl.frame | apply Ow.frame); omega) only [go_sem, Int.reduceEq, Int.reduceLE, Int.reduceLT, Int.reduceNe, Int.reduceNeg, Int.reduceAdd, Int.reduceSub, Int.reduceMul, Int.reduceToNat, Nat.reduceLT, Nat.reduceLeDiff, Nat.reduceEqDiff, Nat.reduceAdd, Nat.reduceSub, Nat.reduceMul, reduceCtorEq, reduceIte, e0, e1]))
  refine callM_of (placeI O p s id h0 n hl ok hn) ?_
  rintro v h1 ⟨k, hk, rfl, k1⟩
  rw [hk.fpos ok.so] at hKK
  have c1 := (k1.2 p hp).trans hc
  have s1 := (o1.frame (h' := h1) (fun i hi => k1.2 i (o1.lt hi)) k1.1).sl
  cases hh : hit s.l id k with
  | false =>
    rw [hh] at hKK
    refine vI ?_; repeat' (first
      | (with_reducible first | refine q_nn ?_ | refine q_nr ?_ | refine q_ne ?_ | refine q_en ?_ | refine q_er ?_ | refine q_es ?_ | refine q_gn ?_ | refine q_gr ?_ | refine q_ge ?_ | refine c_seq ?_ | refine c_block ?_ | refine c_scope ?_ | refine c_skip ?_ | refine c_label ?_ | refine c_ret ?_ | refine c_exit ?_ | (refine hK _ _ ?_; clear hK K) | refine seg_nil ?_) | ((with_reducible refine q_eo ?_ ?_); exact rfl)
      | ((with_reducible first | refine vO ?_ | refine c_reg fun K hK => ?_ | refine c_drw (by decide +kernel) fun K hK => ?_ | refine c_cond ?_ | refine seg_cons fun K hK => ?_ | show endW _ _ _ _ _ | refine ifb_dec (fun _ => ?_) (fun _ => ?_) | refine ifb_ieq (fun _ => ?_) (fun _ => ?_) | refine ifb_seq (fun _ => ?_) (fun _ => ?_)) <;> try simp (disch := first | (with_unfolding_all first | exact Lk.mk rfl | exact Seen.of rfl) | assumption | (fail_if_success with_reducible first | refine Seen.of ?_ | apply Sl.frame | apply Ow.frame); omega) only [go_sem, Int.reduceEq, Int.reduceLE, Int.reduceLT, Int.reduceNe, Int.reduceNeg, Int.reduceAdd, Int.reduceSub, Int.reduceMul, Int.reduceToNat, Nat.reduceLT, Nat.reduceLeDiff, Nat.reduceEqDiff, Nat.reduceAdd, Nat.reduceSub, Nat.reduceMul, reduceCtorEq, reduceIte, e0, e1]))
    exact hKK _ _ ⟨rfl, k1⟩
  | true =>
    rw [hh] at hKK
    have hkl : k < s.l.length := by
      unfold hit at hh
      cases hx : s.l[k]? with
      | none => rw [hx] at hh; cases hh
      | some x => exact (List.getElem?_eq_some_iff.1 hx).1
    have ld : loadA Try.T h1 3 (v1.at LI.sz 1 (k : Int)) = some (.int .i64 (s.l[k]!).2) := s1.ld (by omega) (by omega) (by rw [Int.toNat_natCast]; rfl) (by decide) rfl rfl
    refine vI ?_; repeat' (first
      | (with_reducible first | refine q_nn ?_ | refine q_nr ?_ | refine q_ne ?_ | refine q_en ?_ | refine q_er ?_ | refine q_es ?_ | refine q_gn ?_ | refine q_gr ?_ | refine q_ge ?_ | refine c_seq ?_ | refine c_block ?_ | refine c_scope ?_ | refine c_skip ?_ | refine c_label ?_ | refine c_ret ?_ | refine c_exit ?_ | (refine hK _ _ ?_; clear hK K) | refine seg_nil ?_) | ((with_reducible refine q_eo ?_ ?_); exact rfl)
      | ((with_reducible first | refine vO ?_ | refine c_reg fun K hK => ?_ | refine c_drw (by decide +kernel) fun K hK => ?_ | refine c_cond ?_ | refine seg_cons fun K hK => ?_ | show endW _ _ _ _ _ | refine ifb_dec (fun _ => ?_) (fun _ => ?_) | refine ifb_ieq (fun _ => ?_) (fun _ => ?_) | refine ifb_seq (fun _ => ?_) (fun _ => ?_)) <;> try simp (disch := first | (with_unfolding_all first | exact Lk.mk rfl | exact Seen.of rfl) | assumption | (fail_if_success with_reducible first | refine Seen.of ?_ | apply Sl.frame | apply Ow.frame); omega) only [go_sem, Int.reduceEq, Int.reduceLE, Int.reduceLT, Int.reduceNe, Int.reduceNeg, Int.reduceAdd, Int.reduceSub, Int.reduceMul, Int.reduceToNat, Nat.reduceLT, Nat.reduceLeDiff, Nat.reduceEqDiff, Nat.reduceAdd, Nat.reduceSub, Nat.reduceMul, reduceCtorEq, reduceIte, e0, e1, c1, ld]))
    exact hKK _ _ ⟨rfl, k1⟩
theorem graveI (O : Nat → Nat) (p : Nat) (s : Sh Int) (id : Int) (h0 : AH) (hl : ShC LI O h0 p s) (ht : s.t.length ≤ 16) :
    callW Try.prog Try.T 54 [.ptr (some (p, 0)), .int .i64 id] h0 fun v h' => v = .int .i64 (match fpos s.t id with | some k => (k : Int) | none => -1) ∧ Keeps h0.size h0 h' := by
  refine callW_hide fun KK hKK => ?_
  obtain ⟨v1, v2, g1, g2, hc, hp, hO, o1, o2, t1, t2⟩ := hl
  refine callW_in (n := 11) (rs := [.tmp 4]) (m := 11) Try.func54 rfl rfl rfl rfl fun tr ht => ?_; have e0 := ht 0 _ rfl; have e1 := ht 1 _ rfl; clear ht
  repeat' (first
      | (with_reducible first | refine q_nn ?_ | refine q_nr ?_ | refine q_ne ?_ | refine q_en ?_ | refine q_er ?_ | refine q_es ?_ | refine q_gn ?_ | refine q_gr ?_ | refine q_ge ?_ | refine c_seq ?_ | refine c_block ?_ | refine c_scope ?_ | refine c_skip ?_ | refine c_label ?_ | refine c_ret ?_ | refine c_exit ?_ | (refine hK _ _ ?_; clear hK K) | refine seg_nil ?_) | ((with_reducible refine q_eo ?_ ?_); exact rfl)
      | ((with_reducible first | refine c_reg fun K hK => ?_ | refine c_drw (by decide +kernel) fun K hK => ?_ | refine c_cond ?_ | refine seg_cons fun K hK => ?_ | show endW _ _ _ _ _ | refine ifb_dec (fun _ => ?_) (fun _ => ?_) | refine ifb_ieq (fun _ => ?_) (fun _ => ?_) | refine ifb_seq (fun _ => ?_) (fun _ => ?_)) <;> try simp (disch := first | (with_unfolding_all first | exact Lk.mk rfl | exact Seen.of rfl) | assumption | (fail_if_success with_reducible first | refine Seen.of ?_ | apply Sl.frame | apply Ow.frame); omega) only [go_sem, Int.reduceEq, Int.reduceLE, Int.reduceLT, Int.reduceNe, Int.reduceNeg, Int.reduceAdd, Int.reduceSub, Int.reduceMul, Int.reduceToNat, Nat.reduceLT, Nat.reduceLeDiff, Nat.reduceEqDiff, Nat.reduceAdd, Nat.reduceSub, Nat.reduceMul, reduceCtorEq, reduceIte, e0, e1, hc]))
  refine cM_hide fun h1 hh1 => ?_
  have k1 : Keeps h0.size h0 h1 := by rw [hh1]; exact (Keeps.refl _ _).push (Nat.le_refl _) _
  have x1 : h1.get h0.size = some (.cells [.int .i64 id]) := by rw [hh1]; simp (disch := first | (with_unfolding_all first | exact Lk.mk rfl | exact Seen.of rfl) | assumption | (fail_if_success with_reducible first | refine Seen.of ?_ | apply Sl.frame | apply Ow.frame); omega) only [go_sem, Int.reduceEq, Int.reduceLE, Int.reduceLT, Int.reduceNe, Int.reduceNeg, Int.reduceAdd, Int.reduceSub, Int.reduceMul, Int.reduceToNat, Nat.reduceLT, Nat.reduceLeDiff, Nat.reduceEqDiff, Nat.reduceAdd, Nat.reduceSub, Nat.reduceMul, reduceCtorEq, reduceIte]
  have z1 : h1.size = h0.size + 1 := by rw [hh1]; simp (disch := first | (with_unfolding_all first | exact Lk.mk rfl | exact Seen.of rfl) | assumption | (fail_if_success with_reducible first | refine Seen.of ?_ | apply Sl.frame | apply Ow.frame); omega) only [go_sem, Int.reduceEq, Int.reduceLE, Int.reduceLT, Int.reduceNe, Int.reduceNeg, Int.reduceAdd, Int.reduceSub, Int.reduceMul, Int.reduceToNat, Nat.reduceLT, Nat.reduceLeDiff, Nat.reduceEqDiff, Nat.reduceAdd, Nat.reduceSub, Nat.reduceMul, reduceCtorEq, reduceIte]
  clear hh1
  have o2' := o2.frame (h' := h1) (fun i hi => k1.2 i (o2.lt hi)) k1.1
  refine callM_of (indexT v2 _ s.t id 69 [.ptr (some (h0.size, 0))] h1 o2'.sl (by omega) ?_) ?_
  · rintro h ⟨y1, y2⟩ kp
    have xx := (kp.2 h0.size (by omega)).trans x1
    have zz := kp.1
    refine callW_in (n := 8) (rs := [.tmp 3]) (m := 8) Try.func69 rfl rfl rfl rfl fun tr ht => ?_; have e0 := ht 0 _ rfl; have e1 := ht 1 _ rfl; clear ht
    rw [LIf] at e0
    by_cases e : y1 = id
    · rw [show (y1 == id) = true by simpa using e]
      repeat' (first
      | (with_reducible first | refine q_nn ?_ | refine q_nr ?_ | refine q_ne ?_ | refine q_en ?_ | refine q_er ?_ | refine q_es ?_ | refine q_gn ?_ | refine q_gr ?_ | refine q_ge ?_ | refine c_seq ?_ | refine c_block ?_ | refine c_scope ?_ | refine c_skip ?_ | refine c_label ?_ | refine c_ret ?_ | refine c_exit ?_ | (refine hK _ _ ?_; clear hK K) | refine seg_nil ?_) | ((with_reducible refine q_eo ?_ ?_); exact rfl)
      | ((with_reducible first | refine c_reg fun K hK => ?_ | refine c_drw (by decide +kernel) fun K hK => ?_ | refine c_cond ?_ | refine seg_cons fun K hK => ?_ | show endW _ _ _ _ _ | refine ifb_dec (fun _ => ?_) (fun _ => ?_) | refine ifb_ieq (fun _ => ?_) (fun _ => ?_) | refine ifb_seq (fun _ => ?_) (fun _ => ?_)) <;> try simp (disch := first | (with_unfolding_all first | exact Lk.mk rfl | exact Seen.of rfl) | assumption | (fail_if_success with_reducible first | refine Seen.of ?_ | apply Sl.frame | apply Ow.frame); omega) only [go_sem, Int.reduceEq, Int.reduceLE, Int.reduceLT, Int.reduceNe, Int.reduceNeg, Int.reduceAdd, Int.reduceSub, Int.reduceMul, Int.reduceToNat, Nat.reduceLT, Nat.reduceLeDiff, Nat.reduceEqDiff, Nat.reduceAdd, Nat.reduceSub, Nat.reduceMul, reduceCtorEq, reduceIte, e0, e1, xx]))
      exact (Keeps.refl _ _).push (Nat.le_refl _) _
    · rw [show (y1 == id) = false by simpa using e]
      repeat' (first
      | (with_reducible first | refine q_nn ?_ | refine q_nr ?_ | refine q_ne ?_ | refine q_en ?_ | refine q_er ?_ | refine q_es ?_ | refine q_gn ?_ | refine q_gr ?_ | refine q_ge ?_ | refine c_seq ?_ | refine c_block ?_ | refine c_scope ?_ | refine c_skip ?_ | refine c_label ?_ | refine c_ret ?_ | refine c_exit ?_ | (refine hK _ _ ?_; clear hK K) | refine seg_nil ?_) | ((with_reducible refine q_eo ?_ ?_); exact rfl)
      | ((with_reducible first | refine c_reg fun K hK => ?_ | refine c_drw (by decide +kernel) fun K hK => ?_ | refine c_cond ?_ | refine seg_cons fun K hK => ?_ | show endW _ _ _ _ _ | refine ifb_dec (fun _ => ?_) (fun _ => ?_) | refine ifb_ieq (fun _ => ?_) (fun _ => ?_) | refine ifb_seq (fun _ => ?_) (fun _ => ?_)) <;> try simp (disch := first | (with_unfolding_all first | exact Lk.mk rfl | exact Seen.of rfl) | assumption | (fail_if_success with_reducible first | refine Seen.of ?_ | apply Sl.frame | apply Ow.frame); omega) only [go_sem, Int.reduceEq, Int.reduceLE, Int.reduceLT, Int.reduceNe, Int.reduceNeg, Int.reduceAdd, Int.reduceSub, Int.reduceMul, Int.reduceToNat, Nat.reduceLT, Nat.reduceLeDiff, Nat.reduceEqDiff, Nat.reduceAdd, Nat.reduceSub, Nat.reduceMul, reduceCtorEq, reduceIte, e0, e1, xx]))
      exact (Keeps.refl _ _).push (Nat.le_refl _) _
  · rintro v h2 ⟨rfl, k2⟩
    refine vI ?_; repeat' (first
      | (with_reducible first | refine q_nn ?_ | refine q_nr ?_ | refine q_ne ?_ | refine q_en ?_ | refine q_er ?_ | refine q_es ?_ | refine q_gn ?_ | refine q_gr ?_ | refine q_ge ?_ | refine c_seq ?_ | refine c_block ?_ | refine c_scope ?_ | refine c_skip ?_ | refine c_label ?_ | refine c_ret ?_ | refine c_exit ?_ | (refine hK _ _ ?_; clear hK K) | refine seg_nil ?_) | ((with_reducible refine q_eo ?_ ?_); exact rfl)
      | ((with_reducible first | refine vO ?_ | refine c_reg fun K hK => ?_ | refine c_drw (by decide +kernel) fun K hK => ?_ | refine c_cond ?_ | refine seg_cons fun K hK => ?_ | show endW _ _ _ _ _ | refine ifb_dec (fun _ => ?_) (fun _ => ?_) | refine ifb_ieq (fun _ => ?_) (fun _ => ?_) | refine ifb_seq (fun _ => ?_) (fun _ => ?_)) <;> try simp (disch := first | (with_unfolding_all first | exact Lk.mk rfl | exact Seen.of rfl) | assumption | (fail_if_success with_reducible first | refine Seen.of ?_ | apply Sl.frame | apply Ow.frame); omega) only [go_sem, Int.reduceEq, Int.reduceLE, Int.reduceLT, Int.reduceNe, Int.reduceNeg, Int.reduceAdd, Int.reduceSub, Int.reduceMul, Int.reduceToNat, Nat.reduceLT, Nat.reduceLeDiff, Nat.reduceEqDiff, Nat.reduceAdd, Nat.reduceSub, Nat.reduceMul, reduceCtorEq, reduceIte, e0, e1]))
    exact hKK _ _ ⟨rfl, ⟨by have := k2.1; omega, fun b hb => (k2.2 b (by omega)).trans (k1.2 b hb)⟩⟩
end Go.Proofs.Ytedhjjjheafjeaa
