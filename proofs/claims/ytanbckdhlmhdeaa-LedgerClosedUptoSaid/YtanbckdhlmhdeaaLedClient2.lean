/- ledger: client and server, walked: the rest. -/
import Derived.Test.YtanbckdhlmhdeaaLedClient
set_option linter.unusedSimpArgs false
set_option linter.unusedVariables false
namespace Go.Proofs.Ytanbckdhlmhdeaa
open Go.Abs
set_option maxRecDepth 100000
open Classical in
theorem startR {O : Nat → Nat} {t : Nat} {h0 : AH} {b : Nat} {r : Rq} {n : Nt} (hr : RqC O t h0 b r) (hn : NtOk h0 n) :
    callW Try.prog Try.T 35 [.ptr (some (b, 0)), .agg (nC n)] h0 fun v h' => v = .bool (decide (startOk r n)) ∧ StepC O t h0 h' b (if startOk r n then { r with ask := fieldW r.ask n.fin } else r) := by
  have hr0 := hr
  obtain ⟨g1, g2, g3, g4, v1, v2, v3, v4, hc, hb, hO, o1, o2, o3, o4, t1, t2, t3, t4⟩ := hr
  obtain ⟨⟨i, sf⟩, ⟨j, sd⟩, q1, q2⟩ := hn
  refine callW_mono (start b i g1 r n v1 v2 v3 v4 h0 hc hb o1 sf sd.one q1) ?_
  rintro v h' (⟨he, rfl, k⟩ | ⟨he, rfl, k, hc'⟩)
  · have he : ¬ startOk r n := he
    rw [if_neg he]; exact ⟨by simp [he], stepKeep hr0 k⟩
  · have he : startOk r n := he
    rw [if_pos he]; exact ⟨by simp [he], stepCells hb hO o1 o2 o3 o4 t1 t2 t3 t4 k hc' rfl rfl rfl rfl⟩
open Classical in
theorem headR {O : Nat → Nat} {t : Nat} {h0 : AH} {b : Nat} {r : Rq} {n : Nt} (hr : RqC O t h0 b r) (hn : NtOk h0 n) :
    callW Try.prog Try.T 32 [.ptr (some (b, 0)), .agg (nC n)] h0 fun v h' => v = .bool (decide (headOk r n)) ∧ StepC O t h0 h' b (if headOk r n then { r with ans := fieldW r.ans n.fin } else r) := by
  have hr0 := hr
  obtain ⟨g1, g2, g3, g4, v1, v2, v3, v4, hc, hb, hO, o1, o2, o3, o4, t1, t2, t3, t4⟩ := hr
  obtain ⟨⟨i, sf⟩, ⟨j, sd⟩, q1, q2⟩ := hn
  refine callW_mono (headers b i g3 r n v1 v2 v3 v4 h0 hc hb o3 sf sd.one q1) ?_
  rintro v h' (⟨he, rfl, k⟩ | ⟨he, rfl, k, hc'⟩)
  · have he : ¬ headOk r n := he
    rw [if_neg he]; exact ⟨by simp [he], stepKeep hr0 k⟩
  · have he : headOk r n := he
    rw [if_pos he]; exact ⟨by simp [he], stepCells hb hO o1 o2 o3 o4 t1 t2 t3 t4 k hc' rfl rfl rfl rfl⟩
open Classical in
theorem ansR {O : Nat → Nat} {t : Nat} {h0 : AH} {b : Nat} {r : Rq} {n : Nt} (hr : RqC O t h0 b r) (hn : NtOk h0 n) :
    callW Try.prog Try.T 36 [.ptr (some (b, 0)), .agg (nC n)] h0 fun v h' => v = .bool (decide (r.ask.told = true ∧ r.ans.has = false)) ∧ StepC O t h0 h' b (if r.ask.told = true ∧ r.ans.has = false then { r with ans := ansW r.ans n } else r) := by
  have hr0 := hr
  obtain ⟨g1, g2, g3, g4, v1, v2, v3, v4, hc, hb, hO, o1, o2, o3, o4, t1, t2, t3, t4⟩ := hr
  obtain ⟨⟨i, sf⟩, ⟨j, sd⟩, q1, q2⟩ := hn
  have ne : ∀ (s : Nat) (g : Option Nat), 0 < s → (∀ x, g = some x → O x = t + s) → ∀ x, g = some x → ¬ x = b := fun s g hs hg x hx e => by
    have := hg x hx; rw [e, hO] at this; omega
  refine callW_mono (answers b i r n v1 v2 v3 v4 h0 hc hb sf sd.one q1) ?_
  rintro v h' (⟨he, rfl, k⟩ | ⟨he, rfl, k, z, g, hc', og, hg⟩)
  · rw [if_neg he]; exact ⟨by rw [decide_eq_false he], stepKeep hr0 k⟩
  · rw [if_pos he]
    refine ⟨by rw [decide_eq_true he], ?_⟩
    have fr : ∀ x, x < h0.size → ¬ x = b → h'.get x = h0.get x := fun x hx hxb => k.2 x hx hxb (by simp)
    exact mkStep 3 (by omega) g1 g2 g g4 v1 v2 z v4 k.1 (fun x hx hn => fr x hx (fun e => hn (by rw [e, hO]; omega))) hb hO hc' (o1.frame (fun i hi => fr i (o1.lt hi) (ne 1 g1 (by omega) t1 i hi)) k.1) (o2.frame (fun i hi => fr i (o2.lt hi) (ne 2 g2 (by omega) t2 i hi)) k.1) og (o4.frame (fun i hi => fr i (o4.lt hi) (ne 4 g4 (by omega) t4 i hi)) k.1) (fun x hx => .inl ⟨o1.lt hx, t1 x hx⟩) (fun x hx => .inl ⟨o2.lt hx, t2 x hx⟩) (fun x hx => .inr ⟨hg x hx, rfl⟩) (fun x hx => .inl ⟨o4.lt hx, t4 x hx⟩)
theorem rulesR {O : Nat → Nat} {t : Nat} {h0 : AH} {b : Nat} {r : Rq} {x : Int} (hr : RqC O t h0 b r) :
    callW Try.prog Try.T 34 [.ptr (some (b, 0)), .int .i64 x] h0 fun v h' => v = .bool (rulesB r x) ∧ StepC O t h0 h' b (if rulesB r x = true then { r with verdict := x } else r) := by
  have hr0 := hr
  obtain ⟨g1, g2, g3, g4, v1, v2, v3, v4, hc, hb, hO, o1, o2, o3, o4, t1, t2, t3, t4⟩ := hr
  refine callW_mono (rules b r v1 v2 v3 v4 x h0 hc hb) ?_
  rintro v h' (⟨he, rfl, rfl⟩ | ⟨he, rfl, rfl⟩)
  · rw [he, if_neg (by simp)]; exact ⟨rfl, stepKeep hr0 (Keeps.refl _ _)⟩
  · rw [he, if_pos rfl]
    exact ⟨rfl, stepCells hb hO o1 o2 o3 o4 t1 t2 t3 t4 ⟨by simp, fun x hx hxb _ => by rw [AH.get_set, if_neg hxb]⟩ (by rw [AH.get_set, if_pos rfl]) rfl rfl rfl rfl⟩
/-- The note's box. -/
theorem box_keep (h0 : AH) (cs : List AV) : Keeps h0.size h0 (h0.push (.cells cs)) := (Keeps.refl _ _).push (Nat.le_refl _) _
set_option maxHeartbeats 4000000 in
theorem client {O : Nat → Nat} {t : Nat} {h0 : AH} {b : Nat} {r : Rq} {n : Nt} (hr : RqC O t h0 b r) (ht : 8 ≤ t) (hw : WfR r) (hn : NtOk h0 n) :
    callW Try.prog Try.T 21 [.ptr (some (b, 0)), .agg (nC n)] h0 fun v h' => v = .bool (stepC r n).isSome ∧ StepC O t h0 h' b ((stepC r n).getD r) := by
  refine callW_hide fun KK hKK => ?_
  have hk1 := box_keep h0 (nC n)
  have hr1 := hr.after hk1
  have hn1 := hn.keep hk1
  have fin : ∀ (v : AV) (h' : AH) (o : Option Rq), stepC r n = o → v = .bool o.isSome → StepC (fun x => if x < h0.size then O x else 0) t (h0.push (.cells (nC n))) h' b (o.getD r) → KK v h' := fun v h' o e1 e2 e3 => hKK _ _ (by rw [e1]; exact ⟨e2, e3.after hk1 ht⟩)
  have keep : StepC (fun x => if x < h0.size then O x else 0) t (h0.push (.cells (nC n))) (h0.push (.cells (nC n))) b r := stepKeep hr1 (Keeps.refl _ _)
  have hn2 := hn1
  obtain ⟨⟨i, sf⟩, ⟨j, sd⟩, q1, q2⟩ := hn2
  have of := sf.one
  have od := sd.one
  have hcr : ∃ v1 v2 v3 v4, (h0.push (.cells (nC n))).get b = some (.cells (cC r v1 v2 v3 v4)) ∧ b < h0.size := by
    obtain ⟨g1, g2, g3, g4, v1, v2, v3, v4, hc, hb, _⟩ := hr
    exact ⟨v1, v2, v3, v4, (hk1.2 b hb).trans hc, hb⟩
  obtain ⟨v1, v2, v3, v4, hc, hb⟩ := hcr
  clear hKK hk1
  have hnx : (h0.push (.cells (nC n))).get h0.size = some (.cells (nC n)) := by simp (disch := first | (with_unfolding_all first | exact Lk.mk rfl | exact Seen.of rfl) | assumption | (fail_if_success with_reducible first | refine Seen.of ?_ | apply Sl.frame | apply Ow.frame); omega) only [go_sem, Int.reduceEq, Int.reduceLE, Int.reduceLT, Int.reduceNe, Int.reduceNeg, Int.reduceAdd, Int.reduceSub, Int.reduceMul, Int.reduceToNat, Nat.reduceLT, Nat.reduceLeDiff, Nat.reduceEqDiff, Nat.reduceAdd, Nat.reduceSub, Nat.reduceMul, reduceCtorEq, reduceIte]
  have hz : (h0.push (.cells (nC n))).size = h0.size + 1 := by simp (disch := first | (with_unfolding_all first | exact Lk.mk rfl | exact Seen.of rfl) | assumption | (fail_if_success with_reducible first | refine Seen.of ?_ | apply Sl.frame | apply Ow.frame); omega) only [go_sem, Int.reduceEq, Int.reduceLE, Int.reduceLT, Int.reduceNe, Int.reduceNeg, Int.reduceAdd, Int.reduceSub, Int.reduceMul, Int.reduceToNat, Nat.reduceLT, Nat.reduceLeDiff, Nat.reduceEqDiff, Nat.reduceAdd, Nat.reduceSub, Nat.reduceMul, reduceCtorEq, reduceIte]
  have hnn := hn1
  unfold cC at hc
  refine callW_in (n := 72) (rs := [.tmp 4]) (m := 72) Try.func21 rfl rfl rfl rfl fun tr ht => ?_; have e0 := ht 0 _ rfl; have e1 := ht 1 _ rfl; clear ht
  have hb1 : b < (h0.push (.cells (nC n))).size := by rw [hz]; omega
  unfold nC at e1
  refine c_seq ?_
  refine c_reg fun K hK => ?_
  simp (disch := first | (with_unfolding_all first | exact Lk.mk rfl | exact Seen.of rfl) | assumption | (fail_if_success with_reducible first | refine Seen.of ?_ | apply Sl.frame | apply Ow.frame); omega) only [go_sem, Int.reduceEq, Int.reduceLE, Int.reduceLT, Int.reduceNe, Int.reduceNeg, Int.reduceAdd, Int.reduceSub, Int.reduceMul, Int.reduceToNat, Nat.reduceLT, Nat.reduceLeDiff, Nat.reduceEqDiff, Nat.reduceAdd, Nat.reduceSub, Nat.reduceMul, reduceCtorEq, reduceIte, e0, e1, of, od]
  refine hK _ _ ?_
  clear hK K
  refine q_nn ?_
  have hfold : [AV.int .i64 n.role, .int .i64 n.kind, .int .i64 n.id, n.fv, n.dv, .bool n.fin, .int .i64 n.code, .int .i64 n.last] = nC n := rfl
  rw [hfold]
  generalize h0.push (.cells (nC n)) = h1 at *
  unfold nC at hnx
  unfold stepC at fin
  by_cases k16 : n.kind = 16
  · rw [if_pos k16] at fin
    repeat' (first
      | (with_reducible first | refine q_nn ?_ | refine q_nr ?_ | refine q_ne ?_ | refine q_en ?_ | refine q_er ?_ | refine q_es ?_ | refine q_gn ?_ | refine q_gr ?_ | refine q_ge ?_ | refine c_seq ?_ | refine c_block ?_ | refine c_scope ?_ | refine c_skip ?_ | refine c_label ?_ | refine c_ret ?_ | refine c_exit ?_ | (refine hK _ _ ?_; clear hK K) | refine seg_nil ?_) | ((with_reducible refine q_eo ?_ ?_); exact rfl)
      | ((with_reducible first | refine c_reg fun K hK => ?_ | refine c_drw (by decide +kernel) fun K hK => ?_ | refine c_cond ?_ | refine seg_cons fun K hK => ?_ | show endW _ _ _ _ _ | refine ifb_dec (fun _ => ?_) (fun _ => ?_) | refine ifb_ieq (fun _ => ?_) (fun _ => ?_) | refine ifb_seq (fun _ => ?_) (fun _ => ?_)) <;> try simp (disch := first | (with_unfolding_all first | exact Lk.mk rfl | exact Seen.of rfl) | assumption | (fail_if_success with_reducible first | refine Seen.of ?_ | apply Sl.frame | apply Ow.frame); omega) only [go_sem, Int.reduceEq, Int.reduceLE, Int.reduceLT, Int.reduceNe, Int.reduceNeg, Int.reduceAdd, Int.reduceSub, Int.reduceMul, Int.reduceToNat, Nat.reduceLT, Nat.reduceLeDiff, Nat.reduceEqDiff, Nat.reduceAdd, Nat.reduceSub, Nat.reduceMul, reduceCtorEq, reduceIte, e0, e1, hc, hnx, k16]))
    refine callM_of (giveAsk hr1 hw sd q2) ?_
    rintro v h2 ⟨rfl, st⟩
    refine vI ?_; repeat' (first
      | (with_reducible first | refine q_nn ?_ | refine q_nr ?_ | refine q_ne ?_ | refine q_en ?_ | refine q_er ?_ | refine q_es ?_ | refine q_gn ?_ | refine q_gr ?_ | refine q_ge ?_ | refine c_seq ?_ | refine c_block ?_ | refine c_scope ?_ | refine c_skip ?_ | refine c_label ?_ | refine c_ret ?_ | refine c_exit ?_ | (refine hK _ _ ?_; clear hK K) | refine seg_nil ?_) | ((with_reducible refine q_eo ?_ ?_); exact rfl)
      | ((with_reducible first | refine vO ?_ | refine c_reg fun K hK => ?_ | refine c_drw (by decide +kernel) fun K hK => ?_ | refine c_cond ?_ | refine seg_cons fun K hK => ?_ | show endW _ _ _ _ _ | refine ifb_dec (fun _ => ?_) (fun _ => ?_) | refine ifb_ieq (fun _ => ?_) (fun _ => ?_) | refine ifb_seq (fun _ => ?_) (fun _ => ?_)) <;> try simp (disch := first | (with_unfolding_all first | exact Lk.mk rfl | exact Seen.of rfl) | assumption | (fail_if_success with_reducible first | refine Seen.of ?_ | apply Sl.frame | apply Ow.frame); omega) only [go_sem, Int.reduceEq, Int.reduceLE, Int.reduceLT, Int.reduceNe, Int.reduceNeg, Int.reduceAdd, Int.reduceSub, Int.reduceMul, Int.reduceToNat, Nat.reduceLT, Nat.reduceLeDiff, Nat.reduceEqDiff, Nat.reduceAdd, Nat.reduceSub, Nat.reduceMul, reduceCtorEq, reduceIte, e0, e1, hnx]))
    cases he : r.ask.ended with
    | false => exact fin _ h2 (some _) (if_pos he) rfl (by rw [if_pos he] at st; exact st)
    | true => exact fin _ h2 none (if_neg (by simp [he])) rfl (by rw [if_neg (by simp [he])] at st; exact st)
  · rw [if_neg k16] at fin
    by_cases k2 : n.kind = 2
    · rw [if_pos k2] at fin
      repeat' (first
      | (with_reducible first | refine q_nn ?_ | refine q_nr ?_ | refine q_ne ?_ | refine q_en ?_ | refine q_er ?_ | refine q_es ?_ | refine q_gn ?_ | refine q_gr ?_ | refine q_ge ?_ | refine c_seq ?_ | refine c_block ?_ | refine c_scope ?_ | refine c_skip ?_ | refine c_label ?_ | refine c_ret ?_ | refine c_exit ?_ | (refine hK _ _ ?_; clear hK K) | refine seg_nil ?_) | ((with_reducible refine q_eo ?_ ?_); exact rfl)
      | ((with_reducible first | refine c_reg fun K hK => ?_ | refine c_drw (by decide +kernel) fun K hK => ?_ | refine c_cond ?_ | refine seg_cons fun K hK => ?_ | show endW _ _ _ _ _ | refine ifb_dec (fun _ => ?_) (fun _ => ?_) | refine ifb_ieq (fun _ => ?_) (fun _ => ?_) | refine ifb_seq (fun _ => ?_) (fun _ => ?_)) <;> try simp (disch := first | (with_unfolding_all first | exact Lk.mk rfl | exact Seen.of rfl) | assumption | (fail_if_success with_reducible first | refine Seen.of ?_ | apply Sl.frame | apply Ow.frame); omega) only [go_sem, Int.reduceEq, Int.reduceLE, Int.reduceLT, Int.reduceNe, Int.reduceNeg, Int.reduceAdd, Int.reduceSub, Int.reduceMul, Int.reduceToNat, Nat.reduceLT, Nat.reduceLeDiff, Nat.reduceEqDiff, Nat.reduceAdd, Nat.reduceSub, Nat.reduceMul, reduceCtorEq, reduceIte, e0, e1, hc, hnx, k2]))
      rw [← k2]
      refine callM_of (headR hr1 hn1) ?_
      rintro v h2 ⟨rfl, st⟩
      refine vI ?_; repeat' (first
      | (with_reducible first | refine q_nn ?_ | refine q_nr ?_ | refine q_ne ?_ | refine q_en ?_ | refine q_er ?_ | refine q_es ?_ | refine q_gn ?_ | refine q_gr ?_ | refine q_ge ?_ | refine c_seq ?_ | refine c_block ?_ | refine c_scope ?_ | refine c_skip ?_ | refine c_label ?_ | refine c_ret ?_ | refine c_exit ?_ | (refine hK _ _ ?_; clear hK K) | refine seg_nil ?_) | ((with_reducible refine q_eo ?_ ?_); exact rfl)
      | ((with_reducible first | refine vO ?_ | refine c_reg fun K hK => ?_ | refine c_drw (by decide +kernel) fun K hK => ?_ | refine c_cond ?_ | refine seg_cons fun K hK => ?_ | show endW _ _ _ _ _ | refine ifb_dec (fun _ => ?_) (fun _ => ?_) | refine ifb_ieq (fun _ => ?_) (fun _ => ?_) | refine ifb_seq (fun _ => ?_) (fun _ => ?_)) <;> try simp (disch := first | (with_unfolding_all first | exact Lk.mk rfl | exact Seen.of rfl) | assumption | (fail_if_success with_reducible first | refine Seen.of ?_ | apply Sl.frame | apply Ow.frame); omega) only [go_sem, Int.reduceEq, Int.reduceLE, Int.reduceLT, Int.reduceNe, Int.reduceNeg, Int.reduceAdd, Int.reduceSub, Int.reduceMul, Int.reduceToNat, Nat.reduceLT, Nat.reduceLeDiff, Nat.reduceEqDiff, Nat.reduceAdd, Nat.reduceSub, Nat.reduceMul, reduceCtorEq, reduceIte, e0, e1, hnx]))
      by_cases he : headOk r n
      · rw [if_pos he] at st
        exact fin _ h2 (some _) (if_pos he) (by simp [he]) st
      · rw [if_neg he] at st
        exact fin _ h2 none (if_neg he) (by simp [he]) st
    · rw [if_neg k2] at fin
      by_cases k4 : n.kind = 4
      · rw [if_pos k4] at fin
        cases hto : r.ans.told with
        | false =>
          repeat' (first
      | (with_reducible first | refine q_nn ?_ | refine q_nr ?_ | refine q_ne ?_ | refine q_en ?_ | refine q_er ?_ | refine q_es ?_ | refine q_gn ?_ | refine q_gr ?_ | refine q_ge ?_ | refine c_seq ?_ | refine c_block ?_ | refine c_scope ?_ | refine c_skip ?_ | refine c_label ?_ | refine c_ret ?_ | refine c_exit ?_ | (refine hK _ _ ?_; clear hK K) | refine seg_nil ?_) | ((with_reducible refine q_eo ?_ ?_); exact rfl)
      | ((with_reducible first | refine c_reg fun K hK => ?_ | refine c_drw (by decide +kernel) fun K hK => ?_ | refine c_cond ?_ | refine seg_cons fun K hK => ?_ | show endW _ _ _ _ _ | refine ifb_dec (fun _ => ?_) (fun _ => ?_) | refine ifb_ieq (fun _ => ?_) (fun _ => ?_) | refine ifb_seq (fun _ => ?_) (fun _ => ?_)) <;> try simp (disch := first | (with_unfolding_all first | exact Lk.mk rfl | exact Seen.of rfl) | assumption | (fail_if_success with_reducible first | refine Seen.of ?_ | apply Sl.frame | apply Ow.frame); omega) only [go_sem, Int.reduceEq, Int.reduceLE, Int.reduceLT, Int.reduceNe, Int.reduceNeg, Int.reduceAdd, Int.reduceSub, Int.reduceMul, Int.reduceToNat, Nat.reduceLT, Nat.reduceLeDiff, Nat.reduceEqDiff, Nat.reduceAdd, Nat.reduceSub, Nat.reduceMul, reduceCtorEq, reduceIte, e0, e1, hc, hnx, k4, hto]))
          exact fin _ h1 none (if_neg (by simp [hto])) rfl keep
        | true =>
          repeat' (first
      | (with_reducible first | refine q_nn ?_ | refine q_nr ?_ | refine q_ne ?_ | refine q_en ?_ | refine q_er ?_ | refine q_es ?_ | refine q_gn ?_ | refine q_gr ?_ | refine q_ge ?_ | refine c_seq ?_ | refine c_block ?_ | refine c_scope ?_ | refine c_skip ?_ | refine c_label ?_ | refine c_ret ?_ | refine c_exit ?_ | (refine hK _ _ ?_; clear hK K) | refine seg_nil ?_) | ((with_reducible refine q_eo ?_ ?_); exact rfl)
      | ((with_reducible first | refine c_reg fun K hK => ?_ | refine c_drw (by decide +kernel) fun K hK => ?_ | refine c_cond ?_ | refine seg_cons fun K hK => ?_ | show endW _ _ _ _ _ | refine ifb_dec (fun _ => ?_) (fun _ => ?_) | refine ifb_ieq (fun _ => ?_) (fun _ => ?_) | refine ifb_seq (fun _ => ?_) (fun _ => ?_)) <;> try simp (disch := first | (with_unfolding_all first | exact Lk.mk rfl | exact Seen.of rfl) | assumption | (fail_if_success with_reducible first | refine Seen.of ?_ | apply Sl.frame | apply Ow.frame); omega) only [go_sem, Int.reduceEq, Int.reduceLE, Int.reduceLT, Int.reduceNe, Int.reduceNeg, Int.reduceAdd, Int.reduceSub, Int.reduceMul, Int.reduceToNat, Nat.reduceLT, Nat.reduceLeDiff, Nat.reduceEqDiff, Nat.reduceAdd, Nat.reduceSub, Nat.reduceMul, reduceCtorEq, reduceIte, e0, e1, hc, hnx, k4, hto]))
          refine callM_of (dataAns hr1 hw sd) ?_
          rintro v h2 ⟨rfl, st⟩
          refine vI ?_; repeat' (first
      | (with_reducible first | refine q_nn ?_ | refine q_nr ?_ | refine q_ne ?_ | refine q_en ?_ | refine q_er ?_ | refine q_es ?_ | refine q_gn ?_ | refine q_gr ?_ | refine q_ge ?_ | refine c_seq ?_ | refine c_block ?_ | refine c_scope ?_ | refine c_skip ?_ | refine c_label ?_ | refine c_ret ?_ | refine c_exit ?_ | (refine hK _ _ ?_; clear hK K) | refine seg_nil ?_) | ((with_reducible refine q_eo ?_ ?_); exact rfl)
      | ((with_reducible first | refine vO ?_ | refine c_reg fun K hK => ?_ | refine c_drw (by decide +kernel) fun K hK => ?_ | refine c_cond ?_ | refine seg_cons fun K hK => ?_ | show endW _ _ _ _ _ | refine ifb_dec (fun _ => ?_) (fun _ => ?_) | refine ifb_ieq (fun _ => ?_) (fun _ => ?_) | refine ifb_seq (fun _ => ?_) (fun _ => ?_)) <;> try simp (disch := first | (with_unfolding_all first | exact Lk.mk rfl | exact Seen.of rfl) | assumption | (fail_if_success with_reducible first | refine Seen.of ?_ | apply Sl.frame | apply Ow.frame); omega) only [go_sem, Int.reduceEq, Int.reduceLE, Int.reduceLT, Int.reduceNe, Int.reduceNeg, Int.reduceAdd, Int.reduceSub, Int.reduceMul, Int.reduceToNat, Nat.reduceLT, Nat.reduceLeDiff, Nat.reduceEqDiff, Nat.reduceAdd, Nat.reduceSub, Nat.reduceMul, reduceCtorEq, reduceIte, e0, e1, hnx]))
          by_cases he : dataOk r.ans n.data n.fin
          · rw [if_pos he] at st
            exact fin _ h2 (some _) (if_pos ⟨hto, he⟩) (by simp [he]) st
          · rw [if_neg he] at st
            exact fin _ h2 none (if_neg (fun h => he h.2)) (by simp [he]) st
      · rw [if_neg k4] at fin
        by_cases k13 : n.kind = 13
        · rw [if_pos k13] at fin
          by_cases c0 : 0 ≤ n.code
          · by_cases c6 : n.code ≤ 6
            · repeat' (first
      | (with_reducible first | refine q_nn ?_ | refine q_nr ?_ | refine q_ne ?_ | refine q_en ?_ | refine q_er ?_ | refine q_es ?_ | refine q_gn ?_ | refine q_gr ?_ | refine q_ge ?_ | refine c_seq ?_ | refine c_block ?_ | refine c_scope ?_ | refine c_skip ?_ | refine c_label ?_ | refine c_ret ?_ | refine c_exit ?_ | (refine hK _ _ ?_; clear hK K) | refine seg_nil ?_) | ((with_reducible refine q_eo ?_ ?_); exact rfl)
      | ((with_reducible first | refine c_reg fun K hK => ?_ | refine c_drw (by decide +kernel) fun K hK => ?_ | refine c_cond ?_ | refine seg_cons fun K hK => ?_ | show endW _ _ _ _ _ | refine ifb_dec (fun _ => ?_) (fun _ => ?_) | refine ifb_ieq (fun _ => ?_) (fun _ => ?_) | refine ifb_seq (fun _ => ?_) (fun _ => ?_)) <;> try simp (disch := first | (with_unfolding_all first | exact Lk.mk rfl | exact Seen.of rfl) | assumption | (fail_if_success with_reducible first | refine Seen.of ?_ | apply Sl.frame | apply Ow.frame); omega) only [go_sem, Int.reduceEq, Int.reduceLE, Int.reduceLT, Int.reduceNe, Int.reduceNeg, Int.reduceAdd, Int.reduceSub, Int.reduceMul, Int.reduceToNat, Nat.reduceLT, Nat.reduceLeDiff, Nat.reduceEqDiff, Nat.reduceAdd, Nat.reduceSub, Nat.reduceMul, reduceCtorEq, reduceIte, e0, e1, hc, hnx, k13]))
              refine callM_of (rulesR hr1) ?_
              rintro v h2 ⟨rfl, st⟩
              refine vI ?_; repeat' (first
      | (with_reducible first | refine q_nn ?_ | refine q_nr ?_ | refine q_ne ?_ | refine q_en ?_ | refine q_er ?_ | refine q_es ?_ | refine q_gn ?_ | refine q_gr ?_ | refine q_ge ?_ | refine c_seq ?_ | refine c_block ?_ | refine c_scope ?_ | refine c_skip ?_ | refine c_label ?_ | refine c_ret ?_ | refine c_exit ?_ | (refine hK _ _ ?_; clear hK K) | refine seg_nil ?_) | ((with_reducible refine q_eo ?_ ?_); exact rfl)
      | ((with_reducible first | refine vO ?_ | refine c_reg fun K hK => ?_ | refine c_drw (by decide +kernel) fun K hK => ?_ | refine c_cond ?_ | refine seg_cons fun K hK => ?_ | show endW _ _ _ _ _ | refine ifb_dec (fun _ => ?_) (fun _ => ?_) | refine ifb_ieq (fun _ => ?_) (fun _ => ?_) | refine ifb_seq (fun _ => ?_) (fun _ => ?_)) <;> try simp (disch := first | (with_unfolding_all first | exact Lk.mk rfl | exact Seen.of rfl) | assumption | (fail_if_success with_reducible first | refine Seen.of ?_ | apply Sl.frame | apply Ow.frame); omega) only [go_sem, Int.reduceEq, Int.reduceLE, Int.reduceLT, Int.reduceNe, Int.reduceNeg, Int.reduceAdd, Int.reduceSub, Int.reduceMul, Int.reduceToNat, Nat.reduceLT, Nat.reduceLeDiff, Nat.reduceEqDiff, Nat.reduceAdd, Nat.reduceSub, Nat.reduceMul, reduceCtorEq, reduceIte, e0, e1, hnx]))
              by_cases he : rulesB r n.code = true
              · rw [if_pos he] at st
                exact fin _ h2 (some _) (if_pos ⟨c0, c6, he⟩) (by rw [he]; rfl) st
              · rw [if_neg he] at st
                exact fin _ h2 none (if_neg (fun h => he h.2.2)) (by simp at he; rw [he]; rfl) st
            · repeat' (first
      | (with_reducible first | refine q_nn ?_ | refine q_nr ?_ | refine q_ne ?_ | refine q_en ?_ | refine q_er ?_ | refine q_es ?_ | refine q_gn ?_ | refine q_gr ?_ | refine q_ge ?_ | refine c_seq ?_ | refine c_block ?_ | refine c_scope ?_ | refine c_skip ?_ | refine c_label ?_ | refine c_ret ?_ | refine c_exit ?_ | (refine hK _ _ ?_; clear hK K) | refine seg_nil ?_) | ((with_reducible refine q_eo ?_ ?_); exact rfl)
      | ((with_reducible first | refine c_reg fun K hK => ?_ | refine c_drw (by decide +kernel) fun K hK => ?_ | refine c_cond ?_ | refine seg_cons fun K hK => ?_ | show endW _ _ _ _ _ | refine ifb_dec (fun _ => ?_) (fun _ => ?_) | refine ifb_ieq (fun _ => ?_) (fun _ => ?_) | refine ifb_seq (fun _ => ?_) (fun _ => ?_)) <;> try simp (disch := first | (with_unfolding_all first | exact Lk.mk rfl | exact Seen.of rfl) | assumption | (fail_if_success with_reducible first | refine Seen.of ?_ | apply Sl.frame | apply Ow.frame); omega) only [go_sem, Int.reduceEq, Int.reduceLE, Int.reduceLT, Int.reduceNe, Int.reduceNeg, Int.reduceAdd, Int.reduceSub, Int.reduceMul, Int.reduceToNat, Nat.reduceLT, Nat.reduceLeDiff, Nat.reduceEqDiff, Nat.reduceAdd, Nat.reduceSub, Nat.reduceMul, reduceCtorEq, reduceIte, e0, e1, hc, hnx, k13]))
              exact fin _ h1 none (if_neg (fun h => c6 h.2.1)) rfl keep
          · repeat' (first
      | (with_reducible first | refine q_nn ?_ | refine q_nr ?_ | refine q_ne ?_ | refine q_en ?_ | refine q_er ?_ | refine q_es ?_ | refine q_gn ?_ | refine q_gr ?_ | refine q_ge ?_ | refine c_seq ?_ | refine c_block ?_ | refine c_scope ?_ | refine c_skip ?_ | refine c_label ?_ | refine c_ret ?_ | refine c_exit ?_ | (refine hK _ _ ?_; clear hK K) | refine seg_nil ?_) | ((with_reducible refine q_eo ?_ ?_); exact rfl)
      | ((with_reducible first | refine c_reg fun K hK => ?_ | refine c_drw (by decide +kernel) fun K hK => ?_ | refine c_cond ?_ | refine seg_cons fun K hK => ?_ | show endW _ _ _ _ _ | refine ifb_dec (fun _ => ?_) (fun _ => ?_) | refine ifb_ieq (fun _ => ?_) (fun _ => ?_) | refine ifb_seq (fun _ => ?_) (fun _ => ?_)) <;> try simp (disch := first | (with_unfolding_all first | exact Lk.mk rfl | exact Seen.of rfl) | assumption | (fail_if_success with_reducible first | refine Seen.of ?_ | apply Sl.frame | apply Ow.frame); omega) only [go_sem, Int.reduceEq, Int.reduceLE, Int.reduceLT, Int.reduceNe, Int.reduceNeg, Int.reduceAdd, Int.reduceSub, Int.reduceMul, Int.reduceToNat, Nat.reduceLT, Nat.reduceLeDiff, Nat.reduceEqDiff, Nat.reduceAdd, Nat.reduceSub, Nat.reduceMul, reduceCtorEq, reduceIte, e0, e1, hc, hnx, k13]))
            exact fin _ h1 none (if_neg (fun h => c0 h.1)) rfl keep
        · rw [if_neg k13] at fin
          by_cases k5 : n.kind = 5
          · repeat' (first
      | (with_reducible first | refine q_nn ?_ | refine q_nr ?_ | refine q_ne ?_ | refine q_en ?_ | refine q_er ?_ | refine q_es ?_ | refine q_gn ?_ | refine q_gr ?_ | refine q_ge ?_ | refine c_seq ?_ | refine c_block ?_ | refine c_scope ?_ | refine c_skip ?_ | refine c_label ?_ | refine c_ret ?_ | refine c_exit ?_ | (refine hK _ _ ?_; clear hK K) | refine seg_nil ?_) | ((with_reducible refine q_eo ?_ ?_); exact rfl)
      | ((with_reducible first | refine c_reg fun K hK => ?_ | refine c_drw (by decide +kernel) fun K hK => ?_ | refine c_cond ?_ | refine seg_cons fun K hK => ?_ | show endW _ _ _ _ _ | refine ifb_dec (fun _ => ?_) (fun _ => ?_) | refine ifb_ieq (fun _ => ?_) (fun _ => ?_) | refine ifb_seq (fun _ => ?_) (fun _ => ?_)) <;> try simp (disch := first | (with_unfolding_all first | exact Lk.mk rfl | exact Seen.of rfl) | assumption | (fail_if_success with_reducible first | refine Seen.of ?_ | apply Sl.frame | apply Ow.frame); omega) only [go_sem, Int.reduceEq, Int.reduceLE, Int.reduceLT, Int.reduceNe, Int.reduceNeg, Int.reduceAdd, Int.reduceSub, Int.reduceMul, Int.reduceToNat, Nat.reduceLT, Nat.reduceLeDiff, Nat.reduceEqDiff, Nat.reduceAdd, Nat.reduceSub, Nat.reduceMul, reduceCtorEq, reduceIte, e0, e1, hc, hnx, k5]))
            exact fin _ h1 (some r) (if_pos (.inl k5)) rfl keep
          · by_cases k6 : n.kind = 6
            · repeat' (first
      | (with_reducible first | refine q_nn ?_ | refine q_nr ?_ | refine q_ne ?_ | refine q_en ?_ | refine q_er ?_ | refine q_es ?_ | refine q_gn ?_ | refine q_gr ?_ | refine q_ge ?_ | refine c_seq ?_ | refine c_block ?_ | refine c_scope ?_ | refine c_skip ?_ | refine c_label ?_ | refine c_ret ?_ | refine c_exit ?_ | (refine hK _ _ ?_; clear hK K) | refine seg_nil ?_) | ((with_reducible refine q_eo ?_ ?_); exact rfl)
      | ((with_reducible first | refine c_reg fun K hK => ?_ | refine c_drw (by decide +kernel) fun K hK => ?_ | refine c_cond ?_ | refine seg_cons fun K hK => ?_ | show endW _ _ _ _ _ | refine ifb_dec (fun _ => ?_) (fun _ => ?_) | refine ifb_ieq (fun _ => ?_) (fun _ => ?_) | refine ifb_seq (fun _ => ?_) (fun _ => ?_)) <;> try simp (disch := first | (with_unfolding_all first | exact Lk.mk rfl | exact Seen.of rfl) | assumption | (fail_if_success with_reducible first | refine Seen.of ?_ | apply Sl.frame | apply Ow.frame); omega) only [go_sem, Int.reduceEq, Int.reduceLE, Int.reduceLT, Int.reduceNe, Int.reduceNeg, Int.reduceAdd, Int.reduceSub, Int.reduceMul, Int.reduceToNat, Nat.reduceLT, Nat.reduceLeDiff, Nat.reduceEqDiff, Nat.reduceAdd, Nat.reduceSub, Nat.reduceMul, reduceCtorEq, reduceIte, e0, e1, hc, hnx, k6]))
              exact fin _ h1 (some r) (if_pos (.inr k6)) rfl keep
            · repeat' (first
      | (with_reducible first | refine q_nn ?_ | refine q_nr ?_ | refine q_ne ?_ | refine q_en ?_ | refine q_er ?_ | refine q_es ?_ | refine q_gn ?_ | refine q_gr ?_ | refine q_ge ?_ | refine c_seq ?_ | refine c_block ?_ | refine c_scope ?_ | refine c_skip ?_ | refine c_label ?_ | refine c_ret ?_ | refine c_exit ?_ | (refine hK _ _ ?_; clear hK K) | refine seg_nil ?_) | ((with_reducible refine q_eo ?_ ?_); exact rfl)
      | ((with_reducible first | refine c_reg fun K hK => ?_ | refine c_drw (by decide +kernel) fun K hK => ?_ | refine c_cond ?_ | refine seg_cons fun K hK => ?_ | show endW _ _ _ _ _ | refine ifb_dec (fun _ => ?_) (fun _ => ?_) | refine ifb_ieq (fun _ => ?_) (fun _ => ?_) | refine ifb_seq (fun _ => ?_) (fun _ => ?_)) <;> try simp (disch := first | (with_unfolding_all first | exact Lk.mk rfl | exact Seen.of rfl) | assumption | (fail_if_success with_reducible first | refine Seen.of ?_ | apply Sl.frame | apply Ow.frame); omega) only [go_sem, Int.reduceEq, Int.reduceLE, Int.reduceLT, Int.reduceNe, Int.reduceNeg, Int.reduceAdd, Int.reduceSub, Int.reduceMul, Int.reduceToNat, Nat.reduceLT, Nat.reduceLeDiff, Nat.reduceEqDiff, Nat.reduceAdd, Nat.reduceSub, Nat.reduceMul, reduceCtorEq, reduceIte, e0, e1, hc, hnx]))
              exact fin _ h1 none (if_neg (fun h => h.elim k5 k6)) rfl keep
end Go.Proofs.Ytanbckdhlmhdeaa
