/- ledger: the reference: what it does to one line, as requests in memory; hand. -/
import Derived.Test.YtanbckdhlmhdeaaLedRef4
set_option linter.unusedSimpArgs false
set_option linter.unusedVariables false
namespace Go.Proofs.Ytanbckdhlmhdeaa
open Go.Abs
set_option maxRecDepth 100000
open Classical in
theorem rGiveAsk {O : Nat → Nat} {t : Nat} {h0 : AH} {b : Nat} {r : Rq} {n : Nt} (hr : RqR O t h0 b r) (hw : WfR r) (hn : NtOk h0 n) :
    callW Try.prog Try.T 39 [.ptr (some (b, 1)), .agg (eC n)] h0 fun v h' => v = .bool (decide (r.ask.has = true ∧ r.ask.ended = false)) ∧ StepR O t h0 h' b (if r.ask.has = true ∧ r.ask.ended = false then { r with ask := giveW r.ask n.data n.fin } else r) := by
  have hr0 := hr
  obtain ⟨g1, g2, g3, g4, v1, v2, v3, v4, hc, hb, hO, o1, o2, o3, o4, t1, t2, t3, t4⟩ := hr
  obtain ⟨_, _, _, w1, w2, _⟩ := hw
  obtain ⟨⟨i, sf⟩, ⟨j, sd⟩, q1, q2⟩ := hn
  have ne : ∀ (s : Nat) (g : Option Nat), 0 < s → (∀ x, g = some x → O x = t + s) → ∀ x, g = some x → ¬ x = b := fun s g hs hg x hx e => by
    have := hg x hx; rw [e, hO] at this; omega
  refine callW_mono (rgiveask b j g2 r n v1 v2 v3 v4 h0 hc hb o2 (fun h => ne 2 g2 (by omega) t2 b h rfl) sd sf.one (by omega)) ?_
  rintro v h' (⟨he, rfl, k⟩ | ⟨he, rfl, k, z, g', hc', on, hg'⟩)
  · rw [if_neg he]; exact ⟨by rw [decide_eq_false he], stepKeepR hr0 k⟩
  · rw [if_pos he]
    refine ⟨by rw [decide_eq_true he], ?_⟩
    have fr : ∀ x, x < h0.size → ¬ x = b → ¬ O x = t + 2 → h'.get x = h0.get x := fun x hx hxb hx2 => k.2 x hx hxb (fun e => hx2 (t2 x e))
    refine mkStepR 2 (by omega) g1 g' g3 g4 v1 z v3 v4 k.1 (fun x hx hn => fr x hx (fun e => hn (by rw [e, hO]; omega)) (fun e => hn (by omega))) hb hO hc' (o1.frame (fun i hi => fr i (o1.lt hi) (ne 1 g1 (by omega) t1 i hi) (by rw [t1 i hi]; omega)) k.1) on (o3.frame (fun i hi => fr i (o3.lt hi) (ne 3 g3 (by omega) t3 i hi) (by rw [t3 i hi]; omega)) k.1) (o4.frame (fun i hi => fr i (o4.lt hi) (ne 4 g4 (by omega) t4 i hi) (by rw [t4 i hi]; omega)) k.1) (fun x hx => .inl ⟨o1.lt hx, t1 x hx⟩) ?_ (fun x hx => .inl ⟨o3.lt hx, t3 x hx⟩) (fun x hx => .inl ⟨o4.lt hx, t4 x hx⟩)
    intro x hx
    rcases hg' with h | h | ⟨i, h, hi⟩
    · rw [h] at hx; cases hx
    · rw [h] at hx; exact .inl ⟨o2.lt hx, t2 x hx⟩
    · rw [h] at hx; cases hx; exact .inr ⟨hi, rfl⟩
open Classical in
theorem rGiveAns {O : Nat → Nat} {t : Nat} {h0 : AH} {b : Nat} {r : Rq} {n : Nt} (hr : RqR O t h0 b r) (hw : WfR r) (hn : NtOk h0 n) :
    callW Try.prog Try.T 39 [.ptr (some (b, 9)), .agg (eC n)] h0 fun v h' => v = .bool (decide (r.ans.has = true ∧ r.ans.ended = false)) ∧ StepR O t h0 h' b (if r.ans.has = true ∧ r.ans.ended = false then { r with ans := giveW r.ans n.data n.fin } else r) := by
  have hr0 := hr
  obtain ⟨g1, g2, g3, g4, v1, v2, v3, v4, hc, hb, hO, o1, o2, o3, o4, t1, t2, t3, t4⟩ := hr
  obtain ⟨_, _, _, w1, w2, _⟩ := hw
  obtain ⟨⟨i, sf⟩, ⟨j, sd⟩, q1, q2⟩ := hn
  have ne : ∀ (s : Nat) (g : Option Nat), 0 < s → (∀ x, g = some x → O x = t + s) → ∀ x, g = some x → ¬ x = b := fun s g hs hg x hx e => by
    have := hg x hx; rw [e, hO] at this; omega
  refine callW_mono (rgiveans b j g4 r n v1 v2 v3 v4 h0 hc hb o4 (fun h => ne 4 g4 (by omega) t4 b h rfl) sd sf.one (by omega)) ?_
  rintro v h' (⟨he, rfl, k⟩ | ⟨he, rfl, k, z, g', hc', on, hg'⟩)
  · rw [if_neg he]; exact ⟨by rw [decide_eq_false he], stepKeepR hr0 k⟩
  · rw [if_pos he]
    refine ⟨by rw [decide_eq_true he], ?_⟩
    have fr : ∀ x, x < h0.size → ¬ x = b → ¬ O x = t + 4 → h'.get x = h0.get x := fun x hx hxb hx2 => k.2 x hx hxb (fun e => hx2 (t4 x e))
    refine mkStepR 4 (by omega) g1 g2 g3 g' v1 v2 v3 z k.1 (fun x hx hn => fr x hx (fun e => hn (by rw [e, hO]; omega)) (fun e => hn (by omega))) hb hO hc' (o1.frame (fun i hi => fr i (o1.lt hi) (ne 1 g1 (by omega) t1 i hi) (by rw [t1 i hi]; omega)) k.1) (o2.frame (fun i hi => fr i (o2.lt hi) (ne 2 g2 (by omega) t2 i hi) (by rw [t2 i hi]; omega)) k.1) (o3.frame (fun i hi => fr i (o3.lt hi) (ne 3 g3 (by omega) t3 i hi) (by rw [t3 i hi]; omega)) k.1) on (fun x hx => .inl ⟨o1.lt hx, t1 x hx⟩) (fun x hx => .inl ⟨o2.lt hx, t2 x hx⟩) (fun x hx => .inl ⟨o3.lt hx, t3 x hx⟩) ?_
    intro x hx
    rcases hg' with h | h | ⟨i, h, hi⟩
    · rw [h] at hx; cases hx
    · rw [h] at hx; exact .inl ⟨o4.lt hx, t4 x hx⟩
    · rw [h] at hx; cases hx; exact .inr ⟨hi, rfl⟩
open Classical in
theorem rFieldsAsk {O : Nat → Nat} {t : Nat} {h0 : AH} {b : Nat} {r : Rq} {n : Nt} (hr : RqR O t h0 b r) (hw : WfR r) (hn : NtOk h0 n) :
    callW Try.prog Try.T 40 [.ptr (some (b, 1)), .agg (eC n)] h0 fun v h' => v = .bool (decide (r.ask.has = true ∧ r.ask.told = false ∧ n.fs = r.ask.fs ∧ n.fin = r.ask.first)) ∧ StepR O t h0 h' b (if r.ask.has = true ∧ r.ask.told = false ∧ n.fs = r.ask.fs ∧ n.fin = r.ask.first then { r with ask := fieldW r.ask n.fin } else r) := by
  have hr0 := hr
  obtain ⟨g1, g2, g3, g4, v1, v2, v3, v4, hc, hb, hO, o1, o2, o3, o4, t1, t2, t3, t4⟩ := hr
  obtain ⟨_, p1, p2, w1, w2, w3, w4⟩ := hw
  obtain ⟨⟨i, sf⟩, ⟨j, sd⟩, q1, q2⟩ := hn
  refine callW_mono (rfieldsask b i g1 r n v1 v2 v3 v4 h0 hc hb o1 sf sd.one w3) ?_
  rintro v h' (⟨he, rfl, k⟩ | ⟨he, rfl, k, hc'⟩)
  · rw [if_neg he]; exact ⟨by rw [decide_eq_false he], stepKeepR hr0 k⟩
  · rw [if_pos he]; exact ⟨by rw [decide_eq_true he], stepCellsR hb hO o1 o2 o3 o4 t1 t2 t3 t4 k hc' rfl rfl rfl rfl⟩
open Classical in
theorem rFieldsAns {O : Nat → Nat} {t : Nat} {h0 : AH} {b : Nat} {r : Rq} {n : Nt} (hr : RqR O t h0 b r) (hw : WfR r) (hn : NtOk h0 n) :
    callW Try.prog Try.T 40 [.ptr (some (b, 9)), .agg (eC n)] h0 fun v h' => v = .bool (decide (r.ans.has = true ∧ r.ans.told = false ∧ n.fs = r.ans.fs ∧ n.fin = r.ans.first)) ∧ StepR O t h0 h' b (if r.ans.has = true ∧ r.ans.told = false ∧ n.fs = r.ans.fs ∧ n.fin = r.ans.first then { r with ans := fieldW r.ans n.fin } else r) := by
  have hr0 := hr
  obtain ⟨g1, g2, g3, g4, v1, v2, v3, v4, hc, hb, hO, o1, o2, o3, o4, t1, t2, t3, t4⟩ := hr
  obtain ⟨_, p1, p2, w1, w2, w3, w4⟩ := hw
  obtain ⟨⟨i, sf⟩, ⟨j, sd⟩, q1, q2⟩ := hn
  refine callW_mono (rfieldsans b i g3 r n v1 v2 v3 v4 h0 hc hb o3 sf sd.one w4) ?_
  rintro v h' (⟨he, rfl, k⟩ | ⟨he, rfl, k, hc'⟩)
  · rw [if_neg he]; exact ⟨by rw [decide_eq_false he], stepKeepR hr0 k⟩
  · rw [if_pos he]; exact ⟨by rw [decide_eq_true he], stepCellsR hb hO o1 o2 o3 o4 t1 t2 t3 t4 k hc' rfl rfl rfl rfl⟩
open Classical in
theorem rDataAsk {O : Nat → Nat} {t : Nat} {h0 : AH} {b : Nat} {r : Rq} {n : Nt} (hr : RqR O t h0 b r) (hw : WfR r) (hn : NtOk h0 n) :
    callW Try.prog Try.T 41 [.ptr (some (b, 1)), .agg (eC n)] h0 fun v h' => v = .bool (decide (r.ask.told = true ∧ dataOk r.ask n.data n.fin)) ∧ StepR O t h0 h' b (if r.ask.told = true ∧ dataOk r.ask n.data n.fin then { r with ask := dataW r.ask n.data n.fin } else r) := by
  have hr0 := hr
  obtain ⟨g1, g2, g3, g4, v1, v2, v3, v4, hc, hb, hO, o1, o2, o3, o4, t1, t2, t3, t4⟩ := hr
  obtain ⟨_, p1, p2, w1, w2, w3, w4⟩ := hw
  obtain ⟨⟨i, sf⟩, ⟨j, sd⟩, q1, q2⟩ := hn
  refine callW_mono (rdataask b j g2 r n v1 v2 v3 v4 h0 hc hb o2 sd sf.one p1 (by omega) q2) ?_
  rintro v h' (⟨he, rfl, k⟩ | ⟨he, rfl, k, hc'⟩)
  · rw [if_neg he]; exact ⟨by rw [decide_eq_false he], stepKeepR hr0 k⟩
  · rw [if_pos he]; exact ⟨by rw [decide_eq_true he], stepCellsR hb hO o1 o2 o3 o4 t1 t2 t3 t4 k hc' rfl rfl rfl rfl⟩
open Classical in
theorem rDataAns {O : Nat → Nat} {t : Nat} {h0 : AH} {b : Nat} {r : Rq} {n : Nt} (hr : RqR O t h0 b r) (hw : WfR r) (hn : NtOk h0 n) :
    callW Try.prog Try.T 41 [.ptr (some (b, 9)), .agg (eC n)] h0 fun v h' => v = .bool (decide (r.ans.told = true ∧ dataOk r.ans n.data n.fin)) ∧ StepR O t h0 h' b (if r.ans.told = true ∧ dataOk r.ans n.data n.fin then { r with ans := dataW r.ans n.data n.fin } else r) := by
  have hr0 := hr
  obtain ⟨g1, g2, g3, g4, v1, v2, v3, v4, hc, hb, hO, o1, o2, o3, o4, t1, t2, t3, t4⟩ := hr
  obtain ⟨_, p1, p2, w1, w2, w3, w4⟩ := hw
  obtain ⟨⟨i, sf⟩, ⟨j, sd⟩, q1, q2⟩ := hn
  refine callW_mono (rdataans b j g4 r n v1 v2 v3 v4 h0 hc hb o4 sd sf.one p2 (by omega) q2) ?_
  rintro v h' (⟨he, rfl, k⟩ | ⟨he, rfl, k, hc'⟩)
  · rw [if_neg he]; exact ⟨by rw [decide_eq_false he], stepKeepR hr0 k⟩
  · rw [if_pos he]; exact ⟨by rw [decide_eq_true he], stepCellsR hb hO o1 o2 o3 o4 t1 t2 t3 t4 k hc' rfl rfl rfl rfl⟩
set_option maxHeartbeats 4000000 in
theorem rhand (n : Nt) (h0 : AH) (hn : NtOk h0 n) :
    callW Try.prog Try.T 38 [.agg (eC n)] h0 fun v h' => ∃ z g, v = .agg [.bool true, z, .bool n.fin, .slice none 0 0 0 true, .bool n.fin, .bool false, .int .i64 0, .bool false] ∧ OwN EF h' g z n.fs ∧ (∀ x, g = some x → h0.size ≤ x) ∧ Keeps h0.size h0 h' := by
  refine callW_hide fun KK hKK => ?_
  have k1 := box_keep h0 (eC n)
  have hn1 := hn.keep k1
  obtain ⟨⟨i, sf⟩, ⟨j, sd⟩, q1, q2⟩ := hn1
  have of := sf.one
  have od := sd.one
  unfold eC at k1 sf sd of od ⊢
  refine callW_in (n := 11) (rs := [.cell 2 39]) (m := 11) Try.func38 rfl rfl rfl rfl fun tr ht => ?_; have e0 := ht 0 _ rfl; clear ht
  repeat' (first
      | (with_reducible first | refine q_nn ?_ | refine q_nr ?_ | refine q_ne ?_ | refine q_en ?_ | refine q_er ?_ | refine q_es ?_ | refine q_gn ?_ | refine q_gr ?_ | refine q_ge ?_ | refine c_seq ?_ | refine c_block ?_ | refine c_scope ?_ | refine c_skip ?_ | refine c_label ?_ | refine c_ret ?_ | refine c_exit ?_ | (refine hK _ _ ?_; clear hK K) | refine seg_nil ?_) | ((with_reducible refine q_eo ?_ ?_); exact rfl)
      | ((with_reducible first | refine c_reg fun K hK => ?_ | refine c_drw (by decide +kernel) fun K hK => ?_ | refine c_cond ?_ | refine seg_cons fun K hK => ?_ | show endW _ _ _ _ _ | refine ifb_dec (fun _ => ?_) (fun _ => ?_) | refine ifb_ieq (fun _ => ?_) (fun _ => ?_) | refine ifb_seq (fun _ => ?_) (fun _ => ?_)) <;> try simp (disch := first | (with_unfolding_all first | exact Lk.mk rfl | exact Seen.of rfl) | assumption | (fail_if_success with_reducible first | refine Seen.of ?_ | apply Sl.frame | apply Ow.frame); omega) only [go_sem, Int.reduceEq, Int.reduceLE, Int.reduceLT, Int.reduceNe, Int.reduceNeg, Int.reduceAdd, Int.reduceSub, Int.reduceMul, Int.reduceToNat, Nat.reduceLT, Nat.reduceLeDiff, Nat.reduceEqDiff, Nat.reduceAdd, Nat.reduceSub, Nat.reduceMul, reduceCtorEq, reduceIte, e0, of, od]))
  refine c_looseW [(4, 0), (6, 0)] (by decide +kernel) ?_; repeat' (first
      | (with_reducible first | refine q_nn ?_ | refine q_nr ?_ | refine q_ne ?_ | refine q_en ?_ | refine q_er ?_ | refine q_es ?_ | refine q_gn ?_ | refine q_gr ?_ | refine q_ge ?_ | refine c_seq ?_ | refine c_block ?_ | refine c_scope ?_ | refine c_skip ?_ | refine c_label ?_ | refine c_ret ?_ | refine c_exit ?_ | (refine hK _ _ ?_; clear hK K) | refine seg_nil ?_) | ((with_reducible refine q_eo ?_ ?_); exact rfl)
      | ((with_reducible first | refine c_reg fun K hK => ?_ | refine c_drw (by decide +kernel) fun K hK => ?_ | refine c_cond ?_ | refine seg_cons fun K hK => ?_ | show endW _ _ _ _ _ | refine ifb_dec (fun _ => ?_) (fun _ => ?_) | refine ifb_ieq (fun _ => ?_) (fun _ => ?_) | refine ifb_seq (fun _ => ?_) (fun _ => ?_)) <;> try simp (disch := first | (with_unfolding_all first | exact Lk.mk rfl | exact Seen.of rfl) | assumption | (fail_if_success with_reducible first | refine Seen.of ?_ | apply Sl.frame | apply Ow.frame); omega) only [go_sem, Int.reduceEq, Int.reduceLE, Int.reduceLT, Int.reduceNe, Int.reduceNeg, Int.reduceAdd, Int.reduceSub, Int.reduceMul, Int.reduceToNat, Nat.reduceLT, Nat.reduceLeDiff, Nat.reduceEqDiff, Nat.reduceAdd, Nat.reduceSub, Nat.reduceMul, reduceCtorEq, reduceIte, e0])
      | with_reducible refine obl_and (by simp (disch := first | (with_unfolding_all first | exact Lk.mk rfl | exact Seen.of rfl) | assumption | (fail_if_success with_reducible first | refine Seen.of ?_ | apply Sl.frame | apply Ow.frame); omega) only [go_sem, Int.reduceEq, Int.reduceLE, Int.reduceLT, Int.reduceNe, Int.reduceNeg, Int.reduceAdd, Int.reduceSub, Int.reduceMul, Int.reduceToNat, Nat.reduceLT, Nat.reduceLeDiff, Nat.reduceEqDiff, Nat.reduceAdd, Nat.reduceSub, Nat.reduceMul, reduceCtorEq, reduceIte, e0]) ?_)
  refine callM_of (copyF n.fv i n.fs _ (sf.frame (fun hi => by rw [AH.get_push, if_neg (by omega)]) (by simp)) q1) ?_
  rintro v h2 ⟨⟨g, og, hg⟩, k3⟩
  have z1 := og.one
  have z2 := og.cells
  have y0 := k3.1
  have y1 := k3.2 h0.size (by simp; omega)
  have y2 := k3.2 (h0.size + 1) (by simp)
  simp only [AH.size_push, AH.get_push] at y0 y1 y2 hg
  rw [if_neg (by omega), if_pos trivial] at y1
  rw [if_pos trivial] at y2
  refine vI ?_; repeat' (first
      | (with_reducible first | refine q_nn ?_ | refine q_nr ?_ | refine q_ne ?_ | refine q_en ?_ | refine q_er ?_ | refine q_es ?_ | refine q_gn ?_ | refine q_gr ?_ | refine q_ge ?_ | refine c_seq ?_ | refine c_block ?_ | refine c_scope ?_ | refine c_skip ?_ | refine c_label ?_ | refine c_ret ?_ | refine c_exit ?_ | (refine hK _ _ ?_; clear hK K) | refine seg_nil ?_) | ((with_reducible refine q_eo ?_ ?_); exact rfl)
      | ((with_reducible first | refine vO ?_ | refine c_reg fun K hK => ?_ | refine c_drw (by decide +kernel) fun K hK => ?_ | refine c_cond ?_ | refine seg_cons fun K hK => ?_ | show endW _ _ _ _ _ | refine ifb_dec (fun _ => ?_) (fun _ => ?_) | refine ifb_ieq (fun _ => ?_) (fun _ => ?_) | refine ifb_seq (fun _ => ?_) (fun _ => ?_)) <;> try simp (disch := first | (with_unfolding_all first | exact Lk.mk rfl | exact Seen.of rfl) | assumption | (fail_if_success with_reducible first | refine Seen.of ?_ | apply Sl.frame | apply Ow.frame); omega) only [go_sem, Int.reduceEq, Int.reduceLE, Int.reduceLT, Int.reduceNe, Int.reduceNeg, Int.reduceAdd, Int.reduceSub, Int.reduceMul, Int.reduceToNat, Nat.reduceLT, Nat.reduceLeDiff, Nat.reduceEqDiff, Nat.reduceAdd, Nat.reduceSub, Nat.reduceMul, reduceCtorEq, reduceIte, e0, of, od, z1, z2, y1, y2])
      | with_reducible refine obl_and (by simp (disch := first | (with_unfolding_all first | exact Lk.mk rfl | exact Seen.of rfl) | assumption | (fail_if_success with_reducible first | refine Seen.of ?_ | apply Sl.frame | apply Ow.frame); omega) only [go_sem, Int.reduceEq, Int.reduceLE, Int.reduceLT, Int.reduceNe, Int.reduceNeg, Int.reduceAdd, Int.reduceSub, Int.reduceMul, Int.reduceToNat, Nat.reduceLT, Nat.reduceLeDiff, Nat.reduceEqDiff, Nat.reduceAdd, Nat.reduceSub, Nat.reduceMul, reduceCtorEq, reduceIte, e0, of, od, z1, z2, y1, y2]) ?_)
  refine hKK _ _ ⟨v, g, rfl, og.frame (fun x hx => ?_) (by simp), fun x hx => by have := hg x hx; omega, by simp; omega, fun x hx => ?_⟩
  · have := hg x hx
    rw [AH.get_set, if_neg (by omega)]
  · rw [AH.get_set, if_neg (by omega), k3.2 x (by simp; omega), AH.get_push, if_neg (by rw [AH.size_push]; omega)]
    exact k1.2 x hx
end Go.Proofs.Ytanbckdhlmhdeaa
