/- ledger: the reference, on one line: give, fields, data. -/
import Derived.Test.YtanbckdhlmhdeaaLedCheck
set_option linter.unusedSimpArgs false
set_option linter.unusedVariables false
namespace Go.Proofs.Ytanbckdhlmhdeaa
open Go.Abs
set_option maxRecDepth 100000
/-- A line's cells, the reference's. -/
def cR (r : Rq) (v1 v2 v3 v4 : AV) : List AV := [.int .i64 r.id, .bool r.ask.has, v1, .bool r.ask.first, v2, .bool r.ask.ended, .bool r.ask.told, .int .i64 r.ask.pos, .bool r.ask.over, .bool r.ans.has, v3, .bool r.ans.first, v4, .bool r.ans.ended, .bool r.ans.told, .int .i64 r.ans.pos, .bool r.ans.over, .int .i64 r.verdict]
/-- An event's cells. -/
def eC (n : Nt) : List AV := [.int .i64 n.kind, .int .i64 n.id, n.fv, n.dv, .bool n.fin, .int .i64 n.code, .int .i64 n.last]
set_option maxHeartbeats 4000000 in
theorem rgiveask (b i : Nat) (g2 : Option Nat) (r : Rq) (n : Nt) (v1 v2 v3 v4 : AV) (h0 : AH) (hc : h0.get b = some (.cells (cR r v1 v2 v3 v4))) (hb : b < h0.size) (ho : OwN E8 h0 g2 v2 r.ask.bytes) (hg : ¬ g2 = some b) (hd : Sl E8 h0 i n.dv n.data) (hf1 : n.fv.one = true) (hl : r.ask.bytes.length + n.data.length < 100000000000000) :
    callW Try.prog Try.T 39 [.ptr (some (b, 1)), .agg (eC n)] h0 fun v h' => ¬ (r.ask.has = true ∧ r.ask.ended = false) ∧ v = .bool false ∧ Keeps h0.size h0 h' ∨ (r.ask.has = true ∧ r.ask.ended = false) ∧ v = .bool true ∧ But b g2 h0 h' ∧ ∃ z g', h'.get b = some (.cells (cR { r with ask := giveW r.ask n.data n.fin } v1 z v3 v4)) ∧ OwN E8 h' g' z (r.ask.bytes ++ n.data) ∧ (g' = none ∨ g' = g2 ∨ ∃ i, g' = some i ∧ h0.size ≤ i) := by
  unfold cR at hc
  refine callW_hide fun KK hKK => ?_
  have hd1 := hd.one
  have k1 := box_keep h0 (eC n)
  have hd2 : Sl E8 (h0.push (.cells (eC n))) i n.dv n.data := hd.frame (fun hi => k1.2 i hi) k1.1
  have ho2 : OwN E8 (h0.push (.cells (eC n))) g2 v2 r.ask.bytes := ho.frame (fun i hi => k1.2 i (ho.lt hi)) k1.1
  have hc2 := (k1.2 b hb).trans hc
  have hx : (h0.push (.cells (eC n))).get h0.size = some (.cells (eC n)) := by simp (disch := first | (with_unfolding_all first | exact Lk.mk rfl | exact Seen.of rfl) | assumption | (fail_if_success with_reducible first | refine Seen.of ?_ | apply Sl.frame | apply Ow.frame); omega) only [go_sem, Int.reduceEq, Int.reduceLE, Int.reduceLT, Int.reduceNe, Int.reduceNeg, Int.reduceAdd, Int.reduceSub, Int.reduceMul, Int.reduceToNat, Nat.reduceLT, Nat.reduceLeDiff, Nat.reduceEqDiff, Nat.reduceAdd, Nat.reduceSub, Nat.reduceMul, reduceCtorEq, reduceIte]
  have hz : (h0.push (.cells (eC n))).size = h0.size + 1 := by simp (disch := first | (with_unfolding_all first | exact Lk.mk rfl | exact Seen.of rfl) | assumption | (fail_if_success with_reducible first | refine Seen.of ?_ | apply Sl.frame | apply Ow.frame); omega) only [go_sem, Int.reduceEq, Int.reduceLE, Int.reduceLT, Int.reduceNe, Int.reduceNeg, Int.reduceAdd, Int.reduceSub, Int.reduceMul, Int.reduceToNat, Nat.reduceLT, Nat.reduceLeDiff, Nat.reduceEqDiff, Nat.reduceAdd, Nat.reduceSub, Nat.reduceMul, reduceCtorEq, reduceIte]
  refine callW_in (n := 31) (rs := [.tmp 4]) (m := 31) Try.func39 rfl rfl rfl rfl fun tr ht => ?_; have e0 := ht 0 _ rfl; have e1 := ht 1 _ rfl; clear ht
  unfold eC at e1
  refine c_seq ?_
  refine c_reg fun K hK => ?_
  simp (disch := first | (with_unfolding_all first | exact Lk.mk rfl | exact Seen.of rfl) | assumption | (fail_if_success with_reducible first | refine Seen.of ?_ | apply Sl.frame | apply Ow.frame); omega) only [go_sem, Int.reduceEq, Int.reduceLE, Int.reduceLT, Int.reduceNe, Int.reduceNeg, Int.reduceAdd, Int.reduceSub, Int.reduceMul, Int.reduceToNat, Nat.reduceLT, Nat.reduceLeDiff, Nat.reduceEqDiff, Nat.reduceAdd, Nat.reduceSub, Nat.reduceMul, reduceCtorEq, reduceIte, e0, e1, hf1, hd1]
  refine hK _ _ ?_
  clear hK K
  refine q_nn ?_
  have hfold : [AV.int .i64 n.kind, .int .i64 n.id, n.fv, n.dv, .bool n.fin, .int .i64 n.code, .int .i64 n.last] = eC n := rfl
  rw [hfold]
  generalize h0.push (.cells (eC n)) = h1 at *
  unfold eC at hx
  cases hh : r.ask.has with
  | false =>
    repeat' (first
      | (with_reducible first | refine q_nn ?_ | refine q_nr ?_ | refine q_ne ?_ | refine q_en ?_ | refine q_er ?_ | refine q_es ?_ | refine q_gn ?_ | refine q_gr ?_ | refine q_ge ?_ | refine c_seq ?_ | refine c_block ?_ | refine c_scope ?_ | refine c_skip ?_ | refine c_label ?_ | refine c_ret ?_ | refine c_exit ?_ | (refine hK _ _ ?_; clear hK K) | refine seg_nil ?_) | ((with_reducible refine q_eo ?_ ?_); exact rfl)
      | ((with_reducible first | refine c_reg fun K hK => ?_ | refine c_drw (by decide +kernel) fun K hK => ?_ | refine c_cond ?_ | refine seg_cons fun K hK => ?_ | show endW _ _ _ _ _ | refine ifb_dec (fun _ => ?_) (fun _ => ?_) | refine ifb_ieq (fun _ => ?_) (fun _ => ?_) | refine ifb_seq (fun _ => ?_) (fun _ => ?_)) <;> try simp (disch := first | (with_unfolding_all first | exact Lk.mk rfl | exact Seen.of rfl) | assumption | (fail_if_success with_reducible first | refine Seen.of ?_ | apply Sl.frame | apply Ow.frame); omega) only [go_sem, Int.reduceEq, Int.reduceLE, Int.reduceLT, Int.reduceNe, Int.reduceNeg, Int.reduceAdd, Int.reduceSub, Int.reduceMul, Int.reduceToNat, Nat.reduceLT, Nat.reduceLeDiff, Nat.reduceEqDiff, Nat.reduceAdd, Nat.reduceSub, Nat.reduceMul, reduceCtorEq, reduceIte, e0, e1, hc2, hx, hh]))
    exact hKK _ _ (.inl ⟨fun h => absurd (h.1.symm.trans hh) (by decide), rfl, k1⟩)
  | true =>
    cases he : r.ask.ended with
    | true =>
      repeat' (first
      | (with_reducible first | refine q_nn ?_ | refine q_nr ?_ | refine q_ne ?_ | refine q_en ?_ | refine q_er ?_ | refine q_es ?_ | refine q_gn ?_ | refine q_gr ?_ | refine q_ge ?_ | refine c_seq ?_ | refine c_block ?_ | refine c_scope ?_ | refine c_skip ?_ | refine c_label ?_ | refine c_ret ?_ | refine c_exit ?_ | (refine hK _ _ ?_; clear hK K) | refine seg_nil ?_) | ((with_reducible refine q_eo ?_ ?_); exact rfl)
      | ((with_reducible first | refine c_reg fun K hK => ?_ | refine c_drw (by decide +kernel) fun K hK => ?_ | refine c_cond ?_ | refine seg_cons fun K hK => ?_ | show endW _ _ _ _ _ | refine ifb_dec (fun _ => ?_) (fun _ => ?_) | refine ifb_ieq (fun _ => ?_) (fun _ => ?_) | refine ifb_seq (fun _ => ?_) (fun _ => ?_)) <;> try simp (disch := first | (with_unfolding_all first | exact Lk.mk rfl | exact Seen.of rfl) | assumption | (fail_if_success with_reducible first | refine Seen.of ?_ | apply Sl.frame | apply Ow.frame); omega) only [go_sem, Int.reduceEq, Int.reduceLE, Int.reduceLT, Int.reduceNe, Int.reduceNeg, Int.reduceAdd, Int.reduceSub, Int.reduceMul, Int.reduceToNat, Nat.reduceLT, Nat.reduceLeDiff, Nat.reduceEqDiff, Nat.reduceAdd, Nat.reduceSub, Nat.reduceMul, reduceCtorEq, reduceIte, e0, e1, hc2, hx, hh, he]))
      exact hKK _ _ (.inl ⟨fun h => absurd (h.2.symm.trans he) (by decide), rfl, k1⟩)
    | false =>
      repeat' (first
      | (with_reducible first | refine q_nn ?_ | refine q_nr ?_ | refine q_ne ?_ | refine q_en ?_ | refine q_er ?_ | refine q_es ?_ | refine q_gn ?_ | refine q_gr ?_ | refine q_ge ?_ | refine c_seq ?_ | refine c_block ?_ | refine c_scope ?_ | refine c_skip ?_ | refine c_label ?_ | refine c_ret ?_ | refine c_exit ?_ | (refine hK _ _ ?_; clear hK K) | refine seg_nil ?_) | ((with_reducible refine q_eo ?_ ?_); exact rfl)
      | ((with_reducible first | refine c_reg fun K hK => ?_ | refine c_drw (by decide +kernel) fun K hK => ?_ | refine c_cond ?_ | refine seg_cons fun K hK => ?_ | show endW _ _ _ _ _ | refine ifb_dec (fun _ => ?_) (fun _ => ?_) | refine ifb_ieq (fun _ => ?_) (fun _ => ?_) | refine ifb_seq (fun _ => ?_) (fun _ => ?_)) <;> try simp (disch := first | (with_unfolding_all first | exact Lk.mk rfl | exact Seen.of rfl) | assumption | (fail_if_success with_reducible first | refine Seen.of ?_ | apply Sl.frame | apply Ow.frame); omega) only [go_sem, Int.reduceEq, Int.reduceLE, Int.reduceLT, Int.reduceNe, Int.reduceNeg, Int.reduceAdd, Int.reduceSub, Int.reduceMul, Int.reduceToNat, Nat.reduceLT, Nat.reduceLeDiff, Nat.reduceEqDiff, Nat.reduceAdd, Nat.reduceSub, Nat.reduceMul, reduceCtorEq, reduceIte, e0, e1, hc2, hx, hh, he]))
      refine Try.ap33 ho2.ow hd2 (by exact .mk) (by omega) fun z h2 i2 o hi hz2 hf => ?_
      obtain ⟨g', on, hg'⟩ := OwN.of (b := h1.size) (g := g2) o hi rfl
      have nb : ∀ x, x < h1.size → ¬ g2 = some x → h2.get x = h1.get x := fun x hx hgx => by
        refine hf x hx ?_
        cases hgg : g2 with
        | none => simp; omega
        | some y => simp only [Option.getD_some]; intro e; exact hgx (by rw [hgg, e])
      have hcb := (nb b (by omega) hg).trans hc2
      have hxb := (nb h0.size (by omega) (fun e => by have := ho.lt e; omega)).trans hx
      have hz1 := on.one
      have hzc := on.cells
      refine vI ?_; repeat' (first
      | (with_reducible first | refine q_nn ?_ | refine q_nr ?_ | refine q_ne ?_ | refine q_en ?_ | refine q_er ?_ | refine q_es ?_ | refine q_gn ?_ | refine q_gr ?_ | refine q_ge ?_ | refine c_seq ?_ | refine c_block ?_ | refine c_scope ?_ | refine c_skip ?_ | refine c_label ?_ | refine c_ret ?_ | refine c_exit ?_ | (refine hK _ _ ?_; clear hK K) | refine seg_nil ?_) | ((with_reducible refine q_eo ?_ ?_); exact rfl)
      | ((with_reducible first | refine vO ?_ | refine c_reg fun K hK => ?_ | refine c_drw (by decide +kernel) fun K hK => ?_ | refine c_cond ?_ | refine seg_cons fun K hK => ?_ | show endW _ _ _ _ _ | refine ifb_dec (fun _ => ?_) (fun _ => ?_) | refine ifb_ieq (fun _ => ?_) (fun _ => ?_) | refine ifb_seq (fun _ => ?_) (fun _ => ?_)) <;> try simp (disch := first | (with_unfolding_all first | exact Lk.mk rfl | exact Seen.of rfl) | assumption | (fail_if_success with_reducible first | refine Seen.of ?_ | apply Sl.frame | apply Ow.frame); omega) only [go_sem, Int.reduceEq, Int.reduceLE, Int.reduceLT, Int.reduceNe, Int.reduceNeg, Int.reduceAdd, Int.reduceSub, Int.reduceMul, Int.reduceToNat, Nat.reduceLT, Nat.reduceLeDiff, Nat.reduceEqDiff, Nat.reduceAdd, Nat.reduceSub, Nat.reduceMul, reduceCtorEq, reduceIte, e0, e1, hcb, hxb, hx, hz1, hzc, stC_1 (Seen.of hz1)]))
      refine hKK _ _ (.inr ⟨⟨hh, he⟩, rfl, ⟨by simp; omega, fun x hx hxb hxg => ?_⟩, z, g', ?_, ?_, ?_⟩)
      · rw [AH.get_set, if_neg hxb, AH.get_set, if_neg hxb, nb x (by omega) hxg, k1.2 x hx]
      · rw [AH.get_set, if_pos rfl]; unfold cR giveW; simp only [hh]
      · refine on.frame (fun i hi => ?_) (by simp)
        have : ¬ i = b := by
          intro e
          rcases hg' with h | h | ⟨q, h, hq⟩
          · rw [h] at hi; cases hi
          · exact hg (by rw [← h, hi, e])
          · rw [h] at hi; cases hi; omega
        rw [AH.get_set, if_neg this, AH.get_set, if_neg this]
      · rcases hg' with h | h | ⟨q, h, hq⟩
        · exact .inl h
        · exact .inr (.inl h)
        · exact .inr (.inr ⟨q, h, by omega⟩)
set_option maxHeartbeats 4000000 in
theorem rgiveans (b i : Nat) (g4 : Option Nat) (r : Rq) (n : Nt) (v1 v2 v3 v4 : AV) (h0 : AH) (hc : h0.get b = some (.cells (cR r v1 v2 v3 v4))) (hb : b < h0.size) (ho : OwN E8 h0 g4 v4 r.ans.bytes) (hg : ¬ g4 = some b) (hd : Sl E8 h0 i n.dv n.data) (hf1 : n.fv.one = true) (hl : r.ans.bytes.length + n.data.length < 100000000000000) :
    callW Try.prog Try.T 39 [.ptr (some (b, 9)), .agg (eC n)] h0 fun v h' => ¬ (r.ans.has = true ∧ r.ans.ended = false) ∧ v = .bool false ∧ Keeps h0.size h0 h' ∨ (r.ans.has = true ∧ r.ans.ended = false) ∧ v = .bool true ∧ But b g4 h0 h' ∧ ∃ z g', h'.get b = some (.cells (cR { r with ans := giveW r.ans n.data n.fin } v1 v2 v3 z)) ∧ OwN E8 h' g' z (r.ans.bytes ++ n.data) ∧ (g' = none ∨ g' = g4 ∨ ∃ i, g' = some i ∧ h0.size ≤ i) := by
  unfold cR at hc
  refine callW_hide fun KK hKK => ?_
  have hd1 := hd.one
  have k1 := box_keep h0 (eC n)
  have hd2 : Sl E8 (h0.push (.cells (eC n))) i n.dv n.data := hd.frame (fun hi => k1.2 i hi) k1.1
  have ho2 : OwN E8 (h0.push (.cells (eC n))) g4 v4 r.ans.bytes := ho.frame (fun i hi => k1.2 i (ho.lt hi)) k1.1
  have hc2 := (k1.2 b hb).trans hc
  have hx : (h0.push (.cells (eC n))).get h0.size = some (.cells (eC n)) := by simp (disch := first | (with_unfolding_all first | exact Lk.mk rfl | exact Seen.of rfl) | assumption | (fail_if_success with_reducible first | refine Seen.of ?_ | apply Sl.frame | apply Ow.frame); omega) only [go_sem, Int.reduceEq, Int.reduceLE, Int.reduceLT, Int.reduceNe, Int.reduceNeg, Int.reduceAdd, Int.reduceSub, Int.reduceMul, Int.reduceToNat, Nat.reduceLT, Nat.reduceLeDiff, Nat.reduceEqDiff, Nat.reduceAdd, Nat.reduceSub, Nat.reduceMul, reduceCtorEq, reduceIte]
  have hz : (h0.push (.cells (eC n))).size = h0.size + 1 := by simp (disch := first | (with_unfolding_all first | exact Lk.mk rfl | exact Seen.of rfl) | assumption | (fail_if_success with_reducible first | refine Seen.of ?_ | apply Sl.frame | apply Ow.frame); omega) only [go_sem, Int.reduceEq, Int.reduceLE, Int.reduceLT, Int.reduceNe, Int.reduceNeg, Int.reduceAdd, Int.reduceSub, Int.reduceMul, Int.reduceToNat, Nat.reduceLT, Nat.reduceLeDiff, Nat.reduceEqDiff, Nat.reduceAdd, Nat.reduceSub, Nat.reduceMul, reduceCtorEq, reduceIte]
  refine callW_in (n := 31) (rs := [.tmp 4]) (m := 31) Try.func39 rfl rfl rfl rfl fun tr ht => ?_; have e0 := ht 0 _ rfl; have e1 := ht 1 _ rfl; clear ht
  unfold eC at e1
  refine c_seq ?_
  refine c_reg fun K hK => ?_
  simp (disch := first | (with_unfolding_all first | exact Lk.mk rfl | exact Seen.of rfl) | assumption | (fail_if_success with_reducible first | refine Seen.of ?_ | apply Sl.frame | apply Ow.frame); omega) only [go_sem, Int.reduceEq, Int.reduceLE, Int.reduceLT, Int.reduceNe, Int.reduceNeg, Int.reduceAdd, Int.reduceSub, Int.reduceMul, Int.reduceToNat, Nat.reduceLT, Nat.reduceLeDiff, Nat.reduceEqDiff, Nat.reduceAdd, Nat.reduceSub, Nat.reduceMul, reduceCtorEq, reduceIte, e0, e1, hf1, hd1]
  refine hK _ _ ?_
  clear hK K
  refine q_nn ?_
  have hfold : [AV.int .i64 n.kind, .int .i64 n.id, n.fv, n.dv, .bool n.fin, .int .i64 n.code, .int .i64 n.last] = eC n := rfl
  rw [hfold]
  generalize h0.push (.cells (eC n)) = h1 at *
  unfold eC at hx
  cases hh : r.ans.has with
  | false =>
    repeat' (first
      | (with_reducible first | refine q_nn ?_ | refine q_nr ?_ | refine q_ne ?_ | refine q_en ?_ | refine q_er ?_ | refine q_es ?_ | refine q_gn ?_ | refine q_gr ?_ | refine q_ge ?_ | refine c_seq ?_ | refine c_block ?_ | refine c_scope ?_ | refine c_skip ?_ | refine c_label ?_ | refine c_ret ?_ | refine c_exit ?_ | (refine hK _ _ ?_; clear hK K) | refine seg_nil ?_) | ((with_reducible refine q_eo ?_ ?_); exact rfl)
      | ((with_reducible first | refine c_reg fun K hK => ?_ | refine c_drw (by decide +kernel) fun K hK => ?_ | refine c_cond ?_ | refine seg_cons fun K hK => ?_ | show endW _ _ _ _ _ | refine ifb_dec (fun _ => ?_) (fun _ => ?_) | refine ifb_ieq (fun _ => ?_) (fun _ => ?_) | refine ifb_seq (fun _ => ?_) (fun _ => ?_)) <;> try simp (disch := first | (with_unfolding_all first | exact Lk.mk rfl | exact Seen.of rfl) | assumption | (fail_if_success with_reducible first | refine Seen.of ?_ | apply Sl.frame | apply Ow.frame); omega) only [go_sem, Int.reduceEq, Int.reduceLE, Int.reduceLT, Int.reduceNe, Int.reduceNeg, Int.reduceAdd, Int.reduceSub, Int.reduceMul, Int.reduceToNat, Nat.reduceLT, Nat.reduceLeDiff, Nat.reduceEqDiff, Nat.reduceAdd, Nat.reduceSub, Nat.reduceMul, reduceCtorEq, reduceIte, e0, e1, hc2, hx, hh]))
    exact hKK _ _ (.inl ⟨fun h => absurd (h.1.symm.trans hh) (by decide), rfl, k1⟩)
  | true =>
    cases he : r.ans.ended with
    | true =>
      repeat' (first
      | (with_reducible first | refine q_nn ?_ | refine q_nr ?_ | refine q_ne ?_ | refine q_en ?_ | refine q_er ?_ | refine q_es ?_ | refine q_gn ?_ | refine q_gr ?_ | refine q_ge ?_ | refine c_seq ?_ | refine c_block ?_ | refine c_scope ?_ | refine c_skip ?_ | refine c_label ?_ | refine c_ret ?_ | refine c_exit ?_ | (refine hK _ _ ?_; clear hK K) | refine seg_nil ?_) | ((with_reducible refine q_eo ?_ ?_); exact rfl)
      | ((with_reducible first | refine c_reg fun K hK => ?_ | refine c_drw (by decide +kernel) fun K hK => ?_ | refine c_cond ?_ | refine seg_cons fun K hK => ?_ | show endW _ _ _ _ _ | refine ifb_dec (fun _ => ?_) (fun _ => ?_) | refine ifb_ieq (fun _ => ?_) (fun _ => ?_) | refine ifb_seq (fun _ => ?_) (fun _ => ?_)) <;> try simp (disch := first | (with_unfolding_all first | exact Lk.mk rfl | exact Seen.of rfl) | assumption | (fail_if_success with_reducible first | refine Seen.of ?_ | apply Sl.frame | apply Ow.frame); omega) only [go_sem, Int.reduceEq, Int.reduceLE, Int.reduceLT, Int.reduceNe, Int.reduceNeg, Int.reduceAdd, Int.reduceSub, Int.reduceMul, Int.reduceToNat, Nat.reduceLT, Nat.reduceLeDiff, Nat.reduceEqDiff, Nat.reduceAdd, Nat.reduceSub, Nat.reduceMul, reduceCtorEq, reduceIte, e0, e1, hc2, hx, hh, he]))
      exact hKK _ _ (.inl ⟨fun h => absurd (h.2.symm.trans he) (by decide), rfl, k1⟩)
    | false =>
      repeat' (first
      | (with_reducible first | refine q_nn ?_ | refine q_nr ?_ | refine q_ne ?_ | refine q_en ?_ | refine q_er ?_ | refine q_es ?_ | refine q_gn ?_ | refine q_gr ?_ | refine q_ge ?_ | refine c_seq ?_ | refine c_block ?_ | refine c_scope ?_ | refine c_skip ?_ | refine c_label ?_ | refine c_ret ?_ | refine c_exit ?_ | (refine hK _ _ ?_; clear hK K) | refine seg_nil ?_) | ((with_reducible refine q_eo ?_ ?_); exact rfl)
      | ((with_reducible first | refine c_reg fun K hK => ?_ | refine c_drw (by decide +kernel) fun K hK => ?_ | refine c_cond ?_ | refine seg_cons fun K hK => ?_ | show endW _ _ _ _ _ | refine ifb_dec (fun _ => ?_) (fun _ => ?_) | refine ifb_ieq (fun _ => ?_) (fun _ => ?_) | refine ifb_seq (fun _ => ?_) (fun _ => ?_)) <;> try simp (disch := first | (with_unfolding_all first | exact Lk.mk rfl | exact Seen.of rfl) | assumption | (fail_if_success with_reducible first | refine Seen.of ?_ | apply Sl.frame | apply Ow.frame); omega) only [go_sem, Int.reduceEq, Int.reduceLE, Int.reduceLT, Int.reduceNe, Int.reduceNeg, Int.reduceAdd, Int.reduceSub, Int.reduceMul, Int.reduceToNat, Nat.reduceLT, Nat.reduceLeDiff, Nat.reduceEqDiff, Nat.reduceAdd, Nat.reduceSub, Nat.reduceMul, reduceCtorEq, reduceIte, e0, e1, hc2, hx, hh, he]))
      refine Try.ap33 ho2.ow hd2 (by exact .mk) (by omega) fun z h2 i2 o hi hz2 hf => ?_
      obtain ⟨g', on, hg'⟩ := OwN.of (b := h1.size) (g := g4) o hi rfl
      have nb : ∀ x, x < h1.size → ¬ g4 = some x → h2.get x = h1.get x := fun x hx hgx => by
        refine hf x hx ?_
        cases hgg : g4 with
        | none => simp; omega
        | some y => simp only [Option.getD_some]; intro e; exact hgx (by rw [hgg, e])
      have hcb := (nb b (by omega) hg).trans hc2
      have hxb := (nb h0.size (by omega) (fun e => by have := ho.lt e; omega)).trans hx
      have hz1 := on.one
      have hzc := on.cells
      refine vI ?_; repeat' (first
      | (with_reducible first | refine q_nn ?_ | refine q_nr ?_ | refine q_ne ?_ | refine q_en ?_ | refine q_er ?_ | refine q_es ?_ | refine q_gn ?_ | refine q_gr ?_ | refine q_ge ?_ | refine c_seq ?_ | refine c_block ?_ | refine c_scope ?_ | refine c_skip ?_ | refine c_label ?_ | refine c_ret ?_ | refine c_exit ?_ | (refine hK _ _ ?_; clear hK K) | refine seg_nil ?_) | ((with_reducible refine q_eo ?_ ?_); exact rfl)
      | ((with_reducible first | refine vO ?_ | refine c_reg fun K hK => ?_ | refine c_drw (by decide +kernel) fun K hK => ?_ | refine c_cond ?_ | refine seg_cons fun K hK => ?_ | show endW _ _ _ _ _ | refine ifb_dec (fun _ => ?_) (fun _ => ?_) | refine ifb_ieq (fun _ => ?_) (fun _ => ?_) | refine ifb_seq (fun _ => ?_) (fun _ => ?_)) <;> try simp (disch := first | (with_unfolding_all first | exact Lk.mk rfl | exact Seen.of rfl) | assumption | (fail_if_success with_reducible first | refine Seen.of ?_ | apply Sl.frame | apply Ow.frame); omega) only [go_sem, Int.reduceEq, Int.reduceLE, Int.reduceLT, Int.reduceNe, Int.reduceNeg, Int.reduceAdd, Int.reduceSub, Int.reduceMul, Int.reduceToNat, Nat.reduceLT, Nat.reduceLeDiff, Nat.reduceEqDiff, Nat.reduceAdd, Nat.reduceSub, Nat.reduceMul, reduceCtorEq, reduceIte, e0, e1, hcb, hxb, hx, hz1, hzc, stC_1 (Seen.of hz1)]))
      refine hKK _ _ (.inr ⟨⟨hh, he⟩, rfl, ⟨by simp; omega, fun x hx hxb hxg => ?_⟩, z, g', ?_, ?_, ?_⟩)
      · rw [AH.get_set, if_neg hxb, AH.get_set, if_neg hxb, nb x (by omega) hxg, k1.2 x hx]
      · rw [AH.get_set, if_pos rfl]; unfold cR giveW; simp only [hh]
      · refine on.frame (fun i hi => ?_) (by simp)
        have : ¬ i = b := by
          intro e
          rcases hg' with h | h | ⟨q, h, hq⟩
          · rw [h] at hi; cases hi
          · exact hg (by rw [← h, hi, e])
          · rw [h] at hi; cases hi; omega
        rw [AH.get_set, if_neg this, AH.get_set, if_neg this]
      · rcases hg' with h | h | ⟨q, h, hq⟩
        · exact .inl h
        · exact .inr (.inl h)
        · exact .inr (.inr ⟨q, h, by omega⟩)
end Go.Proofs.Ytanbckdhlmhdeaa
