/- ledger: issue. -/
import Derived.Test.YtanbckdhlmhdeaaLedNote
set_option linter.unusedSimpArgs false
set_option linter.unusedVariables false
namespace Go.Proofs.Ytanbckdhlmhdeaa
open Go.Abs
set_option maxRecDepth 100000
def noWy : Wy := { has := false, fs := [], first := false, bytes := [], ended := false, told := false, pos := 0, over := false }
def handW (fs : List Fd) (e : Bool) : Wy := { has := true, fs := fs, first := e, bytes := [], ended := e, told := false, pos := 0, over := false }
def newRq (n : Nt) : Rq := { id := n.id, ask := handW n.fs n.fin, ans := noWy, verdict := 1 }
def topId (l : List Rq) : Int := match l.getLast? with | some r => r.id | none => 0
def issueOk (l : List Rq) (n : Nt) : Prop := topId l < n.id ∧ ¬ n.id % 2 = 0
theorem topId_last {l : List Rq} {r : Rq} (h : l[l.length - 1]? = some r) : topId l = r.id := by
  unfold topId
  rw [List.getLast?_eq_getElem?, h]
open Classical in
set_option maxHeartbeats 4000000 in
theorem issue (O : Nat → Nat) (p : Nat) (s : Sg) (n : Nt) (h0 : AH) (hl : LgC O h0 p s) (hn : NtOk h0 n) (hsl : s.l.length ≤ 1000) (hid : -9223372036854775808 ≤ n.id ∧ n.id ≤ 9223372036854775807) (htp : 0 ≤ topId s.l) :
    callW Try.prog Try.T 19 [.ptr (some (p, 0)), .agg (nC n)] h0 fun v h' => v = .bool (decide (issueOk s.l n)) ∧ StepL O h0 h' p (if issueOk s.l n then { s with l := s.l ++ [newRq n] } else s) := by
  have hl0 := hl
  obtain ⟨sl, g, bs, hc, hp, hO, o, t, hbn, hr⟩ := hl
  refine callW_hide fun KK hKK => ?_
  have hk1 := box_keep h0 (nC n)
  have hn1 := hn.keep hk1
  obtain ⟨⟨i, sf⟩, ⟨j, sd⟩, q1, q2⟩ := hn1
  have of := sf.one
  have od := sd.one
  have hnx : (h0.push (.cells (nC n))).get h0.size = some (.cells (nC n)) := by simp (disch := first | (with_unfolding_all first | exact Lk.mk rfl | exact Seen.of rfl) | assumption | (fail_if_success with_reducible first | refine Seen.of ?_ | apply Sl.frame | apply Ow.frame); omega) only [go_sem, Int.reduceEq, Int.reduceLE, Int.reduceLT, Int.reduceNe, Int.reduceNeg, Int.reduceAdd, Int.reduceSub, Int.reduceMul, Int.reduceToNat, Nat.reduceLT, Nat.reduceLeDiff, Nat.reduceEqDiff, Nat.reduceAdd, Nat.reduceSub, Nat.reduceMul, reduceCtorEq, reduceIte]
  have hz : (h0.push (.cells (nC n))).size = h0.size + 1 := by simp (disch := first | (with_unfolding_all first | exact Lk.mk rfl | exact Seen.of rfl) | assumption | (fail_if_success with_reducible first | refine Seen.of ?_ | apply Sl.frame | apply Ow.frame); omega) only [go_sem, Int.reduceEq, Int.reduceLE, Int.reduceLT, Int.reduceNe, Int.reduceNeg, Int.reduceAdd, Int.reduceSub, Int.reduceMul, Int.reduceToNat, Nat.reduceLT, Nat.reduceLeDiff, Nat.reduceEqDiff, Nat.reduceAdd, Nat.reduceSub, Nat.reduceMul, reduceCtorEq, reduceIte]
  have hc1 := (hk1.2 p hp).trans hc
  have s1 : Sl EP (h0.push (.cells (nC n))) (g.getD h0.size) sl bs := o.sl.frame (fun hi => hk1.2 _ hi) hk1.1
  have no : ∀ h', ¬ issueOk s.l n → Keeps h0.size h0 h' → KK (.bool false) h' := fun h' h1 h2 => hKK _ _ ⟨by rw [decide_eq_false h1], by rw [if_neg h1]; exact stepLKeep hl0 h2⟩
  have yes : ∀ h', issueOk s.l n → StepL O h0 h' p { s with l := s.l ++ [newRq n] } → KK (.bool true) h' := fun h' h1 h2 => hKK _ _ ⟨by rw [decide_eq_true h1], by rw [if_pos h1]; exact h2⟩
  clear hKK
  refine callW_in (n := 64) (rs := [.tmp 4]) (m := 64) Try.func19 rfl rfl rfl rfl fun tr ht => ?_; have e0 := ht 0 _ rfl; have e1 := ht 1 _ rfl; clear ht
  unfold nC at e1
  refine c_seq ?_
  refine c_reg fun K hK => ?_
  simp (disch := first | (with_unfolding_all first | exact Lk.mk rfl | exact Seen.of rfl) | assumption | (fail_if_success with_reducible first | refine Seen.of ?_ | apply Sl.frame | apply Ow.frame); omega) only [go_sem, Int.reduceEq, Int.reduceLE, Int.reduceLT, Int.reduceNe, Int.reduceNeg, Int.reduceAdd, Int.reduceSub, Int.reduceMul, Int.reduceToNat, Nat.reduceLT, Nat.reduceLeDiff, Nat.reduceEqDiff, Nat.reduceAdd, Nat.reduceSub, Nat.reduceMul, reduceCtorEq, reduceIte, e0, e1, of, od]
  refine hK _ _ ?_
  clear hK K
  refine q_nn ?_
  have hfold : [AV.int .i64 n.role, .int .i64 n.kind, .int .i64 n.id, n.fv, n.dv, .bool n.fin, .int .i64 n.code, .int .i64 n.last] = nC n := rfl
  rw [hfold]
  generalize h0.push (.cells (nC n)) = h1 at *
  unfold nC at hnx
  -- the greatest number so far
  have hp1 : p < h1.size := by omega
  have hlast : s.l.length = 0 ∧ topId s.l = 0 ∨ 0 < s.l.length ∧ ∃ (kn b : Nat) (v1 v2 v3 v4 : AV) (r : Rq), kn + 1 = bs.length ∧ bs[kn]? = some b ∧ h1.get b = some (.cells (cC r v1 v2 v3 v4)) ∧ r.id = topId s.l := by
    by_cases hlen : s.l.length = 0
    · left
      have : s.l = [] := List.eq_nil_of_length_eq_zero hlen
      rw [this]; exact ⟨rfl, rfl⟩
    · right
      have h1' : s.l[s.l.length - 1]? = some s.l[s.l.length - 1] := List.getElem?_eq_getElem (by omega)
      have h2' : bs[s.l.length - 1]? = some (bs[s.l.length - 1]'(by omega)) := List.getElem?_eq_getElem (by omega)
      obtain ⟨g1, g2, g3, g4, v1, v2, v3, v4, hcb, hbb, _⟩ := hr _ _ _ h1' h2'
      exact ⟨by omega, s.l.length - 1, _, v1, v2, v3, v4, _, by omega, h2', (hk1.2 _ hbb).trans hcb, (topId_last h1').symm⟩
  have step : ∀ (n1 : Nat), True := fun _ => trivial
  by_cases hid1 : n.id ≤ topId s.l
  · rcases hlast with ⟨e1', e2'⟩ | ⟨e1', kn, b, v1, v2, v3, v4, r, hkn, hbk, hcb, hrid⟩
    · repeat' (first
      | (with_reducible first | refine q_nn ?_ | refine q_nr ?_ | refine q_ne ?_ | refine q_en ?_ | refine q_er ?_ | refine q_es ?_ | refine q_gn ?_ | refine q_gr ?_ | refine q_ge ?_ | refine c_seq ?_ | refine c_block ?_ | refine c_scope ?_ | refine c_skip ?_ | refine c_label ?_ | refine c_ret ?_ | refine c_exit ?_ | (refine hK _ _ ?_; clear hK K) | refine seg_nil ?_) | ((with_reducible refine q_eo ?_ ?_); exact rfl)
      | ((with_reducible first | refine c_reg fun K hK => ?_ | refine c_drw (by decide +kernel) fun K hK => ?_ | refine c_cond ?_ | refine seg_cons fun K hK => ?_ | show endW _ _ _ _ _ | refine ifb_dec (fun _ => ?_) (fun _ => ?_) | refine ifb_ieq (fun _ => ?_) (fun _ => ?_) | refine ifb_seq (fun _ => ?_) (fun _ => ?_)) <;> try simp (disch := first | (with_unfolding_all first | exact Lk.mk rfl | exact Seen.of rfl) | assumption | (fail_if_success with_reducible first | refine Seen.of ?_ | apply Sl.frame | apply Ow.frame); omega) only [go_sem, Int.reduceEq, Int.reduceLE, Int.reduceLT, Int.reduceNe, Int.reduceNeg, Int.reduceAdd, Int.reduceSub, Int.reduceMul, Int.reduceToNat, Nat.reduceLT, Nat.reduceLeDiff, Nat.reduceEqDiff, Nat.reduceAdd, Nat.reduceSub, Nat.reduceMul, reduceCtorEq, reduceIte, e0, e1, hc1, hnx]))
      exact no _ (fun h => by have := h.1; omega) hk1
    · have ld := ldP s1 hbk
      have hix : (bs.length : Int) - 1 = (kn : Int) := by omega
      unfold cC at hcb
      rw [hrid] at hcb
      repeat' (first
      | (with_reducible first | refine q_nn ?_ | refine q_nr ?_ | refine q_ne ?_ | refine q_en ?_ | refine q_er ?_ | refine q_es ?_ | refine q_gn ?_ | refine q_gr ?_ | refine q_ge ?_ | refine c_seq ?_ | refine c_block ?_ | refine c_scope ?_ | refine c_skip ?_ | refine c_label ?_ | refine c_ret ?_ | refine c_exit ?_ | (refine hK _ _ ?_; clear hK K) | refine seg_nil ?_) | ((with_reducible refine q_eo ?_ ?_); exact rfl)
      | ((with_reducible first | refine c_reg fun K hK => ?_ | refine c_drw (by decide +kernel) fun K hK => ?_ | refine c_cond ?_ | refine seg_cons fun K hK => ?_ | show endW _ _ _ _ _ | refine ifb_dec (fun _ => ?_) (fun _ => ?_) | refine ifb_ieq (fun _ => ?_) (fun _ => ?_) | refine ifb_seq (fun _ => ?_) (fun _ => ?_)) <;> try simp (disch := first | (with_unfolding_all first | exact Lk.mk rfl | exact Seen.of rfl) | assumption | (fail_if_success with_reducible first | refine Seen.of ?_ | apply Sl.frame | apply Ow.frame); omega) only [go_sem, Int.reduceEq, Int.reduceLE, Int.reduceLT, Int.reduceNe, Int.reduceNeg, Int.reduceAdd, Int.reduceSub, Int.reduceMul, Int.reduceToNat, Nat.reduceLT, Nat.reduceLeDiff, Nat.reduceEqDiff, Nat.reduceAdd, Nat.reduceSub, Nat.reduceMul, reduceCtorEq, reduceIte, e0, e1, hc1, hnx, hix, ld, hcb]))
      exact no _ (fun h => by have := h.1; omega) hk1
  · by_cases hid2 : n.id % 2 = 0
    · rcases hlast with ⟨e1', e2'⟩ | ⟨e1', kn, b, v1, v2, v3, v4, r, hkn, hbk, hcb, hrid⟩
      · repeat' (first
      | (with_reducible first | refine q_nn ?_ | refine q_nr ?_ | refine q_ne ?_ | refine q_en ?_ | refine q_er ?_ | refine q_es ?_ | refine q_gn ?_ | refine q_gr ?_ | refine q_ge ?_ | refine c_seq ?_ | refine c_block ?_ | refine c_scope ?_ | refine c_skip ?_ | refine c_label ?_ | refine c_ret ?_ | refine c_exit ?_ | (refine hK _ _ ?_; clear hK K) | refine seg_nil ?_) | ((with_reducible refine q_eo ?_ ?_); exact rfl)
      | ((with_reducible first | refine c_reg fun K hK => ?_ | refine c_drw (by decide +kernel) fun K hK => ?_ | refine c_cond ?_ | refine seg_cons fun K hK => ?_ | show endW _ _ _ _ _ | refine ifb_dec (fun _ => ?_) (fun _ => ?_) | refine ifb_ieq (fun _ => ?_) (fun _ => ?_) | refine ifb_seq (fun _ => ?_) (fun _ => ?_)) <;> try simp (disch := first | (with_unfolding_all first | exact Lk.mk rfl | exact Seen.of rfl) | assumption | (fail_if_success with_reducible first | refine Seen.of ?_ | apply Sl.frame | apply Ow.frame); omega) only [go_sem, Int.reduceEq, Int.reduceLE, Int.reduceLT, Int.reduceNe, Int.reduceNeg, Int.reduceAdd, Int.reduceSub, Int.reduceMul, Int.reduceToNat, Nat.reduceLT, Nat.reduceLeDiff, Nat.reduceEqDiff, Nat.reduceAdd, Nat.reduceSub, Nat.reduceMul, reduceCtorEq, reduceIte, e0, e1, hc1, hnx, hid2]))
        exact no _ (fun h => h.2 hid2) hk1
      · have ld := ldP s1 hbk
        have hix : (bs.length : Int) - 1 = (kn : Int) := by omega
        unfold cC at hcb
        rw [hrid] at hcb
        repeat' (first
      | (with_reducible first | refine q_nn ?_ | refine q_nr ?_ | refine q_ne ?_ | refine q_en ?_ | refine q_er ?_ | refine q_es ?_ | refine q_gn ?_ | refine q_gr ?_ | refine q_ge ?_ | refine c_seq ?_ | refine c_block ?_ | refine c_scope ?_ | refine c_skip ?_ | refine c_label ?_ | refine c_ret ?_ | refine c_exit ?_ | (refine hK _ _ ?_; clear hK K) | refine seg_nil ?_) | ((with_reducible refine q_eo ?_ ?_); exact rfl)
      | ((with_reducible first | refine c_reg fun K hK => ?_ | refine c_drw (by decide +kernel) fun K hK => ?_ | refine c_cond ?_ | refine seg_cons fun K hK => ?_ | show endW _ _ _ _ _ | refine ifb_dec (fun _ => ?_) (fun _ => ?_) | refine ifb_ieq (fun _ => ?_) (fun _ => ?_) | refine ifb_seq (fun _ => ?_) (fun _ => ?_)) <;> try simp (disch := first | (with_unfolding_all first | exact Lk.mk rfl | exact Seen.of rfl) | assumption | (fail_if_success with_reducible first | refine Seen.of ?_ | apply Sl.frame | apply Ow.frame); omega) only [go_sem, Int.reduceEq, Int.reduceLE, Int.reduceLT, Int.reduceNe, Int.reduceNeg, Int.reduceAdd, Int.reduceSub, Int.reduceMul, Int.reduceToNat, Nat.reduceLT, Nat.reduceLeDiff, Nat.reduceEqDiff, Nat.reduceAdd, Nat.reduceSub, Nat.reduceMul, reduceCtorEq, reduceIte, e0, e1, hc1, hnx, hix, ld, hcb, hid2]))
        exact no _ (fun h => h.2 hid2) hk1
    · have hok : issueOk s.l n := ⟨by omega, hid2⟩
      rcases hlast with ⟨e1', e2'⟩ | ⟨e1', kn, b, v1, v2, v3, v4, r, hkn, hbk, hcb, hrid⟩
      case' inr =>
        have ld := ldP s1 hbk
        have hix : (bs.length : Int) - 1 = (kn : Int) := by omega
        unfold cC at hcb
        rw [hrid] at hcb
        repeat' (first
      | (with_reducible first | refine q_nn ?_ | refine q_nr ?_ | refine q_ne ?_ | refine q_en ?_ | refine q_er ?_ | refine q_es ?_ | refine q_gn ?_ | refine q_gr ?_ | refine q_ge ?_ | refine c_seq ?_ | refine c_block ?_ | refine c_scope ?_ | refine c_skip ?_ | refine c_label ?_ | refine c_ret ?_ | refine c_exit ?_ | (refine hK _ _ ?_; clear hK K) | refine seg_nil ?_) | ((with_reducible refine q_eo ?_ ?_); exact rfl)
      | ((with_reducible first | refine c_reg fun K hK => ?_ | refine c_drw (by decide +kernel) fun K hK => ?_ | refine c_cond ?_ | refine seg_cons fun K hK => ?_ | show endW _ _ _ _ _ | refine ifb_dec (fun _ => ?_) (fun _ => ?_) | refine ifb_ieq (fun _ => ?_) (fun _ => ?_) | refine ifb_seq (fun _ => ?_) (fun _ => ?_)) <;> try simp (disch := first | (with_unfolding_all first | exact Lk.mk rfl | exact Seen.of rfl) | assumption | (fail_if_success with_reducible first | refine Seen.of ?_ | apply Sl.frame | apply Ow.frame); omega) only [go_sem, Int.reduceEq, Int.reduceLE, Int.reduceLT, Int.reduceNe, Int.reduceNeg, Int.reduceAdd, Int.reduceSub, Int.reduceMul, Int.reduceToNat, Nat.reduceLT, Nat.reduceLeDiff, Nat.reduceEqDiff, Nat.reduceAdd, Nat.reduceSub, Nat.reduceMul, reduceCtorEq, reduceIte, e0, e1, hc1, hnx, hix, ld, hcb, hid2]))
      case' inl =>
        repeat' (first
      | (with_reducible first | refine q_nn ?_ | refine q_nr ?_ | refine q_ne ?_ | refine q_en ?_ | refine q_er ?_ | refine q_es ?_ | refine q_gn ?_ | refine q_gr ?_ | refine q_ge ?_ | refine c_seq ?_ | refine c_block ?_ | refine c_scope ?_ | refine c_skip ?_ | refine c_label ?_ | refine c_ret ?_ | refine c_exit ?_ | (refine hK _ _ ?_; clear hK K) | refine seg_nil ?_) | ((with_reducible refine q_eo ?_ ?_); exact rfl)
      | ((with_reducible first | refine c_reg fun K hK => ?_ | refine c_drw (by decide +kernel) fun K hK => ?_ | refine c_cond ?_ | refine seg_cons fun K hK => ?_ | show endW _ _ _ _ _ | refine ifb_dec (fun _ => ?_) (fun _ => ?_) | refine ifb_ieq (fun _ => ?_) (fun _ => ?_) | refine ifb_seq (fun _ => ?_) (fun _ => ?_)) <;> try simp (disch := first | (with_unfolding_all first | exact Lk.mk rfl | exact Seen.of rfl) | assumption | (fail_if_success with_reducible first | refine Seen.of ?_ | apply Sl.frame | apply Ow.frame); omega) only [go_sem, Int.reduceEq, Int.reduceLE, Int.reduceLT, Int.reduceNe, Int.reduceNeg, Int.reduceAdd, Int.reduceSub, Int.reduceMul, Int.reduceToNat, Nat.reduceLT, Nat.reduceLeDiff, Nat.reduceEqDiff, Nat.reduceAdd, Nat.reduceSub, Nat.reduceMul, reduceCtorEq, reduceIte, e0, e1, hc1, hnx, hid2]))
      all_goals
        refine c_looseW [(4, 12), (4, 21), (4, 22), (7, 12), (14, 0), (17, 0)] (by decide +kernel) ?_; repeat' (first
      | (with_reducible first | refine q_nn ?_ | refine q_nr ?_ | refine q_ne ?_ | refine q_en ?_ | refine q_er ?_ | refine q_es ?_ | refine q_gn ?_ | refine q_gr ?_ | refine q_ge ?_ | refine c_seq ?_ | refine c_block ?_ | refine c_scope ?_ | refine c_skip ?_ | refine c_label ?_ | refine c_ret ?_ | refine c_exit ?_ | (refine hK _ _ ?_; clear hK K) | refine seg_nil ?_) | ((with_reducible refine q_eo ?_ ?_); exact rfl)
      | ((with_reducible first | refine c_reg fun K hK => ?_ | refine c_drw (by decide +kernel) fun K hK => ?_ | refine c_cond ?_ | refine seg_cons fun K hK => ?_ | show endW _ _ _ _ _ | refine ifb_dec (fun _ => ?_) (fun _ => ?_) | refine ifb_ieq (fun _ => ?_) (fun _ => ?_) | refine ifb_seq (fun _ => ?_) (fun _ => ?_)) <;> try simp (disch := first | (with_unfolding_all first | exact Lk.mk rfl | exact Seen.of rfl) | assumption | (fail_if_success with_reducible first | refine Seen.of ?_ | apply Sl.frame | apply Ow.frame); omega) only [go_sem, Int.reduceEq, Int.reduceLE, Int.reduceLT, Int.reduceNe, Int.reduceNeg, Int.reduceAdd, Int.reduceSub, Int.reduceMul, Int.reduceToNat, Nat.reduceLT, Nat.reduceLeDiff, Nat.reduceEqDiff, Nat.reduceAdd, Nat.reduceSub, Nat.reduceMul, reduceCtorEq, reduceIte, e0, e1, hc1, hnx])
      | with_reducible refine obl_and (by simp (disch := first | (with_unfolding_all first | exact Lk.mk rfl | exact Seen.of rfl) | assumption | (fail_if_success with_reducible first | refine Seen.of ?_ | apply Sl.frame | apply Ow.frame); omega) only [go_sem, Int.reduceEq, Int.reduceLE, Int.reduceLT, Int.reduceNe, Int.reduceNeg, Int.reduceAdd, Int.reduceSub, Int.reduceMul, Int.reduceToNat, Nat.reduceLT, Nat.reduceLeDiff, Nat.reduceEqDiff, Nat.reduceAdd, Nat.reduceSub, Nat.reduceMul, reduceCtorEq, reduceIte, e0, e1, hc1, hnx]) ?_)
        refine callM_of (cloneF n.fv i n.fs h1 sf q1) ?_
        rintro v h2 ⟨⟨gf, ogf, hgf⟩, k2⟩
        have z2 := k2.1
        have c2 := (k2.2 p hp1).trans hc1
        have x2 := (k2.2 h0.size (by omega)).trans hnx
        have fz1 := ogf.one
        have fz2 := ogf.cells
        refine vI ?_; repeat' (first
      | (with_reducible first | refine q_nn ?_ | refine q_nr ?_ | refine q_ne ?_ | refine q_en ?_ | refine q_er ?_ | refine q_es ?_ | refine q_gn ?_ | refine q_gr ?_ | refine q_ge ?_ | refine c_seq ?_ | refine c_block ?_ | refine c_scope ?_ | refine c_skip ?_ | refine c_label ?_ | refine c_ret ?_ | refine c_exit ?_ | (refine hK _ _ ?_; clear hK K) | refine seg_nil ?_) | ((with_reducible refine q_eo ?_ ?_); exact rfl)
      | ((with_reducible first | refine vO ?_ | refine c_reg fun K hK => ?_ | refine c_drw (by decide +kernel) fun K hK => ?_ | refine c_cond ?_ | refine seg_cons fun K hK => ?_ | show endW _ _ _ _ _ | refine ifb_dec (fun _ => ?_) (fun _ => ?_) | refine ifb_ieq (fun _ => ?_) (fun _ => ?_) | refine ifb_seq (fun _ => ?_) (fun _ => ?_)) <;> try simp (disch := first | (with_unfolding_all first | exact Lk.mk rfl | exact Seen.of rfl) | assumption | (fail_if_success with_reducible first | refine Seen.of ?_ | apply Sl.frame | apply Ow.frame); omega) only [go_sem, Int.reduceEq, Int.reduceLE, Int.reduceLT, Int.reduceNe, Int.reduceNeg, Int.reduceAdd, Int.reduceSub, Int.reduceMul, Int.reduceToNat, Nat.reduceLT, Nat.reduceLeDiff, Nat.reduceEqDiff, Nat.reduceAdd, Nat.reduceSub, Nat.reduceMul, reduceCtorEq, reduceIte, e0, e1, c2, x2, hc1, hnx, fz1, fz2])
      | with_reducible refine obl_and (by simp (disch := first | (with_unfolding_all first | exact Lk.mk rfl | exact Seen.of rfl) | assumption | (fail_if_success with_reducible first | refine Seen.of ?_ | apply Sl.frame | apply Ow.frame); omega) only [go_sem, Int.reduceEq, Int.reduceLE, Int.reduceLT, Int.reduceNe, Int.reduceNeg, Int.reduceAdd, Int.reduceSub, Int.reduceMul, Int.reduceToNat, Nat.reduceLT, Nat.reduceLeDiff, Nat.reduceEqDiff, Nat.reduceAdd, Nat.reduceSub, Nat.reduceMul, reduceCtorEq, reduceIte, e0, e1, c2, x2, hc1, hnx, fz1, fz2]) ?_)
        have hs2 : p < h2.size := by omega
        have o3N : OwN EP (h2.push (.cells (cC (newRq n) v (.slice none 0 0 0 true) (.slice none 0 0 0 true) (.slice none 0 0 0 true)))) g sl bs := by
          refine o.frame (fun x hx => ?_) (by rw [AH.size_push]; omega)
          have := o.lt hx
          rw [AH.get_push, if_neg (by omega), k2.2 _ (by omega), hk1.2 _ this]
        refine Try.al57 (E := EP) h2.size o3N.ow rfl rfl (by exact .mk) (by omega) fun z h4 i4 o4 hi4 z4 f4 => ?_
        obtain ⟨g4, og4, hg4⟩ := OwN.of (g := g) o4 hi4 rfl
        rw [AH.size_push] at z4 f4 hg4
        have nb : ∀ x, x < h2.size + 1 → ¬ g = some x → h4.get x = (h2.push (.cells (cC (newRq n) v (.slice none 0 0 0 true) (.slice none 0 0 0 true) (.slice none 0 0 0 true)))).get x := fun x hx hgx => by
          refine f4 x hx ?_
          cases hg : g with
          | none => simp; omega
          | some y => simp only [Option.getD_some]; intro e; exact hgx (by rw [hg, e])
        have gp : ∀ x, g = some x → ¬ x = p := fun x hx e => by have := t x hx; rw [e, hO] at this; omega
        have c4 : h4.get p = some (.cells [sl, .bool false, .bool s.cl, .bool s.sv]) := by
          rw [nb p (by omega) (fun e => gp p e rfl), AH.get_push, if_neg (by omega)]; exact c2
        have zo1 := og4.one
        have zo2 := og4.cells
        refine vI ?_; repeat' (first
      | (with_reducible first | refine q_nn ?_ | refine q_nr ?_ | refine q_ne ?_ | refine q_en ?_ | refine q_er ?_ | refine q_es ?_ | refine q_gn ?_ | refine q_gr ?_ | refine q_ge ?_ | refine c_seq ?_ | refine c_block ?_ | refine c_scope ?_ | refine c_skip ?_ | refine c_label ?_ | refine c_ret ?_ | refine c_exit ?_ | (refine hK _ _ ?_; clear hK K) | refine seg_nil ?_) | ((with_reducible refine q_eo ?_ ?_); exact rfl)
      | ((with_reducible first | refine vO ?_ | refine c_reg fun K hK => ?_ | refine c_drw (by decide +kernel) fun K hK => ?_ | refine c_cond ?_ | refine seg_cons fun K hK => ?_ | show endW _ _ _ _ _ | refine ifb_dec (fun _ => ?_) (fun _ => ?_) | refine ifb_ieq (fun _ => ?_) (fun _ => ?_) | refine ifb_seq (fun _ => ?_) (fun _ => ?_)) <;> try simp (disch := first | (with_unfolding_all first | exact Lk.mk rfl | exact Seen.of rfl) | assumption | (fail_if_success with_reducible first | refine Seen.of ?_ | apply Sl.frame | apply Ow.frame); omega) only [go_sem, Int.reduceEq, Int.reduceLE, Int.reduceLT, Int.reduceNe, Int.reduceNeg, Int.reduceAdd, Int.reduceSub, Int.reduceMul, Int.reduceToNat, Nat.reduceLT, Nat.reduceLeDiff, Nat.reduceEqDiff, Nat.reduceAdd, Nat.reduceSub, Nat.reduceMul, reduceCtorEq, reduceIte, e0, e1, c4, c2, x2, hnx, hc1, zo1, zo2, stC_1 (Seen.of zo1)])
      | with_reducible refine obl_and (by simp (disch := first | (with_unfolding_all first | exact Lk.mk rfl | exact Seen.of rfl) | assumption | (fail_if_success with_reducible first | refine Seen.of ?_ | apply Sl.frame | apply Ow.frame); omega) only [go_sem, Int.reduceEq, Int.reduceLE, Int.reduceLT, Int.reduceNe, Int.reduceNeg, Int.reduceAdd, Int.reduceSub, Int.reduceMul, Int.reduceToNat, Nat.reduceLT, Nat.reduceLeDiff, Nat.reduceEqDiff, Nat.reduceAdd, Nat.reduceSub, Nat.reduceMul, reduceCtorEq, reduceIte, e0, e1, c4, c2, x2, hnx, hc1, zo1, zo2, stC_1 (Seen.of zo1)]) ?_)
        have old : ∀ x, x < h0.size → ¬ x = p → ¬ g = some x → (h4.set p (.cells [z, .bool false, .bool s.cl, .bool s.sv])).get x = h0.get x := fun x hx hxp hxg => by
          rw [AH.get_set, if_neg hxp, nb x (by omega) hxg, AH.get_push, if_neg (by omega), k2.2 x (by omega), hk1.2 x hx]
        have g4p : ∀ x, g4 = some x → ¬ x = p := fun x hx e => by
          rcases hg4 with h | h | ⟨y, h, hy⟩
          · rw [h] at hx; cases hx
          · exact gp x (by rw [← h]; exact hx) e
          · rw [h] at hx; cases hx; omega
        refine yes _ hok ⟨by simp; omega, fun x hx hx0 => old x hx (fun e => by rw [e, hO] at hx0; cases hx0) (fun e => by rw [t x e] at hx0; cases hx0), fun x => if x < h0.size then O x else if x = h2.size then 8 * (s.l.length + 1) else if gf = some x then 8 * (s.l.length + 1) + 1 else if g4 = some x then 2 else 0, fun x hx => if_pos hx, z, g4, bs ++ [h2.size], by rw [AH.get_set, if_pos rfl], by simp; omega, by simp only; rw [if_pos hp, hO], og4.frame (fun x hx => by rw [AH.get_set, if_neg (g4p x hx)]) (by simp), fun x hx => ?_, by simp [hbn], fun k r' b' h1' h2' => ?_⟩
        · simp only
          rcases hg4 with h | h | ⟨y, h, hy⟩
          · rw [h] at hx; cases hx
          · rw [h] at hx
            rw [if_pos (o.lt hx)]; exact t x hx
          · have hxy := hx
            rw [h] at hxy; cases hxy
            rw [if_neg (by omega), if_neg (by omega), if_neg (fun e => by have := ogf.lt e; omega), if_pos hx]
        · by_cases hk : k < s.l.length
          · rw [List.getElem?_append_left hk] at h1'
            rw [List.getElem?_append_left (by omega)] at h2'
            refine (hr k r' b' h1' h2').frame (fun x hx h3' h4' => old x hx (fun e => by rw [e, hO] at h3'; omega) (fun e => by rw [t x e] at h3'; omega)) (by simp; omega) (fun x hx => if_pos hx)
          · rw [List.getElem?_append_right (by omega)] at h1'
            have hk2 : k = s.l.length := by
              have := (List.getElem?_eq_some_iff.1 h1').1
              simp at this; omega
            subst hk2
            rw [List.getElem?_append_right (by omega), hbn] at h2'
            simp at h1' h2'
            subst h1'; subst h2'
            refine ⟨gf, none, none, none, v, .slice none 0 0 0 true, .slice none 0 0 0 true, .slice none 0 0 0 true, ?_, by simp; omega, ?_, ogf.frame (fun x hx => ?_) (by simp; omega), .nil _ _, .nil _ _, .nil _ _, fun x hx => ?_, by simp, by simp, by simp⟩
            · rw [AH.get_set, if_neg (by omega), nb _ (by omega) (fun e => by have := o.lt e; omega), AH.get_push, if_pos rfl]
            · simp only; rw [if_neg (by omega), if_pos trivial]
            · have := ogf.lt hx
              have := hgf x hx
              rw [AH.get_set, if_neg (by omega), nb _ (by omega) (fun e => by have := o.lt e; omega), AH.get_push, if_neg (by omega)]
            · have := ogf.lt hx
              have := hgf x hx
              simp only; rw [if_neg (by omega), if_neg (by omega), if_pos hx]
end Go.Proofs.Ytanbckdhlmhdeaa
