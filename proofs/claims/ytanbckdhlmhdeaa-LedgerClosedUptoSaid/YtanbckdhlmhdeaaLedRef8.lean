/- ledger: the reference: issue. -/
import Derived.Test.YtanbckdhlmhdeaaLedRef7
set_option linter.unusedSimpArgs false
set_option linter.unusedVariables false
namespace Go.Proofs.Ytanbckdhlmhdeaa
open Go.Abs
set_option maxRecDepth 100000
open Classical in
set_option maxHeartbeats 8000000 in
theorem rissue (O : Nat → Nat) (p : Nat) (s : Sg) (n : Nt) (h0 : AH) (hl : LgR O h0 p s) (hn : NtOk h0 n) (hw : WfS s) (hro : n.role = 1) (hcl : s.cl = false) (k15 : n.kind = 15) (hid : -9223372036854775808 ≤ n.id ∧ n.id ≤ 9223372036854775807) :
    callW Try.prog Try.T 23 [.ptr (some (p, 0)), .agg (eC n)] h0 fun v h' => v = .bool (noteC s n).isSome ∧ StepM O h0 h' p ((noteC s n).getD s) := by
  refine callW_hide fun KK hKK => ?_
  have hk1 := box_keep h0 (eC n)
  have hl1 := hl.after hk1
  have hn1 := hn.keep hk1
  have fin : ∀ (v : AV) (h' : AH) (o : Option Sg), noteC s n = o → v = .bool o.isSome → StepM (O1 O h0) (h0.push (.cells (eC n))) h' p (o.getD s) → KK v h' := fun v h' o e1 e2 e3 => hKK _ _ (by rw [e1]; exact ⟨e2, e3.after hk1⟩)
  have of : n.fv.one = true := hn.1.elim fun i q => q.one
  have od : n.dv.one = true := hn.2.1.elim fun i q => q.one
  clear hKK hk1
  have hnx : (h0.push (.cells (eC n))).get h0.size = some (.cells (eC n)) := by simp (disch := first | (with_unfolding_all first | exact Lk.mk rfl | exact Seen.of rfl) | assumption | (fail_if_success with_reducible first | refine Seen.of ?_ | apply Sl.frame | apply Ow.frame); omega) only [go_sem, Int.reduceEq, Int.reduceLE, Int.reduceLT, Int.reduceNe, Int.reduceNeg, Int.reduceAdd, Int.reduceSub, Int.reduceMul, Int.reduceToNat, Nat.reduceLT, Nat.reduceLeDiff, Nat.reduceEqDiff, Nat.reduceAdd, Nat.reduceSub, Nat.reduceMul, reduceCtorEq, reduceIte]
  have hz : (h0.push (.cells (eC n))).size = h0.size + 1 := by simp (disch := first | (with_unfolding_all first | exact Lk.mk rfl | exact Seen.of rfl) | assumption | (fail_if_success with_reducible first | refine Seen.of ?_ | apply Sl.frame | apply Ow.frame); omega) only [go_sem, Int.reduceEq, Int.reduceLE, Int.reduceLT, Int.reduceNe, Int.reduceNeg, Int.reduceAdd, Int.reduceSub, Int.reduceMul, Int.reduceToNat, Nat.reduceLT, Nat.reduceLeDiff, Nat.reduceEqDiff, Nat.reduceAdd, Nat.reduceSub, Nat.reduceMul, reduceCtorEq, reduceIte]
  refine callW_in (n := 180) (rs := [.tmp 4]) (m := 180) Try.func23 rfl rfl rfl rfl fun tr ht => ?_; have e0 := ht 0 _ rfl; have e1 := ht 1 _ rfl; clear ht
  unfold eC at e1
  refine c_seq ?_
  refine c_reg fun K hK => ?_
  simp (disch := first | (with_unfolding_all first | exact Lk.mk rfl | exact Seen.of rfl) | assumption | (fail_if_success with_reducible first | refine Seen.of ?_ | apply Sl.frame | apply Ow.frame); omega) only [go_sem, Int.reduceEq, Int.reduceLE, Int.reduceLT, Int.reduceNe, Int.reduceNeg, Int.reduceAdd, Int.reduceSub, Int.reduceMul, Int.reduceToNat, Nat.reduceLT, Nat.reduceLeDiff, Nat.reduceEqDiff, Nat.reduceAdd, Nat.reduceSub, Nat.reduceMul, reduceCtorEq, reduceIte, e0, e1, of, od]
  refine hK _ _ ?_
  clear hK K
  refine q_nn ?_
  have hfold : [AV.int .i64 n.kind, .int .i64 n.id, n.fv, n.dv, .bool n.fin, .int .i64 n.code, .int .i64 n.last] = eC n := rfl
  rw [hfold]
  generalize h0.push (.cells (eC n)) = h1 at *
  generalize O1 O h0 = Q at *
  have keep : StepM Q h1 h1 p s := stepMKeep hl1 (Keeps.refl _ _)
  have hlc := hl1
  obtain ⟨sl, g, bs, hc, hp, hO, o, t, hbn, hr⟩ := hlc
  have hnx0 := hnx
  unfold eC at hnx
  obtain ⟨hwr, htop, hsl⟩ := hw
  unfold noteC at fin
  rw [if_neg (fun h => h (by omega)), if_neg (fun h => by rcases h with ⟨a, b⟩ | ⟨a, b⟩; all_goals first | omega | (rw [hcl] at b; cases b))] at fin
  have find := rfind Q p s n.id h1 sl g bs hc hp o hbn hr hsl
  rw [if_neg (by omega), if_neg (by omega), if_pos k15] at fin
  repeat' (first
      | (with_reducible first | refine q_nn ?_ | refine q_nr ?_ | refine q_ne ?_ | refine q_en ?_ | refine q_er ?_ | refine q_es ?_ | refine q_gn ?_ | refine q_gr ?_ | refine q_ge ?_ | refine c_seq ?_ | refine c_block ?_ | refine c_scope ?_ | refine c_skip ?_ | refine c_label ?_ | refine c_ret ?_ | refine c_exit ?_ | (refine hK _ _ ?_; clear hK K) | refine seg_nil ?_) | ((with_reducible refine q_eo ?_ ?_); exact rfl)
      | ((with_reducible first | refine c_reg fun K hK => ?_ | refine c_drw (by decide +kernel) fun K hK => ?_ | refine c_cond ?_ | refine seg_cons fun K hK => ?_ | show endW _ _ _ _ _ | refine ifb_dec (fun _ => ?_) (fun _ => ?_) | refine ifb_ieq (fun _ => ?_) (fun _ => ?_) | refine ifb_seq (fun _ => ?_) (fun _ => ?_)) <;> try simp (disch := first | (with_unfolding_all first | exact Lk.mk rfl | exact Seen.of rfl) | assumption | (fail_if_success with_reducible first | refine Seen.of ?_ | apply Sl.frame | apply Ow.frame); omega) only [go_sem, Int.reduceEq, Int.reduceLE, Int.reduceLT, Int.reduceNe, Int.reduceNeg, Int.reduceAdd, Int.reduceSub, Int.reduceMul, Int.reduceToNat, Nat.reduceLT, Nat.reduceLeDiff, Nat.reduceEqDiff, Nat.reduceAdd, Nat.reduceSub, Nat.reduceMul, reduceCtorEq, reduceIte, e0, e1, hc, hnx, k15]))
  refine callM_of find ?_
  rintro v h2 ⟨rfl, hfd⟩
  have hfd' : ∃ q, v = AV.ptr q := by
    rcases hfd with ⟨_, rfl⟩ | ⟨k, b, r, _, _, rfl, _⟩
    · exact ⟨_, rfl⟩
    · exact ⟨_, rfl⟩
  obtain ⟨q, rfl⟩ := hfd'
  clear hfd find
  have s1 := o.sl
  have hlast : s.l.length = 0 ∧ topId s.l = 0 ∨ 0 < s.l.length ∧ ∃ (kn b : Nat) (v1 v2 v3 v4 : AV) (r : Rq), kn + 1 = bs.length ∧ bs[kn]? = some b ∧ h2.get b = some (.cells (cR r v1 v2 v3 v4)) ∧ r.id = topId s.l := by
    by_cases hlen : s.l.length = 0
    · left
      have : s.l = [] := List.eq_nil_of_length_eq_zero hlen
      rw [this]; exact ⟨rfl, rfl⟩
    · right
      have h1' : s.l[s.l.length - 1]? = some s.l[s.l.length - 1] := List.getElem?_eq_getElem (by omega)
      have h2' : bs[s.l.length - 1]? = some (bs[s.l.length - 1]'(by omega)) := List.getElem?_eq_getElem (by omega)
      obtain ⟨g1, g2, g3, g4, v1, v2, v3, v4, hcb, hbb, _⟩ := hr _ _ _ h1' h2'
      exact ⟨by omega, s.l.length - 1, _, v1, v2, v3, v4, _, by omega, h2', hcb, (topId_last h1').symm⟩
  have no : ¬ issueOk s.l n → KK (.bool false) h2 := fun h => fin _ _ none (if_neg (fun h' => h h'.2)) rfl keep
  have yes : ∀ h', issueOk s.l n → StepM Q h2 h' p { s with l := s.l ++ [newRq n] } → KK (.bool true) h' := fun h' h st => fin _ _ (some _) (if_pos ⟨hro, h⟩) rfl st
  clear fin keep
  by_cases i1 : n.id < 1
  · refine vI ?_; repeat' (first
      | (with_reducible first | refine q_nn ?_ | refine q_nr ?_ | refine q_ne ?_ | refine q_en ?_ | refine q_er ?_ | refine q_es ?_ | refine q_gn ?_ | refine q_gr ?_ | refine q_ge ?_ | refine c_seq ?_ | refine c_block ?_ | refine c_scope ?_ | refine c_skip ?_ | refine c_label ?_ | refine c_ret ?_ | refine c_exit ?_ | (refine hK _ _ ?_; clear hK K) | refine seg_nil ?_) | ((with_reducible refine q_eo ?_ ?_); exact rfl)
      | ((with_reducible first | refine vO ?_ | refine c_reg fun K hK => ?_ | refine c_drw (by decide +kernel) fun K hK => ?_ | refine c_cond ?_ | refine seg_cons fun K hK => ?_ | show endW _ _ _ _ _ | refine ifb_dec (fun _ => ?_) (fun _ => ?_) | refine ifb_ieq (fun _ => ?_) (fun _ => ?_) | refine ifb_seq (fun _ => ?_) (fun _ => ?_)) <;> try simp (disch := first | (with_unfolding_all first | exact Lk.mk rfl | exact Seen.of rfl) | assumption | (fail_if_success with_reducible first | refine Seen.of ?_ | apply Sl.frame | apply Ow.frame); omega) only [go_sem, Int.reduceEq, Int.reduceLE, Int.reduceLT, Int.reduceNe, Int.reduceNeg, Int.reduceAdd, Int.reduceSub, Int.reduceMul, Int.reduceToNat, Nat.reduceLT, Nat.reduceLeDiff, Nat.reduceEqDiff, Nat.reduceAdd, Nat.reduceSub, Nat.reduceMul, reduceCtorEq, reduceIte, e0, e1, hc, hnx, k15]))
    exact no (fun h => by have := h.1; omega)
  · by_cases i2 : n.id % 2 = 0
    · refine vI ?_; repeat' (first
      | (with_reducible first | refine q_nn ?_ | refine q_nr ?_ | refine q_ne ?_ | refine q_en ?_ | refine q_er ?_ | refine q_es ?_ | refine q_gn ?_ | refine q_gr ?_ | refine q_ge ?_ | refine c_seq ?_ | refine c_block ?_ | refine c_scope ?_ | refine c_skip ?_ | refine c_label ?_ | refine c_ret ?_ | refine c_exit ?_ | (refine hK _ _ ?_; clear hK K) | refine seg_nil ?_) | ((with_reducible refine q_eo ?_ ?_); exact rfl)
      | ((with_reducible first | refine vO ?_ | refine c_reg fun K hK => ?_ | refine c_drw (by decide +kernel) fun K hK => ?_ | refine c_cond ?_ | refine seg_cons fun K hK => ?_ | show endW _ _ _ _ _ | refine ifb_dec (fun _ => ?_) (fun _ => ?_) | refine ifb_ieq (fun _ => ?_) (fun _ => ?_) | refine ifb_seq (fun _ => ?_) (fun _ => ?_)) <;> try simp (disch := first | (with_unfolding_all first | exact Lk.mk rfl | exact Seen.of rfl) | assumption | (fail_if_success with_reducible first | refine Seen.of ?_ | apply Sl.frame | apply Ow.frame); omega) only [go_sem, Int.reduceEq, Int.reduceLE, Int.reduceLT, Int.reduceNe, Int.reduceNeg, Int.reduceAdd, Int.reduceSub, Int.reduceMul, Int.reduceToNat, Nat.reduceLT, Nat.reduceLeDiff, Nat.reduceEqDiff, Nat.reduceAdd, Nat.reduceSub, Nat.reduceMul, reduceCtorEq, reduceIte, e0, e1, hc, hnx, k15, i2]))
      exact no (fun h => h.2 i2)
    · by_cases i3 : n.id ≤ topId s.l
      · rcases hlast with ⟨e1', e2'⟩ | ⟨e1', kn, b, v1, v2, v3, v4, r, hkn, hbk, hcb, hrid⟩
        · omega
        · have ld := ldQ s1 hbk
          have hix : (bs.length : Int) - 1 = (kn : Int) := by omega
          unfold cR at hcb
          rw [hrid] at hcb
          refine vI ?_; repeat' (first
      | (with_reducible first | refine q_nn ?_ | refine q_nr ?_ | refine q_ne ?_ | refine q_en ?_ | refine q_er ?_ | refine q_es ?_ | refine q_gn ?_ | refine q_gr ?_ | refine q_ge ?_ | refine c_seq ?_ | refine c_block ?_ | refine c_scope ?_ | refine c_skip ?_ | refine c_label ?_ | refine c_ret ?_ | refine c_exit ?_ | (refine hK _ _ ?_; clear hK K) | refine seg_nil ?_) | ((with_reducible refine q_eo ?_ ?_); exact rfl)
      | ((with_reducible first | refine vO ?_ | refine c_reg fun K hK => ?_ | refine c_drw (by decide +kernel) fun K hK => ?_ | refine c_cond ?_ | refine seg_cons fun K hK => ?_ | show endW _ _ _ _ _ | refine ifb_dec (fun _ => ?_) (fun _ => ?_) | refine ifb_ieq (fun _ => ?_) (fun _ => ?_) | refine ifb_seq (fun _ => ?_) (fun _ => ?_)) <;> try simp (disch := first | (with_unfolding_all first | exact Lk.mk rfl | exact Seen.of rfl) | assumption | (fail_if_success with_reducible first | refine Seen.of ?_ | apply Sl.frame | apply Ow.frame); omega) only [go_sem, Int.reduceEq, Int.reduceLE, Int.reduceLT, Int.reduceNe, Int.reduceNeg, Int.reduceAdd, Int.reduceSub, Int.reduceMul, Int.reduceToNat, Nat.reduceLT, Nat.reduceLeDiff, Nat.reduceEqDiff, Nat.reduceAdd, Nat.reduceSub, Nat.reduceMul, reduceCtorEq, reduceIte, e0, e1, hc, hnx, k15, i2, hix, ld, hcb]))
          exact no (fun h => by have := h.1; omega)
      · have hok : issueOk s.l n := ⟨by omega, i2⟩
        rcases hlast with ⟨e1', e2'⟩ | ⟨e1', kn, b, v1, v2, v3, v4, r, hkn, hbk, hcb, hrid⟩
        case' inr =>
          have ld := ldQ s1 hbk
          have hix : (bs.length : Int) - 1 = (kn : Int) := by omega
          unfold cR at hcb
          rw [hrid] at hcb
          refine vI ?_; repeat' (first
      | (with_reducible first | refine q_nn ?_ | refine q_nr ?_ | refine q_ne ?_ | refine q_en ?_ | refine q_er ?_ | refine q_es ?_ | refine q_gn ?_ | refine q_gr ?_ | refine q_ge ?_ | refine c_seq ?_ | refine c_block ?_ | refine c_scope ?_ | refine c_skip ?_ | refine c_label ?_ | refine c_ret ?_ | refine c_exit ?_ | (refine hK _ _ ?_; clear hK K) | refine seg_nil ?_) | ((with_reducible refine q_eo ?_ ?_); exact rfl)
      | ((with_reducible first | refine vO ?_ | refine c_reg fun K hK => ?_ | refine c_drw (by decide +kernel) fun K hK => ?_ | refine c_cond ?_ | refine seg_cons fun K hK => ?_ | show endW _ _ _ _ _ | refine ifb_dec (fun _ => ?_) (fun _ => ?_) | refine ifb_ieq (fun _ => ?_) (fun _ => ?_) | refine ifb_seq (fun _ => ?_) (fun _ => ?_)) <;> try simp (disch := first | (with_unfolding_all first | exact Lk.mk rfl | exact Seen.of rfl) | assumption | (fail_if_success with_reducible first | refine Seen.of ?_ | apply Sl.frame | apply Ow.frame); omega) only [go_sem, Int.reduceEq, Int.reduceLE, Int.reduceLT, Int.reduceNe, Int.reduceNeg, Int.reduceAdd, Int.reduceSub, Int.reduceMul, Int.reduceToNat, Nat.reduceLT, Nat.reduceLeDiff, Nat.reduceEqDiff, Nat.reduceAdd, Nat.reduceSub, Nat.reduceMul, reduceCtorEq, reduceIte, e0, e1, hc, hnx, k15, i2, hix, ld, hcb]))
        case' inl =>
          refine vI ?_; repeat' (first
      | (with_reducible first | refine q_nn ?_ | refine q_nr ?_ | refine q_ne ?_ | refine q_en ?_ | refine q_er ?_ | refine q_es ?_ | refine q_gn ?_ | refine q_gr ?_ | refine q_ge ?_ | refine c_seq ?_ | refine c_block ?_ | refine c_scope ?_ | refine c_skip ?_ | refine c_label ?_ | refine c_ret ?_ | refine c_exit ?_ | (refine hK _ _ ?_; clear hK K) | refine seg_nil ?_) | ((with_reducible refine q_eo ?_ ?_); exact rfl)
      | ((with_reducible first | refine vO ?_ | refine c_reg fun K hK => ?_ | refine c_drw (by decide +kernel) fun K hK => ?_ | refine c_cond ?_ | refine seg_cons fun K hK => ?_ | show endW _ _ _ _ _ | refine ifb_dec (fun _ => ?_) (fun _ => ?_) | refine ifb_ieq (fun _ => ?_) (fun _ => ?_) | refine ifb_seq (fun _ => ?_) (fun _ => ?_)) <;> try simp (disch := first | (with_unfolding_all first | exact Lk.mk rfl | exact Seen.of rfl) | assumption | (fail_if_success with_reducible first | refine Seen.of ?_ | apply Sl.frame | apply Ow.frame); omega) only [go_sem, Int.reduceEq, Int.reduceLE, Int.reduceLT, Int.reduceNe, Int.reduceNeg, Int.reduceAdd, Int.reduceSub, Int.reduceMul, Int.reduceToNat, Nat.reduceLT, Nat.reduceLeDiff, Nat.reduceEqDiff, Nat.reduceAdd, Nat.reduceSub, Nat.reduceMul, reduceCtorEq, reduceIte, e0, e1, hc, hnx, k15, i2]))
        all_goals
          refine c_looseW [(4, 9), (4, 11), (4, 12), (6, 9)] (by decide +kernel) ?_; repeat' (first
      | (with_reducible first | refine q_nn ?_ | refine q_nr ?_ | refine q_ne ?_ | refine q_en ?_ | refine q_er ?_ | refine q_es ?_ | refine q_gn ?_ | refine q_gr ?_ | refine q_ge ?_ | refine c_seq ?_ | refine c_block ?_ | refine c_scope ?_ | refine c_skip ?_ | refine c_label ?_ | refine c_ret ?_ | refine c_exit ?_ | (refine hK _ _ ?_; clear hK K) | refine seg_nil ?_) | ((with_reducible refine q_eo ?_ ?_); exact rfl)
      | ((with_reducible first | refine c_reg fun K hK => ?_ | refine c_drw (by decide +kernel) fun K hK => ?_ | refine c_cond ?_ | refine seg_cons fun K hK => ?_ | show endW _ _ _ _ _ | refine ifb_dec (fun _ => ?_) (fun _ => ?_) | refine ifb_ieq (fun _ => ?_) (fun _ => ?_) | refine ifb_seq (fun _ => ?_) (fun _ => ?_)) <;> try simp (disch := first | (with_unfolding_all first | exact Lk.mk rfl | exact Seen.of rfl) | assumption | (fail_if_success with_reducible first | refine Seen.of ?_ | apply Sl.frame | apply Ow.frame); omega) only [go_sem, Int.reduceEq, Int.reduceLE, Int.reduceLT, Int.reduceNe, Int.reduceNeg, Int.reduceAdd, Int.reduceSub, Int.reduceMul, Int.reduceToNat, Nat.reduceLT, Nat.reduceLeDiff, Nat.reduceEqDiff, Nat.reduceAdd, Nat.reduceSub, Nat.reduceMul, reduceCtorEq, reduceIte, e0, e1, hc, hnx])
      | with_reducible refine obl_and (by simp (disch := first | (with_unfolding_all first | exact Lk.mk rfl | exact Seen.of rfl) | assumption | (fail_if_success with_reducible first | refine Seen.of ?_ | apply Sl.frame | apply Ow.frame); omega) only [go_sem, Int.reduceEq, Int.reduceLE, Int.reduceLT, Int.reduceNe, Int.reduceNeg, Int.reduceAdd, Int.reduceSub, Int.reduceMul, Int.reduceToNat, Nat.reduceLT, Nat.reduceLeDiff, Nat.reduceEqDiff, Nat.reduceAdd, Nat.reduceSub, Nat.reduceMul, reduceCtorEq, reduceIte, e0, e1, hc, hnx]) ?_)
          refine callM_of (rhand n _ hn1) ?_
          rintro v h3 ⟨zf, gf, rfl, ogf, hgf, k3⟩
          have z3 := k3.1
          have c3 := (k3.2 p hp).trans hc
          have x3 := (k3.2 h0.size (by omega)).trans hnx
          have fz1 := ogf.one
          have fz2 := ogf.cells
          refine vI ?_; repeat' (first
      | (with_reducible first | refine q_nn ?_ | refine q_nr ?_ | refine q_ne ?_ | refine q_en ?_ | refine q_er ?_ | refine q_es ?_ | refine q_gn ?_ | refine q_gr ?_ | refine q_ge ?_ | refine c_seq ?_ | refine c_block ?_ | refine c_scope ?_ | refine c_skip ?_ | refine c_label ?_ | refine c_ret ?_ | refine c_exit ?_ | (refine hK _ _ ?_; clear hK K) | refine seg_nil ?_) | ((with_reducible refine q_eo ?_ ?_); exact rfl)
      | ((with_reducible first | refine vO ?_ | refine c_reg fun K hK => ?_ | refine c_drw (by decide +kernel) fun K hK => ?_ | refine c_cond ?_ | refine seg_cons fun K hK => ?_ | show endW _ _ _ _ _ | refine ifb_dec (fun _ => ?_) (fun _ => ?_) | refine ifb_ieq (fun _ => ?_) (fun _ => ?_) | refine ifb_seq (fun _ => ?_) (fun _ => ?_)) <;> try simp (disch := first | (with_unfolding_all first | exact Lk.mk rfl | exact Seen.of rfl) | assumption | (fail_if_success with_reducible first | refine Seen.of ?_ | apply Sl.frame | apply Ow.frame); omega) only [go_sem, Int.reduceEq, Int.reduceLE, Int.reduceLT, Int.reduceNe, Int.reduceNeg, Int.reduceAdd, Int.reduceSub, Int.reduceMul, Int.reduceToNat, Nat.reduceLT, Nat.reduceLeDiff, Nat.reduceEqDiff, Nat.reduceAdd, Nat.reduceSub, Nat.reduceMul, reduceCtorEq, reduceIte, e0, e1, c3, x3, hc, hnx, fz1, fz2])
      | with_reducible refine obl_and (by simp (disch := first | (with_unfolding_all first | exact Lk.mk rfl | exact Seen.of rfl) | assumption | (fail_if_success with_reducible first | refine Seen.of ?_ | apply Sl.frame | apply Ow.frame); omega) only [go_sem, Int.reduceEq, Int.reduceLE, Int.reduceLT, Int.reduceNe, Int.reduceNeg, Int.reduceAdd, Int.reduceSub, Int.reduceMul, Int.reduceToNat, Nat.reduceLT, Nat.reduceLeDiff, Nat.reduceEqDiff, Nat.reduceAdd, Nat.reduceSub, Nat.reduceMul, reduceCtorEq, reduceIte, e0, e1, c3, x3, hc, hnx, fz1, fz2]) ?_)
          have o3N : OwN EP (h3.push (.cells (cR (newRq n) zf (.slice none 0 0 0 true) (.slice none 0 0 0 true) (.slice none 0 0 0 true)))) g sl bs := by
            refine o.frame (fun x hx => ?_) (by rw [AH.size_push]; omega)
            have := o.lt hx
            rw [AH.get_push, if_neg (by omega), k3.2 _ (by omega)]
          refine Try.al28 (E := EP) h3.size o3N.ow rfl rfl (by exact .mk) (by omega) fun z h4 i4 o4 hi4 z4 f4 => ?_
          obtain ⟨g4, og4, hg4⟩ := OwN.of (g := g) o4 hi4 rfl
          rw [AH.size_push] at z4 f4 hg4
          have nb : ∀ x, x < h3.size + 1 → ¬ g = some x → h4.get x = (h3.push (.cells (cR (newRq n) zf (.slice none 0 0 0 true) (.slice none 0 0 0 true) (.slice none 0 0 0 true)))).get x := fun x hx hgx => by
            refine f4 x hx ?_
            cases hg : g with
            | none => simp; omega
            | some y => simp only [Option.getD_some]; intro e; exact hgx (by rw [hg, e])
          have gp : ∀ x, g = some x → ¬ x = p := fun x hx e => by have := t x hx; rw [e, hO] at this; omega
          have c4 : h4.get p = some (.cells [sl, .bool s.cl, .bool s.sv]) := by
            rw [nb p (by omega) (fun e => gp p e rfl), AH.get_push, if_neg (by omega)]; exact c3
          have zo1 := og4.one
          have zo2 := og4.cells
          refine vI ?_; repeat' (first
      | (with_reducible first | refine q_nn ?_ | refine q_nr ?_ | refine q_ne ?_ | refine q_en ?_ | refine q_er ?_ | refine q_es ?_ | refine q_gn ?_ | refine q_gr ?_ | refine q_ge ?_ | refine c_seq ?_ | refine c_block ?_ | refine c_scope ?_ | refine c_skip ?_ | refine c_label ?_ | refine c_ret ?_ | refine c_exit ?_ | (refine hK _ _ ?_; clear hK K) | refine seg_nil ?_) | ((with_reducible refine q_eo ?_ ?_); exact rfl)
      | ((with_reducible first | refine vO ?_ | refine c_reg fun K hK => ?_ | refine c_drw (by decide +kernel) fun K hK => ?_ | refine c_cond ?_ | refine seg_cons fun K hK => ?_ | show endW _ _ _ _ _ | refine ifb_dec (fun _ => ?_) (fun _ => ?_) | refine ifb_ieq (fun _ => ?_) (fun _ => ?_) | refine ifb_seq (fun _ => ?_) (fun _ => ?_)) <;> try simp (disch := first | (with_unfolding_all first | exact Lk.mk rfl | exact Seen.of rfl) | assumption | (fail_if_success with_reducible first | refine Seen.of ?_ | apply Sl.frame | apply Ow.frame); omega) only [go_sem, Int.reduceEq, Int.reduceLE, Int.reduceLT, Int.reduceNe, Int.reduceNeg, Int.reduceAdd, Int.reduceSub, Int.reduceMul, Int.reduceToNat, Nat.reduceLT, Nat.reduceLeDiff, Nat.reduceEqDiff, Nat.reduceAdd, Nat.reduceSub, Nat.reduceMul, reduceCtorEq, reduceIte, e0, e1, c4, c3, x3, hnx, hc, zo1, zo2, stC_1 (Seen.of zo1)])
      | with_reducible refine obl_and (by simp (disch := first | (with_unfolding_all first | exact Lk.mk rfl | exact Seen.of rfl) | assumption | (fail_if_success with_reducible first | refine Seen.of ?_ | apply Sl.frame | apply Ow.frame); omega) only [go_sem, Int.reduceEq, Int.reduceLE, Int.reduceLT, Int.reduceNe, Int.reduceNeg, Int.reduceAdd, Int.reduceSub, Int.reduceMul, Int.reduceToNat, Nat.reduceLT, Nat.reduceLeDiff, Nat.reduceEqDiff, Nat.reduceAdd, Nat.reduceSub, Nat.reduceMul, reduceCtorEq, reduceIte, e0, e1, c4, c3, x3, hnx, hc, zo1, zo2, stC_1 (Seen.of zo1)]) ?_)
          have old : ∀ x, x < h2.size → ¬ x = p → ¬ g = some x → (h4.set p (.cells [z, .bool s.cl, .bool s.sv])).get x = h2.get x := fun x hx hxp hxg => by
            rw [AH.get_set, if_neg hxp, nb x (by omega) hxg, AH.get_push, if_neg (by omega), k3.2 x (by omega)]
          have g4p : ∀ x, g4 = some x → ¬ x = p := fun x hx e => by
            rcases hg4 with h | h | ⟨y, h, hy⟩
            · rw [h] at hx; cases hx
            · exact gp x (by rw [← h]; exact hx) e
            · rw [h] at hx; cases hx; omega
          refine yes _ hok ⟨by simp; omega, fun x hx hx0 => old x hx (fun e => by rw [e, hO] at hx0; cases hx0) (fun e => by rw [t x e] at hx0; cases hx0), fun x => if x < h2.size then Q x else if x = h3.size then 8 * (s.l.length + 1) else if gf = some x then 8 * (s.l.length + 1) + 1 else if g4 = some x then 2 else 0, fun x hx => if_pos hx, z, g4, bs ++ [h3.size], by rw [AH.get_set, if_pos rfl], by simp; omega, by simp only; rw [if_pos hp, hO], og4.frame (fun x hx => by rw [AH.get_set, if_neg (g4p x hx)]) (by simp), fun x hx => ?_, by simp [hbn], fun k r' b' h1' h2' => ?_⟩
          · simp only
            rcases hg4 with h | h | ⟨y, h, hy⟩
            · rw [h] at hx; cases hx
            · rw [h] at hx
              rw [if_pos (o.lt hx)]; exact t x hx
            · have hxy := hx
              rw [h] at hxy; cases hxy
              rw [if_neg (by omega), if_neg (by omega), if_neg (fun e => by have := ogf.lt e; omega), if_pos hx]
          · by_cases hk : k < s.l.length
            · rw [List.getElem?_append_left hk] at h1'
              rw [List.getElem?_append_left (by omega)] at h2'
              refine (hr k r' b' h1' h2').frame (fun x hx h3' h4' => old x hx (fun e => by rw [e, hO] at h3'; omega) (fun e => by rw [t x e] at h3'; omega)) (by simp; omega) (fun x hx => if_pos hx)
            · rw [List.getElem?_append_right (by omega)] at h1'
              have hk2 : k = s.l.length := by
                have := (List.getElem?_eq_some_iff.1 h1').1
                simp at this; omega
              subst hk2
              rw [List.getElem?_append_right (by omega), hbn] at h2'
              simp at h1' h2'
              subst h1'; subst h2'
              refine ⟨gf, none, none, none, zf, .slice none 0 0 0 true, .slice none 0 0 0 true, .slice none 0 0 0 true, ?_, by simp; omega, ?_, ogf.frame (fun x hx => ?_) (by simp; omega), .nil _ _, .nil _ _, .nil _ _, fun x hx => ?_, by simp, by simp, by simp⟩
              · rw [AH.get_set, if_neg (by omega), nb _ (by omega) (fun e => by have := o.lt e; omega), AH.get_push, if_pos rfl]
              · simp only; rw [if_neg (by omega), if_pos trivial]
              · have := ogf.lt hx
                have := hgf x hx
                rw [AH.get_set, if_neg (by omega), nb _ (by omega) (fun e => by have := o.lt e; omega), AH.get_push, if_neg (by omega)]
              · have := ogf.lt hx
                have := hgf x hx
                simp only; rw [if_neg (by omega), if_neg (by omega), if_pos hx]
end Go.Proofs.Ytanbckdhlmhdeaa
