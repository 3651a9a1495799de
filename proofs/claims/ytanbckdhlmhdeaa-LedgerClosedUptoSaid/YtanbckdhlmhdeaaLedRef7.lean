/- ledger: the reference: the client's end. -/
import Derived.Test.YtanbckdhlmhdeaaLedRef6
set_option linter.unusedSimpArgs false
set_option linter.unusedVariables false
namespace Go.Proofs.Ytanbckdhlmhdeaa
open Go.Abs
set_option maxRecDepth 100000
open Classical in
set_option maxHeartbeats 8000000 in
theorem rclientR (O : Nat → Nat) (p : Nat) (s : Sg) (n : Nt) (h0 : AH) (hl : LgR O h0 p s) (hn : NtOk h0 n) (hw : WfS s) (hro : n.role = 1) (hcl : s.cl = false) (k15 : ¬ n.kind = 15) (hi2 : ∀ r ∈ s.l, r.ans.over = true → r.ans.told = true) (hid : -9223372036854775808 ≤ n.id ∧ n.id ≤ 9223372036854775807) :
    callW Try.prog Try.T 23 [.ptr (some (p, 0)), .agg (eC n)] h0 fun v h' => v = .bool (noteC s n).isSome ∧ StepM O h0 h' p ((noteC s n).getD s) := by
  refine callW_hide fun KK hKK => ?_
  have hk1 := box_keep h0 (eC n)
  have hl1 := hl.after hk1
  have hn1 := hn.keep hk1
  have fin : ∀ (v : AV) (h' : AH) (o : Option Sg), noteC s n = o → v = .bool o.isSome → StepM (O1 O h0) (h0.push (.cells (eC n))) h' p (o.getD s) → KK v h' := fun v h' o e1 e2 e3 => hKK _ _ (by rw [e1]; exact ⟨e2, e3.after hk1⟩)
  have of : n.fv.one = true := hn.1.elim fun i q => q.one
  have od : n.dv.one = true := hn.2.1.elim fun i q => q.one
  clear hKK hk1
  have hnx : (h0.push (.cells (eC n))).get h0.size = some (.cells (eC n)) := by simp (disch := first | (with_unfolding_all first | exact Lk.mk rfl | exact Seen.of rfl) | assumption | (fail_if_success with_reducible first | refine Seen.of ?_ | apply Sl.frame | apply Ow.frame); omega) only [go_sem, Int.reduceEq, Int.reduceLE, Int.reduceLT, Int.reduceNe, Int.reduceNeg, Int.reduceAdd, Int.reduceSub, Int.reduceMul, Int.reduceToNat, Nat.reduceLT, Nat.reduceLeDiff, Nat.reduceEqDiff, Nat.reduceAdd, Nat.reduceSub, Nat.reduceMul, reduceCtorEq, reduceIte]
  have hz : (h0.push (.cells (eC n))).size = h0.size + 1 := by simp (disch := first | (with_unfolding_all first | exact Lk.mk rfl | exact Seen.of rfl) | assumption | (fail_if_success with_reducible first | refine Seen.of ?_ | apply Sl.frame | apply Ow.frame); omega) only [go_sem, Int.reduceEq, Int.reduceLE, Int.reduceLT, Int.reduceNe, Int.reduceNeg, Int.reduceAdd, Int.reduceSub, Int.reduceMul, Int.reduceToNat, Nat.reduceLT, Nat.reduceLeDiff, Nat.reduceEqDiff, Nat.reduceAdd, Nat.reduceSub, Nat.reduceMul, reduceCtorEq, reduceIte]
  refine callW_in (n := 180) (rs := [.tmp 4]) (m := 180) Try.func23 rfl rfl rfl rfl fun tr ht => ?_; have e0 := ht 0 _ rfl; have e1 := ht 1 _ rfl; clear ht
  unfold eC at e1
  refine c_seq ?_
  refine c_reg fun K hK => ?_
  simp (disch := first | (with_unfolding_all first | exact Lk.mk rfl | exact Seen.of rfl) | assumption | (fail_if_success with_reducible first | refine Seen.of ?_ | apply Sl.frame | apply Ow.frame); omega) only [go_sem, Int.reduceEq, Int.reduceLE, Int.reduceLT, Int.reduceNe, Int.reduceNeg, Int.reduceAdd, Int.reduceSub, Int.reduceMul, Int.reduceToNat, Nat.reduceLT, Nat.reduceLeDiff, Nat.reduceEqDiff, Nat.reduceAdd, Nat.reduceSub, Nat.reduceMul, reduceCtorEq, reduceIte, e0, e1, of, od]
  refine hK _ _ ?_
  clear hK K
  refine q_nn ?_
  have hfold : [AV.int .i64 n.kind, .int .i64 n.id, n.fv, n.dv, .bool n.fin, .int .i64 n.code, .int .i64 n.last] = eC n := rfl
  rw [hfold]
  generalize h0.push (.cells (eC n)) = h1 at *
  generalize O1 O h0 = Q at *
  have keep : StepM Q h1 h1 p s := stepMKeep hl1 (Keeps.refl _ _)
  have hlc := hl1
  obtain ⟨sl, g, bs, hc, hp, hO, o, t, hbn, hr⟩ := hlc
  have hnx0 := hnx
  unfold eC at hnx
  obtain ⟨hwr, htop, hsl⟩ := hw
  unfold noteC at fin
  rw [if_neg (fun h => h (by omega)), if_neg (fun h => by rcases h with ⟨a, b⟩ | ⟨a, b⟩; all_goals first | omega | (rw [hcl] at b; cases b))] at fin
  have find := rfind Q p s n.id h1 sl g bs hc hp o hbn hr hsl
  have finN : fidx s.l n.id = none → ¬ n.kind = 11 → ¬ n.kind = 12 → ¬ n.kind = 14 → ¬ n.kind = 15 → KK (.bool false) h1 := fun hfx a1 a2 a3 a4 => by
    rw [if_neg (fun h => h.elim a1 a2), if_neg a3, if_neg a4, hfx] at fin
    exact fin _ h1 none rfl rfl keep
  have finS : ∀ (k : Nat) (r : Rq) (b : Nat) (o1 : Option Rq) (h' : AH), fidx s.l n.id = some k → s.l[k]? = some r → bs[k]? = some b → ¬ n.kind = 11 → ¬ n.kind = 12 → ¬ n.kind = 14 → ¬ n.kind = 15 → stepC r n = o1 → StepR Q (8 * (k + 1)) h1 h' b (o1.getD r) → KK (.bool o1.isSome) h' := fun k r b o1 h' hfx hrk hbk a1 a2 a3 a4 e st => by
    rw [if_neg (fun h => h.elim a1 a2), if_neg a3, if_neg a4, hfx] at fin
    simp only [hrk] at fin
    rw [if_pos hro, e] at fin
    have st2 := stepM_of hc hp hO o t hbn hr hrk hbk st
    cases o1 with
    | none => exact fin _ h' none rfl rfl (stepM_same (bs := bs) (sl := sl) (g := g) (b := b) hl1 hrk st2)
    | some r' => exact fin _ h' (some _) rfl rfl st2
  have both : ∀ (b : Option (Nat × Nat)), (b = none ∧ fidx s.l n.id = none ∨ ∃ (k b1 : Nat) (r : Rq), b = some (b1, 0) ∧ fidx s.l n.id = some k ∧ s.l[k]? = some r ∧ bs[k]? = some b1) → (¬ n.kind = 16 ∧ ¬ n.kind = 2 ∧ ¬ n.kind = 4 ∧ ¬ n.kind = 13 ∧ ¬ n.kind = 14 ∧ ¬ n.kind = 15) → ∀ h', Keeps h1.size h1 h' → KK (.bool (if n.kind = 5 ∨ n.kind = 6 then b.isSome else decide (n.kind = 11 ∨ n.kind = 12))) h' := fun b hb ks h' kp => by
    by_cases h12 : n.kind = 11 ∨ n.kind = 12
    · rw [if_neg (by omega), decide_eq_true h12]
      rw [if_pos h12] at fin
      exact fin _ h' (some s) rfl rfl (stepMKeep hl1 kp)
    · by_cases k15 : n.kind = 15
      · exact absurd k15 ks.2.2.2.2.2
      · rw [if_neg h12, if_neg (by omega), if_neg k15] at fin
        rcases hb with ⟨rfl, hfx⟩ | ⟨k, b1, r, rfl, hfx, hrk, hbk⟩
        · rw [hfx] at fin
          refine fin _ h' none rfl ?_ (stepMKeep hl1 kp)
          split <;> simp [h12]
        · by_cases h56 : n.kind = 5 ∨ n.kind = 6
          · rw [if_pos h56]
            refine finS k r b1 (some r) h' hfx hrk hbk (by omega) (by omega) (by omega) (by omega) ?_ (stepKeepR (hr k r b1 hrk hbk) kp)
            unfold stepC
            rw [if_neg ks.1, if_neg ks.2.1, if_neg ks.2.2.1, if_neg ks.2.2.2.1]
            rw [if_pos h56]
          · rw [if_neg h56, decide_eq_false h12]
            refine finS k r b1 none h' hfx hrk hbk (by omega) (by omega) (by omega) (by omega) ?_ (stepKeepR (hr k r b1 hrk hbk) kp)
            unfold stepC
            rw [if_neg ks.1, if_neg ks.2.1, if_neg ks.2.2.1, if_neg ks.2.2.2.1]
            rw [if_neg h56]
  have hcr : ∀ (k : Nat) r b, s.l[k]? = some r → bs[k]? = some b → ∃ v1 v2 v3 v4, h1.get b = some (.cells (cR r v1 v2 v3 v4)) ∧ b < h1.size := fun k r b hrk hbk => by
    obtain ⟨g1, g2, g3, g4, v1, v2, v3, v4, hc, hb, _⟩ := hr k r b hrk hbk
    exact ⟨v1, v2, v3, v4, hc, hb⟩
  by_cases k16 : n.kind = 16
  · repeat' (first
      | (with_reducible first | refine q_nn ?_ | refine q_nr ?_ | refine q_ne ?_ | refine q_en ?_ | refine q_er ?_ | refine q_es ?_ | refine q_gn ?_ | refine q_gr ?_ | refine q_ge ?_ | refine c_seq ?_ | refine c_block ?_ | refine c_scope ?_ | refine c_skip ?_ | refine c_label ?_ | refine c_ret ?_ | refine c_exit ?_ | (refine hK _ _ ?_; clear hK K) | refine seg_nil ?_) | ((with_reducible refine q_eo ?_ ?_); exact rfl)
      | ((with_reducible first | refine c_reg fun K hK => ?_ | refine c_drw (by decide +kernel) fun K hK => ?_ | refine c_cond ?_ | refine seg_cons fun K hK => ?_ | show endW _ _ _ _ _ | refine ifb_dec (fun _ => ?_) (fun _ => ?_) | refine ifb_ieq (fun _ => ?_) (fun _ => ?_) | refine ifb_seq (fun _ => ?_) (fun _ => ?_)) <;> try simp (disch := first | (with_unfolding_all first | exact Lk.mk rfl | exact Seen.of rfl) | assumption | (fail_if_success with_reducible first | refine Seen.of ?_ | apply Sl.frame | apply Ow.frame); omega) only [go_sem, Int.reduceEq, Int.reduceLE, Int.reduceLT, Int.reduceNe, Int.reduceNeg, Int.reduceAdd, Int.reduceSub, Int.reduceMul, Int.reduceToNat, Nat.reduceLT, Nat.reduceLeDiff, Nat.reduceEqDiff, Nat.reduceAdd, Nat.reduceSub, Nat.reduceMul, reduceCtorEq, reduceIte, e0, e1, hc, hnx, k16]))
    refine callM_of find ?_
    rintro v h2 ⟨rfl, (⟨hfx, rfl⟩ | ⟨k, b, r, hfx, hrk, rfl, hbk⟩)⟩
    · refine vI ?_; repeat' (first
      | (with_reducible first | refine q_nn ?_ | refine q_nr ?_ | refine q_ne ?_ | refine q_en ?_ | refine q_er ?_ | refine q_es ?_ | refine q_gn ?_ | refine q_gr ?_ | refine q_ge ?_ | refine c_seq ?_ | refine c_block ?_ | refine c_scope ?_ | refine c_skip ?_ | refine c_label ?_ | refine c_ret ?_ | refine c_exit ?_ | (refine hK _ _ ?_; clear hK K) | refine seg_nil ?_) | ((with_reducible refine q_eo ?_ ?_); exact rfl)
      | ((with_reducible first | refine vO ?_ | refine c_reg fun K hK => ?_ | refine c_drw (by decide +kernel) fun K hK => ?_ | refine c_cond ?_ | refine seg_cons fun K hK => ?_ | show endW _ _ _ _ _ | refine ifb_dec (fun _ => ?_) (fun _ => ?_) | refine ifb_ieq (fun _ => ?_) (fun _ => ?_) | refine ifb_seq (fun _ => ?_) (fun _ => ?_)) <;> try simp (disch := first | (with_unfolding_all first | exact Lk.mk rfl | exact Seen.of rfl) | assumption | (fail_if_success with_reducible first | refine Seen.of ?_ | apply Sl.frame | apply Ow.frame); omega) only [go_sem, Int.reduceEq, Int.reduceLE, Int.reduceLT, Int.reduceNe, Int.reduceNeg, Int.reduceAdd, Int.reduceSub, Int.reduceMul, Int.reduceToNat, Nat.reduceLT, Nat.reduceLeDiff, Nat.reduceEqDiff, Nat.reduceAdd, Nat.reduceSub, Nat.reduceMul, reduceCtorEq, reduceIte, e0, e1, hc, hnx, k16]))
      exact finN hfx (by omega) (by omega) (by omega) (by omega)
    · obtain ⟨v1, v2, v3, v4, hcb, hbb⟩ := hcr k r b hrk hbk
      unfold cR at hcb
      have fS := finS k r b
      unfold stepC at fS
      rw [if_pos k16] at fS
      refine vI ?_; repeat' (first
      | (with_reducible first | refine q_nn ?_ | refine q_nr ?_ | refine q_ne ?_ | refine q_en ?_ | refine q_er ?_ | refine q_es ?_ | refine q_gn ?_ | refine q_gr ?_ | refine q_ge ?_ | refine c_seq ?_ | refine c_block ?_ | refine c_scope ?_ | refine c_skip ?_ | refine c_label ?_ | refine c_ret ?_ | refine c_exit ?_ | (refine hK _ _ ?_; clear hK K) | refine seg_nil ?_) | ((with_reducible refine q_eo ?_ ?_); exact rfl)
      | ((with_reducible first | refine vO ?_ | refine c_reg fun K hK => ?_ | refine c_drw (by decide +kernel) fun K hK => ?_ | refine c_cond ?_ | refine seg_cons fun K hK => ?_ | show endW _ _ _ _ _ | refine ifb_dec (fun _ => ?_) (fun _ => ?_) | refine ifb_ieq (fun _ => ?_) (fun _ => ?_) | refine ifb_seq (fun _ => ?_) (fun _ => ?_)) <;> try simp (disch := first | (with_unfolding_all first | exact Lk.mk rfl | exact Seen.of rfl) | assumption | (fail_if_success with_reducible first | refine Seen.of ?_ | apply Sl.frame | apply Ow.frame); omega) only [go_sem, Int.reduceEq, Int.reduceLE, Int.reduceLT, Int.reduceNe, Int.reduceNeg, Int.reduceAdd, Int.reduceSub, Int.reduceMul, Int.reduceToNat, Nat.reduceLT, Nat.reduceLeDiff, Nat.reduceEqDiff, Nat.reduceAdd, Nat.reduceSub, Nat.reduceMul, reduceCtorEq, reduceIte, e0, e1, hc, hnx, k16, hcb]))
      rw [← k16]
      refine callM_of (rGiveAsk (hr k r b hrk hbk) (hwr r (List.mem_of_getElem? hrk)) hn1) ?_
      rintro v h2 ⟨rfl, st⟩
      refine vI ?_; repeat' (first
      | (with_reducible first | refine q_nn ?_ | refine q_nr ?_ | refine q_ne ?_ | refine q_en ?_ | refine q_er ?_ | refine q_es ?_ | refine q_gn ?_ | refine q_gr ?_ | refine q_ge ?_ | refine c_seq ?_ | refine c_block ?_ | refine c_scope ?_ | refine c_skip ?_ | refine c_label ?_ | refine c_ret ?_ | refine c_exit ?_ | (refine hK _ _ ?_; clear hK K) | refine seg_nil ?_) | ((with_reducible refine q_eo ?_ ?_); exact rfl)
      | ((with_reducible first | refine vO ?_ | refine c_reg fun K hK => ?_ | refine c_drw (by decide +kernel) fun K hK => ?_ | refine c_cond ?_ | refine seg_cons fun K hK => ?_ | show endW _ _ _ _ _ | refine ifb_dec (fun _ => ?_) (fun _ => ?_) | refine ifb_ieq (fun _ => ?_) (fun _ => ?_) | refine ifb_seq (fun _ => ?_) (fun _ => ?_)) <;> try simp (disch := first | (with_unfolding_all first | exact Lk.mk rfl | exact Seen.of rfl) | assumption | (fail_if_success with_reducible first | refine Seen.of ?_ | apply Sl.frame | apply Ow.frame); omega) only [go_sem, Int.reduceEq, Int.reduceLE, Int.reduceLT, Int.reduceNe, Int.reduceNeg, Int.reduceAdd, Int.reduceSub, Int.reduceMul, Int.reduceToNat, Nat.reduceLT, Nat.reduceLeDiff, Nat.reduceEqDiff, Nat.reduceAdd, Nat.reduceSub, Nat.reduceMul, reduceCtorEq, reduceIte, e0, e1, hc, hnx]))
      have hha := (hwr r (List.mem_of_getElem? hrk)).1
      by_cases he : r.ask.has = true ∧ r.ask.ended = false
      · rw [if_pos he] at st
        rw [decide_eq_true he]
        exact fS (some _) _ hfx hrk hbk (by omega) (by omega) (by omega) (by omega) (if_pos he.2) st
      · rw [if_neg he] at st
        rw [decide_eq_false he]
        exact fS none _ hfx hrk hbk (by omega) (by omega) (by omega) (by omega) (if_neg (fun h => he ⟨hha, h⟩)) st
  · by_cases k2 : n.kind = 2
    · repeat' (first
      | (with_reducible first | refine q_nn ?_ | refine q_nr ?_ | refine q_ne ?_ | refine q_en ?_ | refine q_er ?_ | refine q_es ?_ | refine q_gn ?_ | refine q_gr ?_ | refine q_ge ?_ | refine c_seq ?_ | refine c_block ?_ | refine c_scope ?_ | refine c_skip ?_ | refine c_label ?_ | refine c_ret ?_ | refine c_exit ?_ | (refine hK _ _ ?_; clear hK K) | refine seg_nil ?_) | ((with_reducible refine q_eo ?_ ?_); exact rfl)
      | ((with_reducible first | refine c_reg fun K hK => ?_ | refine c_drw (by decide +kernel) fun K hK => ?_ | refine c_cond ?_ | refine seg_cons fun K hK => ?_ | show endW _ _ _ _ _ | refine ifb_dec (fun _ => ?_) (fun _ => ?_) | refine ifb_ieq (fun _ => ?_) (fun _ => ?_) | refine ifb_seq (fun _ => ?_) (fun _ => ?_)) <;> try simp (disch := first | (with_unfolding_all first | exact Lk.mk rfl | exact Seen.of rfl) | assumption | (fail_if_success with_reducible first | refine Seen.of ?_ | apply Sl.frame | apply Ow.frame); omega) only [go_sem, Int.reduceEq, Int.reduceLE, Int.reduceLT, Int.reduceNe, Int.reduceNeg, Int.reduceAdd, Int.reduceSub, Int.reduceMul, Int.reduceToNat, Nat.reduceLT, Nat.reduceLeDiff, Nat.reduceEqDiff, Nat.reduceAdd, Nat.reduceSub, Nat.reduceMul, reduceCtorEq, reduceIte, e0, e1, hc, hnx, k2]))
      refine callM_of find ?_
      rintro v h2 ⟨rfl, (⟨hfx, rfl⟩ | ⟨k, b, r, hfx, hrk, rfl, hbk⟩)⟩
      · refine vI ?_; repeat' (first
      | (with_reducible first | refine q_nn ?_ | refine q_nr ?_ | refine q_ne ?_ | refine q_en ?_ | refine q_er ?_ | refine q_es ?_ | refine q_gn ?_ | refine q_gr ?_ | refine q_ge ?_ | refine c_seq ?_ | refine c_block ?_ | refine c_scope ?_ | refine c_skip ?_ | refine c_label ?_ | refine c_ret ?_ | refine c_exit ?_ | (refine hK _ _ ?_; clear hK K) | refine seg_nil ?_) | ((with_reducible refine q_eo ?_ ?_); exact rfl)
      | ((with_reducible first | refine vO ?_ | refine c_reg fun K hK => ?_ | refine c_drw (by decide +kernel) fun K hK => ?_ | refine c_cond ?_ | refine seg_cons fun K hK => ?_ | show endW _ _ _ _ _ | refine ifb_dec (fun _ => ?_) (fun _ => ?_) | refine ifb_ieq (fun _ => ?_) (fun _ => ?_) | refine ifb_seq (fun _ => ?_) (fun _ => ?_)) <;> try simp (disch := first | (with_unfolding_all first | exact Lk.mk rfl | exact Seen.of rfl) | assumption | (fail_if_success with_reducible first | refine Seen.of ?_ | apply Sl.frame | apply Ow.frame); omega) only [go_sem, Int.reduceEq, Int.reduceLE, Int.reduceLT, Int.reduceNe, Int.reduceNeg, Int.reduceAdd, Int.reduceSub, Int.reduceMul, Int.reduceToNat, Nat.reduceLT, Nat.reduceLeDiff, Nat.reduceEqDiff, Nat.reduceAdd, Nat.reduceSub, Nat.reduceMul, reduceCtorEq, reduceIte, e0, e1, hc, hnx, k2]))
        exact finN hfx (by omega) (by omega) (by omega) (by omega)
      · obtain ⟨v1, v2, v3, v4, hcb, hbb⟩ := hcr k r b hrk hbk
        unfold cR at hcb
        have fS := finS k r b
        unfold stepC at fS
        rw [if_neg k16, if_pos k2] at fS
        refine vI ?_; repeat' (first
      | (with_reducible first | refine q_nn ?_ | refine q_nr ?_ | refine q_ne ?_ | refine q_en ?_ | refine q_er ?_ | refine q_es ?_ | refine q_gn ?_ | refine q_gr ?_ | refine q_ge ?_ | refine c_seq ?_ | refine c_block ?_ | refine c_scope ?_ | refine c_skip ?_ | refine c_label ?_ | refine c_ret ?_ | refine c_exit ?_ | (refine hK _ _ ?_; clear hK K) | refine seg_nil ?_) | ((with_reducible refine q_eo ?_ ?_); exact rfl)
      | ((with_reducible first | refine vO ?_ | refine c_reg fun K hK => ?_ | refine c_drw (by decide +kernel) fun K hK => ?_ | refine c_cond ?_ | refine seg_cons fun K hK => ?_ | show endW _ _ _ _ _ | refine ifb_dec (fun _ => ?_) (fun _ => ?_) | refine ifb_ieq (fun _ => ?_) (fun _ => ?_) | refine ifb_seq (fun _ => ?_) (fun _ => ?_)) <;> try simp (disch := first | (with_unfolding_all first | exact Lk.mk rfl | exact Seen.of rfl) | assumption | (fail_if_success with_reducible first | refine Seen.of ?_ | apply Sl.frame | apply Ow.frame); omega) only [go_sem, Int.reduceEq, Int.reduceLE, Int.reduceLT, Int.reduceNe, Int.reduceNeg, Int.reduceAdd, Int.reduceSub, Int.reduceMul, Int.reduceToNat, Nat.reduceLT, Nat.reduceLeDiff, Nat.reduceEqDiff, Nat.reduceAdd, Nat.reduceSub, Nat.reduceMul, reduceCtorEq, reduceIte, e0, e1, hc, hnx, k2, hcb]))
        rw [← k2]
        refine callM_of (rFieldsAns (hr k r b hrk hbk) (hwr r (List.mem_of_getElem? hrk)) hn1) ?_
        rintro v h2 ⟨rfl, st⟩
        refine vI ?_; repeat' (first
      | (with_reducible first | refine q_nn ?_ | refine q_nr ?_ | refine q_ne ?_ | refine q_en ?_ | refine q_er ?_ | refine q_es ?_ | refine q_gn ?_ | refine q_gr ?_ | refine q_ge ?_ | refine c_seq ?_ | refine c_block ?_ | refine c_scope ?_ | refine c_skip ?_ | refine c_label ?_ | refine c_ret ?_ | refine c_exit ?_ | (refine hK _ _ ?_; clear hK K) | refine seg_nil ?_) | ((with_reducible refine q_eo ?_ ?_); exact rfl)
      | ((with_reducible first | refine vO ?_ | refine c_reg fun K hK => ?_ | refine c_drw (by decide +kernel) fun K hK => ?_ | refine c_cond ?_ | refine seg_cons fun K hK => ?_ | show endW _ _ _ _ _ | refine ifb_dec (fun _ => ?_) (fun _ => ?_) | refine ifb_ieq (fun _ => ?_) (fun _ => ?_) | refine ifb_seq (fun _ => ?_) (fun _ => ?_)) <;> try simp (disch := first | (with_unfolding_all first | exact Lk.mk rfl | exact Seen.of rfl) | assumption | (fail_if_success with_reducible first | refine Seen.of ?_ | apply Sl.frame | apply Ow.frame); omega) only [go_sem, Int.reduceEq, Int.reduceLE, Int.reduceLT, Int.reduceNe, Int.reduceNeg, Int.reduceAdd, Int.reduceSub, Int.reduceMul, Int.reduceToNat, Nat.reduceLT, Nat.reduceLeDiff, Nat.reduceEqDiff, Nat.reduceAdd, Nat.reduceSub, Nat.reduceMul, reduceCtorEq, reduceIte, e0, e1, hc, hnx]))
        have hha := (hwr r (List.mem_of_getElem? hrk)).1
        by_cases he : r.ans.has = true ∧ r.ans.told = false ∧ n.fs = r.ans.fs ∧ n.fin = r.ans.first
        · rw [if_pos he] at st
          rw [decide_eq_true he]
          exact fS (some _) _ hfx hrk hbk (by omega) (by omega) (by omega) (by omega) (if_pos he) st
        · rw [if_neg he] at st
          rw [decide_eq_false he]
          exact fS none _ hfx hrk hbk (by omega) (by omega) (by omega) (by omega) (if_neg he) st
    · by_cases k4 : n.kind = 4
      · repeat' (first
      | (with_reducible first | refine q_nn ?_ | refine q_nr ?_ | refine q_ne ?_ | refine q_en ?_ | refine q_er ?_ | refine q_es ?_ | refine q_gn ?_ | refine q_gr ?_ | refine q_ge ?_ | refine c_seq ?_ | refine c_block ?_ | refine c_scope ?_ | refine c_skip ?_ | refine c_label ?_ | refine c_ret ?_ | refine c_exit ?_ | (refine hK _ _ ?_; clear hK K) | refine seg_nil ?_) | ((with_reducible refine q_eo ?_ ?_); exact rfl)
      | ((with_reducible first | refine c_reg fun K hK => ?_ | refine c_drw (by decide +kernel) fun K hK => ?_ | refine c_cond ?_ | refine seg_cons fun K hK => ?_ | show endW _ _ _ _ _ | refine ifb_dec (fun _ => ?_) (fun _ => ?_) | refine ifb_ieq (fun _ => ?_) (fun _ => ?_) | refine ifb_seq (fun _ => ?_) (fun _ => ?_)) <;> try simp (disch := first | (with_unfolding_all first | exact Lk.mk rfl | exact Seen.of rfl) | assumption | (fail_if_success with_reducible first | refine Seen.of ?_ | apply Sl.frame | apply Ow.frame); omega) only [go_sem, Int.reduceEq, Int.reduceLE, Int.reduceLT, Int.reduceNe, Int.reduceNeg, Int.reduceAdd, Int.reduceSub, Int.reduceMul, Int.reduceToNat, Nat.reduceLT, Nat.reduceLeDiff, Nat.reduceEqDiff, Nat.reduceAdd, Nat.reduceSub, Nat.reduceMul, reduceCtorEq, reduceIte, e0, e1, hc, hnx, k4]))
        refine callM_of find ?_
        rintro v h2 ⟨rfl, (⟨hfx, rfl⟩ | ⟨k, b, r, hfx, hrk, rfl, hbk⟩)⟩
        · refine vI ?_; repeat' (first
      | (with_reducible first | refine q_nn ?_ | refine q_nr ?_ | refine q_ne ?_ | refine q_en ?_ | refine q_er ?_ | refine q_es ?_ | refine q_gn ?_ | refine q_gr ?_ | refine q_ge ?_ | refine c_seq ?_ | refine c_block ?_ | refine c_scope ?_ | refine c_skip ?_ | refine c_label ?_ | refine c_ret ?_ | refine c_exit ?_ | (refine hK _ _ ?_; clear hK K) | refine seg_nil ?_) | ((with_reducible refine q_eo ?_ ?_); exact rfl)
      | ((with_reducible first | refine vO ?_ | refine c_reg fun K hK => ?_ | refine c_drw (by decide +kernel) fun K hK => ?_ | refine c_cond ?_ | refine seg_cons fun K hK => ?_ | show endW _ _ _ _ _ | refine ifb_dec (fun _ => ?_) (fun _ => ?_) | refine ifb_ieq (fun _ => ?_) (fun _ => ?_) | refine ifb_seq (fun _ => ?_) (fun _ => ?_)) <;> try simp (disch := first | (with_unfolding_all first | exact Lk.mk rfl | exact Seen.of rfl) | assumption | (fail_if_success with_reducible first | refine Seen.of ?_ | apply Sl.frame | apply Ow.frame); omega) only [go_sem, Int.reduceEq, Int.reduceLE, Int.reduceLT, Int.reduceNe, Int.reduceNeg, Int.reduceAdd, Int.reduceSub, Int.reduceMul, Int.reduceToNat, Nat.reduceLT, Nat.reduceLeDiff, Nat.reduceEqDiff, Nat.reduceAdd, Nat.reduceSub, Nat.reduceMul, reduceCtorEq, reduceIte, e0, e1, hc, hnx, k4]))
          exact finN hfx (by omega) (by omega) (by omega) (by omega)
        · obtain ⟨v1, v2, v3, v4, hcb, hbb⟩ := hcr k r b hrk hbk
          unfold cR at hcb
          have fS := finS k r b
          unfold stepC at fS
          rw [if_neg k16, if_neg k2, if_pos k4] at fS
          refine vI ?_; repeat' (first
      | (with_reducible first | refine q_nn ?_ | refine q_nr ?_ | refine q_ne ?_ | refine q_en ?_ | refine q_er ?_ | refine q_es ?_ | refine q_gn ?_ | refine q_gr ?_ | refine q_ge ?_ | refine c_seq ?_ | refine c_block ?_ | refine c_scope ?_ | refine c_skip ?_ | refine c_label ?_ | refine c_ret ?_ | refine c_exit ?_ | (refine hK _ _ ?_; clear hK K) | refine seg_nil ?_) | ((with_reducible refine q_eo ?_ ?_); exact rfl)
      | ((with_reducible first | refine vO ?_ | refine c_reg fun K hK => ?_ | refine c_drw (by decide +kernel) fun K hK => ?_ | refine c_cond ?_ | refine seg_cons fun K hK => ?_ | show endW _ _ _ _ _ | refine ifb_dec (fun _ => ?_) (fun _ => ?_) | refine ifb_ieq (fun _ => ?_) (fun _ => ?_) | refine ifb_seq (fun _ => ?_) (fun _ => ?_)) <;> try simp (disch := first | (with_unfolding_all first | exact Lk.mk rfl | exact Seen.of rfl) | assumption | (fail_if_success with_reducible first | refine Seen.of ?_ | apply Sl.frame | apply Ow.frame); omega) only [go_sem, Int.reduceEq, Int.reduceLE, Int.reduceLT, Int.reduceNe, Int.reduceNeg, Int.reduceAdd, Int.reduceSub, Int.reduceMul, Int.reduceToNat, Nat.reduceLT, Nat.reduceLeDiff, Nat.reduceEqDiff, Nat.reduceAdd, Nat.reduceSub, Nat.reduceMul, reduceCtorEq, reduceIte, e0, e1, hc, hnx, k4, hcb]))
          rw [← k4]
          refine callM_of (rDataAns (hr k r b hrk hbk) (hwr r (List.mem_of_getElem? hrk)) hn1) ?_
          rintro v h2 ⟨rfl, st⟩
          refine vI ?_; repeat' (first
      | (with_reducible first | refine q_nn ?_ | refine q_nr ?_ | refine q_ne ?_ | refine q_en ?_ | refine q_er ?_ | refine q_es ?_ | refine q_gn ?_ | refine q_gr ?_ | refine q_ge ?_ | refine c_seq ?_ | refine c_block ?_ | refine c_scope ?_ | refine c_skip ?_ | refine c_label ?_ | refine c_ret ?_ | refine c_exit ?_ | (refine hK _ _ ?_; clear hK K) | refine seg_nil ?_) | ((with_reducible refine q_eo ?_ ?_); exact rfl)
      | ((with_reducible first | refine vO ?_ | refine c_reg fun K hK => ?_ | refine c_drw (by decide +kernel) fun K hK => ?_ | refine c_cond ?_ | refine seg_cons fun K hK => ?_ | show endW _ _ _ _ _ | refine ifb_dec (fun _ => ?_) (fun _ => ?_) | refine ifb_ieq (fun _ => ?_) (fun _ => ?_) | refine ifb_seq (fun _ => ?_) (fun _ => ?_)) <;> try simp (disch := first | (with_unfolding_all first | exact Lk.mk rfl | exact Seen.of rfl) | assumption | (fail_if_success with_reducible first | refine Seen.of ?_ | apply Sl.frame | apply Ow.frame); omega) only [go_sem, Int.reduceEq, Int.reduceLE, Int.reduceLT, Int.reduceNe, Int.reduceNeg, Int.reduceAdd, Int.reduceSub, Int.reduceMul, Int.reduceToNat, Nat.reduceLT, Nat.reduceLeDiff, Nat.reduceEqDiff, Nat.reduceAdd, Nat.reduceSub, Nat.reduceMul, reduceCtorEq, reduceIte, e0, e1, hc, hnx]))
          have hha := (hwr r (List.mem_of_getElem? hrk)).1
          by_cases he : r.ans.told = true ∧ dataOk r.ans n.data n.fin
          · rw [if_pos he] at st
            rw [decide_eq_true he]
            exact fS (some _) _ hfx hrk hbk (by omega) (by omega) (by omega) (by omega) (if_pos he) st
          · rw [if_neg he] at st
            rw [decide_eq_false he]
            exact fS none _ hfx hrk hbk (by omega) (by omega) (by omega) (by omega) (if_neg he) st
      · by_cases k13 : n.kind = 13
        · repeat' (first
      | (with_reducible first | refine q_nn ?_ | refine q_nr ?_ | refine q_ne ?_ | refine q_en ?_ | refine q_er ?_ | refine q_es ?_ | refine q_gn ?_ | refine q_gr ?_ | refine q_ge ?_ | refine c_seq ?_ | refine c_block ?_ | refine c_scope ?_ | refine c_skip ?_ | refine c_label ?_ | refine c_ret ?_ | refine c_exit ?_ | (refine hK _ _ ?_; clear hK K) | refine seg_nil ?_) | ((with_reducible refine q_eo ?_ ?_); exact rfl)
      | ((with_reducible first | refine c_reg fun K hK => ?_ | refine c_drw (by decide +kernel) fun K hK => ?_ | refine c_cond ?_ | refine seg_cons fun K hK => ?_ | show endW _ _ _ _ _ | refine ifb_dec (fun _ => ?_) (fun _ => ?_) | refine ifb_ieq (fun _ => ?_) (fun _ => ?_) | refine ifb_seq (fun _ => ?_) (fun _ => ?_)) <;> try simp (disch := first | (with_unfolding_all first | exact Lk.mk rfl | exact Seen.of rfl) | assumption | (fail_if_success with_reducible first | refine Seen.of ?_ | apply Sl.frame | apply Ow.frame); omega) only [go_sem, Int.reduceEq, Int.reduceLE, Int.reduceLT, Int.reduceNe, Int.reduceNeg, Int.reduceAdd, Int.reduceSub, Int.reduceMul, Int.reduceToNat, Nat.reduceLT, Nat.reduceLeDiff, Nat.reduceEqDiff, Nat.reduceAdd, Nat.reduceSub, Nat.reduceMul, reduceCtorEq, reduceIte, e0, e1, hc, hnx, k13]))
          refine callM_of find ?_
          rintro v h2 ⟨rfl, (⟨hfx, rfl⟩ | ⟨k, b, r, hfx, hrk, rfl, hbk⟩)⟩
          · refine vI ?_; repeat' (first
      | (with_reducible first | refine q_nn ?_ | refine q_nr ?_ | refine q_ne ?_ | refine q_en ?_ | refine q_er ?_ | refine q_es ?_ | refine q_gn ?_ | refine q_gr ?_ | refine q_ge ?_ | refine c_seq ?_ | refine c_block ?_ | refine c_scope ?_ | refine c_skip ?_ | refine c_label ?_ | refine c_ret ?_ | refine c_exit ?_ | (refine hK _ _ ?_; clear hK K) | refine seg_nil ?_) | ((with_reducible refine q_eo ?_ ?_); exact rfl)
      | ((with_reducible first | refine vO ?_ | refine c_reg fun K hK => ?_ | refine c_drw (by decide +kernel) fun K hK => ?_ | refine c_cond ?_ | refine seg_cons fun K hK => ?_ | show endW _ _ _ _ _ | refine ifb_dec (fun _ => ?_) (fun _ => ?_) | refine ifb_ieq (fun _ => ?_) (fun _ => ?_) | refine ifb_seq (fun _ => ?_) (fun _ => ?_)) <;> try simp (disch := first | (with_unfolding_all first | exact Lk.mk rfl | exact Seen.of rfl) | assumption | (fail_if_success with_reducible first | refine Seen.of ?_ | apply Sl.frame | apply Ow.frame); omega) only [go_sem, Int.reduceEq, Int.reduceLE, Int.reduceLT, Int.reduceNe, Int.reduceNeg, Int.reduceAdd, Int.reduceSub, Int.reduceMul, Int.reduceToNat, Nat.reduceLT, Nat.reduceLeDiff, Nat.reduceEqDiff, Nat.reduceAdd, Nat.reduceSub, Nat.reduceMul, reduceCtorEq, reduceIte, e0, e1, hc, hnx, k13]))
            exact finN hfx (by omega) (by omega) (by omega) (by omega)
          · obtain ⟨g1, g2, g3, g4, v1, v2, v3, v4, hcb, hbb, hOb, o1, o2, o3, o4, t1, t2, t3, t4⟩ := hr k r b hrk hbk
            have fS := finS k r b
            unfold stepC at fS
            rw [if_neg k16, if_neg k2, if_neg k4, if_pos k13] at fS
            have no : ¬ (0 ≤ n.code ∧ n.code ≤ 6 ∧ rulesB r n.code = true) → KK (.bool false) h2 := fun he => fS none h2 hfx hrk hbk (by omega) (by omega) (by omega) (by omega) (if_neg he) (stepKeepR (hr k r b hrk hbk) (Keeps.refl _ _))
            have yes : (0 ≤ n.code ∧ n.code ≤ 6 ∧ rulesB r n.code = true) → KK (.bool true) (h2.set b (.cells (cR { r with verdict := n.code } v1 v2 v3 v4))) := fun he => fS (some _) _ hfx hrk hbk (by omega) (by omega) (by omega) (by omega) (if_pos he) (stepCellsR hbb hOb o1 o2 o3 o4 t1 t2 t3 t4 ⟨by simp, fun x hx hxb _ => by rw [AH.get_set, if_neg hxb]⟩ (by rw [AH.get_set, if_pos rfl]; rfl) rfl rfl rfl rfl)
            have hov := hi2 r (List.mem_of_getElem? hrk)
            clear fS finS finN both fin find
            unfold rulesB at no yes
            unfold cR at hcb yes
            by_cases c2 : n.code = 2
            · by_cases hv : r.verdict = 1
              · cases ho : r.ans.over with
                | true =>
                  have hto := hov ho
                  refine vI ?_; repeat' (first
      | (with_reducible first | refine q_nn ?_ | refine q_nr ?_ | refine q_ne ?_ | refine q_en ?_ | refine q_er ?_ | refine q_es ?_ | refine q_gn ?_ | refine q_gr ?_ | refine q_ge ?_ | refine c_seq ?_ | refine c_block ?_ | refine c_scope ?_ | refine c_skip ?_ | refine c_label ?_ | refine c_ret ?_ | refine c_exit ?_ | (refine hK _ _ ?_; clear hK K) | refine seg_nil ?_) | ((with_reducible refine q_eo ?_ ?_); exact rfl)
      | ((with_reducible first | refine vO ?_ | refine c_reg fun K hK => ?_ | refine c_drw (by decide +kernel) fun K hK => ?_ | refine c_cond ?_ | refine seg_cons fun K hK => ?_ | show endW _ _ _ _ _ | refine ifb_dec (fun _ => ?_) (fun _ => ?_) | refine ifb_ieq (fun _ => ?_) (fun _ => ?_) | refine ifb_seq (fun _ => ?_) (fun _ => ?_)) <;> try simp (disch := first | (with_unfolding_all first | exact Lk.mk rfl | exact Seen.of rfl) | assumption | (fail_if_success with_reducible first | refine Seen.of ?_ | apply Sl.frame | apply Ow.frame); omega) only [go_sem, Int.reduceEq, Int.reduceLE, Int.reduceLT, Int.reduceNe, Int.reduceNeg, Int.reduceAdd, Int.reduceSub, Int.reduceMul, Int.reduceToNat, Nat.reduceLT, Nat.reduceLeDiff, Nat.reduceEqDiff, Nat.reduceAdd, Nat.reduceSub, Nat.reduceMul, reduceCtorEq, reduceIte, e0, e1, hc, hnx, k13, hcb, hv, c2, ho]))
                  first | exact yes ⟨by omega, by omega, by simp [c2, hv, ho, hto]⟩ | (rw [c2, ho] at yes; exact yes ⟨by omega, by omega, by simp [hv, hto]⟩)
                | false =>
                  refine vI ?_; repeat' (first
      | (with_reducible first | refine q_nn ?_ | refine q_nr ?_ | refine q_ne ?_ | refine q_en ?_ | refine q_er ?_ | refine q_es ?_ | refine q_gn ?_ | refine q_gr ?_ | refine q_ge ?_ | refine c_seq ?_ | refine c_block ?_ | refine c_scope ?_ | refine c_skip ?_ | refine c_label ?_ | refine c_ret ?_ | refine c_exit ?_ | (refine hK _ _ ?_; clear hK K) | refine seg_nil ?_) | ((with_reducible refine q_eo ?_ ?_); exact rfl)
      | ((with_reducible first | refine vO ?_ | refine c_reg fun K hK => ?_ | refine c_drw (by decide +kernel) fun K hK => ?_ | refine c_cond ?_ | refine seg_cons fun K hK => ?_ | show endW _ _ _ _ _ | refine ifb_dec (fun _ => ?_) (fun _ => ?_) | refine ifb_ieq (fun _ => ?_) (fun _ => ?_) | refine ifb_seq (fun _ => ?_) (fun _ => ?_)) <;> try simp (disch := first | (with_unfolding_all first | exact Lk.mk rfl | exact Seen.of rfl) | assumption | (fail_if_success with_reducible first | refine Seen.of ?_ | apply Sl.frame | apply Ow.frame); omega) only [go_sem, Int.reduceEq, Int.reduceLE, Int.reduceLT, Int.reduceNe, Int.reduceNeg, Int.reduceAdd, Int.reduceSub, Int.reduceMul, Int.reduceToNat, Nat.reduceLT, Nat.reduceLeDiff, Nat.reduceEqDiff, Nat.reduceAdd, Nat.reduceSub, Nat.reduceMul, reduceCtorEq, reduceIte, e0, e1, hc, hnx, k13, hcb, hv, c2, ho]))
                  exact no (fun h => by simp [c2, ho] at h)
              · refine vI ?_; repeat' (first
      | (with_reducible first | refine q_nn ?_ | refine q_nr ?_ | refine q_ne ?_ | refine q_en ?_ | refine q_er ?_ | refine q_es ?_ | refine q_gn ?_ | refine q_gr ?_ | refine q_ge ?_ | refine c_seq ?_ | refine c_block ?_ | refine c_scope ?_ | refine c_skip ?_ | refine c_label ?_ | refine c_ret ?_ | refine c_exit ?_ | (refine hK _ _ ?_; clear hK K) | refine seg_nil ?_) | ((with_reducible refine q_eo ?_ ?_); exact rfl)
      | ((with_reducible first | refine vO ?_ | refine c_reg fun K hK => ?_ | refine c_drw (by decide +kernel) fun K hK => ?_ | refine c_cond ?_ | refine seg_cons fun K hK => ?_ | show endW _ _ _ _ _ | refine ifb_dec (fun _ => ?_) (fun _ => ?_) | refine ifb_ieq (fun _ => ?_) (fun _ => ?_) | refine ifb_seq (fun _ => ?_) (fun _ => ?_)) <;> try simp (disch := first | (with_unfolding_all first | exact Lk.mk rfl | exact Seen.of rfl) | assumption | (fail_if_success with_reducible first | refine Seen.of ?_ | apply Sl.frame | apply Ow.frame); omega) only [go_sem, Int.reduceEq, Int.reduceLE, Int.reduceLT, Int.reduceNe, Int.reduceNeg, Int.reduceAdd, Int.reduceSub, Int.reduceMul, Int.reduceToNat, Nat.reduceLT, Nat.reduceLeDiff, Nat.reduceEqDiff, Nat.reduceAdd, Nat.reduceSub, Nat.reduceMul, reduceCtorEq, reduceIte, e0, e1, hc, hnx, k13, hcb, hv, c2]))
                exact no (fun h => by simp [c2, hv] at h)
            · by_cases c5 : n.code = 5
              · by_cases hv : r.verdict = 1
                · cases ho : r.ask.told with
                  | false =>
                    refine vI ?_; repeat' (first
      | (with_reducible first | refine q_nn ?_ | refine q_nr ?_ | refine q_ne ?_ | refine q_en ?_ | refine q_er ?_ | refine q_es ?_ | refine q_gn ?_ | refine q_gr ?_ | refine q_ge ?_ | refine c_seq ?_ | refine c_block ?_ | refine c_scope ?_ | refine c_skip ?_ | refine c_label ?_ | refine c_ret ?_ | refine c_exit ?_ | (refine hK _ _ ?_; clear hK K) | refine seg_nil ?_) | ((with_reducible refine q_eo ?_ ?_); exact rfl)
      | ((with_reducible first | refine vO ?_ | refine c_reg fun K hK => ?_ | refine c_drw (by decide +kernel) fun K hK => ?_ | refine c_cond ?_ | refine seg_cons fun K hK => ?_ | show endW _ _ _ _ _ | refine ifb_dec (fun _ => ?_) (fun _ => ?_) | refine ifb_ieq (fun _ => ?_) (fun _ => ?_) | refine ifb_seq (fun _ => ?_) (fun _ => ?_)) <;> try simp (disch := first | (with_unfolding_all first | exact Lk.mk rfl | exact Seen.of rfl) | assumption | (fail_if_success with_reducible first | refine Seen.of ?_ | apply Sl.frame | apply Ow.frame); omega) only [go_sem, Int.reduceEq, Int.reduceLE, Int.reduceLT, Int.reduceNe, Int.reduceNeg, Int.reduceAdd, Int.reduceSub, Int.reduceMul, Int.reduceToNat, Nat.reduceLT, Nat.reduceLeDiff, Nat.reduceEqDiff, Nat.reduceAdd, Nat.reduceSub, Nat.reduceMul, reduceCtorEq, reduceIte, e0, e1, hc, hnx, k13, hcb, hv, c5, ho]))
                    rw [c5, ho] at yes; exact yes ⟨by omega, by omega, by simp [hv]⟩
                  | true =>
                    refine vI ?_; repeat' (first
      | (with_reducible first | refine q_nn ?_ | refine q_nr ?_ | refine q_ne ?_ | refine q_en ?_ | refine q_er ?_ | refine q_es ?_ | refine q_gn ?_ | refine q_gr ?_ | refine q_ge ?_ | refine c_seq ?_ | refine c_block ?_ | refine c_scope ?_ | refine c_skip ?_ | refine c_label ?_ | refine c_ret ?_ | refine c_exit ?_ | (refine hK _ _ ?_; clear hK K) | refine seg_nil ?_) | ((with_reducible refine q_eo ?_ ?_); exact rfl)
      | ((with_reducible first | refine vO ?_ | refine c_reg fun K hK => ?_ | refine c_drw (by decide +kernel) fun K hK => ?_ | refine c_cond ?_ | refine seg_cons fun K hK => ?_ | show endW _ _ _ _ _ | refine ifb_dec (fun _ => ?_) (fun _ => ?_) | refine ifb_ieq (fun _ => ?_) (fun _ => ?_) | refine ifb_seq (fun _ => ?_) (fun _ => ?_)) <;> try simp (disch := first | (with_unfolding_all first | exact Lk.mk rfl | exact Seen.of rfl) | assumption | (fail_if_success with_reducible first | refine Seen.of ?_ | apply Sl.frame | apply Ow.frame); omega) only [go_sem, Int.reduceEq, Int.reduceLE, Int.reduceLT, Int.reduceNe, Int.reduceNeg, Int.reduceAdd, Int.reduceSub, Int.reduceMul, Int.reduceToNat, Nat.reduceLT, Nat.reduceLeDiff, Nat.reduceEqDiff, Nat.reduceAdd, Nat.reduceSub, Nat.reduceMul, reduceCtorEq, reduceIte, e0, e1, hc, hnx, k13, hcb, hv, c5, ho]))
                    exact no (fun h => by simp [c5, ho] at h)
                · by_cases hv4 : r.verdict = 4
                  · cases ho : r.ask.told with
                    | false =>
                      refine vI ?_; repeat' (first
      | (with_reducible first | refine q_nn ?_ | refine q_nr ?_ | refine q_ne ?_ | refine q_en ?_ | refine q_er ?_ | refine q_es ?_ | refine q_gn ?_ | refine q_gr ?_ | refine q_ge ?_ | refine c_seq ?_ | refine c_block ?_ | refine c_scope ?_ | refine c_skip ?_ | refine c_label ?_ | refine c_ret ?_ | refine c_exit ?_ | (refine hK _ _ ?_; clear hK K) | refine seg_nil ?_) | ((with_reducible refine q_eo ?_ ?_); exact rfl)
      | ((with_reducible first | refine vO ?_ | refine c_reg fun K hK => ?_ | refine c_drw (by decide +kernel) fun K hK => ?_ | refine c_cond ?_ | refine seg_cons fun K hK => ?_ | show endW _ _ _ _ _ | refine ifb_dec (fun _ => ?_) (fun _ => ?_) | refine ifb_ieq (fun _ => ?_) (fun _ => ?_) | refine ifb_seq (fun _ => ?_) (fun _ => ?_)) <;> try simp (disch := first | (with_unfolding_all first | exact Lk.mk rfl | exact Seen.of rfl) | assumption | (fail_if_success with_reducible first | refine Seen.of ?_ | apply Sl.frame | apply Ow.frame); omega) only [go_sem, Int.reduceEq, Int.reduceLE, Int.reduceLT, Int.reduceNe, Int.reduceNeg, Int.reduceAdd, Int.reduceSub, Int.reduceMul, Int.reduceToNat, Nat.reduceLT, Nat.reduceLeDiff, Nat.reduceEqDiff, Nat.reduceAdd, Nat.reduceSub, Nat.reduceMul, reduceCtorEq, reduceIte, e0, e1, hc, hnx, k13, hcb, hv4, c5, ho]))
                      rw [c5, ho] at yes; exact yes ⟨by omega, by omega, by simp [hv4]⟩
                    | true =>
                      refine vI ?_; repeat' (first
      | (with_reducible first | refine q_nn ?_ | refine q_nr ?_ | refine q_ne ?_ | refine q_en ?_ | refine q_er ?_ | refine q_es ?_ | refine q_gn ?_ | refine q_gr ?_ | refine q_ge ?_ | refine c_seq ?_ | refine c_block ?_ | refine c_scope ?_ | refine c_skip ?_ | refine c_label ?_ | refine c_ret ?_ | refine c_exit ?_ | (refine hK _ _ ?_; clear hK K) | refine seg_nil ?_) | ((with_reducible refine q_eo ?_ ?_); exact rfl)
      | ((with_reducible first | refine vO ?_ | refine c_reg fun K hK => ?_ | refine c_drw (by decide +kernel) fun K hK => ?_ | refine c_cond ?_ | refine seg_cons fun K hK => ?_ | show endW _ _ _ _ _ | refine ifb_dec (fun _ => ?_) (fun _ => ?_) | refine ifb_ieq (fun _ => ?_) (fun _ => ?_) | refine ifb_seq (fun _ => ?_) (fun _ => ?_)) <;> try simp (disch := first | (with_unfolding_all first | exact Lk.mk rfl | exact Seen.of rfl) | assumption | (fail_if_success with_reducible first | refine Seen.of ?_ | apply Sl.frame | apply Ow.frame); omega) only [go_sem, Int.reduceEq, Int.reduceLE, Int.reduceLT, Int.reduceNe, Int.reduceNeg, Int.reduceAdd, Int.reduceSub, Int.reduceMul, Int.reduceToNat, Nat.reduceLT, Nat.reduceLeDiff, Nat.reduceEqDiff, Nat.reduceAdd, Nat.reduceSub, Nat.reduceMul, reduceCtorEq, reduceIte, e0, e1, hc, hnx, k13, hcb, hv4, c5, ho]))
                      exact no (fun h => by simp [c5, ho] at h)
                  · refine vI ?_; repeat' (first
      | (with_reducible first | refine q_nn ?_ | refine q_nr ?_ | refine q_ne ?_ | refine q_en ?_ | refine q_er ?_ | refine q_es ?_ | refine q_gn ?_ | refine q_gr ?_ | refine q_ge ?_ | refine c_seq ?_ | refine c_block ?_ | refine c_scope ?_ | refine c_skip ?_ | refine c_label ?_ | refine c_ret ?_ | refine c_exit ?_ | (refine hK _ _ ?_; clear hK K) | refine seg_nil ?_) | ((with_reducible refine q_eo ?_ ?_); exact rfl)
      | ((with_reducible first | refine vO ?_ | refine c_reg fun K hK => ?_ | refine c_drw (by decide +kernel) fun K hK => ?_ | refine c_cond ?_ | refine seg_cons fun K hK => ?_ | show endW _ _ _ _ _ | refine ifb_dec (fun _ => ?_) (fun _ => ?_) | refine ifb_ieq (fun _ => ?_) (fun _ => ?_) | refine ifb_seq (fun _ => ?_) (fun _ => ?_)) <;> try simp (disch := first | (with_unfolding_all first | exact Lk.mk rfl | exact Seen.of rfl) | assumption | (fail_if_success with_reducible first | refine Seen.of ?_ | apply Sl.frame | apply Ow.frame); omega) only [go_sem, Int.reduceEq, Int.reduceLE, Int.reduceLT, Int.reduceNe, Int.reduceNeg, Int.reduceAdd, Int.reduceSub, Int.reduceMul, Int.reduceToNat, Nat.reduceLT, Nat.reduceLeDiff, Nat.reduceEqDiff, Nat.reduceAdd, Nat.reduceSub, Nat.reduceMul, reduceCtorEq, reduceIte, e0, e1, hc, hnx, k13, hcb, c5]))
                    exact no (fun h => by simp [c5, hv, hv4] at h)
              · by_cases c3 : n.code = 3
                · by_cases hv : r.verdict = 1
                  · refine vI ?_; repeat' (first
      | (with_reducible first | refine q_nn ?_ | refine q_nr ?_ | refine q_ne ?_ | refine q_en ?_ | refine q_er ?_ | refine q_es ?_ | refine q_gn ?_ | refine q_gr ?_ | refine q_ge ?_ | refine c_seq ?_ | refine c_block ?_ | refine c_scope ?_ | refine c_skip ?_ | refine c_label ?_ | refine c_ret ?_ | refine c_exit ?_ | (refine hK _ _ ?_; clear hK K) | refine seg_nil ?_) | ((with_reducible refine q_eo ?_ ?_); exact rfl)
      | ((with_reducible first | refine vO ?_ | refine c_reg fun K hK => ?_ | refine c_drw (by decide +kernel) fun K hK => ?_ | refine c_cond ?_ | refine seg_cons fun K hK => ?_ | show endW _ _ _ _ _ | refine ifb_dec (fun _ => ?_) (fun _ => ?_) | refine ifb_ieq (fun _ => ?_) (fun _ => ?_) | refine ifb_seq (fun _ => ?_) (fun _ => ?_)) <;> try simp (disch := first | (with_unfolding_all first | exact Lk.mk rfl | exact Seen.of rfl) | assumption | (fail_if_success with_reducible first | refine Seen.of ?_ | apply Sl.frame | apply Ow.frame); omega) only [go_sem, Int.reduceEq, Int.reduceLE, Int.reduceLT, Int.reduceNe, Int.reduceNeg, Int.reduceAdd, Int.reduceSub, Int.reduceMul, Int.reduceToNat, Nat.reduceLT, Nat.reduceLeDiff, Nat.reduceEqDiff, Nat.reduceAdd, Nat.reduceSub, Nat.reduceMul, reduceCtorEq, reduceIte, e0, e1, hc, hnx, k13, hcb, hv, c3]))
                    rw [c3] at yes; exact yes ⟨by omega, by omega, by simp [hv]⟩
                  · refine vI ?_; repeat' (first
      | (with_reducible first | refine q_nn ?_ | refine q_nr ?_ | refine q_ne ?_ | refine q_en ?_ | refine q_er ?_ | refine q_es ?_ | refine q_gn ?_ | refine q_gr ?_ | refine q_ge ?_ | refine c_seq ?_ | refine c_block ?_ | refine c_scope ?_ | refine c_skip ?_ | refine c_label ?_ | refine c_ret ?_ | refine c_exit ?_ | (refine hK _ _ ?_; clear hK K) | refine seg_nil ?_) | ((with_reducible refine q_eo ?_ ?_); exact rfl)
      | ((with_reducible first | refine vO ?_ | refine c_reg fun K hK => ?_ | refine c_drw (by decide +kernel) fun K hK => ?_ | refine c_cond ?_ | refine seg_cons fun K hK => ?_ | show endW _ _ _ _ _ | refine ifb_dec (fun _ => ?_) (fun _ => ?_) | refine ifb_ieq (fun _ => ?_) (fun _ => ?_) | refine ifb_seq (fun _ => ?_) (fun _ => ?_)) <;> try simp (disch := first | (with_unfolding_all first | exact Lk.mk rfl | exact Seen.of rfl) | assumption | (fail_if_success with_reducible first | refine Seen.of ?_ | apply Sl.frame | apply Ow.frame); omega) only [go_sem, Int.reduceEq, Int.reduceLE, Int.reduceLT, Int.reduceNe, Int.reduceNeg, Int.reduceAdd, Int.reduceSub, Int.reduceMul, Int.reduceToNat, Nat.reduceLT, Nat.reduceLeDiff, Nat.reduceEqDiff, Nat.reduceAdd, Nat.reduceSub, Nat.reduceMul, reduceCtorEq, reduceIte, e0, e1, hc, hnx, k13, hcb, c3]))
                    exact no (fun h => by simp [c3, hv] at h)
                · by_cases c4 : n.code = 4
                  · by_cases hv : r.verdict = 1
                    · refine vI ?_; repeat' (first
      | (with_reducible first | refine q_nn ?_ | refine q_nr ?_ | refine q_ne ?_ | refine q_en ?_ | refine q_er ?_ | refine q_es ?_ | refine q_gn ?_ | refine q_gr ?_ | refine q_ge ?_ | refine c_seq ?_ | refine c_block ?_ | refine c_scope ?_ | refine c_skip ?_ | refine c_label ?_ | refine c_ret ?_ | refine c_exit ?_ | (refine hK _ _ ?_; clear hK K) | refine seg_nil ?_) | ((with_reducible refine q_eo ?_ ?_); exact rfl)
      | ((with_reducible first | refine vO ?_ | refine c_reg fun K hK => ?_ | refine c_drw (by decide +kernel) fun K hK => ?_ | refine c_cond ?_ | refine seg_cons fun K hK => ?_ | show endW _ _ _ _ _ | refine ifb_dec (fun _ => ?_) (fun _ => ?_) | refine ifb_ieq (fun _ => ?_) (fun _ => ?_) | refine ifb_seq (fun _ => ?_) (fun _ => ?_)) <;> try simp (disch := first | (with_unfolding_all first | exact Lk.mk rfl | exact Seen.of rfl) | assumption | (fail_if_success with_reducible first | refine Seen.of ?_ | apply Sl.frame | apply Ow.frame); omega) only [go_sem, Int.reduceEq, Int.reduceLE, Int.reduceLT, Int.reduceNe, Int.reduceNeg, Int.reduceAdd, Int.reduceSub, Int.reduceMul, Int.reduceToNat, Nat.reduceLT, Nat.reduceLeDiff, Nat.reduceEqDiff, Nat.reduceAdd, Nat.reduceSub, Nat.reduceMul, reduceCtorEq, reduceIte, e0, e1, hc, hnx, k13, hcb, hv, c4]))
                      rw [c4] at yes; exact yes ⟨by omega, by omega, by simp [hv]⟩
                    · refine vI ?_; repeat' (first
      | (with_reducible first | refine q_nn ?_ | refine q_nr ?_ | refine q_ne ?_ | refine q_en ?_ | refine q_er ?_ | refine q_es ?_ | refine q_gn ?_ | refine q_gr ?_ | refine q_ge ?_ | refine c_seq ?_ | refine c_block ?_ | refine c_scope ?_ | refine c_skip ?_ | refine c_label ?_ | refine c_ret ?_ | refine c_exit ?_ | (refine hK _ _ ?_; clear hK K) | refine seg_nil ?_) | ((with_reducible refine q_eo ?_ ?_); exact rfl)
      | ((with_reducible first | refine vO ?_ | refine c_reg fun K hK => ?_ | refine c_drw (by decide +kernel) fun K hK => ?_ | refine c_cond ?_ | refine seg_cons fun K hK => ?_ | show endW _ _ _ _ _ | refine ifb_dec (fun _ => ?_) (fun _ => ?_) | refine ifb_ieq (fun _ => ?_) (fun _ => ?_) | refine ifb_seq (fun _ => ?_) (fun _ => ?_)) <;> try simp (disch := first | (with_unfolding_all first | exact Lk.mk rfl | exact Seen.of rfl) | assumption | (fail_if_success with_reducible first | refine Seen.of ?_ | apply Sl.frame | apply Ow.frame); omega) only [go_sem, Int.reduceEq, Int.reduceLE, Int.reduceLT, Int.reduceNe, Int.reduceNeg, Int.reduceAdd, Int.reduceSub, Int.reduceMul, Int.reduceToNat, Nat.reduceLT, Nat.reduceLeDiff, Nat.reduceEqDiff, Nat.reduceAdd, Nat.reduceSub, Nat.reduceMul, reduceCtorEq, reduceIte, e0, e1, hc, hnx, k13, hcb, c4]))
                      exact no (fun h => by simp [c4, hv] at h)
                  · by_cases c6 : n.code = 6
                    · by_cases hv : r.verdict = 1
                      · refine vI ?_; repeat' (first
      | (with_reducible first | refine q_nn ?_ | refine q_nr ?_ | refine q_ne ?_ | refine q_en ?_ | refine q_er ?_ | refine q_es ?_ | refine q_gn ?_ | refine q_gr ?_ | refine q_ge ?_ | refine c_seq ?_ | refine c_block ?_ | refine c_scope ?_ | refine c_skip ?_ | refine c_label ?_ | refine c_ret ?_ | refine c_exit ?_ | (refine hK _ _ ?_; clear hK K) | refine seg_nil ?_) | ((with_reducible refine q_eo ?_ ?_); exact rfl)
      | ((with_reducible first | refine vO ?_ | refine c_reg fun K hK => ?_ | refine c_drw (by decide +kernel) fun K hK => ?_ | refine c_cond ?_ | refine seg_cons fun K hK => ?_ | show endW _ _ _ _ _ | refine ifb_dec (fun _ => ?_) (fun _ => ?_) | refine ifb_ieq (fun _ => ?_) (fun _ => ?_) | refine ifb_seq (fun _ => ?_) (fun _ => ?_)) <;> try simp (disch := first | (with_unfolding_all first | exact Lk.mk rfl | exact Seen.of rfl) | assumption | (fail_if_success with_reducible first | refine Seen.of ?_ | apply Sl.frame | apply Ow.frame); omega) only [go_sem, Int.reduceEq, Int.reduceLE, Int.reduceLT, Int.reduceNe, Int.reduceNeg, Int.reduceAdd, Int.reduceSub, Int.reduceMul, Int.reduceToNat, Nat.reduceLT, Nat.reduceLeDiff, Nat.reduceEqDiff, Nat.reduceAdd, Nat.reduceSub, Nat.reduceMul, reduceCtorEq, reduceIte, e0, e1, hc, hnx, k13, hcb, hv, c6]))
                        rw [c6] at yes; exact yes ⟨by omega, by omega, by simp [hv]⟩
                      · refine vI ?_; repeat' (first
      | (with_reducible first | refine q_nn ?_ | refine q_nr ?_ | refine q_ne ?_ | refine q_en ?_ | refine q_er ?_ | refine q_es ?_ | refine q_gn ?_ | refine q_gr ?_ | refine q_ge ?_ | refine c_seq ?_ | refine c_block ?_ | refine c_scope ?_ | refine c_skip ?_ | refine c_label ?_ | refine c_ret ?_ | refine c_exit ?_ | (refine hK _ _ ?_; clear hK K) | refine seg_nil ?_) | ((with_reducible refine q_eo ?_ ?_); exact rfl)
      | ((with_reducible first | refine vO ?_ | refine c_reg fun K hK => ?_ | refine c_drw (by decide +kernel) fun K hK => ?_ | refine c_cond ?_ | refine seg_cons fun K hK => ?_ | show endW _ _ _ _ _ | refine ifb_dec (fun _ => ?_) (fun _ => ?_) | refine ifb_ieq (fun _ => ?_) (fun _ => ?_) | refine ifb_seq (fun _ => ?_) (fun _ => ?_)) <;> try simp (disch := first | (with_unfolding_all first | exact Lk.mk rfl | exact Seen.of rfl) | assumption | (fail_if_success with_reducible first | refine Seen.of ?_ | apply Sl.frame | apply Ow.frame); omega) only [go_sem, Int.reduceEq, Int.reduceLE, Int.reduceLT, Int.reduceNe, Int.reduceNeg, Int.reduceAdd, Int.reduceSub, Int.reduceMul, Int.reduceToNat, Nat.reduceLT, Nat.reduceLeDiff, Nat.reduceEqDiff, Nat.reduceAdd, Nat.reduceSub, Nat.reduceMul, reduceCtorEq, reduceIte, e0, e1, hc, hnx, k13, hcb, c6]))
                        exact no (fun h => by simp [c6, hv] at h)
                    · refine vI ?_; repeat' (first
      | (with_reducible first | refine q_nn ?_ | refine q_nr ?_ | refine q_ne ?_ | refine q_en ?_ | refine q_er ?_ | refine q_es ?_ | refine q_gn ?_ | refine q_gr ?_ | refine q_ge ?_ | refine c_seq ?_ | refine c_block ?_ | refine c_scope ?_ | refine c_skip ?_ | refine c_label ?_ | refine c_ret ?_ | refine c_exit ?_ | (refine hK _ _ ?_; clear hK K) | refine seg_nil ?_) | ((with_reducible refine q_eo ?_ ?_); exact rfl)
      | ((with_reducible first | refine vO ?_ | refine c_reg fun K hK => ?_ | refine c_drw (by decide +kernel) fun K hK => ?_ | refine c_cond ?_ | refine seg_cons fun K hK => ?_ | show endW _ _ _ _ _ | refine ifb_dec (fun _ => ?_) (fun _ => ?_) | refine ifb_ieq (fun _ => ?_) (fun _ => ?_) | refine ifb_seq (fun _ => ?_) (fun _ => ?_)) <;> try simp (disch := first | (with_unfolding_all first | exact Lk.mk rfl | exact Seen.of rfl) | assumption | (fail_if_success with_reducible first | refine Seen.of ?_ | apply Sl.frame | apply Ow.frame); omega) only [go_sem, Int.reduceEq, Int.reduceLE, Int.reduceLT, Int.reduceNe, Int.reduceNeg, Int.reduceAdd, Int.reduceSub, Int.reduceMul, Int.reduceToNat, Nat.reduceLT, Nat.reduceLeDiff, Nat.reduceEqDiff, Nat.reduceAdd, Nat.reduceSub, Nat.reduceMul, reduceCtorEq, reduceIte, e0, e1, hc, hnx, k13, hcb]))
                      exact no (fun h => by simp [c2, c3, c4, c5, c6] at h)
        · by_cases k14 : n.kind = 14
          · rw [if_neg (by omega), if_pos k14, if_pos hro] at fin
            repeat' (first
      | (with_reducible first | refine q_nn ?_ | refine q_nr ?_ | refine q_ne ?_ | refine q_en ?_ | refine q_er ?_ | refine q_es ?_ | refine q_gn ?_ | refine q_gr ?_ | refine q_ge ?_ | refine c_seq ?_ | refine c_block ?_ | refine c_scope ?_ | refine c_skip ?_ | refine c_label ?_ | refine c_ret ?_ | refine c_exit ?_ | (refine hK _ _ ?_; clear hK K) | refine seg_nil ?_) | ((with_reducible refine q_eo ?_ ?_); exact rfl)
      | ((with_reducible first | refine c_reg fun K hK => ?_ | refine c_drw (by decide +kernel) fun K hK => ?_ | refine c_cond ?_ | refine seg_cons fun K hK => ?_ | show endW _ _ _ _ _ | refine ifb_dec (fun _ => ?_) (fun _ => ?_) | refine ifb_ieq (fun _ => ?_) (fun _ => ?_) | refine ifb_seq (fun _ => ?_) (fun _ => ?_)) <;> try simp (disch := first | (with_unfolding_all first | exact Lk.mk rfl | exact Seen.of rfl) | assumption | (fail_if_success with_reducible first | refine Seen.of ?_ | apply Sl.frame | apply Ow.frame); omega) only [go_sem, Int.reduceEq, Int.reduceLE, Int.reduceLT, Int.reduceNe, Int.reduceNeg, Int.reduceAdd, Int.reduceSub, Int.reduceMul, Int.reduceToNat, Nat.reduceLT, Nat.reduceLeDiff, Nat.reduceEqDiff, Nat.reduceAdd, Nat.reduceSub, Nat.reduceMul, reduceCtorEq, reduceIte, e0, e1, hc, hnx, k14]))
            refine callM_of find ?_
            rintro v h2 ⟨rfl, hfd⟩
            have hfd' : ∃ q, v = AV.ptr q := by
              rcases hfd with ⟨_, rfl⟩ | ⟨k, b, r, _, _, rfl, _⟩
              · exact ⟨_, rfl⟩
              · exact ⟨_, rfl⟩
            obtain ⟨q, rfl⟩ := hfd'
            clear hfd finN finS both find
            refine vI ?_; repeat' (first
      | (with_reducible first | refine q_nn ?_ | refine q_nr ?_ | refine q_ne ?_ | refine q_en ?_ | refine q_er ?_ | refine q_es ?_ | refine q_gn ?_ | refine q_gr ?_ | refine q_ge ?_ | refine c_seq ?_ | refine c_block ?_ | refine c_scope ?_ | refine c_skip ?_ | refine c_label ?_ | refine c_ret ?_ | refine c_exit ?_ | (refine hK _ _ ?_; clear hK K) | refine seg_nil ?_) | ((with_reducible refine q_eo ?_ ?_); exact rfl)
      | ((with_reducible first | refine vO ?_ | refine c_reg fun K hK => ?_ | refine c_drw (by decide +kernel) fun K hK => ?_ | refine c_cond ?_ | refine seg_cons fun K hK => ?_ | show endW _ _ _ _ _ | refine ifb_dec (fun _ => ?_) (fun _ => ?_) | refine ifb_ieq (fun _ => ?_) (fun _ => ?_) | refine ifb_seq (fun _ => ?_) (fun _ => ?_)) <;> try simp (disch := first | (with_unfolding_all first | exact Lk.mk rfl | exact Seen.of rfl) | assumption | (fail_if_success with_reducible first | refine Seen.of ?_ | apply Sl.frame | apply Ow.frame); omega) only [go_sem, Int.reduceEq, Int.reduceLE, Int.reduceLT, Int.reduceNe, Int.reduceNeg, Int.reduceAdd, Int.reduceSub, Int.reduceMul, Int.reduceToNat, Nat.reduceLT, Nat.reduceLeDiff, Nat.reduceEqDiff, Nat.reduceAdd, Nat.reduceSub, Nat.reduceMul, reduceCtorEq, reduceIte, e0, e1, hc, hnx, k14]))
            refine c_loopF 11972609995033215058245537683324034901060308330086544 (fun m tm h => ∃ (k : Nat), tm.get 7 = .int .i64 k ∧ k ≤ bs.length ∧ (∀ (j : Nat) r, j < k → s.l[j]? = some r → ¬ r.verdict = 1) ∧ h = h2 ∧ m = bs.length - k) (bs.length) (by kernel_rfl) ?_ ?_
            · refine ⟨0, ?_, by omega, fun j r hj => by omega, rfl, rfl⟩
              (first | with_reducible rfl | (simp (disch := first | (with_unfolding_all first | exact Lk.mk rfl | exact Seen.of rfl) | assumption | (fail_if_success with_reducible first | refine Seen.of ?_ | apply Sl.frame | apply Ow.frame); omega) only [go_sem, Int.reduceEq, Int.reduceLE, Int.reduceLT, Int.reduceNe, Int.reduceNeg, Int.reduceAdd, Int.reduceSub, Int.reduceMul, Int.reduceToNat, Nat.reduceLT, Nat.reduceLeDiff, Nat.reduceEqDiff, Nat.reduceAdd, Nat.reduceSub, Nat.reduceMul, reduceCtorEq, reduceIte] <;> first | with_reducible rfl | (congr 1 <;> omega)))
            · rintro m tr2 h3 ho ⟨k, t7, hk, hj, rfl, rfl⟩
              have k0 := ho 0 (Seen.of rfl); simp (disch := first | (with_unfolding_all first | exact Lk.mk rfl | exact Seen.of rfl) | assumption | (fail_if_success with_reducible first | refine Seen.of ?_ | apply Sl.frame | apply Ow.frame); omega) only [go_sem, Int.reduceEq, Int.reduceLE, Int.reduceLT, Int.reduceNe, Int.reduceNeg, Int.reduceAdd, Int.reduceSub, Int.reduceMul, Int.reduceToNat, Nat.reduceLT, Nat.reduceLeDiff, Nat.reduceEqDiff, Nat.reduceAdd, Nat.reduceSub, Nat.reduceMul, reduceCtorEq, reduceIte, e0, e1] at k0; have k1 := ho 1 (Seen.of rfl); simp (disch := first | (with_unfolding_all first | exact Lk.mk rfl | exact Seen.of rfl) | assumption | (fail_if_success with_reducible first | refine Seen.of ?_ | apply Sl.frame | apply Ow.frame); omega) only [go_sem, Int.reduceEq, Int.reduceLE, Int.reduceLT, Int.reduceNe, Int.reduceNeg, Int.reduceAdd, Int.reduceSub, Int.reduceMul, Int.reduceToNat, Nat.reduceLT, Nat.reduceLeDiff, Nat.reduceEqDiff, Nat.reduceAdd, Nat.reduceSub, Nat.reduceMul, reduceCtorEq, reduceIte, e0, e1] at k1; have k3 := ho 3 (Seen.of rfl); simp (disch := first | (with_unfolding_all first | exact Lk.mk rfl | exact Seen.of rfl) | assumption | (fail_if_success with_reducible first | refine Seen.of ?_ | apply Sl.frame | apply Ow.frame); omega) only [go_sem, Int.reduceEq, Int.reduceLE, Int.reduceLT, Int.reduceNe, Int.reduceNeg, Int.reduceAdd, Int.reduceSub, Int.reduceMul, Int.reduceToNat, Nat.reduceLT, Nat.reduceLeDiff, Nat.reduceEqDiff, Nat.reduceAdd, Nat.reduceSub, Nat.reduceMul, reduceCtorEq, reduceIte, e0, e1] at k3; have k5 := ho 5 (Seen.of rfl); simp (disch := first | (with_unfolding_all first | exact Lk.mk rfl | exact Seen.of rfl) | assumption | (fail_if_success with_reducible first | refine Seen.of ?_ | apply Sl.frame | apply Ow.frame); omega) only [go_sem, Int.reduceEq, Int.reduceLE, Int.reduceLT, Int.reduceNe, Int.reduceNeg, Int.reduceAdd, Int.reduceSub, Int.reduceMul, Int.reduceToNat, Nat.reduceLT, Nat.reduceLeDiff, Nat.reduceEqDiff, Nat.reduceAdd, Nat.reduceSub, Nat.reduceMul, reduceCtorEq, reduceIte, e0, e1] at k5
              have s1 := o.sl
              by_cases hcc : k < bs.length
              · have hbk : bs[k]? = some bs[k] := List.getElem?_eq_getElem hcc
                have hrk : s.l[k]? = some (s.l[k]'(by omega)) := List.getElem?_eq_getElem (by omega)
                have ld := ldQ s1 hbk
                obtain ⟨v1, v2, v3, v4, hcb, hbb⟩ := hcr k _ _ hrk hbk
                unfold cR at hcb
                by_cases hid : (s.l[k]'(by omega)).verdict = 1
                · repeat' (first
      | (with_reducible first | refine q_nn ?_ | refine q_nr ?_ | refine q_ne ?_ | refine q_en ?_ | refine q_er ?_ | refine q_es ?_ | refine q_gn ?_ | refine q_gr ?_ | refine q_ge ?_ | refine c_seq ?_ | refine c_block ?_ | refine c_scope ?_ | refine c_skip ?_ | refine c_label ?_ | refine c_ret ?_ | refine c_exit ?_ | (refine hK _ _ ?_; clear hK K) | refine seg_nil ?_) | ((with_reducible refine q_eo ?_ ?_); exact rfl)
      | ((with_reducible first | refine c_reg fun K hK => ?_ | refine c_drw (by decide +kernel) fun K hK => ?_ | refine c_cond ?_ | refine seg_cons fun K hK => ?_ | show endW _ _ _ _ _ | refine ifb_dec (fun _ => ?_) (fun _ => ?_) | refine ifb_ieq (fun _ => ?_) (fun _ => ?_) | refine ifb_seq (fun _ => ?_) (fun _ => ?_)) <;> try simp (disch := first | (with_unfolding_all first | exact Lk.mk rfl | exact Seen.of rfl) | assumption | (fail_if_success with_reducible first | refine Seen.of ?_ | apply Sl.frame | apply Ow.frame); omega) only [go_sem, Int.reduceEq, Int.reduceLE, Int.reduceLT, Int.reduceNe, Int.reduceNeg, Int.reduceAdd, Int.reduceSub, Int.reduceMul, Int.reduceToNat, Nat.reduceLT, Nat.reduceLeDiff, Nat.reduceEqDiff, Nat.reduceAdd, Nat.reduceSub, Nat.reduceMul, reduceCtorEq, reduceIte, k0, k1, k3, k5, t7, hc, ld, hcb, hid]))
                  have hpd : pend s.l = true := pend_some hrk hid
                  exact fin _ _ none (if_pos hpd) rfl keep
                · repeat' (first
      | (with_reducible first | refine q_nn ?_ | refine q_nr ?_ | refine q_ne ?_ | refine q_en ?_ | refine q_er ?_ | refine q_es ?_ | refine q_gn ?_ | refine q_gr ?_ | refine q_ge ?_ | refine c_seq ?_ | refine c_block ?_ | refine c_scope ?_ | refine c_skip ?_ | refine c_label ?_ | refine c_ret ?_ | refine c_exit ?_ | (refine hK _ _ ?_; clear hK K) | refine seg_nil ?_) | ((with_reducible refine q_eo ?_ ?_); exact rfl)
      | ((with_reducible first | refine c_reg fun K hK => ?_ | refine c_drw (by decide +kernel) fun K hK => ?_ | refine c_cond ?_ | refine seg_cons fun K hK => ?_ | show endW _ _ _ _ _ | refine ifb_dec (fun _ => ?_) (fun _ => ?_) | refine ifb_ieq (fun _ => ?_) (fun _ => ?_) | refine ifb_seq (fun _ => ?_) (fun _ => ?_)) <;> try simp (disch := first | (with_unfolding_all first | exact Lk.mk rfl | exact Seen.of rfl) | assumption | (fail_if_success with_reducible first | refine Seen.of ?_ | apply Sl.frame | apply Ow.frame); omega) only [go_sem, Int.reduceEq, Int.reduceLE, Int.reduceLT, Int.reduceNe, Int.reduceNeg, Int.reduceAdd, Int.reduceSub, Int.reduceMul, Int.reduceToNat, Nat.reduceLT, Nat.reduceLeDiff, Nat.reduceEqDiff, Nat.reduceAdd, Nat.reduceSub, Nat.reduceMul, reduceCtorEq, reduceIte, k0, k1, k3, k5, t7, hc, ld, hcb, hid]))
                  try dsimp only
                  refine ⟨rfl, bs.length - (k + 1), by omega, k + 1, ?_, by omega, fun j r hj2 hr' => ?_, rfl, rfl⟩
                  · (first | with_reducible rfl | (simp (disch := first | (with_unfolding_all first | exact Lk.mk rfl | exact Seen.of rfl) | assumption | (fail_if_success with_reducible first | refine Seen.of ?_ | apply Sl.frame | apply Ow.frame); omega) only [go_sem, Int.reduceEq, Int.reduceLE, Int.reduceLT, Int.reduceNe, Int.reduceNeg, Int.reduceAdd, Int.reduceSub, Int.reduceMul, Int.reduceToNat, Nat.reduceLT, Nat.reduceLeDiff, Nat.reduceEqDiff, Nat.reduceAdd, Nat.reduceSub, Nat.reduceMul, reduceCtorEq, reduceIte] <;> first | with_reducible rfl | (congr 1 <;> omega)))
                  · by_cases e : j = k
                    · subst e
                      rw [hrk] at hr'
                      cases hr'; exact hid
                    · exact hj j r (by omega) hr'
              · repeat' (first
      | (with_reducible first | refine q_nn ?_ | refine q_nr ?_ | refine q_ne ?_ | refine q_en ?_ | refine q_er ?_ | refine q_es ?_ | refine q_gn ?_ | refine q_gr ?_ | refine q_ge ?_ | refine c_seq ?_ | refine c_block ?_ | refine c_scope ?_ | refine c_skip ?_ | refine c_label ?_ | refine c_ret ?_ | refine c_exit ?_ | (refine hK _ _ ?_; clear hK K) | refine seg_nil ?_) | ((with_reducible refine q_eo ?_ ?_); exact rfl)
      | ((with_reducible first | refine c_reg fun K hK => ?_ | refine c_drw (by decide +kernel) fun K hK => ?_ | refine c_cond ?_ | refine seg_cons fun K hK => ?_ | show endW _ _ _ _ _ | refine ifb_dec (fun _ => ?_) (fun _ => ?_) | refine ifb_ieq (fun _ => ?_) (fun _ => ?_) | refine ifb_seq (fun _ => ?_) (fun _ => ?_)) <;> try simp (disch := first | (with_unfolding_all first | exact Lk.mk rfl | exact Seen.of rfl) | assumption | (fail_if_success with_reducible first | refine Seen.of ?_ | apply Sl.frame | apply Ow.frame); omega) only [go_sem, Int.reduceEq, Int.reduceLE, Int.reduceLT, Int.reduceNe, Int.reduceNeg, Int.reduceAdd, Int.reduceSub, Int.reduceMul, Int.reduceToNat, Nat.reduceLT, Nat.reduceLeDiff, Nat.reduceEqDiff, Nat.reduceAdd, Nat.reduceSub, Nat.reduceMul, reduceCtorEq, reduceIte, k0, k1, k3, k5, t7, hc]))
                have hpd : pend s.l = false := pend_none fun j r hr' => hj j r (by have := (List.getElem?_eq_some_iff.1 hr').1; omega) hr'
                exact fin _ _ (some _) (if_neg (by rw [hpd]; simp)) rfl (stepMCell (s' := { s with cl := true }) hp hO o t hbn hr rfl)
          · repeat' (first
      | (with_reducible first | refine q_nn ?_ | refine q_nr ?_ | refine q_ne ?_ | refine q_en ?_ | refine q_er ?_ | refine q_es ?_ | refine q_gn ?_ | refine q_gr ?_ | refine q_ge ?_ | refine c_seq ?_ | refine c_block ?_ | refine c_scope ?_ | refine c_skip ?_ | refine c_label ?_ | refine c_ret ?_ | refine c_exit ?_ | (refine hK _ _ ?_; clear hK K) | refine seg_nil ?_) | ((with_reducible refine q_eo ?_ ?_); exact rfl)
      | ((with_reducible first | refine c_reg fun K hK => ?_ | refine c_drw (by decide +kernel) fun K hK => ?_ | refine c_cond ?_ | refine seg_cons fun K hK => ?_ | show endW _ _ _ _ _ | refine ifb_dec (fun _ => ?_) (fun _ => ?_) | refine ifb_ieq (fun _ => ?_) (fun _ => ?_) | refine ifb_seq (fun _ => ?_) (fun _ => ?_)) <;> try simp (disch := first | (with_unfolding_all first | exact Lk.mk rfl | exact Seen.of rfl) | assumption | (fail_if_success with_reducible first | refine Seen.of ?_ | apply Sl.frame | apply Ow.frame); omega) only [go_sem, Int.reduceEq, Int.reduceLE, Int.reduceLT, Int.reduceNe, Int.reduceNeg, Int.reduceAdd, Int.reduceSub, Int.reduceMul, Int.reduceToNat, Nat.reduceLT, Nat.reduceLeDiff, Nat.reduceEqDiff, Nat.reduceAdd, Nat.reduceSub, Nat.reduceMul, reduceCtorEq, reduceIte, e0, e1, hc, hnx]))
            refine callM_of find ?_
            rintro v h2 ⟨rfl, (⟨hfx, rfl⟩ | ⟨k, b, r, hfx, hrk, rfl, hbk⟩)⟩
            · refine vI ?_; repeat' (first
      | (with_reducible first | refine q_nn ?_ | refine q_nr ?_ | refine q_ne ?_ | refine q_en ?_ | refine q_er ?_ | refine q_es ?_ | refine q_gn ?_ | refine q_gr ?_ | refine q_ge ?_ | refine c_seq ?_ | refine c_block ?_ | refine c_scope ?_ | refine c_skip ?_ | refine c_label ?_ | refine c_ret ?_ | refine c_exit ?_ | (refine hK _ _ ?_; clear hK K) | refine seg_nil ?_) | ((with_reducible refine q_eo ?_ ?_); exact rfl)
      | ((with_reducible first | refine vO ?_ | refine c_reg fun K hK => ?_ | refine c_drw (by decide +kernel) fun K hK => ?_ | refine c_cond ?_ | refine seg_cons fun K hK => ?_ | show endW _ _ _ _ _ | refine ifb_dec (fun _ => ?_) (fun _ => ?_) | refine ifb_ieq (fun _ => ?_) (fun _ => ?_) | refine ifb_seq (fun _ => ?_) (fun _ => ?_)) <;> try simp (disch := first | (with_unfolding_all first | exact Lk.mk rfl | exact Seen.of rfl) | assumption | (fail_if_success with_reducible first | refine Seen.of ?_ | apply Sl.frame | apply Ow.frame); omega) only [go_sem, Int.reduceEq, Int.reduceLE, Int.reduceLT, Int.reduceNe, Int.reduceNeg, Int.reduceAdd, Int.reduceSub, Int.reduceMul, Int.reduceToNat, Nat.reduceLT, Nat.reduceLeDiff, Nat.reduceEqDiff, Nat.reduceAdd, Nat.reduceSub, Nat.reduceMul, reduceCtorEq, reduceIte, e0, e1, hc, hnx]))
              refine callM_of (rboth _ none n _ of od) ?_
              rintro v h3 ⟨rfl, k3⟩
              refine vI ?_; repeat' (first
      | (with_reducible first | refine q_nn ?_ | refine q_nr ?_ | refine q_ne ?_ | refine q_en ?_ | refine q_er ?_ | refine q_es ?_ | refine q_gn ?_ | refine q_gr ?_ | refine q_ge ?_ | refine c_seq ?_ | refine c_block ?_ | refine c_scope ?_ | refine c_skip ?_ | refine c_label ?_ | refine c_ret ?_ | refine c_exit ?_ | (refine hK _ _ ?_; clear hK K) | refine seg_nil ?_) | ((with_reducible refine q_eo ?_ ?_); exact rfl)
      | ((with_reducible first | refine vO ?_ | refine c_reg fun K hK => ?_ | refine c_drw (by decide +kernel) fun K hK => ?_ | refine c_cond ?_ | refine seg_cons fun K hK => ?_ | show endW _ _ _ _ _ | refine ifb_dec (fun _ => ?_) (fun _ => ?_) | refine ifb_ieq (fun _ => ?_) (fun _ => ?_) | refine ifb_seq (fun _ => ?_) (fun _ => ?_)) <;> try simp (disch := first | (with_unfolding_all first | exact Lk.mk rfl | exact Seen.of rfl) | assumption | (fail_if_success with_reducible first | refine Seen.of ?_ | apply Sl.frame | apply Ow.frame); omega) only [go_sem, Int.reduceEq, Int.reduceLE, Int.reduceLT, Int.reduceNe, Int.reduceNeg, Int.reduceAdd, Int.reduceSub, Int.reduceMul, Int.reduceToNat, Nat.reduceLT, Nat.reduceLeDiff, Nat.reduceEqDiff, Nat.reduceAdd, Nat.reduceSub, Nat.reduceMul, reduceCtorEq, reduceIte, e0, e1]))
              exact both none (.inl ⟨rfl, hfx⟩) ⟨k16, k2, k4, k13, k14, k15⟩ h3 k3
            · refine vI ?_; repeat' (first
      | (with_reducible first | refine q_nn ?_ | refine q_nr ?_ | refine q_ne ?_ | refine q_en ?_ | refine q_er ?_ | refine q_es ?_ | refine q_gn ?_ | refine q_gr ?_ | refine q_ge ?_ | refine c_seq ?_ | refine c_block ?_ | refine c_scope ?_ | refine c_skip ?_ | refine c_label ?_ | refine c_ret ?_ | refine c_exit ?_ | (refine hK _ _ ?_; clear hK K) | refine seg_nil ?_) | ((with_reducible refine q_eo ?_ ?_); exact rfl)
      | ((with_reducible first | refine vO ?_ | refine c_reg fun K hK => ?_ | refine c_drw (by decide +kernel) fun K hK => ?_ | refine c_cond ?_ | refine seg_cons fun K hK => ?_ | show endW _ _ _ _ _ | refine ifb_dec (fun _ => ?_) (fun _ => ?_) | refine ifb_ieq (fun _ => ?_) (fun _ => ?_) | refine ifb_seq (fun _ => ?_) (fun _ => ?_)) <;> try simp (disch := first | (with_unfolding_all first | exact Lk.mk rfl | exact Seen.of rfl) | assumption | (fail_if_success with_reducible first | refine Seen.of ?_ | apply Sl.frame | apply Ow.frame); omega) only [go_sem, Int.reduceEq, Int.reduceLE, Int.reduceLT, Int.reduceNe, Int.reduceNeg, Int.reduceAdd, Int.reduceSub, Int.reduceMul, Int.reduceToNat, Nat.reduceLT, Nat.reduceLeDiff, Nat.reduceEqDiff, Nat.reduceAdd, Nat.reduceSub, Nat.reduceMul, reduceCtorEq, reduceIte, e0, e1, hc, hnx]))
              refine callM_of (rboth _ (some (b, 0)) n _ of od) ?_
              rintro v h3 ⟨rfl, k3⟩
              refine vI ?_; repeat' (first
      | (with_reducible first | refine q_nn ?_ | refine q_nr ?_ | refine q_ne ?_ | refine q_en ?_ | refine q_er ?_ | refine q_es ?_ | refine q_gn ?_ | refine q_gr ?_ | refine q_ge ?_ | refine c_seq ?_ | refine c_block ?_ | refine c_scope ?_ | refine c_skip ?_ | refine c_label ?_ | refine c_ret ?_ | refine c_exit ?_ | (refine hK _ _ ?_; clear hK K) | refine seg_nil ?_) | ((with_reducible refine q_eo ?_ ?_); exact rfl)
      | ((with_reducible first | refine vO ?_ | refine c_reg fun K hK => ?_ | refine c_drw (by decide +kernel) fun K hK => ?_ | refine c_cond ?_ | refine seg_cons fun K hK => ?_ | show endW _ _ _ _ _ | refine ifb_dec (fun _ => ?_) (fun _ => ?_) | refine ifb_ieq (fun _ => ?_) (fun _ => ?_) | refine ifb_seq (fun _ => ?_) (fun _ => ?_)) <;> try simp (disch := first | (with_unfolding_all first | exact Lk.mk rfl | exact Seen.of rfl) | assumption | (fail_if_success with_reducible first | refine Seen.of ?_ | apply Sl.frame | apply Ow.frame); omega) only [go_sem, Int.reduceEq, Int.reduceLE, Int.reduceLT, Int.reduceNe, Int.reduceNeg, Int.reduceAdd, Int.reduceSub, Int.reduceMul, Int.reduceToNat, Nat.reduceLT, Nat.reduceLeDiff, Nat.reduceEqDiff, Nat.reduceAdd, Nat.reduceSub, Nat.reduceMul, reduceCtorEq, reduceIte, e0, e1]))
              exact both (some (b, 0)) (.inr ⟨k, b, r, rfl, hfx, hrk, hbk⟩) ⟨k16, k2, k4, k13, k14, k15⟩ h3 k3
end Go.Proofs.Ytanbckdhlmhdeaa
