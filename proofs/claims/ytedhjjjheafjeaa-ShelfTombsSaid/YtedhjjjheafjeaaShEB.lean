/- shelf: the code's shelf of truth values: Top, Len, Where.. -/
import Derived.Test.YtedhjjjheafjeaaShDB
set_option linter.unusedSimpArgs false
set_option linter.unusedVariables false
namespace Go.Proofs.Ytedhjjjheafjeaa
open Go.Abs
set_option maxRecDepth 100000
theorem topB (O : Nat → Nat) (p : Nat) (s : Sh Bool) (h0 : AH) (hl : ShC LB O h0 p s) :
    callW Try.prog Try.T 34 [.ptr (some (p, 0))] h0 fun v h' => v = .int .i64 s.top ∧ h' = h0 := by
  obtain ⟨v1, v2, g1, g2, hc, hp, hO, o1, o2, t1, t2⟩ := hl
  refine callW_in (n := 9) (rs := [.tmp 2]) (m := 9) Try.func34 rfl rfl rfl rfl fun tr ht => ?_; have e0 := ht 0 _ rfl; clear ht
  repeat' (first
      | (with_reducible first | refine q_nn ?_ | refine q_nr ?_ | refine q_ne ?_ | refine q_en ?_ | refine q_er ?_ | refine q_es ?_ | refine q_gn ?_ | refine q_gr ?_ | refine q_ge ?_ | refine c_seq ?_ | refine c_block ?_ | refine c_scope ?_ | refine c_skip ?_ | refine c_label ?_ | refine c_ret ?_ | refine c_exit ?_ | (refine hK _ _ ?_; clear hK K) | refine seg_nil ?_) | ((with_reducible refine q_eo ?_ ?_); exact rfl)
      | ((with_reducible first | refine c_reg fun K hK => ?_ | refine c_drw (by decide +kernel) fun K hK => ?_ | refine c_cond ?_ | refine seg_cons fun K hK => ?_ | show endW _ _ _ _ _ | refine ifb_dec (fun _ => ?_) (fun _ => ?_) | refine ifb_ieq (fun _ => ?_) (fun _ => ?_) | refine ifb_seq (fun _ => ?_) (fun _ => ?_)) <;> try simp (disch := first | (with_unfolding_all first | exact Lk.mk rfl | exact Seen.of rfl) | assumption | (fail_if_success with_reducible first | refine Seen.of ?_ | apply Sl.frame | apply Ow.frame); omega) only [go_sem, Int.reduceEq, Int.reduceLE, Int.reduceLT, Int.reduceNe, Int.reduceNeg, Int.reduceAdd, Int.reduceSub, Int.reduceMul, Int.reduceToNat, Nat.reduceLT, Nat.reduceLeDiff, Nat.reduceEqDiff, Nat.reduceAdd, Nat.reduceSub, Nat.reduceMul, reduceCtorEq, reduceIte, e0, hc]))
theorem lenB (O : Nat → Nat) (p : Nat) (s : Sh Bool) (h0 : AH) (hl : ShC LB O h0 p s) :
    callW Try.prog Try.T 35 [.ptr (some (p, 0))] h0 fun v h' => v = .int .i64 (s.l.length : Int) ∧ h' = h0 := by
  obtain ⟨v1, v2, g1, g2, hc, hp, hO, o1, o2, t1, t2⟩ := hl
  have s1 := o1.sl
  refine callW_in (n := 10) (rs := [.tmp 2]) (m := 10) Try.func35 rfl rfl rfl rfl fun tr ht => ?_; have e0 := ht 0 _ rfl; clear ht
  repeat' (first
      | (with_reducible first | refine q_nn ?_ | refine q_nr ?_ | refine q_ne ?_ | refine q_en ?_ | refine q_er ?_ | refine q_es ?_ | refine q_gn ?_ | refine q_gr ?_ | refine q_ge ?_ | refine c_seq ?_ | refine c_block ?_ | refine c_scope ?_ | refine c_skip ?_ | refine c_label ?_ | refine c_ret ?_ | refine c_exit ?_ | (refine hK _ _ ?_; clear hK K) | refine seg_nil ?_) | ((with_reducible refine q_eo ?_ ?_); exact rfl)
      | ((with_reducible first | refine c_reg fun K hK => ?_ | refine c_drw (by decide +kernel) fun K hK => ?_ | refine c_cond ?_ | refine seg_cons fun K hK => ?_ | show endW _ _ _ _ _ | refine ifb_dec (fun _ => ?_) (fun _ => ?_) | refine ifb_ieq (fun _ => ?_) (fun _ => ?_) | refine ifb_seq (fun _ => ?_) (fun _ => ?_)) <;> try simp (disch := first | (with_unfolding_all first | exact Lk.mk rfl | exact Seen.of rfl) | assumption | (fail_if_success with_reducible first | refine Seen.of ?_ | apply Sl.frame | apply Ow.frame); omega) only [go_sem, Int.reduceEq, Int.reduceLE, Int.reduceLT, Int.reduceNe, Int.reduceNeg, Int.reduceAdd, Int.reduceSub, Int.reduceMul, Int.reduceToNat, Nat.reduceLT, Nat.reduceLeDiff, Nat.reduceEqDiff, Nat.reduceAdd, Nat.reduceSub, Nat.reduceMul, reduceCtorEq, reduceIte, e0, hc]))
set_option maxHeartbeats 4000000 in
theorem whereB (O : Nat → Nat) (p : Nat) (s : Sh Bool) (id : Int) (h0 : AH) (n : Nat) (hl : ShC LB O h0 p s) (ok : ShOk s n) (hn : n ≤ 1000) :
    callW Try.prog Try.T 33 [.ptr (some (p, 0)), .int .i64 id] h0 fun v h' => v = .tuple [.int .i64 (whereS s id).1, .int .i64 (whereS s id).2] ∧ Keeps h0.size h0 h' := by
  refine callW_hide fun KK hKK => ?_
  have hl0 := hl
  obtain ⟨v1, v2, g1, g2, hc, hp, hO, o1, o2, t1, t2⟩ := hl0
  refine callW_in (n := 43) (rs := [.tmp 4, .tmp 5]) (m := 43) Try.func33 rfl rfl rfl rfl fun tr ht => ?_; have e0 := ht 0 _ rfl; have e1 := ht 1 _ rfl; clear ht
  unfold whereS at hKK
  by_cases c1 : id < 1
  · rw [if_pos (.inl c1)] at hKK
    repeat' (first
      | (with_reducible first | refine q_nn ?_ | refine q_nr ?_ | refine q_ne ?_ | refine q_en ?_ | refine q_er ?_ | refine q_es ?_ | refine q_gn ?_ | refine q_gr ?_ | refine q_ge ?_ | refine c_seq ?_ | refine c_block ?_ | refine c_scope ?_ | refine c_skip ?_ | refine c_label ?_ | refine c_ret ?_ | refine c_exit ?_ | (refine hK _ _ ?_; clear hK K) | refine seg_nil ?_) | ((with_reducible refine q_eo ?_ ?_); exact rfl)
      | ((with_reducible first | refine c_reg fun K hK => ?_ | refine c_drw (by decide +kernel) fun K hK => ?_ | refine c_cond ?_ | refine seg_cons fun K hK => ?_ | show endW _ _ _ _ _ | refine ifb_dec (fun _ => ?_) (fun _ => ?_) | refine ifb_ieq (fun _ => ?_) (fun _ => ?_) | refine ifb_seq (fun _ => ?_) (fun _ => ?_)) <;> try simp (disch := first | (with_unfolding_all first | exact Lk.mk rfl | exact Seen.of rfl) | assumption | (fail_if_success with_reducible first | refine Seen.of ?_ | apply Sl.frame | apply Ow.frame); omega) only [go_sem, Int.reduceEq, Int.reduceLE, Int.reduceLT, Int.reduceNe, Int.reduceNeg, Int.reduceAdd, Int.reduceSub, Int.reduceMul, Int.reduceToNat, Nat.reduceLT, Nat.reduceLeDiff, Nat.reduceEqDiff, Nat.reduceAdd, Nat.reduceSub, Nat.reduceMul, reduceCtorEq, reduceIte, e0, e1]))
    exact hKK _ _ ⟨rfl, Keeps.refl _ _⟩
  · by_cases c2 : id > s.top
    · rw [if_pos (.inr c2)] at hKK
      repeat' (first
      | (with_reducible first | refine q_nn ?_ | refine q_nr ?_ | refine q_ne ?_ | refine q_en ?_ | refine q_er ?_ | refine q_es ?_ | refine q_gn ?_ | refine q_gr ?_ | refine q_ge ?_ | refine c_seq ?_ | refine c_block ?_ | refine c_scope ?_ | refine c_skip ?_ | refine c_label ?_ | refine c_ret ?_ | refine c_exit ?_ | (refine hK _ _ ?_; clear hK K) | refine seg_nil ?_) | ((with_reducible refine q_eo ?_ ?_); exact rfl)
      | ((with_reducible first | refine c_reg fun K hK => ?_ | refine c_drw (by decide +kernel) fun K hK => ?_ | refine c_cond ?_ | refine seg_cons fun K hK => ?_ | show endW _ _ _ _ _ | refine ifb_dec (fun _ => ?_) (fun _ => ?_) | refine ifb_ieq (fun _ => ?_) (fun _ => ?_) | refine ifb_seq (fun _ => ?_) (fun _ => ?_)) <;> try simp (disch := first | (with_unfolding_all first | exact Lk.mk rfl | exact Seen.of rfl) | assumption | (fail_if_success with_reducible first | refine Seen.of ?_ | apply Sl.frame | apply Ow.frame); omega) only [go_sem, Int.reduceEq, Int.reduceLE, Int.reduceLT, Int.reduceNe, Int.reduceNeg, Int.reduceAdd, Int.reduceSub, Int.reduceMul, Int.reduceToNat, Nat.reduceLT, Nat.reduceLeDiff, Nat.reduceEqDiff, Nat.reduceAdd, Nat.reduceSub, Nat.reduceMul, reduceCtorEq, reduceIte, e0, e1, hc]))
      exact hKK _ _ ⟨rfl, Keeps.refl _ _⟩
    · rw [if_neg (by omega)] at hKK
      repeat' (first
      | (with_reducible first | refine q_nn ?_ | refine q_nr ?_ | refine q_ne ?_ | refine q_en ?_ | refine q_er ?_ | refine q_es ?_ | refine q_gn ?_ | refine q_gr ?_ | refine q_ge ?_ | refine c_seq ?_ | refine c_block ?_ | refine c_scope ?_ | refine c_skip ?_ | refine c_label ?_ | refine c_ret ?_ | refine c_exit ?_ | (refine hK _ _ ?_; clear hK K) | refine seg_nil ?_) | ((with_reducible refine q_eo ?_ ?_); exact rfl)
      | ((with_reducible first | refine c_reg fun K hK => ?_ | refine c_drw (by decide +kernel) fun K hK => ?_ | refine c_cond ?_ | refine seg_cons fun K hK => ?_ | show endW _ _ _ _ _ | refine ifb_dec (fun _ => ?_) (fun _ => ?_) | refine ifb_ieq (fun _ => ?_) (fun _ => ?_) | refine ifb_seq (fun _ => ?_) (fun _ => ?_)) <;> try simp (disch := first | (with_unfolding_all first | exact Lk.mk rfl | exact Seen.of rfl) | assumption | (fail_if_success with_reducible first | refine Seen.of ?_ | apply Sl.frame | apply Ow.frame); omega) only [go_sem, Int.reduceEq, Int.reduceLE, Int.reduceLT, Int.reduceNe, Int.reduceNeg, Int.reduceAdd, Int.reduceSub, Int.reduceMul, Int.reduceToNat, Nat.reduceLT, Nat.reduceLeDiff, Nat.reduceEqDiff, Nat.reduceAdd, Nat.reduceSub, Nat.reduceMul, reduceCtorEq, reduceIte, e0, e1, hc]))
      refine callM_of (placeB O p s id h0 n hl ok hn) ?_
      rintro v h1 ⟨k, hk, rfl, k1⟩
      rw [hk.fpos ok.so] at hKK
      have hl1 := hl.after k1
      cases hh : hit s.l id k with
      | true =>
        rw [hh] at hKK
        refine vI ?_; repeat' (first
      | (with_reducible first | refine q_nn ?_ | refine q_nr ?_ | refine q_ne ?_ | refine q_en ?_ | refine q_er ?_ | refine q_es ?_ | refine q_gn ?_ | refine q_gr ?_ | refine q_ge ?_ | refine c_seq ?_ | refine c_block ?_ | refine c_scope ?_ | refine c_skip ?_ | refine c_label ?_ | refine c_ret ?_ | refine c_exit ?_ | (refine hK _ _ ?_; clear hK K) | refine seg_nil ?_) | ((with_reducible refine q_eo ?_ ?_); exact rfl)
      | ((with_reducible first | refine vO ?_ | refine c_reg fun K hK => ?_ | refine c_drw (by decide +kernel) fun K hK => ?_ | refine c_cond ?_ | refine seg_cons fun K hK => ?_ | show endW _ _ _ _ _ | refine ifb_dec (fun _ => ?_) (fun _ => ?_) | refine ifb_ieq (fun _ => ?_) (fun _ => ?_) | refine ifb_seq (fun _ => ?_) (fun _ => ?_)) <;> try simp (disch := first | (with_unfolding_all first | exact Lk.mk rfl | exact Seen.of rfl) | assumption | (fail_if_success with_reducible first | refine Seen.of ?_ | apply Sl.frame | apply Ow.frame); omega) only [go_sem, Int.reduceEq, Int.reduceLE, Int.reduceLT, Int.reduceNe, Int.reduceNeg, Int.reduceAdd, Int.reduceSub, Int.reduceMul, Int.reduceToNat, Nat.reduceLT, Nat.reduceLeDiff, Nat.reduceEqDiff, Nat.reduceAdd, Nat.reduceSub, Nat.reduceMul, reduceCtorEq, reduceIte, e0, e1]))
        exact hKK _ _ ⟨rfl, k1⟩
      | false =>
        rw [hh] at hKK
        rw [if_neg (by decide)] at hKK
        refine vI ?_; repeat' (first
      | (with_reducible first | refine q_nn ?_ | refine q_nr ?_ | refine q_ne ?_ | refine q_en ?_ | refine q_er ?_ | refine q_es ?_ | refine q_gn ?_ | refine q_gr ?_ | refine q_ge ?_ | refine c_seq ?_ | refine c_block ?_ | refine c_scope ?_ | refine c_skip ?_ | refine c_label ?_ | refine c_ret ?_ | refine c_exit ?_ | (refine hK _ _ ?_; clear hK K) | refine seg_nil ?_) | ((with_reducible refine q_eo ?_ ?_); exact rfl)
      | ((with_reducible first | refine vO ?_ | refine c_reg fun K hK => ?_ | refine c_drw (by decide +kernel) fun K hK => ?_ | refine c_cond ?_ | refine seg_cons fun K hK => ?_ | show endW _ _ _ _ _ | refine ifb_dec (fun _ => ?_) (fun _ => ?_) | refine ifb_ieq (fun _ => ?_) (fun _ => ?_) | refine ifb_seq (fun _ => ?_) (fun _ => ?_)) <;> try simp (disch := first | (with_unfolding_all first | exact Lk.mk rfl | exact Seen.of rfl) | assumption | (fail_if_success with_reducible first | refine Seen.of ?_ | apply Sl.frame | apply Ow.frame); omega) only [go_sem, Int.reduceEq, Int.reduceLE, Int.reduceLT, Int.reduceNe, Int.reduceNeg, Int.reduceAdd, Int.reduceSub, Int.reduceMul, Int.reduceToNat, Nat.reduceLT, Nat.reduceLeDiff, Nat.reduceEqDiff, Nat.reduceAdd, Nat.reduceSub, Nat.reduceMul, reduceCtorEq, reduceIte, e0, e1]))
        refine callM_of (graveB _ p s id h1 hl1 ok.tl) ?_
        rintro v h2 ⟨rfl, k2⟩
        have kq : Keeps h0.size h0 h2 := ⟨by have := k1.1; have := k2.1; omega, fun b hb => (k2.2 b (by have := k1.1; omega)).trans (k1.2 b hb)⟩
        cases hf : fpos s.t id with
        | none =>
          rw [hf] at hKK
          refine vI ?_; repeat' (first
      | (with_reducible first | refine q_nn ?_ | refine q_nr ?_ | refine q_ne ?_ | refine q_en ?_ | refine q_er ?_ | refine q_es ?_ | refine q_gn ?_ | refine q_gr ?_ | refine q_ge ?_ | refine c_seq ?_ | refine c_block ?_ | refine c_scope ?_ | refine c_skip ?_ | refine c_label ?_ | refine c_ret ?_ | refine c_exit ?_ | (refine hK _ _ ?_; clear hK K) | refine seg_nil ?_) | ((with_reducible refine q_eo ?_ ?_); exact rfl)
      | ((with_reducible first | refine vO ?_ | refine c_reg fun K hK => ?_ | refine c_drw (by decide +kernel) fun K hK => ?_ | refine c_cond ?_ | refine seg_cons fun K hK => ?_ | show endW _ _ _ _ _ | refine ifb_dec (fun _ => ?_) (fun _ => ?_) | refine ifb_ieq (fun _ => ?_) (fun _ => ?_) | refine ifb_seq (fun _ => ?_) (fun _ => ?_)) <;> try simp (disch := first | (with_unfolding_all first | exact Lk.mk rfl | exact Seen.of rfl) | assumption | (fail_if_success with_reducible first | refine Seen.of ?_ | apply Sl.frame | apply Ow.frame); omega) only [go_sem, Int.reduceEq, Int.reduceLE, Int.reduceLT, Int.reduceNe, Int.reduceNeg, Int.reduceAdd, Int.reduceSub, Int.reduceMul, Int.reduceToNat, Nat.reduceLT, Nat.reduceLeDiff, Nat.reduceEqDiff, Nat.reduceAdd, Nat.reduceSub, Nat.reduceMul, reduceCtorEq, reduceIte, e0, e1]))
          exact hKK _ _ ⟨rfl, kq⟩
        | some j =>
          rw [hf] at hKK
          obtain ⟨x, hx, _, hjl⟩ := fpos_get hf
          have c2 := (kq.2 p hp).trans hc
          have s2 := (o2.frame (h' := h2) (fun i hi => kq.2 i (o2.lt hi)) kq.1).sl
          have ld : loadA Try.T h2 3 (v2.at LI.sz 1 (j : Int)) = some (.int .i64 (s.t[j]!).2) := s2.ld (by omega) (by omega) (by rw [Int.toNat_natCast]; rfl) (by decide) rfl rfl
          refine vI ?_; repeat' (first
      | (with_reducible first | refine q_nn ?_ | refine q_nr ?_ | refine q_ne ?_ | refine q_en ?_ | refine q_er ?_ | refine q_es ?_ | refine q_gn ?_ | refine q_gr ?_ | refine q_ge ?_ | refine c_seq ?_ | refine c_block ?_ | refine c_scope ?_ | refine c_skip ?_ | refine c_label ?_ | refine c_ret ?_ | refine c_exit ?_ | (refine hK _ _ ?_; clear hK K) | refine seg_nil ?_) | ((with_reducible refine q_eo ?_ ?_); exact rfl)
      | ((with_reducible first | refine vO ?_ | refine c_reg fun K hK => ?_ | refine c_drw (by decide +kernel) fun K hK => ?_ | refine c_cond ?_ | refine seg_cons fun K hK => ?_ | show endW _ _ _ _ _ | refine ifb_dec (fun _ => ?_) (fun _ => ?_) | refine ifb_ieq (fun _ => ?_) (fun _ => ?_) | refine ifb_seq (fun _ => ?_) (fun _ => ?_)) <;> try simp (disch := first | (with_unfolding_all first | exact Lk.mk rfl | exact Seen.of rfl) | assumption | (fail_if_success with_reducible first | refine Seen.of ?_ | apply Sl.frame | apply Ow.frame); omega) only [go_sem, Int.reduceEq, Int.reduceLE, Int.reduceLT, Int.reduceNe, Int.reduceNeg, Int.reduceAdd, Int.reduceSub, Int.reduceMul, Int.reduceToNat, Nat.reduceLT, Nat.reduceLeDiff, Nat.reduceEqDiff, Nat.reduceAdd, Nat.reduceSub, Nat.reduceMul, reduceCtorEq, reduceIte, e0, e1, c2, ld]))
          exact hKK _ _ ⟨rfl, kq⟩
end Go.Proofs.Ytedhjjjheafjeaa
