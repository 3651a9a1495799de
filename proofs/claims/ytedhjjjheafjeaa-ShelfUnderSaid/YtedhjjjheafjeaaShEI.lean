/- shelf: the code's shelf of numbers: Top, Len, Where.. -/
import Derived.Test.YtedhjjjheafjeaaShDI
set_option linter.unusedSimpArgs false
set_option linter.unusedVariables false
namespace Go.Proofs.Ytedhjjjheafjeaa
open Go.Abs
set_option maxRecDepth 100000
theorem topI (O : Nat → Nat) (p : Nat) (s : Sh Int) (h0 : AH) (hl : ShC LI O h0 p s) :
    callW Try.prog Try.T 28 [.ptr (some (p, 0))] h0 fun v h' => v = .int .i64 s.top ∧ h' = h0 := by
  obtain ⟨v1, v2, g1, g2, hc, hp, hO, o1, o2, t1, t2⟩ := hl
  refine callW_in (n := 9) (rs := [.tmp 2]) (m := 9) Try.func28 rfl rfl rfl rfl fun tr ht => ?_; have e0 := ht 0 _ rfl; clear ht
  repeat' (first
      | (with_reducible first | refine q_nn ?_ | refine q_nr ?_ | refine q_ne ?_ | refine q_en ?_ | refine q_er ?_ | refine q_es ?_ | refine q_gn ?_ | refine q_gr ?_ | refine q_ge ?_ | refine c_seq ?_ | refine c_block ?_ | refine c_scope ?_ | refine c_skip ?_ | refine c_label ?_ | refine c_ret ?_ | refine c_exit ?_ | (refine hK _ _ ?_; clear hK K) | refine seg_nil ?_) | ((with_reducible refine q_eo ?_ ?_); exact rfl)
      | ((with_reducible first | refine c_reg fun K hK => ?_ | refine c_drw (by decide +kernel) fun K hK => ?_ | refine c_cond ?_ | refine seg_cons fun K hK => ?_ | show endW _ _ _ _ _ | refine ifb_dec (fun _ => ?_) (fun _ => ?_) | refine ifb_ieq (fun _ => ?_) (fun _ => ?_) | refine ifb_seq (fun _ => ?_) (fun _ => ?_)) <;> try simp (disch := first | (with_unfolding_all first | exact Lk.mk rfl | exact Seen.of rfl) | assumption | (fail_if_success with_reducible first | refine Seen.of ?_ | apply Sl.frame | apply Ow.frame); omega) only [go_sem, Int.reduceEq, Int.reduceLE, Int.reduceLT, Int.reduceNe, Int.reduceNeg, Int.reduceAdd, Int.reduceSub, Int.reduceMul, Int.reduceToNat, Nat.reduceLT, Nat.reduceLeDiff, Nat.reduceEqDiff, Nat.reduceAdd, Nat.reduceSub, Nat.reduceMul, reduceCtorEq, reduceIte, e0, hc]))
theorem lenI (O : Nat → Nat) (p : Nat) (s : Sh Int) (h0 : AH) (hl : ShC LI O h0 p s) :
    callW Try.prog Try.T 29 [.ptr (some (p, 0))] h0 fun v h' => v = .int .i64 (s.l.length : Int) ∧ h' = h0 := by
  obtain ⟨v1, v2, g1, g2, hc, hp, hO, o1, o2, t1, t2⟩ := hl
  have s1 := o1.sl
  refine callW_in (n := 10) (rs := [.tmp 2]) (m := 10) Try.func29 rfl rfl rfl rfl fun tr ht => ?_; have e0 := ht 0 _ rfl; clear ht
  repeat' (first
      | (with_reducible first | refine q_nn ?_ | refine q_nr ?_ | refine q_ne ?_ | refine q_en ?_ | refine q_er ?_ | refine q_es ?_ | refine q_gn ?_ | refine q_gr ?_ | refine q_ge ?_ | refine c_seq ?_ | refine c_block ?_ | refine c_scope ?_ | refine c_skip ?_ | refine c_label ?_ | refine c_ret ?_ | refine c_exit ?_ | (refine hK _ _ ?_; clear hK K) | refine seg_nil ?_) | ((with_reducible refine q_eo ?_ ?_); exact rfl)
      | ((with_reducible first | refine c_reg fun K hK => ?_ | refine c_drw (by decide +kernel) fun K hK => ?_ | refine c_cond ?_ | refine seg_cons fun K hK => ?_ | show endW _ _ _ _ _ | refine ifb_dec (fun _ => ?_) (fun _ => ?_) | refine ifb_ieq (fun _ => ?_) (fun _ => ?_) | refine ifb_seq (fun _ => ?_) (fun _ => ?_)) <;> try simp (disch := first | (with_unfolding_all first | exact Lk.mk rfl | exact Seen.of rfl) | assumption | (fail_if_success with_reducible first | refine Seen.of ?_ | apply Sl.frame | apply Ow.frame); omega) only [go_sem, Int.reduceEq, Int.reduceLE, Int.reduceLT, Int.reduceNe, Int.reduceNeg, Int.reduceAdd, Int.reduceSub, Int.reduceMul, Int.reduceToNat, Nat.reduceLT, Nat.reduceLeDiff, Nat.reduceEqDiff, Nat.reduceAdd, Nat.reduceSub, Nat.reduceMul, reduceCtorEq, reduceIte, e0, hc]))
set_option maxHeartbeats 4000000 in
theorem whereI (O : Nat → Nat) (p : Nat) (s : Sh Int) (id : Int) (h0 : AH) (n : Nat) (hl : ShC LI O h0 p s) (ok : ShOk s n) (hn : n ≤ 1000) :
    callW Try.prog Try.T 26 [.ptr (some (p, 0)), .int .i64 id] h0 fun v h' => v = .tuple [.int .i64 (whereS s id).1, .int .i64 (whereS s id).2] ∧ Keeps h0.size h0 h' := by
  refine callW_hide fun KK hKK => ?_
  have hl0 := hl
  obtain ⟨v1, v2, g1, g2, hc, hp, hO, o1, o2, t1, t2⟩ := hl0
  refine callW_in (n := 43) (rs := [.tmp 4, .tmp 5]) (m := 43) Try.func26 rfl rfl rfl rfl fun tr ht => ?_; have e0 := ht 0 _ rfl; have e1 := ht 1 _ rfl; clear ht
  unfold whereS at hKK
  by_cases c1 : id < 1
  · rw [if_pos (.inl c1)] at hKK
    repeat' (first
      | (with_reducible first | refine q_nn ?_ | refine q_nr ?_ | refine q_ne ?_ | refine q_en ?_ | refine q_er ?_ | refine q_es ?_ | refine q_gn ?_ | refine q_gr ?_ | refine q_ge ?_ | refine c_seq ?_ | refine c_block ?_ | refine c_scope ?_ | refine c_skip ?_ | refine c_label ?_ | refine c_ret ?_ | refine c_exit ?_ | (refine hK _ _ ?_; clear hK K) | refine seg_nil ?_) | ((with_reducible refine q_eo ?_ ?_); exact rfl)
      | ((with_reducible first | refine c_reg fun K hK => ?_ | refine c_drw (by decide +kernel) fun K hK => ?_ | refine c_cond ?_ | refine seg_cons fun K hK => ?_ | show endW _ _ _ _ _ | refine ifb_dec (fun _ => ?_) (fun _ => ?_) | refine ifb_ieq (fun _ => ?_) (fun _ => ?_) | refine ifb_seq (fun _ => ?_) (fun _ => ?_)) <;> try simp (disch := first | (with_unfolding_all first | exact Lk.mk rfl | exact Seen.of rfl) | assumption | (fail_if_success with_reducible first | refine Seen.of ?_ | apply Sl.frame | apply Ow.frame); omega) only [go_sem, Int.reduceEq, Int.reduceLE, Int.reduceLT, Int.reduceNe, Int.reduceNeg, Int.reduceAdd, Int.reduceSub, Int.reduceMul, Int.reduceToNat, Nat.reduceLT, Nat.reduceLeDiff, Nat.reduceEqDiff, Nat.reduceAdd, Nat.reduceSub, Nat.reduceMul, reduceCtorEq, reduceIte, e0, e1]))
    exact hKK _ _ ⟨rfl, Keeps.refl _ _⟩
  · by_cases c2 : id > s.top
    · rw [if_pos (.inr c2)] at hKK
      repeat' (first
      | (with_reducible first | refine q_nn ?_ | refine q_nr ?_ | refine q_ne ?_ | refine q_en ?_ | refine q_er ?_ | refine q_es ?_ | refine q_gn ?_ | refine q_gr ?_ | refine q_ge ?_ | refine c_seq ?_ | refine c_block ?_ | refine c_scope ?_ | refine c_skip ?_ | refine c_label ?_ | refine c_ret ?_ | refine c_exit ?_ | (refine hK _ _ ?_; clear hK K) | refine seg_nil ?_) | ((with_reducible refine q_eo ?_ ?_); exact rfl)
      | ((with_reducible first | refine c_reg fun K hK => ?_ | refine c_drw (by decide +kernel) fun K hK => ?_ | refine c_cond ?_ | refine seg_cons fun K hK => ?_ | show endW _ _ _ _ _ | refine ifb_dec (fun _ => ?_) (fun _ => ?_) | refine ifb_ieq (fun _ => ?_) (fun _ => ?_) | refine ifb_seq (fun _ => ?_) (fun _ => ?_)) <;> try simp (disch := first | (with_unfolding_all first | exact Lk.mk rfl | exact Seen.of rfl) | assumption | (fail_if_success with_reducible first | refine Seen.of ?_ | apply Sl.frame | apply Ow.frame); omega) only [go_sem, Int.reduceEq, Int.reduceLE, Int.reduceLT, Int.reduceNe, Int.reduceNeg, Int.reduceAdd, Int.reduceSub, Int.reduceMul, Int.reduceToNat, Nat.reduceLT, Nat.reduceLeDiff, Nat.reduceEqDiff, Nat.reduceAdd, Nat.reduceSub, Nat.reduceMul, reduceCtorEq, reduceIte, e0, e1, hc]))
      exact hKK _ _ ⟨rfl, Keeps.refl _ _⟩
    · rw [if_neg (by omega)] at hKK
      repeat' (first
      | (with_reducible first | refine q_nn ?_ | refine q_nr ?_ | refine q_ne ?_ | refine q_en ?_ | refine q_er ?_ | refine q_es ?_ | refine q_gn ?_ | refine q_gr ?_ | refine q_ge ?_ | refine c_seq ?_ | refine c_block ?_ | refine c_scope ?_ | refine c_skip ?_ | refine c_label ?_ | refine c_ret ?_ | refine c_exit ?_ | (refine hK _ _ ?_; clear hK K) | refine seg_nil ?_) | ((with_reducible refine q_eo ?_ ?_); exact rfl)
      | ((with_reducible first | refine c_reg fun K hK => ?_ | refine c_drw (by decide +kernel) fun K hK => ?_ | refine c_cond ?_ | refine seg_cons fun K hK => ?_ | show endW _ _ _ _ _ | refine ifb_dec (fun _ => ?_) (fun _ => ?_) | refine ifb_ieq (fun _ => ?_) (fun _ => ?_) | refine ifb_seq (fun _ => ?_) (fun _ => ?_)) <;> try simp (disch := first | (with_unfolding_all first | exact Lk.mk rfl | exact Seen.of rfl) | assumption | (fail_if_success with_reducible first | refine Seen.of ?_ | apply Sl.frame | apply Ow.frame); omega) only [go_sem, Int.reduceEq, Int.reduceLE, Int.reduceLT, Int.reduceNe, Int.reduceNeg, Int.reduceAdd, Int.reduceSub, Int.reduceMul, Int.reduceToNat, Nat.reduceLT, Nat.reduceLeDiff, Nat.reduceEqDiff, Nat.reduceAdd, Nat.reduceSub, Nat.reduceMul, reduceCtorEq, reduceIte, e0, e1, hc]))
      refine callM_of (placeI O p s id h0 n hl ok hn) ?_
      rintro v h1 ⟨k, hk, rfl, k1⟩
      rw [hk.fpos ok.so] at hKK
      have hl1 := hl.after k1
      cases hh : hit s.l id k with
      | true =>
        rw [hh] at hKK
        refine vI ?_; repeat' (first
      | (with_reducible first | refine q_nn ?_ | refine q_nr ?_ | refine q_ne ?_ | refine q_en ?_ | refine q_er ?_ | refine q_es ?_ | refine q_gn ?_ | refine q_gr ?_ | refine q_ge ?_ | refine c_seq ?_ | refine c_block ?_ | refine c_scope ?_ | refine c_skip ?_ | refine c_label ?_ | refine c_ret ?_ | refine c_exit ?_ | (refine hK _ _ ?_; clear hK K) | refine seg_nil ?_) | ((with_reducible refine q_eo ?_ ?_); exact rfl)
      | ((with_reducible first | refine vO ?_ | refine c_reg fun K hK => ?_ | refine c_drw (by decide +kernel) fun K hK => ?_ | refine c_cond ?_ | refine seg_cons fun K hK => ?_ | show endW _ _ _ _ _ | refine ifb_dec (fun _ => ?_) (fun _ => ?_) | refine ifb_ieq (fun _ => ?_) (fun _ => ?_) | refine ifb_seq (fun _ => ?_) (fun _ => ?_)) <;> try simp (disch := first | (with_unfolding_all first | exact Lk.mk rfl | exact Seen.of rfl) | assumption | (fail_if_success with_reducible first | refine Seen.of ?_ | apply Sl.frame | apply Ow.frame); omega) only [go_sem, Int.reduceEq, Int.reduceLE, Int.reduceLT, Int.reduceNe, Int.reduceNeg, Int.reduceAdd, Int.reduceSub, Int.reduceMul, Int.reduceToNat, Nat.reduceLT, Nat.reduceLeDiff, Nat.reduceEqDiff, Nat.reduceAdd, Nat.reduceSub, Nat.reduceMul, reduceCtorEq, reduceIte, e0, e1]))
        exact hKK _ _ ⟨rfl, k1⟩
      | false =>
        rw [hh] at hKK
        rw [if_neg (by decide)] at hKK
        refine vI ?_; repeat' (first
      | (with_reducible first | refine q_nn ?_ | refine q_nr ?_ | refine q_ne ?_ | refine q_en ?_ | refine q_er ?_ | refine q_es ?_ | refine q_gn ?_ | refine q_gr ?_ | refine q_ge ?_ | refine c_seq ?_ | refine c_block ?_ | refine c_scope ?_ | refine c_skip ?_ | refine c_label ?_ | refine c_ret ?_ | refine c_exit ?_ | (refine hK _ _ ?_; clear hK K) | refine seg_nil ?_) | ((with_reducible refine q_eo ?_ ?_); exact rfl)
      | ((with_reducible first | refine vO ?_ | refine c_reg fun K hK => ?_ | refine c_drw (by decide +kernel) fun K hK => ?_ | refine c_cond ?_ | refine seg_cons fun K hK => ?_ | show endW _ _ _ _ _ | refine ifb_dec (fun _ => ?_) (fun _ => ?_) | refine ifb_ieq (fun _ => ?_) (fun _ => ?_) | refine ifb_seq (fun _ => ?_) (fun _ => ?_)) <;> try simp (disch := first | (with_unfolding_all first | exact Lk.mk rfl | exact Seen.of rfl) | assumption | (fail_if_success with_reducible first | refine Seen.of ?_ | apply Sl.frame | apply Ow.frame); omega) only [go_sem, Int.reduceEq, Int.reduceLE, Int.reduceLT, Int.reduceNe, Int.reduceNeg, Int.reduceAdd, Int.reduceSub, Int.reduceMul, Int.reduceToNat, Nat.reduceLT, Nat.reduceLeDiff, Nat.reduceEqDiff, Nat.reduceAdd, Nat.reduceSub, Nat.reduceMul, reduceCtorEq, reduceIte, e0, e1]))
        refine callM_of (graveI _ p s id h1 hl1 ok.tl) ?_
        rintro v h2 ⟨rfl, k2⟩
        have kq : Keeps h0.size h0 h2 := ⟨by have := k1.1; have := k2.1; omega, fun b hb => (k2.2 b (by have := k1.1; omega)).trans (k1.2 b hb)⟩
        cases hf : fpos s.t id with
        | none =>
          rw [hf] at hKK
          refine vI ?_; repeat' (first
      | (with_reducible first | refine q_nn ?_ | refine q_nr ?_ | refine q_ne ?_ | refine q_en ?_ | refine q_er ?_ | refine q_es ?_ | refine q_gn ?_ | refine q_gr ?_ | refine q_ge ?_ | refine c_seq ?_ | refine c_block ?_ | refine c_scope ?_ | refine c_skip ?_ | refine c_label ?_ | refine c_ret ?_ | refine c_exit ?_ | (refine hK _ _ ?_; clear hK K) | refine seg_nil ?_) | ((with_reducible refine q_eo ?_ ?_); exact rfl)
      | ((with_reducible first | refine vO ?_ | refine c_reg fun K hK => ?_ | refine c_drw (by decide +kernel) fun K hK => ?_ | refine c_cond ?_ | refine seg_cons fun K hK => ?_ | show endW _ _ _ _ _ | refine ifb_dec (fun _ => ?_) (fun _ => ?_) | refine ifb_ieq (fun _ => ?_) (fun _ => ?_) | refine ifb_seq (fun _ => ?_) (fun _ => ?_)) <;> try simp (disch := first | (with_unfolding_all first | exact Lk.mk rfl | exact Seen.of rfl) | assumption | (fail_if_success with_reducible first | refine Seen.of ?_ | apply Sl.frame | apply Ow.frame); omega) only [go_sem, Int.reduceEq, Int.reduceLE, Int.reduceLT, Int.reduceNe, Int.reduceNeg, Int.reduceAdd, Int.reduceSub, Int.reduceMul, Int.reduceToNat, Nat.reduceLT, Nat.reduceLeDiff, Nat.reduceEqDiff, Nat.reduceAdd, Nat.reduceSub, Nat.reduceMul, reduceCtorEq, reduceIte, e0, e1]))
          exact hKK _ _ ⟨rfl, kq⟩
        | some j =>
          rw [hf] at hKK
          obtain ⟨x, hx, _, hjl⟩ := fpos_get hf
          have c2 := (kq.2 p hp).trans hc
          have s2 := (o2.frame (h' := h2) (fun i hi => kq.2 i (o2.lt hi)) kq.1).sl
          have ld : loadA Try.T h2 3 (v2.at LI.sz 1 (j : Int)) = some (.int .i64 (s.t[j]!).2) := s2.ld (by omega) (by omega) (by rw [Int.toNat_natCast]; rfl) (by decide) rfl rfl
          refine vI ?_; repeat' (first
      | (with_reducible first | refine q_nn ?_ | refine q_nr ?_ | refine q_ne ?_ | refine q_en ?_ | refine q_er ?_ | refine q_es ?_ | refine q_gn ?_ | refine q_gr ?_ | refine q_ge ?_ | refine c_seq ?_ | refine c_block ?_ | refine c_scope ?_ | refine c_skip ?_ | refine c_label ?_ | refine c_ret ?_ | refine c_exit ?_ | (refine hK _ _ ?_; clear hK K) | refine seg_nil ?_) | ((with_reducible refine q_eo ?_ ?_); exact rfl)
      | ((with_reducible first | refine vO ?_ | refine c_reg fun K hK => ?_ | refine c_drw (by decide +kernel) fun K hK => ?_ | refine c_cond ?_ | refine seg_cons fun K hK => ?_ | show endW _ _ _ _ _ | refine ifb_dec (fun _ => ?_) (fun _ => ?_) | refine ifb_ieq (fun _ => ?_) (fun _ => ?_) | refine ifb_seq (fun _ => ?_) (fun _ => ?_)) <;> try simp (disch := first | (with_unfolding_all first | exact Lk.mk rfl | exact Seen.of rfl) | assumption | (fail_if_success with_reducible first | refine Seen.of ?_ | apply Sl.frame | apply Ow.frame); omega) only [go_sem, Int.reduceEq, Int.reduceLE, Int.reduceLT, Int.reduceNe, Int.reduceNeg, Int.reduceAdd, Int.reduceSub, Int.reduceMul, Int.reduceToNat, Nat.reduceLT, Nat.reduceLeDiff, Nat.reduceEqDiff, Nat.reduceAdd, Nat.reduceSub, Nat.reduceMul, reduceCtorEq, reduceIte, e0, e1, c2, ld]))
          exact hKK _ _ ⟨rfl, kq⟩
set_option maxHeartbeats 4000000 in
theorem setI (O : Nat → Nat) (p : Nat) (s : Sh Int) (id : Int) (x : Int) (h0 : AH) (n : Nat) (hl : ShC LI O h0 p s) (ok : ShOk s n) (hn : n ≤ 1000) :
    callW Try.prog Try.T 22 [.ptr (some (p, 0)), .int .i64 id, .int .i64 x] h0 fun v h' => v = .int .i64 (setE s id) ∧ StC LI O h0 h' p (setS s id x) := by
  refine callW_hide fun KK hKK => ?_
  unfold setE setS at hKK
  refine callW_in (n := 27) (rs := [.tmp 6]) (m := 27) Try.func22 rfl rfl rfl rfl fun tr ht => ?_; have e0 := ht 0 _ rfl; have e1 := ht 1 _ rfl; have e2 := ht 2 _ rfl; clear ht
  repeat' (first
      | (with_reducible first | refine q_nn ?_ | refine q_nr ?_ | refine q_ne ?_ | refine q_en ?_ | refine q_er ?_ | refine q_es ?_ | refine q_gn ?_ | refine q_gr ?_ | refine q_ge ?_ | refine c_seq ?_ | refine c_block ?_ | refine c_scope ?_ | refine c_skip ?_ | refine c_label ?_ | refine c_ret ?_ | refine c_exit ?_ | (refine hK _ _ ?_; clear hK K) | refine seg_nil ?_) | ((with_reducible refine q_eo ?_ ?_); exact rfl)
      | ((with_reducible first | refine c_reg fun K hK => ?_ | refine c_drw (by decide +kernel) fun K hK => ?_ | refine c_cond ?_ | refine seg_cons fun K hK => ?_ | show endW _ _ _ _ _ | refine ifb_dec (fun _ => ?_) (fun _ => ?_) | refine ifb_ieq (fun _ => ?_) (fun _ => ?_) | refine ifb_seq (fun _ => ?_) (fun _ => ?_)) <;> try simp (disch := first | (with_unfolding_all first | exact Lk.mk rfl | exact Seen.of rfl) | assumption | (fail_if_success with_reducible first | refine Seen.of ?_ | apply Sl.frame | apply Ow.frame); omega) only [go_sem, Int.reduceEq, Int.reduceLE, Int.reduceLT, Int.reduceNe, Int.reduceNeg, Int.reduceAdd, Int.reduceSub, Int.reduceMul, Int.reduceToNat, Nat.reduceLT, Nat.reduceLeDiff, Nat.reduceEqDiff, Nat.reduceAdd, Nat.reduceSub, Nat.reduceMul, reduceCtorEq, reduceIte, e0, e1, e2]))
  refine callM_of (placeI O p s id h0 n hl ok hn) ?_
  rintro v h1 ⟨k, hk, rfl, k1⟩
  rw [hk.fpos ok.so] at hKK
  have hl1 := hl.after k1
  cases hh : hit s.l id k with
  | false =>
    rw [hh] at hKK
    refine vI ?_; repeat' (first
      | (with_reducible first | refine q_nn ?_ | refine q_nr ?_ | refine q_ne ?_ | refine q_en ?_ | refine q_er ?_ | refine q_es ?_ | refine q_gn ?_ | refine q_gr ?_ | refine q_ge ?_ | refine c_seq ?_ | refine c_block ?_ | refine c_scope ?_ | refine c_skip ?_ | refine c_label ?_ | refine c_ret ?_ | refine c_exit ?_ | (refine hK _ _ ?_; clear hK K) | refine seg_nil ?_) | ((with_reducible refine q_eo ?_ ?_); exact rfl)
      | ((with_reducible first | refine vO ?_ | refine c_reg fun K hK => ?_ | refine c_drw (by decide +kernel) fun K hK => ?_ | refine c_cond ?_ | refine seg_cons fun K hK => ?_ | show endW _ _ _ _ _ | refine ifb_dec (fun _ => ?_) (fun _ => ?_) | refine ifb_ieq (fun _ => ?_) (fun _ => ?_) | refine ifb_seq (fun _ => ?_) (fun _ => ?_)) <;> try simp (disch := first | (with_unfolding_all first | exact Lk.mk rfl | exact Seen.of rfl) | assumption | (fail_if_success with_reducible first | refine Seen.of ?_ | apply Sl.frame | apply Ow.frame); omega) only [go_sem, Int.reduceEq, Int.reduceLE, Int.reduceLT, Int.reduceNe, Int.reduceNeg, Int.reduceAdd, Int.reduceSub, Int.reduceMul, Int.reduceToNat, Nat.reduceLT, Nat.reduceLeDiff, Nat.reduceEqDiff, Nat.reduceAdd, Nat.reduceSub, Nat.reduceMul, reduceCtorEq, reduceIte, e0, e1, e2]))
    exact hKK _ _ ⟨rfl, stKeep hl k1⟩
  | true =>
    rw [hh] at hKK
    have hkx : ∃ y, s.l[k]? = some y ∧ y.1 = id := by
      unfold hit at hh
      cases hx : s.l[k]? with
      | none => rw [hx] at hh; cases hh
      | some x => rw [hx] at hh; exact ⟨x, rfl, by simpa using hh⟩
    obtain ⟨y, hy, hyi⟩ := hkx
    have hkl := (List.getElem?_eq_some_iff.1 hy).1
    have hbang : s.l[(k : Int).toNat]! = y := by
      rw [Int.toNat_natCast]
      have := bang_some hkl
      rw [hy] at this; exact (Option.some.inj this).symm
    obtain ⟨v1, v2, g1, g2, hc, hp, hO, o1, o2, t1, t2⟩ := hl1
    have s1 := o1.sl
    have gp1 : ∀ x, g1 = some x → ¬ x = p := fun x hx e => by have := t1 x hx; rw [e, hO] at this; omega
    have g12 : ∀ x, g2 = some x → ¬ g1 = some x := fun x hx e => by have a := t2 x hx; have b := t1 x e; omega
    refine vI ?_; repeat' (first
      | (with_reducible first | refine q_nn ?_ | refine q_nr ?_ | refine q_ne ?_ | refine q_en ?_ | refine q_er ?_ | refine q_es ?_ | refine q_gn ?_ | refine q_gr ?_ | refine q_ge ?_ | refine c_seq ?_ | refine c_block ?_ | refine c_scope ?_ | refine c_skip ?_ | refine c_label ?_ | refine c_ret ?_ | refine c_exit ?_ | (refine hK _ _ ?_; clear hK K) | refine seg_nil ?_) | ((with_reducible refine q_eo ?_ ?_); exact rfl)
      | ((with_reducible first | refine vO ?_ | refine c_reg fun K hK => ?_ | refine c_drw (by decide +kernel) fun K hK => ?_ | refine c_cond ?_ | refine seg_cons fun K hK => ?_ | show endW _ _ _ _ _ | refine ifb_dec (fun _ => ?_) (fun _ => ?_) | refine ifb_ieq (fun _ => ?_) (fun _ => ?_) | refine ifb_seq (fun _ => ?_) (fun _ => ?_)) <;> try simp (disch := first | (with_unfolding_all first | exact Lk.mk rfl | exact Seen.of rfl) | assumption | (fail_if_success with_reducible first | refine Seen.of ?_ | apply Sl.frame | apply Ow.frame); omega) only [go_sem, Int.reduceEq, Int.reduceLE, Int.reduceLT, Int.reduceNe, Int.reduceNeg, Int.reduceAdd, Int.reduceSub, Int.reduceMul, Int.reduceToNat, Nat.reduceLT, Nat.reduceLeDiff, Nat.reduceEqDiff, Nat.reduceAdd, Nat.reduceSub, Nat.reduceMul, reduceCtorEq, reduceIte, e0, e1, e2, hc]))
    refine Try.w62_1_3 o1.ow (id, x) (by rw [hbang, ← hyi]; rfl) rfl rfl (by omega) (by omega) (by exact .mk) fun h2 oz z2 f2 => ?_
    rw [Int.toNat_natCast] at oz
    obtain ⟨g3, og3, hg3⟩ := OwN.of (g := g1) (b := h1.size) oz (.inl rfl) rfl
    have nb : ∀ x, x < h1.size → ¬ g1 = some x → h2.get x = h1.get x := fun x hx hgx => by
      refine f2 x ?_
      cases hg : g1 with
      | none => simp; omega
      | some y => simp only [Option.getD_some]; intro e; exact hgx (by rw [hg, e])
    refine vI ?_; repeat' (first
      | (with_reducible first | refine q_nn ?_ | refine q_nr ?_ | refine q_ne ?_ | refine q_en ?_ | refine q_er ?_ | refine q_es ?_ | refine q_gn ?_ | refine q_gr ?_ | refine q_ge ?_ | refine c_seq ?_ | refine c_block ?_ | refine c_scope ?_ | refine c_skip ?_ | refine c_label ?_ | refine c_ret ?_ | refine c_exit ?_ | (refine hK _ _ ?_; clear hK K) | refine seg_nil ?_) | ((with_reducible refine q_eo ?_ ?_); exact rfl)
      | ((with_reducible first | refine vO ?_ | refine c_reg fun K hK => ?_ | refine c_drw (by decide +kernel) fun K hK => ?_ | refine c_cond ?_ | refine seg_cons fun K hK => ?_ | show endW _ _ _ _ _ | refine ifb_dec (fun _ => ?_) (fun _ => ?_) | refine ifb_ieq (fun _ => ?_) (fun _ => ?_) | refine ifb_seq (fun _ => ?_) (fun _ => ?_)) <;> try simp (disch := first | (with_unfolding_all first | exact Lk.mk rfl | exact Seen.of rfl) | assumption | (fail_if_success with_reducible first | refine Seen.of ?_ | apply Sl.frame | apply Ow.frame); omega) only [go_sem, Int.reduceEq, Int.reduceLE, Int.reduceLT, Int.reduceNe, Int.reduceNeg, Int.reduceAdd, Int.reduceSub, Int.reduceMul, Int.reduceToNat, Nat.reduceLT, Nat.reduceLeDiff, Nat.reduceEqDiff, Nat.reduceAdd, Nat.reduceSub, Nat.reduceMul, reduceCtorEq, reduceIte, e0, e1, e2]))
    refine hKK _ _ ⟨rfl, StC.after k1 (mkC (g1 := g1) (g2 := g2) hp hO (fun x hx => ⟨o1.lt hx, t1 x hx⟩) (fun x hx => ⟨o2.lt hx, t2 x hx⟩) (by omega) ((nb p hp (fun e => gp1 p e rfl)).trans hc) og3 (o2.frame (fun i hi => nb i (o2.lt hi) (g12 i hi)) (by omega)) 2 ?_ (.inr (.inl rfl)) (fun x hx hxp hx1 hx2 => nb x hx hx1))⟩
    rcases hg3 with h | h | ⟨j, h, hj⟩
    · exact .inl h
    · exact .inr (.inl h)
    · exact .inr (.inr ⟨j, h, hj, rfl⟩)
set_option maxHeartbeats 4000000 in
theorem turnI (O : Nat → Nat) (p : Nat) (s : Sh Int) (id why : Int) (h0 : AH) (hl : ShC LI O h0 p s) (ht : s.t.length ≤ 16) :
    callW Try.prog Try.T 24 [.ptr (some (p, 0)), .int .i64 id, .int .i64 why] h0 fun v h' => v = .int .i64 (turnE s id why) ∧ StC LI O h0 h' p (turnS s id why) := by
  refine callW_hide fun KK hKK => ?_
  unfold turnE turnS at hKK
  refine callW_in (n := 28) (rs := [.tmp 6]) (m := 28) Try.func24 rfl rfl rfl rfl fun tr ht => ?_; have e0 := ht 0 _ rfl; have e1 := ht 1 _ rfl; have e2 := ht 2 _ rfl; clear ht
  repeat' (first
      | (with_reducible first | refine q_nn ?_ | refine q_nr ?_ | refine q_ne ?_ | refine q_en ?_ | refine q_er ?_ | refine q_es ?_ | refine q_gn ?_ | refine q_gr ?_ | refine q_ge ?_ | refine c_seq ?_ | refine c_block ?_ | refine c_scope ?_ | refine c_skip ?_ | refine c_label ?_ | refine c_ret ?_ | refine c_exit ?_ | (refine hK _ _ ?_; clear hK K) | refine seg_nil ?_) | ((with_reducible refine q_eo ?_ ?_); exact rfl)
      | ((with_reducible first | refine c_reg fun K hK => ?_ | refine c_drw (by decide +kernel) fun K hK => ?_ | refine c_cond ?_ | refine seg_cons fun K hK => ?_ | show endW _ _ _ _ _ | refine ifb_dec (fun _ => ?_) (fun _ => ?_) | refine ifb_ieq (fun _ => ?_) (fun _ => ?_) | refine ifb_seq (fun _ => ?_) (fun _ => ?_)) <;> try simp (disch := first | (with_unfolding_all first | exact Lk.mk rfl | exact Seen.of rfl) | assumption | (fail_if_success with_reducible first | refine Seen.of ?_ | apply Sl.frame | apply Ow.frame); omega) only [go_sem, Int.reduceEq, Int.reduceLE, Int.reduceLT, Int.reduceNe, Int.reduceNeg, Int.reduceAdd, Int.reduceSub, Int.reduceMul, Int.reduceToNat, Nat.reduceLT, Nat.reduceLeDiff, Nat.reduceEqDiff, Nat.reduceAdd, Nat.reduceSub, Nat.reduceMul, reduceCtorEq, reduceIte, e0, e1, e2]))
  refine callM_of (may why h0) ?_
  rintro v h1 ⟨rfl, rfl⟩
  cases hm : mayB why with
  | false =>
    rw [hm, if_neg (by decide), if_neg (by decide)] at hKK
    refine vI ?_; repeat' (first
      | (with_reducible first | refine q_nn ?_ | refine q_nr ?_ | refine q_ne ?_ | refine q_en ?_ | refine q_er ?_ | refine q_es ?_ | refine q_gn ?_ | refine q_gr ?_ | refine q_ge ?_ | refine c_seq ?_ | refine c_block ?_ | refine c_scope ?_ | refine c_skip ?_ | refine c_label ?_ | refine c_ret ?_ | refine c_exit ?_ | (refine hK _ _ ?_; clear hK K) | refine seg_nil ?_) | ((with_reducible refine q_eo ?_ ?_); exact rfl)
      | ((with_reducible first | refine vO ?_ | refine c_reg fun K hK => ?_ | refine c_drw (by decide +kernel) fun K hK => ?_ | refine c_cond ?_ | refine seg_cons fun K hK => ?_ | show endW _ _ _ _ _ | refine ifb_dec (fun _ => ?_) (fun _ => ?_) | refine ifb_ieq (fun _ => ?_) (fun _ => ?_) | refine ifb_seq (fun _ => ?_) (fun _ => ?_)) <;> try simp (disch := first | (with_unfolding_all first | exact Lk.mk rfl | exact Seen.of rfl) | assumption | (fail_if_success with_reducible first | refine Seen.of ?_ | apply Sl.frame | apply Ow.frame); omega) only [go_sem, Int.reduceEq, Int.reduceLE, Int.reduceLT, Int.reduceNe, Int.reduceNeg, Int.reduceAdd, Int.reduceSub, Int.reduceMul, Int.reduceToNat, Nat.reduceLT, Nat.reduceLeDiff, Nat.reduceEqDiff, Nat.reduceAdd, Nat.reduceSub, Nat.reduceMul, reduceCtorEq, reduceIte, e0, e1, e2]))
    exact hKK _ _ ⟨rfl, stKeep hl (Keeps.refl _ _)⟩
  | true =>
    rw [hm, if_pos rfl, if_pos rfl] at hKK
    refine vI ?_; repeat' (first
      | (with_reducible first | refine q_nn ?_ | refine q_nr ?_ | refine q_ne ?_ | refine q_en ?_ | refine q_er ?_ | refine q_es ?_ | refine q_gn ?_ | refine q_gr ?_ | refine q_ge ?_ | refine c_seq ?_ | refine c_block ?_ | refine c_scope ?_ | refine c_skip ?_ | refine c_label ?_ | refine c_ret ?_ | refine c_exit ?_ | (refine hK _ _ ?_; clear hK K) | refine seg_nil ?_) | ((with_reducible refine q_eo ?_ ?_); exact rfl)
      | ((with_reducible first | refine vO ?_ | refine c_reg fun K hK => ?_ | refine c_drw (by decide +kernel) fun K hK => ?_ | refine c_cond ?_ | refine seg_cons fun K hK => ?_ | show endW _ _ _ _ _ | refine ifb_dec (fun _ => ?_) (fun _ => ?_) | refine ifb_ieq (fun _ => ?_) (fun _ => ?_) | refine ifb_seq (fun _ => ?_) (fun _ => ?_)) <;> try simp (disch := first | (with_unfolding_all first | exact Lk.mk rfl | exact Seen.of rfl) | assumption | (fail_if_success with_reducible first | refine Seen.of ?_ | apply Sl.frame | apply Ow.frame); omega) only [go_sem, Int.reduceEq, Int.reduceLE, Int.reduceLT, Int.reduceNe, Int.reduceNeg, Int.reduceAdd, Int.reduceSub, Int.reduceMul, Int.reduceToNat, Nat.reduceLT, Nat.reduceLeDiff, Nat.reduceEqDiff, Nat.reduceAdd, Nat.reduceSub, Nat.reduceMul, reduceCtorEq, reduceIte, e0, e1, e2]))
    refine callM_of (graveI O p s id h1 hl ht) ?_
    rintro v h2 ⟨rfl, k2⟩
    have hl2 := hl.after k2
    cases hf : fpos s.t id with
    | none =>
      rw [hf] at hKK
      refine vI ?_; repeat' (first
      | (with_reducible first | refine q_nn ?_ | refine q_nr ?_ | refine q_ne ?_ | refine q_en ?_ | refine q_er ?_ | refine q_es ?_ | refine q_gn ?_ | refine q_gr ?_ | refine q_ge ?_ | refine c_seq ?_ | refine c_block ?_ | refine c_scope ?_ | refine c_skip ?_ | refine c_label ?_ | refine c_ret ?_ | refine c_exit ?_ | (refine hK _ _ ?_; clear hK K) | refine seg_nil ?_) | ((with_reducible refine q_eo ?_ ?_); exact rfl)
      | ((with_reducible first | refine vO ?_ | refine c_reg fun K hK => ?_ | refine c_drw (by decide +kernel) fun K hK => ?_ | refine c_cond ?_ | refine seg_cons fun K hK => ?_ | show endW _ _ _ _ _ | refine ifb_dec (fun _ => ?_) (fun _ => ?_) | refine ifb_ieq (fun _ => ?_) (fun _ => ?_) | refine ifb_seq (fun _ => ?_) (fun _ => ?_)) <;> try simp (disch := first | (with_unfolding_all first | exact Lk.mk rfl | exact Seen.of rfl) | assumption | (fail_if_success with_reducible first | refine Seen.of ?_ | apply Sl.frame | apply Ow.frame); omega) only [go_sem, Int.reduceEq, Int.reduceLE, Int.reduceLT, Int.reduceNe, Int.reduceNeg, Int.reduceAdd, Int.reduceSub, Int.reduceMul, Int.reduceToNat, Nat.reduceLT, Nat.reduceLeDiff, Nat.reduceEqDiff, Nat.reduceAdd, Nat.reduceSub, Nat.reduceMul, reduceCtorEq, reduceIte, e0, e1, e2]))
      exact hKK _ _ ⟨rfl, stKeep hl k2⟩
    | some k =>
      rw [hf] at hKK
      obtain ⟨y, hy, hyi, hkl⟩ := fpos_get hf
      have hbang : s.t[(k : Int).toNat]! = y := by
        rw [Int.toNat_natCast]
        have := bang_some hkl
        rw [hy] at this; exact (Option.some.inj this).symm
      obtain ⟨v1, v2, g1, g2, hc, hp, hO, o1, o2, t1, t2⟩ := hl2
      have s2 := o2.sl
      have gp2 : ∀ x, g2 = some x → ¬ x = p := fun x hx e => by have := t2 x hx; rw [e, hO] at this; omega
      have g12 : ∀ x, g1 = some x → ¬ g2 = some x := fun x hx e => by have a := t1 x hx; have b := t2 x e; omega
      refine vI ?_; repeat' (first
      | (with_reducible first | refine q_nn ?_ | refine q_nr ?_ | refine q_ne ?_ | refine q_en ?_ | refine q_er ?_ | refine q_es ?_ | refine q_gn ?_ | refine q_gr ?_ | refine q_ge ?_ | refine c_seq ?_ | refine c_block ?_ | refine c_scope ?_ | refine c_skip ?_ | refine c_label ?_ | refine c_ret ?_ | refine c_exit ?_ | (refine hK _ _ ?_; clear hK K) | refine seg_nil ?_) | ((with_reducible refine q_eo ?_ ?_); exact rfl)
      | ((with_reducible first | refine vO ?_ | refine c_reg fun K hK => ?_ | refine c_drw (by decide +kernel) fun K hK => ?_ | refine c_cond ?_ | refine seg_cons fun K hK => ?_ | show endW _ _ _ _ _ | refine ifb_dec (fun _ => ?_) (fun _ => ?_) | refine ifb_ieq (fun _ => ?_) (fun _ => ?_) | refine ifb_seq (fun _ => ?_) (fun _ => ?_)) <;> try simp (disch := first | (with_unfolding_all first | exact Lk.mk rfl | exact Seen.of rfl) | assumption | (fail_if_success with_reducible first | refine Seen.of ?_ | apply Sl.frame | apply Ow.frame); omega) only [go_sem, Int.reduceEq, Int.reduceLE, Int.reduceLT, Int.reduceNe, Int.reduceNeg, Int.reduceAdd, Int.reduceSub, Int.reduceMul, Int.reduceToNat, Nat.reduceLT, Nat.reduceLeDiff, Nat.reduceEqDiff, Nat.reduceAdd, Nat.reduceSub, Nat.reduceMul, reduceCtorEq, reduceIte, e0, e1, e2, hc]))
      refine Try.w77_1_3 o2.ow (id, why) (by rw [hbang, ← hyi]; rfl) rfl rfl (by omega) (by omega) (by exact .mk) fun h3 oz z3 f3 => ?_
      rw [Int.toNat_natCast] at oz
      obtain ⟨g3, og3, hg3⟩ := OwN.of (g := g2) (b := h2.size) oz (.inl rfl) rfl
      have nb : ∀ x, x < h2.size → ¬ g2 = some x → h3.get x = h2.get x := fun x hx hgx => by
        refine f3 x ?_
        cases hg : g2 with
        | none => simp; omega
        | some y => simp only [Option.getD_some]; intro e; exact hgx (by rw [hg, e])
      refine vI ?_; repeat' (first
      | (with_reducible first | refine q_nn ?_ | refine q_nr ?_ | refine q_ne ?_ | refine q_en ?_ | refine q_er ?_ | refine q_es ?_ | refine q_gn ?_ | refine q_gr ?_ | refine q_ge ?_ | refine c_seq ?_ | refine c_block ?_ | refine c_scope ?_ | refine c_skip ?_ | refine c_label ?_ | refine c_ret ?_ | refine c_exit ?_ | (refine hK _ _ ?_; clear hK K) | refine seg_nil ?_) | ((with_reducible refine q_eo ?_ ?_); exact rfl)
      | ((with_reducible first | refine vO ?_ | refine c_reg fun K hK => ?_ | refine c_drw (by decide +kernel) fun K hK => ?_ | refine c_cond ?_ | refine seg_cons fun K hK => ?_ | show endW _ _ _ _ _ | refine ifb_dec (fun _ => ?_) (fun _ => ?_) | refine ifb_ieq (fun _ => ?_) (fun _ => ?_) | refine ifb_seq (fun _ => ?_) (fun _ => ?_)) <;> try simp (disch := first | (with_unfolding_all first | exact Lk.mk rfl | exact Seen.of rfl) | assumption | (fail_if_success with_reducible first | refine Seen.of ?_ | apply Sl.frame | apply Ow.frame); omega) only [go_sem, Int.reduceEq, Int.reduceLE, Int.reduceLT, Int.reduceNe, Int.reduceNeg, Int.reduceAdd, Int.reduceSub, Int.reduceMul, Int.reduceToNat, Nat.reduceLT, Nat.reduceLeDiff, Nat.reduceEqDiff, Nat.reduceAdd, Nat.reduceSub, Nat.reduceMul, reduceCtorEq, reduceIte, e0, e1, e2]))
      refine hKK _ _ ⟨rfl, StC.after k2 (mkC (g1 := g1) (g2 := g2) hp hO (fun x hx => ⟨o1.lt hx, t1 x hx⟩) (fun x hx => ⟨o2.lt hx, t2 x hx⟩) (by omega) ((nb p hp (fun e => gp2 p e rfl)).trans hc) (o1.frame (fun i hi => nb i (o1.lt hi) (g12 i hi)) (by omega)) og3 3 (.inr (.inl rfl)) ?_ (fun x hx hxp hx1 hx2 => nb x hx hx2))⟩
      rcases hg3 with h | h | ⟨j, h, hj⟩
      · exact .inl h
      · exact .inr (.inl h)
      · exact .inr (.inr ⟨j, h, hj, rfl⟩)
set_option maxHeartbeats 4000000 in
theorem skipI (O : Nat → Nat) (p : Nat) (s : Sh Int) (id why : Int) (h0 : AH) (hl : ShC LI O h0 p s) (ht : s.t.length ≤ 16) :
    callW Try.prog Try.T 21 [.ptr (some (p, 0)), .int .i64 id, .int .i64 why] h0 fun v h' => v = .int .i64 (skipE s id why) ∧ StC LI O h0 h' p (skipS s id why) := by
  refine callW_hide fun KK hKK => ?_
  unfold skipS skipE at hKK
  refine callW_in (n := 25) (rs := [.tmp 6]) (m := 25) Try.func21 rfl rfl rfl rfl fun tr ht => ?_; have e0 := ht 0 _ rfl; have e1 := ht 1 _ rfl; have e2 := ht 2 _ rfl; clear ht
  repeat' (first
      | (with_reducible first | refine q_nn ?_ | refine q_nr ?_ | refine q_ne ?_ | refine q_en ?_ | refine q_er ?_ | refine q_es ?_ | refine q_gn ?_ | refine q_gr ?_ | refine q_ge ?_ | refine c_seq ?_ | refine c_block ?_ | refine c_scope ?_ | refine c_skip ?_ | refine c_label ?_ | refine c_ret ?_ | refine c_exit ?_ | (refine hK _ _ ?_; clear hK K) | refine seg_nil ?_) | ((with_reducible refine q_eo ?_ ?_); exact rfl)
      | ((with_reducible first | refine c_reg fun K hK => ?_ | refine c_drw (by decide +kernel) fun K hK => ?_ | refine c_cond ?_ | refine seg_cons fun K hK => ?_ | show endW _ _ _ _ _ | refine ifb_dec (fun _ => ?_) (fun _ => ?_) | refine ifb_ieq (fun _ => ?_) (fun _ => ?_) | refine ifb_seq (fun _ => ?_) (fun _ => ?_)) <;> try simp (disch := first | (with_unfolding_all first | exact Lk.mk rfl | exact Seen.of rfl) | assumption | (fail_if_success with_reducible first | refine Seen.of ?_ | apply Sl.frame | apply Ow.frame); omega) only [go_sem, Int.reduceEq, Int.reduceLE, Int.reduceLT, Int.reduceNe, Int.reduceNeg, Int.reduceAdd, Int.reduceSub, Int.reduceMul, Int.reduceToNat, Nat.reduceLT, Nat.reduceLeDiff, Nat.reduceEqDiff, Nat.reduceAdd, Nat.reduceSub, Nat.reduceMul, reduceCtorEq, reduceIte, e0, e1, e2]))
  refine callM_of (may why h0) ?_
  rintro v h1 ⟨rfl, rfl⟩
  cases hm : mayB why with
  | false =>
    rw [hm] at hKK
    simp only [Bool.false_eq_true, if_false] at hKK
    rw [if_neg (by decide)] at hKK
    refine vI ?_; repeat' (first
      | (with_reducible first | refine q_nn ?_ | refine q_nr ?_ | refine q_ne ?_ | refine q_en ?_ | refine q_er ?_ | refine q_es ?_ | refine q_gn ?_ | refine q_gr ?_ | refine q_ge ?_ | refine c_seq ?_ | refine c_block ?_ | refine c_scope ?_ | refine c_skip ?_ | refine c_label ?_ | refine c_ret ?_ | refine c_exit ?_ | (refine hK _ _ ?_; clear hK K) | refine seg_nil ?_) | ((with_reducible refine q_eo ?_ ?_); exact rfl)
      | ((with_reducible first | refine vO ?_ | refine c_reg fun K hK => ?_ | refine c_drw (by decide +kernel) fun K hK => ?_ | refine c_cond ?_ | refine seg_cons fun K hK => ?_ | show endW _ _ _ _ _ | refine ifb_dec (fun _ => ?_) (fun _ => ?_) | refine ifb_ieq (fun _ => ?_) (fun _ => ?_) | refine ifb_seq (fun _ => ?_) (fun _ => ?_)) <;> try simp (disch := first | (with_unfolding_all first | exact Lk.mk rfl | exact Seen.of rfl) | assumption | (fail_if_success with_reducible first | refine Seen.of ?_ | apply Sl.frame | apply Ow.frame); omega) only [go_sem, Int.reduceEq, Int.reduceLE, Int.reduceLT, Int.reduceNe, Int.reduceNeg, Int.reduceAdd, Int.reduceSub, Int.reduceMul, Int.reduceToNat, Nat.reduceLT, Nat.reduceLeDiff, Nat.reduceEqDiff, Nat.reduceAdd, Nat.reduceSub, Nat.reduceMul, reduceCtorEq, reduceIte, e0, e1, e2]))
    exact hKK _ _ ⟨rfl, stKeep hl (Keeps.refl _ _)⟩
  | true =>
    rw [hm] at hKK
    simp only [if_true] at hKK
    refine vI ?_; repeat' (first
      | (with_reducible first | refine q_nn ?_ | refine q_nr ?_ | refine q_ne ?_ | refine q_en ?_ | refine q_er ?_ | refine q_es ?_ | refine q_gn ?_ | refine q_gr ?_ | refine q_ge ?_ | refine c_seq ?_ | refine c_block ?_ | refine c_scope ?_ | refine c_skip ?_ | refine c_label ?_ | refine c_ret ?_ | refine c_exit ?_ | (refine hK _ _ ?_; clear hK K) | refine seg_nil ?_) | ((with_reducible refine q_eo ?_ ?_); exact rfl)
      | ((with_reducible first | refine vO ?_ | refine c_reg fun K hK => ?_ | refine c_drw (by decide +kernel) fun K hK => ?_ | refine c_cond ?_ | refine seg_cons fun K hK => ?_ | show endW _ _ _ _ _ | refine ifb_dec (fun _ => ?_) (fun _ => ?_) | refine ifb_ieq (fun _ => ?_) (fun _ => ?_) | refine ifb_seq (fun _ => ?_) (fun _ => ?_)) <;> try simp (disch := first | (with_unfolding_all first | exact Lk.mk rfl | exact Seen.of rfl) | assumption | (fail_if_success with_reducible first | refine Seen.of ?_ | apply Sl.frame | apply Ow.frame); omega) only [go_sem, Int.reduceEq, Int.reduceLE, Int.reduceLT, Int.reduceNe, Int.reduceNeg, Int.reduceAdd, Int.reduceSub, Int.reduceMul, Int.reduceToNat, Nat.reduceLT, Nat.reduceLeDiff, Nat.reduceEqDiff, Nat.reduceAdd, Nat.reduceSub, Nat.reduceMul, reduceCtorEq, reduceIte, e0, e1, e2]))
    refine callM_of (freshI O p s id h1 hl) ?_
    rintro v h2 ⟨rfl, rfl⟩
    by_cases hf : freshE s.top id = 0
    · rw [if_pos hf] at hKK
      rw [hf] at hKK ⊢
      obtain ⟨v1, v2, g1, g2, hc, hp, hO, o1, o2, t1, t2⟩ := hl
      have gp1 : ∀ x, g1 = some x → ¬ x = p := fun x hx e => by have := t1 x hx; rw [e, hO] at this; omega
      have gp2 : ∀ x, g2 = some x → ¬ x = p := fun x hx e => by have := t2 x hx; rw [e, hO] at this; omega
      have st : StC LI O h2 (h2.set p (.cells [v1, v2, .int .i64 id])) p { s with top := id } :=
        mkC (g1 := g1) (g2 := g2) hp hO (fun x hx => ⟨o1.lt hx, t1 x hx⟩) (fun x hx => ⟨o2.lt hx, t2 x hx⟩) (by rw [AH.size_set]; omega) (by rw [AH.get_set, if_pos rfl]) (o1.frame (fun i hi => by rw [AH.get_set, if_neg (gp1 i hi)]) (by simp)) (o2.frame (fun i hi => by rw [AH.get_set, if_neg (gp2 i hi)]) (by simp)) 0 (.inr (.inl rfl)) (.inr (.inl rfl)) (fun x hx hxp hx1 hx2 => by rw [AH.get_set, if_neg hxp])
      refine vI ?_; repeat' (first
      | (with_reducible first | refine q_nn ?_ | refine q_nr ?_ | refine q_ne ?_ | refine q_en ?_ | refine q_er ?_ | refine q_es ?_ | refine q_gn ?_ | refine q_gr ?_ | refine q_ge ?_ | refine c_seq ?_ | refine c_block ?_ | refine c_scope ?_ | refine c_skip ?_ | refine c_label ?_ | refine c_ret ?_ | refine c_exit ?_ | (refine hK _ _ ?_; clear hK K) | refine seg_nil ?_) | ((with_reducible refine q_eo ?_ ?_); exact rfl)
      | ((with_reducible first | refine vO ?_ | refine c_reg fun K hK => ?_ | refine c_drw (by decide +kernel) fun K hK => ?_ | refine c_cond ?_ | refine seg_cons fun K hK => ?_ | show endW _ _ _ _ _ | refine ifb_dec (fun _ => ?_) (fun _ => ?_) | refine ifb_ieq (fun _ => ?_) (fun _ => ?_) | refine ifb_seq (fun _ => ?_) (fun _ => ?_)) <;> try simp (disch := first | (with_unfolding_all first | exact Lk.mk rfl | exact Seen.of rfl) | assumption | (fail_if_success with_reducible first | refine Seen.of ?_ | apply Sl.frame | apply Ow.frame); omega) only [go_sem, Int.reduceEq, Int.reduceLE, Int.reduceLT, Int.reduceNe, Int.reduceNeg, Int.reduceAdd, Int.reduceSub, Int.reduceMul, Int.reduceToNat, Nat.reduceLT, Nat.reduceLeDiff, Nat.reduceEqDiff, Nat.reduceAdd, Nat.reduceSub, Nat.reduceMul, reduceCtorEq, reduceIte, e0, e1, e2, hc]))
      have stz := st
      obtain ⟨zz, ff, Oz, az, lz⟩ := stz
      refine callM_of (buryI Oz p { s with top := id } id why _ lz ht) ?_
      rintro v' h5 st5
      refine vI ?_; repeat' (first
      | (with_reducible first | refine q_nn ?_ | refine q_nr ?_ | refine q_ne ?_ | refine q_en ?_ | refine q_er ?_ | refine q_es ?_ | refine q_gn ?_ | refine q_gr ?_ | refine q_ge ?_ | refine c_seq ?_ | refine c_block ?_ | refine c_scope ?_ | refine c_skip ?_ | refine c_label ?_ | refine c_ret ?_ | refine c_exit ?_ | (refine hK _ _ ?_; clear hK K) | refine seg_nil ?_) | ((with_reducible refine q_eo ?_ ?_); exact rfl)
      | ((with_reducible first | refine vO ?_ | refine c_reg fun K hK => ?_ | refine c_drw (by decide +kernel) fun K hK => ?_ | refine c_cond ?_ | refine seg_cons fun K hK => ?_ | show endW _ _ _ _ _ | refine ifb_dec (fun _ => ?_) (fun _ => ?_) | refine ifb_ieq (fun _ => ?_) (fun _ => ?_) | refine ifb_seq (fun _ => ?_) (fun _ => ?_)) <;> try simp (disch := first | (with_unfolding_all first | exact Lk.mk rfl | exact Seen.of rfl) | assumption | (fail_if_success with_reducible first | refine Seen.of ?_ | apply Sl.frame | apply Ow.frame); omega) only [go_sem, Int.reduceEq, Int.reduceLE, Int.reduceLT, Int.reduceNe, Int.reduceNeg, Int.reduceAdd, Int.reduceSub, Int.reduceMul, Int.reduceToNat, Nat.reduceLT, Nat.reduceLeDiff, Nat.reduceEqDiff, Nat.reduceAdd, Nat.reduceSub, Nat.reduceMul, reduceCtorEq, reduceIte, e0, e1, e2]))
      refine hKK _ _ ⟨rfl, ?_⟩
      obtain ⟨z5, f5, O5, a5, l5⟩ := st5
      exact ⟨by omega, fun x hx hx0 => by rw [f5 x (by omega) (by rw [az x hx]; exact hx0), ff x hx hx0], O5, fun x hx => by rw [a5 x (by omega), az x hx], l5⟩
    · rw [if_neg hf] at hKK
      refine vI ?_; repeat' (first
      | (with_reducible first | refine q_nn ?_ | refine q_nr ?_ | refine q_ne ?_ | refine q_en ?_ | refine q_er ?_ | refine q_es ?_ | refine q_gn ?_ | refine q_gr ?_ | refine q_ge ?_ | refine c_seq ?_ | refine c_block ?_ | refine c_scope ?_ | refine c_skip ?_ | refine c_label ?_ | refine c_ret ?_ | refine c_exit ?_ | (refine hK _ _ ?_; clear hK K) | refine seg_nil ?_) | ((with_reducible refine q_eo ?_ ?_); exact rfl)
      | ((with_reducible first | refine vO ?_ | refine c_reg fun K hK => ?_ | refine c_drw (by decide +kernel) fun K hK => ?_ | refine c_cond ?_ | refine seg_cons fun K hK => ?_ | show endW _ _ _ _ _ | refine ifb_dec (fun _ => ?_) (fun _ => ?_) | refine ifb_ieq (fun _ => ?_) (fun _ => ?_) | refine ifb_seq (fun _ => ?_) (fun _ => ?_)) <;> try simp (disch := first | (with_unfolding_all first | exact Lk.mk rfl | exact Seen.of rfl) | assumption | (fail_if_success with_reducible first | refine Seen.of ?_ | apply Sl.frame | apply Ow.frame); omega) only [go_sem, Int.reduceEq, Int.reduceLE, Int.reduceLT, Int.reduceNe, Int.reduceNeg, Int.reduceAdd, Int.reduceSub, Int.reduceMul, Int.reduceToNat, Nat.reduceLT, Nat.reduceLeDiff, Nat.reduceEqDiff, Nat.reduceAdd, Nat.reduceSub, Nat.reduceMul, reduceCtorEq, reduceIte, e0, e1, e2]))
      exact hKK _ _ ⟨rfl, stKeep hl (Keeps.refl _ _)⟩
end Go.Proofs.Ytedhjjjheafjeaa
