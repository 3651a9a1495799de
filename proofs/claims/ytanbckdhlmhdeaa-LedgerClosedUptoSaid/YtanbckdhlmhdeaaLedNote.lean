/- ledger: phase, issue. -/
import Derived.Test.YtanbckdhlmhdeaaLedFind
set_option linter.unusedSimpArgs false
set_option linter.unusedVariables false
namespace Go.Proofs.Ytanbckdhlmhdeaa
open Go.Abs
set_option maxRecDepth 100000
/-- What a step of the ledger may change: what is not its own stays. -/
def StepL (O : Nat → Nat) (h0 h' : AH) (p : Nat) (s : Sg) : Prop := h0.size ≤ h'.size ∧ (∀ x, x < h0.size → O x = 0 → h'.get x = h0.get x) ∧ ∃ O' : Nat → Nat, (∀ x, x < h0.size → O' x = O x) ∧ LgC O' h' p s
theorem stepLKeep {O : Nat → Nat} {h0 h' : AH} {p : Nat} {s : Sg} (hl : LgC O h0 p s) (k : Keeps h0.size h0 h') : StepL O h0 h' p s :=
  ⟨k.1, fun x hx _ => k.2 x hx, O, fun _ _ => rfl, hl.frame (fun x hx _ => k.2 x hx) k.1 (fun _ _ => rfl)⟩
def pend (l : List Rq) : Bool := l.any fun r => r.verdict == 1
theorem pend_some {l : List Rq} {k : Nat} {r : Rq} (h : l[k]? = some r) (hv : r.verdict = 1) : pend l = true := by
  unfold pend
  rw [List.any_eq_true]
  exact ⟨r, List.mem_of_getElem? h, by simpa using hv⟩
theorem pend_none {l : List Rq} (h : ∀ (j : Nat) r, l[j]? = some r → ¬ r.verdict = 1) : pend l = false := by
  unfold pend
  rw [List.any_eq_false]
  intro r hr
  obtain ⟨j, hj⟩ := List.getElem?_of_mem hr
  simpa using h j r hj
theorem ixA {h : AH} {p : Nat} {k : IntKind} {n : Int} (h0 : 0 ≤ n) (h1 : n < 3) : idxA Try.T 58 (.ptr (some (p, 1))) (.int k n) = some (.ptr (some (p, 1 + n.toNat))) := by
  have : (Try.T 58).desc = .array 3 4 := rfl
  have h2 : okT Try.T 4 = true := rfl
  have h3 : (Try.T 4).size = 1 := rfl
  simp only [idxA, this]
  rw [if_pos ⟨h2, h0, h1⟩, h3, Nat.mul_one]
set_option maxHeartbeats 4000000 in
theorem contains (O : Nat → Nat) (p : Nat) (s : Sg) (sl : AV) (g : Option Nat) (bs : List Nat) (h0 : AH) (o : OwN EP h0 g sl bs) (hbn : bs.length = s.l.length) (hr : ∀ (k : Nat) r b, s.l[k]? = some r → bs[k]? = some b → RqC O (8 * (k + 1)) h0 b r) (hn : s.l.length ≤ 1000) :
    callW Try.prog Try.T 26 [sl, .func 27 []] h0 fun v h' => v = .bool (pend s.l) ∧ h' = h0 := by
  refine callW_in (n := 9) (rs := [.tmp 4]) (m := 9) Try.func26 rfl rfl rfl rfl fun tr ht => ?_; have e0 := ht 0 _ rfl; have e1 := ht 1 _ rfl; clear ht
  repeat' (first
      | (with_reducible first | refine q_nn ?_ | refine q_nr ?_ | refine q_ne ?_ | refine q_en ?_ | refine q_er ?_ | refine q_es ?_ | refine q_gn ?_ | refine q_gr ?_ | refine q_ge ?_ | refine c_seq ?_ | refine c_block ?_ | refine c_scope ?_ | refine c_skip ?_ | refine c_label ?_ | refine c_ret ?_ | refine c_exit ?_ | (refine hK _ _ ?_; clear hK K) | refine seg_nil ?_) | ((with_reducible refine q_eo ?_ ?_); exact rfl)
      | ((with_reducible first | refine c_reg fun K hK => ?_ | refine c_drw (by decide +kernel) fun K hK => ?_ | refine c_cond ?_ | refine seg_cons fun K hK => ?_ | show endW _ _ _ _ _ | refine ifb_dec (fun _ => ?_) (fun _ => ?_) | refine ifb_ieq (fun _ => ?_) (fun _ => ?_) | refine ifb_seq (fun _ => ?_) (fun _ => ?_)) <;> try simp (disch := first | (with_unfolding_all first | exact Lk.mk rfl | exact Seen.of rfl) | assumption | (fail_if_success with_reducible first | refine Seen.of ?_ | apply Sl.frame | apply Ow.frame); omega) only [go_sem, Int.reduceEq, Int.reduceLE, Int.reduceLT, Int.reduceNe, Int.reduceNeg, Int.reduceAdd, Int.reduceSub, Int.reduceMul, Int.reduceToNat, Nat.reduceLT, Nat.reduceLeDiff, Nat.reduceEqDiff, Nat.reduceAdd, Nat.reduceSub, Nat.reduceMul, reduceCtorEq, reduceIte, e0, e1]))
  have get : ∀ (k : Nat) b, bs[k]? = some b → ∃ r, s.l[k]? = some r := fun k b hb => by
    have := (List.getElem?_eq_some_iff.1 hb).1
    exact ⟨_, List.getElem?_eq_getElem (by omega)⟩
  refine callM_of (indexFunc sl _ bs 27 [] (fun k => match s.l[k]? with | some r => r.verdict == 1 | none => false) h0 o.sl (by omega) ?_) ?_
  · intro k b hb
    obtain ⟨r, hrk⟩ := get k b hb
    rw [hrk]
    obtain ⟨g1, g2, g3, g4, v1, v2, v3, v4, hcb, hbb, _⟩ := hr k r b hrk hb
    unfold cC at hcb
    refine callW_in (n := 8) (rs := [.tmp 2]) (m := 8) Try.func27 rfl rfl rfl rfl fun tr ht => ?_; have e0 := ht 0 _ rfl; clear ht
    repeat' (first
      | (with_reducible first | refine q_nn ?_ | refine q_nr ?_ | refine q_ne ?_ | refine q_en ?_ | refine q_er ?_ | refine q_es ?_ | refine q_gn ?_ | refine q_gr ?_ | refine q_ge ?_ | refine c_seq ?_ | refine c_block ?_ | refine c_scope ?_ | refine c_skip ?_ | refine c_label ?_ | refine c_ret ?_ | refine c_exit ?_ | (refine hK _ _ ?_; clear hK K) | refine seg_nil ?_) | ((with_reducible refine q_eo ?_ ?_); exact rfl)
      | ((with_reducible first | refine c_reg fun K hK => ?_ | refine c_drw (by decide +kernel) fun K hK => ?_ | refine c_cond ?_ | refine seg_cons fun K hK => ?_ | show endW _ _ _ _ _ | refine ifb_dec (fun _ => ?_) (fun _ => ?_) | refine ifb_ieq (fun _ => ?_) (fun _ => ?_) | refine ifb_seq (fun _ => ?_) (fun _ => ?_)) <;> try simp (disch := first | (with_unfolding_all first | exact Lk.mk rfl | exact Seen.of rfl) | assumption | (fail_if_success with_reducible first | refine Seen.of ?_ | apply Sl.frame | apply Ow.frame); omega) only [go_sem, Int.reduceEq, Int.reduceLE, Int.reduceLT, Int.reduceNe, Int.reduceNeg, Int.reduceAdd, Int.reduceSub, Int.reduceMul, Int.reduceToNat, Nat.reduceLT, Nat.reduceLeDiff, Nat.reduceEqDiff, Nat.reduceAdd, Nat.reduceSub, Nat.reduceMul, reduceCtorEq, reduceIte, e0, hcb]))
  · rintro v h2 ⟨rfl, (⟨k, rfl, hk, hq, hj⟩ | ⟨rfl, hj⟩)⟩
    · obtain ⟨r, hrk⟩ := get k _ (List.getElem?_eq_getElem hk)
      rw [hrk] at hq
      have hp := pend_some hrk (by simpa using hq)
      refine vI ?_; repeat' (first
      | (with_reducible first | refine q_nn ?_ | refine q_nr ?_ | refine q_ne ?_ | refine q_en ?_ | refine q_er ?_ | refine q_es ?_ | refine q_gn ?_ | refine q_gr ?_ | refine q_ge ?_ | refine c_seq ?_ | refine c_block ?_ | refine c_scope ?_ | refine c_skip ?_ | refine c_label ?_ | refine c_ret ?_ | refine c_exit ?_ | (refine hK _ _ ?_; clear hK K) | refine seg_nil ?_) | ((with_reducible refine q_eo ?_ ?_); exact rfl)
      | ((with_reducible first | refine vO ?_ | refine c_reg fun K hK => ?_ | refine c_drw (by decide +kernel) fun K hK => ?_ | refine c_cond ?_ | refine seg_cons fun K hK => ?_ | show endW _ _ _ _ _ | refine ifb_dec (fun _ => ?_) (fun _ => ?_) | refine ifb_ieq (fun _ => ?_) (fun _ => ?_) | refine ifb_seq (fun _ => ?_) (fun _ => ?_)) <;> try simp (disch := first | (with_unfolding_all first | exact Lk.mk rfl | exact Seen.of rfl) | assumption | (fail_if_success with_reducible first | refine Seen.of ?_ | apply Sl.frame | apply Ow.frame); omega) only [go_sem, Int.reduceEq, Int.reduceLE, Int.reduceLT, Int.reduceNe, Int.reduceNeg, Int.reduceAdd, Int.reduceSub, Int.reduceMul, Int.reduceToNat, Nat.reduceLT, Nat.reduceLeDiff, Nat.reduceEqDiff, Nat.reduceAdd, Nat.reduceSub, Nat.reduceMul, reduceCtorEq, reduceIte, e0, e1, hp]))
    · have hp : pend s.l = false := pend_none fun j r hr' => by
        have := hj j (by have := (List.getElem?_eq_some_iff.1 hr').1; omega)
        rw [hr'] at this
        simpa using this
      refine vI ?_; repeat' (first
      | (with_reducible first | refine q_nn ?_ | refine q_nr ?_ | refine q_ne ?_ | refine q_en ?_ | refine q_er ?_ | refine q_es ?_ | refine q_gn ?_ | refine q_gr ?_ | refine q_ge ?_ | refine c_seq ?_ | refine c_block ?_ | refine c_scope ?_ | refine c_skip ?_ | refine c_label ?_ | refine c_ret ?_ | refine c_exit ?_ | (refine hK _ _ ?_; clear hK K) | refine seg_nil ?_) | ((with_reducible refine q_eo ?_ ?_); exact rfl)
      | ((with_reducible first | refine vO ?_ | refine c_reg fun K hK => ?_ | refine c_drw (by decide +kernel) fun K hK => ?_ | refine c_cond ?_ | refine seg_cons fun K hK => ?_ | show endW _ _ _ _ _ | refine ifb_dec (fun _ => ?_) (fun _ => ?_) | refine ifb_ieq (fun _ => ?_) (fun _ => ?_) | refine ifb_seq (fun _ => ?_) (fun _ => ?_)) <;> try simp (disch := first | (with_unfolding_all first | exact Lk.mk rfl | exact Seen.of rfl) | assumption | (fail_if_success with_reducible first | refine Seen.of ?_ | apply Sl.frame | apply Ow.frame); omega) only [go_sem, Int.reduceEq, Int.reduceLE, Int.reduceLT, Int.reduceNe, Int.reduceNeg, Int.reduceAdd, Int.reduceSub, Int.reduceMul, Int.reduceToNat, Nat.reduceLT, Nat.reduceLeDiff, Nat.reduceEqDiff, Nat.reduceAdd, Nat.reduceSub, Nat.reduceMul, reduceCtorEq, reduceIte, e0, e1, hp]))
/-- The ledger's block alone is changed. -/
theorem stepLCell {O : Nat → Nat} {h0 : AH} {p : Nat} {s s' : Sg} {sl : AV} {g : Option Nat} {bs : List Nat} (hp : p < h0.size) (hO : O p = 1) (o : OwN EP h0 g sl bs) (t : ∀ x, g = some x → O x = 2) (hbn : bs.length = s.l.length) (hr : ∀ (k : Nat) r b, s.l[k]? = some r → bs[k]? = some b → RqC O (8 * (k + 1)) h0 b r) (hl : s'.l = s.l) :
    StepL O h0 (h0.set p (.cells [sl, .bool false, .bool s'.cl, .bool s'.sv])) p s' := by
  refine ⟨by simp, fun x hx hx0 => ?_, O, fun _ _ => rfl, sl, g, bs, by rw [AH.get_set, if_pos rfl], by simpa using hp, hO, o.frame (fun i hi => ?_) (by simp), t, by rw [hl]; exact hbn, fun k r b h1 h2 => ?_⟩
  · rw [AH.get_set, if_neg (fun e => by rw [e, hO] at hx0; cases hx0)]
  · rw [AH.get_set, if_neg (fun e => by have := t i hi; rw [e, hO] at this; omega)]
  · rw [hl] at h1
    exact (hr k r b h1 h2).frame (fun x hx h3 h4 => by rw [AH.get_set, if_neg (fun e => by rw [e, hO] at h3; omega)]) (by simp) (fun _ _ => rfl)
set_option maxHeartbeats 4000000 in
theorem phase (O : Nat → Nat) (p : Nat) (s : Sg) (role : Int) (h0 : AH) (hl : LgC O h0 p s) (hn : s.l.length ≤ 1000) (hro : role = 1 ∨ role = 2) :
    callW Try.prog Try.T 18 [.ptr (some (p, 0)), .int .i64 role] h0 fun v h' => v = .bool (!(role == 1 && pend s.l)) ∧ StepL O h0 h' p (if role = 1 then (if pend s.l = true then s else { s with cl := true }) else { s with sv := true }) := by
  have hl0 := hl
  obtain ⟨sl, g, bs, hc, hp, hO, o, t, hbn, hr⟩ := hl
  refine callW_hide fun KK hKK => ?_
  refine callW_in (n := 19) (rs := [.tmp 4]) (m := 19) Try.func18 rfl rfl rfl rfl fun tr ht => ?_; have e0 := ht 0 _ rfl; have e1 := ht 1 _ rfl; clear ht
  rcases hro with rfl | rfl
  · repeat' (first
      | (with_reducible first | refine q_nn ?_ | refine q_nr ?_ | refine q_ne ?_ | refine q_en ?_ | refine q_er ?_ | refine q_es ?_ | refine q_gn ?_ | refine q_gr ?_ | refine q_ge ?_ | refine c_seq ?_ | refine c_block ?_ | refine c_scope ?_ | refine c_skip ?_ | refine c_label ?_ | refine c_ret ?_ | refine c_exit ?_ | (refine hK _ _ ?_; clear hK K) | refine seg_nil ?_) | ((with_reducible refine q_eo ?_ ?_); exact rfl)
      | ((with_reducible first | refine c_reg fun K hK => ?_ | refine c_drw (by decide +kernel) fun K hK => ?_ | refine c_cond ?_ | refine seg_cons fun K hK => ?_ | show endW _ _ _ _ _ | refine ifb_dec (fun _ => ?_) (fun _ => ?_) | refine ifb_ieq (fun _ => ?_) (fun _ => ?_) | refine ifb_seq (fun _ => ?_) (fun _ => ?_)) <;> try simp (disch := first | (with_unfolding_all first | exact Lk.mk rfl | exact Seen.of rfl) | assumption | (fail_if_success with_reducible first | refine Seen.of ?_ | apply Sl.frame | apply Ow.frame); omega) only [go_sem, Int.reduceEq, Int.reduceLE, Int.reduceLT, Int.reduceNe, Int.reduceNeg, Int.reduceAdd, Int.reduceSub, Int.reduceMul, Int.reduceToNat, Nat.reduceLT, Nat.reduceLeDiff, Nat.reduceEqDiff, Nat.reduceAdd, Nat.reduceSub, Nat.reduceMul, reduceCtorEq, reduceIte, e0, e1, hc]))
    refine callM_of (contains O p s sl g bs h0 o hbn hr hn) ?_
    rintro v h1 ⟨rfl, rfl⟩
    cases hpd : pend s.l with
    | true =>
      refine vI ?_; repeat' (first
      | (with_reducible first | refine q_nn ?_ | refine q_nr ?_ | refine q_ne ?_ | refine q_en ?_ | refine q_er ?_ | refine q_es ?_ | refine q_gn ?_ | refine q_gr ?_ | refine q_ge ?_ | refine c_seq ?_ | refine c_block ?_ | refine c_scope ?_ | refine c_skip ?_ | refine c_label ?_ | refine c_ret ?_ | refine c_exit ?_ | (refine hK _ _ ?_; clear hK K) | refine seg_nil ?_) | ((with_reducible refine q_eo ?_ ?_); exact rfl)
      | ((with_reducible first | refine vO ?_ | refine c_reg fun K hK => ?_ | refine c_drw (by decide +kernel) fun K hK => ?_ | refine c_cond ?_ | refine seg_cons fun K hK => ?_ | show endW _ _ _ _ _ | refine ifb_dec (fun _ => ?_) (fun _ => ?_) | refine ifb_ieq (fun _ => ?_) (fun _ => ?_) | refine ifb_seq (fun _ => ?_) (fun _ => ?_)) <;> try simp (disch := first | (with_unfolding_all first | exact Lk.mk rfl | exact Seen.of rfl) | assumption | (fail_if_success with_reducible first | refine Seen.of ?_ | apply Sl.frame | apply Ow.frame); omega) only [go_sem, Int.reduceEq, Int.reduceLE, Int.reduceLT, Int.reduceNe, Int.reduceNeg, Int.reduceAdd, Int.reduceSub, Int.reduceMul, Int.reduceToNat, Nat.reduceLT, Nat.reduceLeDiff, Nat.reduceEqDiff, Nat.reduceAdd, Nat.reduceSub, Nat.reduceMul, reduceCtorEq, reduceIte, e0, e1, hc]))
      refine hKK _ _ ⟨by rw [hpd]; rfl, ?_⟩
      rw [if_pos rfl, if_pos hpd]
      exact stepLKeep hl0 (Keeps.refl _ _)
    | false =>
      have ia := ixA (h := h1) (p := p) (k := .i64) (n := 1) (by omega) (by omega)
      refine vI ?_; repeat' (first
      | (with_reducible first | refine q_nn ?_ | refine q_nr ?_ | refine q_ne ?_ | refine q_en ?_ | refine q_er ?_ | refine q_es ?_ | refine q_gn ?_ | refine q_gr ?_ | refine q_ge ?_ | refine c_seq ?_ | refine c_block ?_ | refine c_scope ?_ | refine c_skip ?_ | refine c_label ?_ | refine c_ret ?_ | refine c_exit ?_ | (refine hK _ _ ?_; clear hK K) | refine seg_nil ?_) | ((with_reducible refine q_eo ?_ ?_); exact rfl)
      | ((with_reducible first | refine vO ?_ | refine c_reg fun K hK => ?_ | refine c_drw (by decide +kernel) fun K hK => ?_ | refine c_cond ?_ | refine seg_cons fun K hK => ?_ | show endW _ _ _ _ _ | refine ifb_dec (fun _ => ?_) (fun _ => ?_) | refine ifb_ieq (fun _ => ?_) (fun _ => ?_) | refine ifb_seq (fun _ => ?_) (fun _ => ?_)) <;> try simp (disch := first | (with_unfolding_all first | exact Lk.mk rfl | exact Seen.of rfl) | assumption | (fail_if_success with_reducible first | refine Seen.of ?_ | apply Sl.frame | apply Ow.frame); omega) only [go_sem, Int.reduceEq, Int.reduceLE, Int.reduceLT, Int.reduceNe, Int.reduceNeg, Int.reduceAdd, Int.reduceSub, Int.reduceMul, Int.reduceToNat, Nat.reduceLT, Nat.reduceLeDiff, Nat.reduceEqDiff, Nat.reduceAdd, Nat.reduceSub, Nat.reduceMul, reduceCtorEq, reduceIte, e0, e1, hc, ia]))
      refine hKK _ _ ⟨by rw [hpd]; rfl, ?_⟩
      rw [if_pos rfl, if_neg (by rw [hpd]; simp)]
      exact stepLCell (s' := { s with cl := true }) hp hO o t hbn hr rfl
  · have ia := ixA (h := h0) (p := p) (k := .i64) (n := 2) (by omega) (by omega)
    repeat' (first
      | (with_reducible first | refine q_nn ?_ | refine q_nr ?_ | refine q_ne ?_ | refine q_en ?_ | refine q_er ?_ | refine q_es ?_ | refine q_gn ?_ | refine q_gr ?_ | refine q_ge ?_ | refine c_seq ?_ | refine c_block ?_ | refine c_scope ?_ | refine c_skip ?_ | refine c_label ?_ | refine c_ret ?_ | refine c_exit ?_ | (refine hK _ _ ?_; clear hK K) | refine seg_nil ?_) | ((with_reducible refine q_eo ?_ ?_); exact rfl)
      | ((with_reducible first | refine c_reg fun K hK => ?_ | refine c_drw (by decide +kernel) fun K hK => ?_ | refine c_cond ?_ | refine seg_cons fun K hK => ?_ | show endW _ _ _ _ _ | refine ifb_dec (fun _ => ?_) (fun _ => ?_) | refine ifb_ieq (fun _ => ?_) (fun _ => ?_) | refine ifb_seq (fun _ => ?_) (fun _ => ?_)) <;> try simp (disch := first | (with_unfolding_all first | exact Lk.mk rfl | exact Seen.of rfl) | assumption | (fail_if_success with_reducible first | refine Seen.of ?_ | apply Sl.frame | apply Ow.frame); omega) only [go_sem, Int.reduceEq, Int.reduceLE, Int.reduceLT, Int.reduceNe, Int.reduceNeg, Int.reduceAdd, Int.reduceSub, Int.reduceMul, Int.reduceToNat, Nat.reduceLT, Nat.reduceLeDiff, Nat.reduceEqDiff, Nat.reduceAdd, Nat.reduceSub, Nat.reduceMul, reduceCtorEq, reduceIte, e0, e1, hc, ia]))
    refine hKK _ _ ⟨rfl, ?_⟩
    rw [if_neg (by omega)]
    exact stepLCell (s' := { s with sv := true }) hp hO o t hbn hr rfl
end Go.Proofs.Ytanbckdhlmhdeaa
