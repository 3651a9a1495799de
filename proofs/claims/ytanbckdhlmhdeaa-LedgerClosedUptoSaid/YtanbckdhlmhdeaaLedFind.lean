/- ledger: the list of requests: IndexFunc, find, ContainsFunc. -/
import Derived.Test.YtanbckdhlmhdeaaLedServer
set_option linter.unusedSimpArgs false
set_option linter.unusedVariables false
namespace Go.Proofs.Ytanbckdhlmhdeaa
open Go.Abs
set_option maxRecDepth 100000
def EP : Enc Nat := ⟨1, fun b => [.ptr (some (b, 0))], by decide, fun _ => rfl, fun _ => rfl⟩
/-- The abstract system. -/
structure Sg where
  l : List Rq
  cl : Bool
  sv : Bool
/-- The code's ledger in memory. -/
def LgC (O : Nat → Nat) (h : AH) (p : Nat) (s : Sg) : Prop := ∃ sl g bs, h.get p = some (.cells [sl, .bool false, .bool s.cl, .bool s.sv]) ∧ p < h.size ∧ O p = 1 ∧ OwN EP h g sl bs ∧ (∀ x, g = some x → O x = 2) ∧ bs.length = s.l.length ∧ ∀ (k : Nat) r b, s.l[k]? = some r → bs[k]? = some b → RqC O (8 * (k + 1)) h b r
theorem RqC.frame {O O' : Nat → Nat} {t : Nat} {h h' : AH} {b : Nat} {r : Rq} (hr : RqC O t h b r) (hf : ∀ x, x < h.size → t ≤ O x → O x < t + 8 → h'.get x = h.get x) (hz : h.size ≤ h'.size) (ho : ∀ x, x < h.size → O' x = O x) : RqC O' t h' b r := by
  obtain ⟨g1, g2, g3, g4, v1, v2, v3, v4, hc, hb, hO, o1, o2, o3, o4, t1, t2, t3, t4⟩ := hr
  refine ⟨g1, g2, g3, g4, v1, v2, v3, v4, (hf b hb (by omega) (by omega)).trans hc, by omega, (ho b hb).trans hO, o1.frame (fun i hi => hf i (o1.lt hi) (by rw [t1 i hi]; omega) (by rw [t1 i hi]; omega)) hz, o2.frame (fun i hi => hf i (o2.lt hi) (by rw [t2 i hi]; omega) (by rw [t2 i hi]; omega)) hz, o3.frame (fun i hi => hf i (o3.lt hi) (by rw [t3 i hi]; omega) (by rw [t3 i hi]; omega)) hz, o4.frame (fun i hi => hf i (o4.lt hi) (by rw [t4 i hi]; omega) (by rw [t4 i hi]; omega)) hz, fun x hx => ?_, fun x hx => ?_, fun x hx => ?_, fun x hx => ?_⟩
  · rw [ho x (o1.lt hx)]; exact t1 x hx
  · rw [ho x (o2.lt hx)]; exact t2 x hx
  · rw [ho x (o3.lt hx)]; exact t3 x hx
  · rw [ho x (o4.lt hx)]; exact t4 x hx
theorem LgC.frame {O O' : Nat → Nat} {h h' : AH} {p : Nat} {s : Sg} (hl : LgC O h p s) (hf : ∀ x, x < h.size → ¬ O x = 0 → h'.get x = h.get x) (hz : h.size ≤ h'.size) (ho : ∀ x, x < h.size → O' x = O x) : LgC O' h' p s := by
  obtain ⟨sl, g, bs, hc, hp, hO, o, t, hn, hr⟩ := hl
  exact ⟨sl, g, bs, (hf p hp (by omega)).trans hc, by omega, (ho p hp).trans hO, o.frame (fun i hi => hf i (o.lt hi) (by rw [t i hi]; omega)) hz, fun x hx => by rw [ho x (o.lt hx)]; exact t x hx, hn, fun k r b h1 h2 => (hr k r b h1 h2).frame (fun x hx h3 h4 => hf x hx (by omega)) hz ho⟩
theorem ldP {h : AH} {i : Nat} {a : AV} {l : List Nat} (p : Sl EP h i a l) {k : Nat} {b : Nat} (hk : l[k]? = some b) : loadA Try.T h 61 (a.at EP.sz 0 (k : Int)) = some (.ptr (some (b, 0))) := by
  have hl := (List.getElem?_eq_some_iff.1 hk).1
  refine p.ld (by omega) (by omega) ?_ (by decide) rfl rfl
  rw [Int.toNat_natCast, getElem!_pos l k hl, (List.getElem?_eq_some_iff.1 hk).2]; rfl
set_option maxHeartbeats 4000000 in
theorem indexFunc (sl : AV) (i : Nat) (bs : List Nat) (f : FuncId) (cap : List AV) (q : Nat → Bool) (h0 : AH) (hs : Sl EP h0 i sl bs) (hl : bs.length ≤ 1000000)
    (hq : ∀ (k : Nat) b, bs[k]? = some b → callW Try.prog Try.T f ([.ptr (some (b, 0))] ++ cap) h0 fun v h' => v = .bool (q k) ∧ h' = h0) :
    callW Try.prog Try.T 29 [sl, .func f cap] h0 fun v h' => h' = h0 ∧ ((∃ k : Nat, v = .int .i64 k ∧ k < bs.length ∧ q k = true ∧ ∀ j, j < k → q j = false) ∨ v = .int .i64 (-1) ∧ ∀ j, j < bs.length → q j = false) := by
  refine callW_hide fun KK hKK => ?_
  refine callW_in (n := 19) (rs := [.tmp 4]) (m := 19) Try.func29 rfl rfl rfl rfl fun tr ht => ?_; have e0 := ht 0 _ rfl; have e1 := ht 1 _ rfl; clear ht
  repeat' (first
      | (with_reducible first | refine q_nn ?_ | refine q_nr ?_ | refine q_ne ?_ | refine q_en ?_ | refine q_er ?_ | refine q_es ?_ | refine q_gn ?_ | refine q_gr ?_ | refine q_ge ?_ | refine c_seq ?_ | refine c_block ?_ | refine c_scope ?_ | refine c_skip ?_ | refine c_label ?_ | refine c_ret ?_ | refine c_exit ?_ | (refine hK _ _ ?_; clear hK K) | refine seg_nil ?_) | ((with_reducible refine q_eo ?_ ?_); exact rfl)
      | ((with_reducible first | refine c_reg fun K hK => ?_ | refine c_drw (by decide +kernel) fun K hK => ?_ | refine c_cond ?_ | refine seg_cons fun K hK => ?_ | show endW _ _ _ _ _ | refine ifb_dec (fun _ => ?_) (fun _ => ?_) | refine ifb_ieq (fun _ => ?_) (fun _ => ?_) | refine ifb_seq (fun _ => ?_) (fun _ => ?_)) <;> try simp (disch := first | (with_unfolding_all first | exact Lk.mk rfl | exact Seen.of rfl) | assumption | (fail_if_success with_reducible first | refine Seen.of ?_ | apply Sl.frame | apply Ow.frame); omega) only [go_sem, Int.reduceEq, Int.reduceLE, Int.reduceLT, Int.reduceNe, Int.reduceNeg, Int.reduceAdd, Int.reduceSub, Int.reduceMul, Int.reduceToNat, Nat.reduceLT, Nat.reduceLeDiff, Nat.reduceEqDiff, Nat.reduceAdd, Nat.reduceSub, Nat.reduceMul, reduceCtorEq, reduceIte, e0, e1]))
  refine c_loopF 524080 (fun m tm h => ∃ (k : Nat), tm.get 8 = .int .i64 k ∧ k ≤ bs.length ∧ (∀ j, j < k → q j = false) ∧ h = h0 ∧ m = bs.length - k) (bs.length) (by kernel_rfl) ?_ ?_
  · refine ⟨0, ?_, by omega, fun j hj => by omega, rfl, rfl⟩
    (first | with_reducible rfl | (simp (disch := first | (with_unfolding_all first | exact Lk.mk rfl | exact Seen.of rfl) | assumption | (fail_if_success with_reducible first | refine Seen.of ?_ | apply Sl.frame | apply Ow.frame); omega) only [go_sem, Int.reduceEq, Int.reduceLE, Int.reduceLT, Int.reduceNe, Int.reduceNeg, Int.reduceAdd, Int.reduceSub, Int.reduceMul, Int.reduceToNat, Nat.reduceLT, Nat.reduceLeDiff, Nat.reduceEqDiff, Nat.reduceAdd, Nat.reduceSub, Nat.reduceMul, reduceCtorEq, reduceIte] <;> first | with_reducible rfl | (congr 1 <;> omega)))
  · rintro m tr2 h2 ho ⟨k, t8, hk, hj, rfl, rfl⟩
    have k0 := ho 0 (Seen.of rfl); simp (disch := first | (with_unfolding_all first | exact Lk.mk rfl | exact Seen.of rfl) | assumption | (fail_if_success with_reducible first | refine Seen.of ?_ | apply Sl.frame | apply Ow.frame); omega) only [go_sem, Int.reduceEq, Int.reduceLE, Int.reduceLT, Int.reduceNe, Int.reduceNeg, Int.reduceAdd, Int.reduceSub, Int.reduceMul, Int.reduceToNat, Nat.reduceLT, Nat.reduceLeDiff, Nat.reduceEqDiff, Nat.reduceAdd, Nat.reduceSub, Nat.reduceMul, reduceCtorEq, reduceIte, e0, e1] at k0; have k1 := ho 1 (Seen.of rfl); simp (disch := first | (with_unfolding_all first | exact Lk.mk rfl | exact Seen.of rfl) | assumption | (fail_if_success with_reducible first | refine Seen.of ?_ | apply Sl.frame | apply Ow.frame); omega) only [go_sem, Int.reduceEq, Int.reduceLE, Int.reduceLT, Int.reduceNe, Int.reduceNeg, Int.reduceAdd, Int.reduceSub, Int.reduceMul, Int.reduceToNat, Nat.reduceLT, Nat.reduceLeDiff, Nat.reduceEqDiff, Nat.reduceAdd, Nat.reduceSub, Nat.reduceMul, reduceCtorEq, reduceIte, e0, e1] at k1; have k7 := ho 7 (Seen.of rfl); simp (disch := first | (with_unfolding_all first | exact Lk.mk rfl | exact Seen.of rfl) | assumption | (fail_if_success with_reducible first | refine Seen.of ?_ | apply Sl.frame | apply Ow.frame); omega) only [go_sem, Int.reduceEq, Int.reduceLE, Int.reduceLT, Int.reduceNe, Int.reduceNeg, Int.reduceAdd, Int.reduceSub, Int.reduceMul, Int.reduceToNat, Nat.reduceLT, Nat.reduceLeDiff, Nat.reduceEqDiff, Nat.reduceAdd, Nat.reduceSub, Nat.reduceMul, reduceCtorEq, reduceIte, e0, e1] at k7
    by_cases hc : k < bs.length
    · have hbk : bs[k]? = some bs[k] := List.getElem?_eq_getElem hc
      have ld := ldP hs hbk
      repeat' (first
      | (with_reducible first | refine q_nn ?_ | refine q_nr ?_ | refine q_ne ?_ | refine q_en ?_ | refine q_er ?_ | refine q_es ?_ | refine q_gn ?_ | refine q_gr ?_ | refine q_ge ?_ | refine c_seq ?_ | refine c_block ?_ | refine c_scope ?_ | refine c_skip ?_ | refine c_label ?_ | refine c_ret ?_ | refine c_exit ?_ | (refine hK _ _ ?_; clear hK K) | refine seg_nil ?_) | ((with_reducible refine q_eo ?_ ?_); exact rfl)
      | ((with_reducible first | refine c_reg fun K hK => ?_ | refine c_drw (by decide +kernel) fun K hK => ?_ | refine c_cond ?_ | refine seg_cons fun K hK => ?_ | show endW _ _ _ _ _ | refine ifb_dec (fun _ => ?_) (fun _ => ?_) | refine ifb_ieq (fun _ => ?_) (fun _ => ?_) | refine ifb_seq (fun _ => ?_) (fun _ => ?_)) <;> try simp (disch := first | (with_unfolding_all first | exact Lk.mk rfl | exact Seen.of rfl) | assumption | (fail_if_success with_reducible first | refine Seen.of ?_ | apply Sl.frame | apply Ow.frame); omega) only [go_sem, Int.reduceEq, Int.reduceLE, Int.reduceLT, Int.reduceNe, Int.reduceNeg, Int.reduceAdd, Int.reduceSub, Int.reduceMul, Int.reduceToNat, Nat.reduceLT, Nat.reduceLeDiff, Nat.reduceEqDiff, Nat.reduceAdd, Nat.reduceSub, Nat.reduceMul, reduceCtorEq, reduceIte, k0, k1, k7, t8, ld]))
      refine callM_of (hq k _ hbk) ?_
      rintro v h3 ⟨rfl, rfl⟩
      cases hqk : q k with
      | true =>
        refine vI ?_; repeat' (first
      | (with_reducible first | refine q_nn ?_ | refine q_nr ?_ | refine q_ne ?_ | refine q_en ?_ | refine q_er ?_ | refine q_es ?_ | refine q_gn ?_ | refine q_gr ?_ | refine q_ge ?_ | refine c_seq ?_ | refine c_block ?_ | refine c_scope ?_ | refine c_skip ?_ | refine c_label ?_ | refine c_ret ?_ | refine c_exit ?_ | (refine hK _ _ ?_; clear hK K) | refine seg_nil ?_) | ((with_reducible refine q_eo ?_ ?_); exact rfl)
      | ((with_reducible first | refine vO ?_ | refine c_reg fun K hK => ?_ | refine c_drw (by decide +kernel) fun K hK => ?_ | refine c_cond ?_ | refine seg_cons fun K hK => ?_ | show endW _ _ _ _ _ | refine ifb_dec (fun _ => ?_) (fun _ => ?_) | refine ifb_ieq (fun _ => ?_) (fun _ => ?_) | refine ifb_seq (fun _ => ?_) (fun _ => ?_)) <;> try simp (disch := first | (with_unfolding_all first | exact Lk.mk rfl | exact Seen.of rfl) | assumption | (fail_if_success with_reducible first | refine Seen.of ?_ | apply Sl.frame | apply Ow.frame); omega) only [go_sem, Int.reduceEq, Int.reduceLE, Int.reduceLT, Int.reduceNe, Int.reduceNeg, Int.reduceAdd, Int.reduceSub, Int.reduceMul, Int.reduceToNat, Nat.reduceLT, Nat.reduceLeDiff, Nat.reduceEqDiff, Nat.reduceAdd, Nat.reduceSub, Nat.reduceMul, reduceCtorEq, reduceIte, k0, k1, k7, t8]))
        exact hKK _ _ ⟨rfl, .inl ⟨k, rfl, hc, hqk, hj⟩⟩
      | false =>
        refine vI ?_; repeat' (first
      | (with_reducible first | refine q_nn ?_ | refine q_nr ?_ | refine q_ne ?_ | refine q_en ?_ | refine q_er ?_ | refine q_es ?_ | refine q_gn ?_ | refine q_gr ?_ | refine q_ge ?_ | refine c_seq ?_ | refine c_block ?_ | refine c_scope ?_ | refine c_skip ?_ | refine c_label ?_ | refine c_ret ?_ | refine c_exit ?_ | (refine hK _ _ ?_; clear hK K) | refine seg_nil ?_) | ((with_reducible refine q_eo ?_ ?_); exact rfl)
      | ((with_reducible first | refine vO ?_ | refine c_reg fun K hK => ?_ | refine c_drw (by decide +kernel) fun K hK => ?_ | refine c_cond ?_ | refine seg_cons fun K hK => ?_ | show endW _ _ _ _ _ | refine ifb_dec (fun _ => ?_) (fun _ => ?_) | refine ifb_ieq (fun _ => ?_) (fun _ => ?_) | refine ifb_seq (fun _ => ?_) (fun _ => ?_)) <;> try simp (disch := first | (with_unfolding_all first | exact Lk.mk rfl | exact Seen.of rfl) | assumption | (fail_if_success with_reducible first | refine Seen.of ?_ | apply Sl.frame | apply Ow.frame); omega) only [go_sem, Int.reduceEq, Int.reduceLE, Int.reduceLT, Int.reduceNe, Int.reduceNeg, Int.reduceAdd, Int.reduceSub, Int.reduceMul, Int.reduceToNat, Nat.reduceLT, Nat.reduceLeDiff, Nat.reduceEqDiff, Nat.reduceAdd, Nat.reduceSub, Nat.reduceMul, reduceCtorEq, reduceIte, k0, k1, k7, t8]))
        try dsimp only
        refine ⟨rfl, bs.length - (k + 1), by omega, k + 1, ?_, by omega, fun j hj2 => ?_, rfl, rfl⟩
        · (first | with_reducible rfl | (simp (disch := first | (with_unfolding_all first | exact Lk.mk rfl | exact Seen.of rfl) | assumption | (fail_if_success with_reducible first | refine Seen.of ?_ | apply Sl.frame | apply Ow.frame); omega) only [go_sem, Int.reduceEq, Int.reduceLE, Int.reduceLT, Int.reduceNe, Int.reduceNeg, Int.reduceAdd, Int.reduceSub, Int.reduceMul, Int.reduceToNat, Nat.reduceLT, Nat.reduceLeDiff, Nat.reduceEqDiff, Nat.reduceAdd, Nat.reduceSub, Nat.reduceMul, reduceCtorEq, reduceIte, t8] <;> first | with_reducible rfl | (congr 1 <;> omega)))
        · by_cases e : j = k
          · rw [e]; exact hqk
          · exact hj j (by omega)
    · repeat' (first
      | (with_reducible first | refine q_nn ?_ | refine q_nr ?_ | refine q_ne ?_ | refine q_en ?_ | refine q_er ?_ | refine q_es ?_ | refine q_gn ?_ | refine q_gr ?_ | refine q_ge ?_ | refine c_seq ?_ | refine c_block ?_ | refine c_scope ?_ | refine c_skip ?_ | refine c_label ?_ | refine c_ret ?_ | refine c_exit ?_ | (refine hK _ _ ?_; clear hK K) | refine seg_nil ?_) | ((with_reducible refine q_eo ?_ ?_); exact rfl)
      | ((with_reducible first | refine c_reg fun K hK => ?_ | refine c_drw (by decide +kernel) fun K hK => ?_ | refine c_cond ?_ | refine seg_cons fun K hK => ?_ | show endW _ _ _ _ _ | refine ifb_dec (fun _ => ?_) (fun _ => ?_) | refine ifb_ieq (fun _ => ?_) (fun _ => ?_) | refine ifb_seq (fun _ => ?_) (fun _ => ?_)) <;> try simp (disch := first | (with_unfolding_all first | exact Lk.mk rfl | exact Seen.of rfl) | assumption | (fail_if_success with_reducible first | refine Seen.of ?_ | apply Sl.frame | apply Ow.frame); omega) only [go_sem, Int.reduceEq, Int.reduceLE, Int.reduceLT, Int.reduceNe, Int.reduceNeg, Int.reduceAdd, Int.reduceSub, Int.reduceMul, Int.reduceToNat, Nat.reduceLT, Nat.reduceLeDiff, Nat.reduceEqDiff, Nat.reduceAdd, Nat.reduceSub, Nat.reduceMul, reduceCtorEq, reduceIte, k0, k1, k7, t8]))
      exact hKK _ _ ⟨rfl, .inr ⟨rfl, fun j hj2 => hj j (by omega)⟩⟩
/-- Which request has a number? -/
def fidx (l : List Rq) (id : Int) : Option Nat := l.findIdx? fun r => r.id == id
theorem fidx_some {l : List Rq} {id : Int} {k : Nat} {r : Rq} (h1 : l[k]? = some r) (h2 : r.id = id) (h3 : ∀ (j : Nat) r', j < k → l[j]? = some r' → ¬ r'.id = id) : fidx l id = some k := by
  unfold fidx
  rw [List.findIdx?_eq_some_iff_getElem]
  obtain ⟨hlt, heq⟩ := List.getElem?_eq_some_iff.1 h1
  refine ⟨hlt, by rw [heq]; simpa using h2, fun j hj => ?_⟩
  have := h3 j _ hj (List.getElem?_eq_getElem (by omega))
  simpa using this
theorem fidx_none {l : List Rq} {id : Int} (h : ∀ (j : Nat) r, l[j]? = some r → ¬ r.id = id) : fidx l id = none := by
  unfold fidx
  rw [List.findIdx?_eq_none_iff]
  intro r hr
  obtain ⟨j, hj⟩ := List.getElem?_of_mem hr
  simpa using h j r hj
set_option maxHeartbeats 4000000 in
theorem findB (O : Nat → Nat) (p : Nat) (s : Sg) (id : Int) (h0 : AH) (sl : AV) (g : Option Nat) (bs : List Nat) (hc : h0.get p = some (.cells [sl, .bool false, .bool s.cl, .bool s.sv])) (hp : p < h0.size) (o : OwN EP h0 g sl bs) (hbn : bs.length = s.l.length) (hr : ∀ (k : Nat) r b, s.l[k]? = some r → bs[k]? = some b → RqC O (8 * (k + 1)) h0 b r) (hn : s.l.length ≤ 1000) :
    callW Try.prog Try.T 20 [.ptr (some (p, 0)), .int .i64 id] h0 fun v h' => Keeps h0.size h0 h' ∧ (fidx s.l id = none ∧ v = .ptr none ∨ ∃ k b r, fidx s.l id = some k ∧ s.l[k]? = some r ∧ v = .ptr (some (b, 0)) ∧ bs[k]? = some b) := by
  refine callW_hide fun KK hKK => ?_
  refine callW_in (n := 23) (rs := [.tmp 4]) (m := 23) Try.func20 rfl rfl rfl rfl fun tr ht => ?_; have e0 := ht 0 _ rfl; have e1 := ht 1 _ rfl; clear ht
  repeat' (first
      | (with_reducible first | refine q_nn ?_ | refine q_nr ?_ | refine q_ne ?_ | refine q_en ?_ | refine q_er ?_ | refine q_es ?_ | refine q_gn ?_ | refine q_gr ?_ | refine q_ge ?_ | refine c_seq ?_ | refine c_block ?_ | refine c_scope ?_ | refine c_skip ?_ | refine c_label ?_ | refine c_ret ?_ | refine c_exit ?_ | (refine hK _ _ ?_; clear hK K) | refine seg_nil ?_) | ((with_reducible refine q_eo ?_ ?_); exact rfl)
      | ((with_reducible first | refine c_reg fun K hK => ?_ | refine c_drw (by decide +kernel) fun K hK => ?_ | refine c_cond ?_ | refine seg_cons fun K hK => ?_ | show endW _ _ _ _ _ | refine ifb_dec (fun _ => ?_) (fun _ => ?_) | refine ifb_ieq (fun _ => ?_) (fun _ => ?_) | refine ifb_seq (fun _ => ?_) (fun _ => ?_)) <;> try simp (disch := first | (with_unfolding_all first | exact Lk.mk rfl | exact Seen.of rfl) | assumption | (fail_if_success with_reducible first | refine Seen.of ?_ | apply Sl.frame | apply Ow.frame); omega) only [go_sem, Int.reduceEq, Int.reduceLE, Int.reduceLT, Int.reduceNe, Int.reduceNeg, Int.reduceAdd, Int.reduceSub, Int.reduceMul, Int.reduceToNat, Nat.reduceLT, Nat.reduceLeDiff, Nat.reduceEqDiff, Nat.reduceAdd, Nat.reduceSub, Nat.reduceMul, reduceCtorEq, reduceIte, e0, e1, hc]))
  refine cM_hide fun h1 hh1 => ?_
  have k1 : Keeps h0.size h0 h1 := by rw [hh1]; exact (Keeps.refl _ _).push (Nat.le_refl _) _
  have x1 : h1.get h0.size = some (.cells [.int .i64 id]) := by rw [hh1]; simp (disch := first | (with_unfolding_all first | exact Lk.mk rfl | exact Seen.of rfl) | assumption | (fail_if_success with_reducible first | refine Seen.of ?_ | apply Sl.frame | apply Ow.frame); omega) only [go_sem, Int.reduceEq, Int.reduceLE, Int.reduceLT, Int.reduceNe, Int.reduceNeg, Int.reduceAdd, Int.reduceSub, Int.reduceMul, Int.reduceToNat, Nat.reduceLT, Nat.reduceLeDiff, Nat.reduceEqDiff, Nat.reduceAdd, Nat.reduceSub, Nat.reduceMul, reduceCtorEq, reduceIte]
  have z1 : h1.size = h0.size + 1 := by rw [hh1]; simp (disch := first | (with_unfolding_all first | exact Lk.mk rfl | exact Seen.of rfl) | assumption | (fail_if_success with_reducible first | refine Seen.of ?_ | apply Sl.frame | apply Ow.frame); omega) only [go_sem, Int.reduceEq, Int.reduceLE, Int.reduceLT, Int.reduceNe, Int.reduceNeg, Int.reduceAdd, Int.reduceSub, Int.reduceMul, Int.reduceToNat, Nat.reduceLT, Nat.reduceLeDiff, Nat.reduceEqDiff, Nat.reduceAdd, Nat.reduceSub, Nat.reduceMul, reduceCtorEq, reduceIte]
  clear hh1
  have c1 := (k1.2 p hp).trans hc
  have s1 : Sl EP h1 (g.getD h0.size) sl bs := o.sl.frame (fun hi => k1.2 _ hi) k1.1
  have get : ∀ (k : Nat) b, bs[k]? = some b → ∃ r, s.l[k]? = some r := fun k b hb => by
    have := (List.getElem?_eq_some_iff.1 hb).1
    exact ⟨_, List.getElem?_eq_getElem (by omega)⟩
  refine callM_of (indexFunc sl _ bs 30 [.ptr (some (h0.size, 0))] (fun k => match s.l[k]? with | some r => r.id == id | none => false) h1 s1 (by omega) ?_) ?_
  · intro k b hb
    obtain ⟨r, hrk⟩ := get k b hb
    rw [hrk]
    obtain ⟨g1, g2, g3, g4, v1, v2, v3, v4, hcb, hbb, _⟩ := hr k r b hrk hb
    have hcb1 := (k1.2 b hbb).trans hcb
    unfold cC at hcb1
    refine callW_in (n := 10) (rs := [.tmp 3]) (m := 10) Try.func30 rfl rfl rfl rfl fun tr ht => ?_; have e0 := ht 0 _ rfl; have e1 := ht 1 _ rfl; clear ht
    repeat' (first
      | (with_reducible first | refine q_nn ?_ | refine q_nr ?_ | refine q_ne ?_ | refine q_en ?_ | refine q_er ?_ | refine q_es ?_ | refine q_gn ?_ | refine q_gr ?_ | refine q_ge ?_ | refine c_seq ?_ | refine c_block ?_ | refine c_scope ?_ | refine c_skip ?_ | refine c_label ?_ | refine c_ret ?_ | refine c_exit ?_ | (refine hK _ _ ?_; clear hK K) | refine seg_nil ?_) | ((with_reducible refine q_eo ?_ ?_); exact rfl)
      | ((with_reducible first | refine c_reg fun K hK => ?_ | refine c_drw (by decide +kernel) fun K hK => ?_ | refine c_cond ?_ | refine seg_cons fun K hK => ?_ | show endW _ _ _ _ _ | refine ifb_dec (fun _ => ?_) (fun _ => ?_) | refine ifb_ieq (fun _ => ?_) (fun _ => ?_) | refine ifb_seq (fun _ => ?_) (fun _ => ?_)) <;> try simp (disch := first | (with_unfolding_all first | exact Lk.mk rfl | exact Seen.of rfl) | assumption | (fail_if_success with_reducible first | refine Seen.of ?_ | apply Sl.frame | apply Ow.frame); omega) only [go_sem, Int.reduceEq, Int.reduceLE, Int.reduceLT, Int.reduceNe, Int.reduceNeg, Int.reduceAdd, Int.reduceSub, Int.reduceMul, Int.reduceToNat, Nat.reduceLT, Nat.reduceLeDiff, Nat.reduceEqDiff, Nat.reduceAdd, Nat.reduceSub, Nat.reduceMul, reduceCtorEq, reduceIte, e0, e1, hcb1, x1]))
  · rintro v h2 ⟨rfl, (⟨k, rfl, hk, hq, hj⟩ | ⟨rfl, hj⟩)⟩
    · have hbk : bs[k]? = some bs[k] := List.getElem?_eq_getElem hk
      obtain ⟨r, hrk⟩ := get k _ hbk
      rw [hrk] at hq
      have ld := ldP s1 hbk
      refine vI ?_; repeat' (first
      | (with_reducible first | refine q_nn ?_ | refine q_nr ?_ | refine q_ne ?_ | refine q_en ?_ | refine q_er ?_ | refine q_es ?_ | refine q_gn ?_ | refine q_gr ?_ | refine q_ge ?_ | refine c_seq ?_ | refine c_block ?_ | refine c_scope ?_ | refine c_skip ?_ | refine c_label ?_ | refine c_ret ?_ | refine c_exit ?_ | (refine hK _ _ ?_; clear hK K) | refine seg_nil ?_) | ((with_reducible refine q_eo ?_ ?_); exact rfl)
      | ((with_reducible first | refine vO ?_ | refine c_reg fun K hK => ?_ | refine c_drw (by decide +kernel) fun K hK => ?_ | refine c_cond ?_ | refine seg_cons fun K hK => ?_ | show endW _ _ _ _ _ | refine ifb_dec (fun _ => ?_) (fun _ => ?_) | refine ifb_ieq (fun _ => ?_) (fun _ => ?_) | refine ifb_seq (fun _ => ?_) (fun _ => ?_)) <;> try simp (disch := first | (with_unfolding_all first | exact Lk.mk rfl | exact Seen.of rfl) | assumption | (fail_if_success with_reducible first | refine Seen.of ?_ | apply Sl.frame | apply Ow.frame); omega) only [go_sem, Int.reduceEq, Int.reduceLE, Int.reduceLT, Int.reduceNe, Int.reduceNeg, Int.reduceAdd, Int.reduceSub, Int.reduceMul, Int.reduceToNat, Nat.reduceLT, Nat.reduceLeDiff, Nat.reduceEqDiff, Nat.reduceAdd, Nat.reduceSub, Nat.reduceMul, reduceCtorEq, reduceIte, e0, e1, c1, ld]))
      refine hKK _ _ ⟨k1, .inr ⟨k, bs[k], r, fidx_some hrk (by simpa using hq) (fun j r' hjk hr' => ?_), hrk, rfl, hbk⟩⟩
      have := hj j hjk
      rw [hr'] at this
      simpa using this
    · refine vI ?_; repeat' (first
      | (with_reducible first | refine q_nn ?_ | refine q_nr ?_ | refine q_ne ?_ | refine q_en ?_ | refine q_er ?_ | refine q_es ?_ | refine q_gn ?_ | refine q_gr ?_ | refine q_ge ?_ | refine c_seq ?_ | refine c_block ?_ | refine c_scope ?_ | refine c_skip ?_ | refine c_label ?_ | refine c_ret ?_ | refine c_exit ?_ | (refine hK _ _ ?_; clear hK K) | refine seg_nil ?_) | ((with_reducible refine q_eo ?_ ?_); exact rfl)
      | ((with_reducible first | refine vO ?_ | refine c_reg fun K hK => ?_ | refine c_drw (by decide +kernel) fun K hK => ?_ | refine c_cond ?_ | refine seg_cons fun K hK => ?_ | show endW _ _ _ _ _ | refine ifb_dec (fun _ => ?_) (fun _ => ?_) | refine ifb_ieq (fun _ => ?_) (fun _ => ?_) | refine ifb_seq (fun _ => ?_) (fun _ => ?_)) <;> try simp (disch := first | (with_unfolding_all first | exact Lk.mk rfl | exact Seen.of rfl) | assumption | (fail_if_success with_reducible first | refine Seen.of ?_ | apply Sl.frame | apply Ow.frame); omega) only [go_sem, Int.reduceEq, Int.reduceLE, Int.reduceLT, Int.reduceNe, Int.reduceNeg, Int.reduceAdd, Int.reduceSub, Int.reduceMul, Int.reduceToNat, Nat.reduceLT, Nat.reduceLeDiff, Nat.reduceEqDiff, Nat.reduceAdd, Nat.reduceSub, Nat.reduceMul, reduceCtorEq, reduceIte, e0, e1, c1]))
      refine hKK _ _ ⟨k1, .inl ⟨fidx_none fun j r hr' => ?_, rfl⟩⟩
      have := hj j (by have := (List.getElem?_eq_some_iff.1 hr').1; omega)
      rw [hr'] at this
      simpa using this
end Go.Proofs.Ytanbckdhlmhdeaa
