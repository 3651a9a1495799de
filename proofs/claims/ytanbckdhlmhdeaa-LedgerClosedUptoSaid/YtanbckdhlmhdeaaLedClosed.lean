/- ledger: the run of LedgerClosed. -/
import Derived.Test.YtanbckdhlmhdeaaLedTwo
import Derived.Test.YtanbckdhlmhdeaaLedBeg
set_option linter.unusedSimpArgs false
set_option linter.unusedVariables false
namespace Go.Proofs.Ytanbckdhlmhdeaa
open Go.Abs
set_option maxRecDepth 100000
def EB : Enc Bool := ⟨1, fun b => [.bool b], by decide, fun _ => rfl, fun _ => rfl⟩
/-- The code's ledger in memory, apart from F. -/
def One (F : Nat → Prop) (h : AH) (p : Nat) (s : Sg) : Prop := ∃ Oc, LgC Oc h p s ∧ ∀ x, F x → x < h.size ∧ Oc x = 0
theorem One.keep {F F' : Nat → Prop} {h h' : AH} {p : Nat} {s : Sg} (t : One F h p s) (k : Keeps h.size h h') (hF : ∀ x, F' x → F x ∨ h.size ≤ x ∧ x < h'.size) : One F' h' p s := by
  obtain ⟨Oc, hc, hf⟩ := t
  refine ⟨_, hc.after k, fun x hx => ?_⟩
  unfold O1
  rcases hF x hx with h1 | ⟨h1, h2⟩
  · obtain ⟨a, b⟩ := hf x h1
    rw [if_pos a]
    exact ⟨by have := k.1; omega, b⟩
  · rw [if_neg (by omega)]
    exact ⟨h2, rfl⟩
theorem One.own {F : Nat → Prop} {h h' : AH} {p : Nat} {s : Sg} (t : One F h p s) (hz : h.size ≤ h'.size) (hf : ∀ x, x < h.size → ¬ F x → h'.get x = h.get x) : One F h' p s := by
  obtain ⟨Oc, hc, hF⟩ := t
  exact ⟨Oc, hc.frame (fun x hx h0 => hf x hx (fun e => h0 (hF x e).2)) hz (fun _ _ => rfl), fun x hx => ⟨by have := (hF x hx).1; omega, (hF x hx).2⟩⟩
theorem one_next {F : Nat → Prop} {Oc : Nat → Nat} {h h1 : AH} {p : Nat} {s' : Sg} (hF : ∀ x, F x → x < h.size ∧ Oc x = 0) (st : StepL Oc h h1 p s') : One F h1 p s' ∧ (∀ x, F x → h1.get x = h.get x) ∧ h.size ≤ h1.size := by
  obtain ⟨z1, f1, O', a1, l1⟩ := st
  exact ⟨⟨O', l1, fun x hx => ⟨by have := (hF x hx).1; omega, by rw [a1 x (hF x hx).1]; exact (hF x hx).2⟩⟩, fun x hx => f1 x (hF x hx).1 (hF x hx).2, z1⟩
/-- A closed client has no pending request. -/
def Calm (s : Sg) : Prop := s.cl = true → pend s.l = false
theorem Calm.next {s s' : Sg} {n : Nt} (hc : Calm s) (h : noteC s n = some s') : Calm s' := by
  obtain ⟨_, hn, h | h | h | h | h⟩ := noteC_cases h
  · rw [h.2]; exact hc
  · rw [h.2.2.2]; exact fun _ => h.2.2.1
  · rw [h.2.2]; exact hc
  · obtain ⟨_, hro, _, rfl⟩ := h
    exact fun hcl => absurd (.inl ⟨hro, hcl⟩) hn
  · obtain ⟨k, r, r', _, hr, _, hv, rfl⟩ := h
    intro hcl
    have hp := hc hcl
    have hv : r'.verdict = r.verdict := hv.resolve_left (fun e => hn (.inl ⟨e, hcl⟩))
    refine pend_none fun j x hx e => ?_
    simp only at hx
    rw [List.getElem?_set] at hx
    split at hx
    · split at hx
      · cases hx
        rw [pend_some hr (by omega)] at hp; cases hp
      · cases hx
    · rw [pend_some hx e] at hp; cases hp
theorem noteC_shut {s : Sg} {n : Nt} (h : (n.role = 1 ∧ s.cl = true) ∨ (n.role = 2 ∧ s.sv = true)) : noteC s n = none := by
  unfold noteC
  rw [if_neg (fun h0 => h0 (h.imp And.left And.left)), if_pos h]
/-- The closed ends behind a note that may happen. -/
theorem shut_next {s s' : Sg} {n : Nt} (h : noteC s n = some s') : (n.kind = 14 → n.role = 1 ∧ s' = { s with cl := true } ∨ n.role = 2 ∧ s' = { s with sv := true }) ∧ (¬ n.kind = 14 → s'.cl = s.cl ∧ s'.sv = s.sv ∧ (n.role = 1 ∧ s.cl = false ∨ n.role = 2 ∧ s.sv = false)) := by
  obtain ⟨hro, hn, h⟩ := noteC_cases h
  have hh : n.role = 1 ∧ s.cl = false ∨ n.role = 2 ∧ s.sv = false := by
    rcases hro with e | e
    · refine .inl ⟨e, ?_⟩
      cases hx : s.cl with
      | false => rfl
      | true => exact absurd (.inl ⟨e, hx⟩) hn
    · refine .inr ⟨e, ?_⟩
      cases hx : s.sv with
      | false => rfl
      | true => exact absurd (.inr ⟨e, hx⟩) hn
  rcases h with h | h | h | h | h
  · exact ⟨fun e => absurd e h.1, fun _ => by rw [h.2]; exact ⟨rfl, rfl, hh⟩⟩
  · exact ⟨fun _ => .inl ⟨h.2.1, h.2.2.2⟩, fun e => absurd h.1 e⟩
  · exact ⟨fun _ => .inr ⟨h.2.1, h.2.2⟩, fun e => absurd h.1 e⟩
  · exact ⟨fun e => absurd e h.1, fun _ => by rw [h.2.2.2]; exact ⟨rfl, rfl, hh⟩⟩
  · obtain ⟨k, r, r', h1, _, _, _, rfl⟩ := h
    exact ⟨fun e => absurd e h1, fun _ => ⟨rfl, rfl, hh⟩⟩
set_option maxHeartbeats 8000000 in
theorem closedRun (a0 : AV) (a1 : List AV) (D0 : DatU Try.T 6 22 [a0]) (D1 : DatU Try.T 5 37 a1) : callW Try.prog Try.T 8 [a0, .agg a1] AH.empty fun v _ => v = .bool true := by
  obtain ⟨ns, hs0, hw, hl0⟩ := dat_sliceB (E := EN) (Wf := WfN) (h := AH.empty) (i := 0) Try.Td22 (fun c hc => dat_noteU (n := 0) hc) rfl D0
  obtain ⟨mm, rfl, mw1, mw2, mw3⟩ := dat_noteU (n := 0) D1
  have hl1 : ns.length ≤ 1048576 := by
    rcases hl0 with rfl | ⟨c, h3, h4⟩
    · simp
    · omega
  clear hl0
  have es0 : AH.empty.size = 0 := rfl
  have moe : EN.f mm = nC mm.n := rfl
  have mof := mm.h1
  have mod' := mm.h2
  rw [moe]
  generalize mm.n = mo at *
  clear moe
  refine callW_hide fun KK hKK => ?_
  refine callW_in (n := 101) (rs := [.cell 4 4]) (m := 101) Try.func8 rfl rfl rfl rfl fun tr ht => ?_; have e0 := ht 0 _ rfl; have e1 := ht 1 _ rfl; clear ht
  unfold nC at e1
  repeat' (first
      | (with_reducible first | refine q_nn ?_ | refine q_nr ?_ | refine q_ne ?_ | refine q_en ?_ | refine q_er ?_ | refine q_es ?_ | refine q_gn ?_ | refine q_gr ?_ | refine q_ge ?_ | refine c_seq ?_ | refine c_block ?_ | refine c_scope ?_ | refine c_skip ?_ | refine c_label ?_ | refine c_ret ?_ | refine c_exit ?_ | (refine hK _ _ ?_; clear hK K) | refine seg_nil ?_) | ((with_reducible refine q_eo ?_ ?_); exact rfl)
      | ((with_reducible first | refine c_reg fun K hK => ?_ | refine c_drw (by decide +kernel) fun K hK => ?_ | refine c_cond ?_ | refine seg_cons fun K hK => ?_ | show endW _ _ _ _ _ | refine ifb_dec (fun _ => ?_) (fun _ => ?_) | refine ifb_ieq (fun _ => ?_) (fun _ => ?_) | refine ifb_seq (fun _ => ?_) (fun _ => ?_)) <;> try simp (disch := first | (with_unfolding_all first | exact Lk.mk rfl | exact Seen.of rfl) | assumption | (fail_if_success with_reducible first | refine Seen.of ?_ | apply Sl.frame | apply Ow.frame); omega) only [go_sem, Int.reduceEq, Int.reduceLE, Int.reduceLT, Int.reduceNe, Int.reduceNeg, Int.reduceAdd, Int.reduceSub, Int.reduceMul, Int.reduceToNat, Nat.reduceLT, Nat.reduceLeDiff, Nat.reduceEqDiff, Nat.reduceAdd, Nat.reduceSub, Nat.reduceMul, reduceCtorEq, reduceIte, e0, e1, es0, mof, mod']))
  refine callM_of (begun2 (K := fun v h => v = .bool true ∧ h.get 0 = some (.cells (nC mo)) ∧ h.get 1 = some (.cells [.bool false]) ∧ 2 ≤ h.size) fun h' g g' z => ⟨rfl, g, g', z⟩) ?_
  rintro v h1 ⟨rfl, b0, b1, z1⟩
  refine vI ?_; repeat' (first
      | (with_reducible first | refine q_nn ?_ | refine q_nr ?_ | refine q_ne ?_ | refine q_en ?_ | refine q_er ?_ | refine q_es ?_ | refine q_gn ?_ | refine q_gr ?_ | refine q_ge ?_ | refine c_seq ?_ | refine c_block ?_ | refine c_scope ?_ | refine c_skip ?_ | refine c_label ?_ | refine c_ret ?_ | refine c_exit ?_ | (refine hK _ _ ?_; clear hK K) | refine seg_nil ?_) | ((with_reducible refine q_eo ?_ ?_); exact rfl)
      | ((with_reducible first | refine vO ?_ | refine c_reg fun K hK => ?_ | refine c_drw (by decide +kernel) fun K hK => ?_ | refine c_cond ?_ | refine seg_cons fun K hK => ?_ | show endW _ _ _ _ _ | refine ifb_dec (fun _ => ?_) (fun _ => ?_) | refine ifb_ieq (fun _ => ?_) (fun _ => ?_) | refine ifb_seq (fun _ => ?_) (fun _ => ?_)) <;> try simp (disch := first | (with_unfolding_all first | exact Lk.mk rfl | exact Seen.of rfl) | assumption | (fail_if_success with_reducible first | refine Seen.of ?_ | apply Sl.frame | apply Ow.frame); omega) only [go_sem, Int.reduceEq, Int.reduceLE, Int.reduceLT, Int.reduceNe, Int.reduceNeg, Int.reduceAdd, Int.reduceSub, Int.reduceMul, Int.reduceToNat, Nat.reduceLT, Nat.reduceLeDiff, Nat.reduceEqDiff, Nat.reduceAdd, Nat.reduceSub, Nat.reduceMul, reduceCtorEq, reduceIte, e0, es0]))
  refine callM_of (new h1) ?_
  rintro v h2 ⟨rfl, hh2⟩
  have hl2 := newLg h1
  rw [← hh2] at hl2
  have z2 : h2.size = h1.size + 1 := by rw [hh2]; simp (disch := first | (with_unfolding_all first | exact Lk.mk rfl | exact Seen.of rfl) | assumption | (fail_if_success with_reducible first | refine Seen.of ?_ | apply Sl.frame | apply Ow.frame); omega) only [go_sem, Int.reduceEq, Int.reduceLE, Int.reduceLT, Int.reduceNe, Int.reduceNeg, Int.reduceAdd, Int.reduceSub, Int.reduceMul, Int.reduceToNat, Nat.reduceLT, Nat.reduceLeDiff, Nat.reduceEqDiff, Nat.reduceAdd, Nat.reduceSub, Nat.reduceMul, reduceCtorEq, reduceIte]
  have b0 : h2.get 0 = some (.cells (nC mo)) := by rw [hh2, AH.get_push, if_neg (by omega)]; exact b0
  have b1 : h2.get 1 = some (.cells [.bool false]) := by rw [hh2, AH.get_push, if_neg (by omega)]; exact b1
  clear hh2
  obtain ⟨a, h3, e3, o3, z3, f3⟩ := make_ow (h := h2) (T := Try.T) (E := EB) (t := 55) (k := .i64) (k' := .i64) (n := 3) (m := 3) false rfl rfl rfl rfl (by decide) (by decide) (by decide) (by decide)
  have one3 := o3.one
  have cel3 := o3.cells
  refine vI ?_; repeat' (first
      | (with_reducible first | refine q_nn ?_ | refine q_nr ?_ | refine q_ne ?_ | refine q_en ?_ | refine q_er ?_ | refine q_es ?_ | refine q_gn ?_ | refine q_gr ?_ | refine q_ge ?_ | refine c_seq ?_ | refine c_block ?_ | refine c_scope ?_ | refine c_skip ?_ | refine c_label ?_ | refine c_ret ?_ | refine c_exit ?_ | (refine hK _ _ ?_; clear hK K) | refine seg_nil ?_) | ((with_reducible refine q_eo ?_ ?_); exact rfl)
      | ((with_reducible first | refine vO ?_ | refine c_reg fun K hK => ?_ | refine c_drw (by decide +kernel) fun K hK => ?_ | refine c_cond ?_ | refine seg_cons fun K hK => ?_ | show endW _ _ _ _ _ | refine ifb_dec (fun _ => ?_) (fun _ => ?_) | refine ifb_ieq (fun _ => ?_) (fun _ => ?_) | refine ifb_seq (fun _ => ?_) (fun _ => ?_)) <;> try simp (disch := first | (with_unfolding_all first | exact Lk.mk rfl | exact Seen.of rfl) | assumption | (fail_if_success with_reducible first | refine Seen.of ?_ | apply Sl.frame | apply Ow.frame); omega) only [go_sem, Int.reduceEq, Int.reduceLE, Int.reduceLT, Int.reduceNe, Int.reduceNeg, Int.reduceAdd, Int.reduceSub, Int.reduceMul, Int.reduceToNat, Nat.reduceLT, Nat.reduceLeDiff, Nat.reduceEqDiff, Nat.reduceAdd, Nat.reduceSub, Nat.reduceMul, reduceCtorEq, reduceIte, e0, es0, e3, one3, cel3, stC_1 (Seen.of one3)]))
  refine c_hide fun h4 hh4 => ?_
  have z4 : h4.size = h3.size + 1 := by rw [hh4]; simp (disch := first | (with_unfolding_all first | exact Lk.mk rfl | exact Seen.of rfl) | assumption | (fail_if_success with_reducible first | refine Seen.of ?_ | apply Sl.frame | apply Ow.frame); omega) only [go_sem, Int.reduceEq, Int.reduceLE, Int.reduceLT, Int.reduceNe, Int.reduceNeg, Int.reduceAdd, Int.reduceSub, Int.reduceMul, Int.reduceToNat, Nat.reduceLT, Nat.reduceLeDiff, Nat.reduceEqDiff, Nat.reduceAdd, Nat.reduceSub, Nat.reduceMul, reduceCtorEq, reduceIte]
  have bd : h4.get h3.size = some (.cells [a]) := by rw [hh4]; simp (disch := first | (with_unfolding_all first | exact Lk.mk rfl | exact Seen.of rfl) | assumption | (fail_if_success with_reducible first | refine Seen.of ?_ | apply Sl.frame | apply Ow.frame); omega) only [go_sem, Int.reduceEq, Int.reduceLE, Int.reduceLT, Int.reduceNe, Int.reduceNeg, Int.reduceAdd, Int.reduceSub, Int.reduceMul, Int.reduceToNat, Nat.reduceLT, Nat.reduceLeDiff, Nat.reduceEqDiff, Nat.reduceAdd, Nat.reduceSub, Nat.reduceMul, reduceCtorEq, reduceIte]
  have f4 : ∀ b, b < h3.size → h4.get b = h3.get b := fun b hb => by rw [hh4]; simp (disch := first | (with_unfolding_all first | exact Lk.mk rfl | exact Seen.of rfl) | assumption | (fail_if_success with_reducible first | refine Seen.of ?_ | apply Sl.frame | apply Ow.frame); omega) only [go_sem, Int.reduceEq, Int.reduceLE, Int.reduceLT, Int.reduceNe, Int.reduceNeg, Int.reduceAdd, Int.reduceSub, Int.reduceMul, Int.reduceToNat, Nat.reduceLT, Nat.reduceLeDiff, Nat.reduceEqDiff, Nat.reduceAdd, Nat.reduceSub, Nat.reduceMul, reduceCtorEq, reduceIte]
  clear hh4
  have ho4 : One (fun b => b = 0 ∨ b = 1 ∨ b = h2.size ∨ b = h3.size) h4 h1.size s0 :=
    ⟨_, hl2.after ⟨by omega, fun b hb => (f4 b (by omega)).trans (f3 b hb)⟩, fun x hx => ⟨by omega, by
      unfold O1
      by_cases e : x < h2.size
      · rw [if_pos e]; exact if_neg (by omega)
      · rw [if_neg e]⟩⟩
  have oc4 : Ow EB h4 h2.size a [false, s0.cl, s0.sv] := o3.frame (fun hi => f4 _ hi) (by omega)
  have b0 := (f4 0 (by omega)).trans ((f3 0 (by omega)).trans b0)
  have b1 := (f4 1 (by omega)).trans ((f3 1 (by omega)).trans b1)
  clear f4 f3 o3 e3 hl2
  have zc : 1 < h2.size ∧ h3.size = h2.size + 1 := by omega
  generalize h1.size = p at *
  generalize h2.size = c at *
  generalize h3.size = d at *
  have cm0 : Calm s0 := fun h => by cases h
  refine c_loopF 4722366482869644165888 (fun m tm h => ∃ (k : Nat) (s : Sg), tm.get 8 = .int .i64 k ∧ k ≤ ns.length ∧ k ≤ 100 ∧ Wk s k ∧ Calm s ∧ One (fun b => b = 0 ∨ b = 1 ∨ b = c ∨ b = d) h p s ∧ Ow EB h c a [false, s.cl, s.sv] ∧ h.get 0 = some (.cells (nC mo)) ∧ h.get 1 = some (.cells [.bool false]) ∧ h.get d = some (.cells [a]) ∧ d < h.size ∧ m = 100 - k) (100) (by kernel_rfl) ?_ ?_
  · refine ⟨0, s0, ?_, by omega, by omega, wk0, cm0, ho4, oc4, b0, b1, bd, by omega, rfl⟩
    (first | with_reducible rfl | (simp (disch := first | (with_unfolding_all first | exact Lk.mk rfl | exact Seen.of rfl) | assumption | (fail_if_success with_reducible first | refine Seen.of ?_ | apply Sl.frame | apply Ow.frame); omega) only [go_sem, Int.reduceEq, Int.reduceLE, Int.reduceLT, Int.reduceNe, Int.reduceNeg, Int.reduceAdd, Int.reduceSub, Int.reduceMul, Int.reduceToNat, Nat.reduceLT, Nat.reduceLeDiff, Nat.reduceEqDiff, Nat.reduceAdd, Nat.reduceSub, Nat.reduceMul, reduceCtorEq, reduceIte] <;> first | with_reducible rfl | (congr 1 <;> omega)))
  · clear oc4 b0 b1 bd ho4
    rintro m tr2 h4 ho ⟨k, s, t8, hk, hk100, hwk, hcm, ho4, oc, b0, b1, bd, zd, rfl⟩
    have k0 := ho 0 (Seen.of rfl); simp (disch := first | (with_unfolding_all first | exact Lk.mk rfl | exact Seen.of rfl) | assumption | (fail_if_success with_reducible first | refine Seen.of ?_ | apply Sl.frame | apply Ow.frame); omega) only [go_sem, Int.reduceEq, Int.reduceLE, Int.reduceLT, Int.reduceNe, Int.reduceNeg, Int.reduceAdd, Int.reduceSub, Int.reduceMul, Int.reduceToNat, Nat.reduceLT, Nat.reduceLeDiff, Nat.reduceEqDiff, Nat.reduceAdd, Nat.reduceSub, Nat.reduceMul, reduceCtorEq, reduceIte, e0] at k0; have k3 := ho 3 (Seen.of rfl); simp (disch := first | (with_unfolding_all first | exact Lk.mk rfl | exact Seen.of rfl) | assumption | (fail_if_success with_reducible first | refine Seen.of ?_ | apply Sl.frame | apply Ow.frame); omega) only [go_sem, Int.reduceEq, Int.reduceLE, Int.reduceLT, Int.reduceNe, Int.reduceNeg, Int.reduceAdd, Int.reduceSub, Int.reduceMul, Int.reduceToNat, Nat.reduceLT, Nat.reduceLeDiff, Nat.reduceEqDiff, Nat.reduceAdd, Nat.reduceSub, Nat.reduceMul, reduceCtorEq, reduceIte, e0] at k3; have k4 := ho 4 (Seen.of rfl); simp (disch := first | (with_unfolding_all first | exact Lk.mk rfl | exact Seen.of rfl) | assumption | (fail_if_success with_reducible first | refine Seen.of ?_ | apply Sl.frame | apply Ow.frame); omega) only [go_sem, Int.reduceEq, Int.reduceLE, Int.reduceLT, Int.reduceNe, Int.reduceNeg, Int.reduceAdd, Int.reduceSub, Int.reduceMul, Int.reduceToNat, Nat.reduceLT, Nat.reduceLeDiff, Nat.reduceEqDiff, Nat.reduceAdd, Nat.reduceSub, Nat.reduceMul, reduceCtorEq, reduceIte, e0] at k4; have k5 := ho 5 (Seen.of rfl); simp (disch := first | (with_unfolding_all first | exact Lk.mk rfl | exact Seen.of rfl) | assumption | (fail_if_success with_reducible first | refine Seen.of ?_ | apply Sl.frame | apply Ow.frame); omega) only [go_sem, Int.reduceEq, Int.reduceLE, Int.reduceLT, Int.reduceNe, Int.reduceNeg, Int.reduceAdd, Int.reduceSub, Int.reduceMul, Int.reduceToNat, Nat.reduceLT, Nat.reduceLeDiff, Nat.reduceEqDiff, Nat.reduceAdd, Nat.reduceSub, Nat.reduceMul, reduceCtorEq, reduceIte, e0] at k5; have k6 := ho 6 (Seen.of rfl); simp (disch := first | (with_unfolding_all first | exact Lk.mk rfl | exact Seen.of rfl) | assumption | (fail_if_success with_reducible first | refine Seen.of ?_ | apply Sl.frame | apply Ow.frame); omega) only [go_sem, Int.reduceEq, Int.reduceLE, Int.reduceLT, Int.reduceNe, Int.reduceNeg, Int.reduceAdd, Int.reduceSub, Int.reduceMul, Int.reduceToNat, Nat.reduceLT, Nat.reduceLeDiff, Nat.reduceEqDiff, Nat.reduceAdd, Nat.reduceSub, Nat.reduceMul, reduceCtorEq, reduceIte, e0] at k6; have k7 := ho 7 (Seen.of rfl); simp (disch := first | (with_unfolding_all first | exact Lk.mk rfl | exact Seen.of rfl) | assumption | (fail_if_success with_reducible first | refine Seen.of ?_ | apply Sl.frame | apply Ow.frame); omega) only [go_sem, Int.reduceEq, Int.reduceLE, Int.reduceLT, Int.reduceNe, Int.reduceNeg, Int.reduceAdd, Int.reduceSub, Int.reduceMul, Int.reduceToNat, Nat.reduceLT, Nat.reduceLeDiff, Nat.reduceEqDiff, Nat.reduceAdd, Nat.reduceSub, Nat.reduceMul, reduceCtorEq, reduceIte, e0] at k7
    have s4 := hs0.any h4 0
    by_cases hc : k < ns.length ∧ k < 100
    · have hwn : WfN (ns[k]!) := by rw [getElem!_pos ns k hc.1]; exact hw _ (List.getElem_mem _)
      obtain ⟨wn1, wn2, wn3⟩ := hwn
      have hEN : EN.f (ns[k]!) = nC (ns[k]!).n := rfl
      have of := (ns[k]!).h1
      have od := (ns[k]!).h2
      have ldk : ∀ h, loadA Try.T h 3 (a0.at EN.sz 1 (k : Int)) = some (.int .i64 (ns[k]!).n.kind) := fun h => (hs0.any h 0).ld (by omega) (by omega) (by rw [Int.toNat_natCast]; rfl) (by decide) rfl rfl
      have ldr : ∀ h, loadA Try.T h 3 (a0.at EN.sz 0 (k : Int)) = some (.int .i64 (ns[k]!).n.role) := fun h => (hs0.any h 0).ld (by omega) (by omega) (by rw [Int.toNat_natCast]; rfl) (by decide) rfl rfl
      obtain ⟨n, hnn⟩ : ∃ n, n = (ns[k]!).n := ⟨_, rfl⟩
      rw [← hnn] at wn1 wn2 wn3 hEN of od ldk ldr
      clear hnn
      obtain ⟨Oc, hc4, hF4⟩ := ho4
      unfold nC at hEN
      repeat' (first
      | (with_reducible first | refine q_nn ?_ | refine q_nr ?_ | refine q_ne ?_ | refine q_en ?_ | refine q_er ?_ | refine q_es ?_ | refine q_gn ?_ | refine q_gr ?_ | refine q_ge ?_ | refine c_seq ?_ | refine c_block ?_ | refine c_scope ?_ | refine c_skip ?_ | refine c_label ?_ | refine c_ret ?_ | refine c_exit ?_ | (refine hK _ _ ?_; clear hK K) | refine seg_nil ?_) | ((with_reducible refine q_eo ?_ ?_); exact rfl)
      | ((with_reducible first | refine c_reg fun K hK => ?_ | refine c_drw (by decide +kernel) fun K hK => ?_ | refine c_cond ?_ | refine seg_cons fun K hK => ?_ | show endW _ _ _ _ _ | refine ifb_dec (fun _ => ?_) (fun _ => ?_) | refine ifb_ieq (fun _ => ?_) (fun _ => ?_) | refine ifb_seq (fun _ => ?_) (fun _ => ?_)) <;> try simp (disch := first | (with_unfolding_all first | exact Lk.mk rfl | exact Seen.of rfl) | assumption | (fail_if_success with_reducible first | refine Seen.of ?_ | apply Sl.frame | apply Ow.frame); omega) only [go_sem, Int.reduceEq, Int.reduceLE, Int.reduceLT, Int.reduceNe, Int.reduceNeg, Int.reduceAdd, Int.reduceSub, Int.reduceMul, Int.reduceToNat, Nat.reduceLT, Nat.reduceLeDiff, Nat.reduceEqDiff, Nat.reduceAdd, Nat.reduceSub, Nat.reduceMul, reduceCtorEq, reduceIte, k0, k3, k4, k5, k6, k7, t8, hEN, of, od]))
      refine callM_of (note Oc p s n h4 hc4 (wn1 h4) (hwk.wf (by omega)) wn3) ?_
      rintro v h5 ⟨rfl, st⟩
      obtain ⟨ho5, f5, z5⟩ := one_next hF4 st
      have oc5 := oc.frame (fun _ => f5 c (.inr (.inr (.inl rfl)))) z5
      have b0 := (f5 0 (.inl rfl)).trans b0
      have b1 := (f5 1 (.inr (.inl rfl))).trans b1
      have bd := (f5 d (.inr (.inr (.inr rfl)))).trans bd
      have s5 := hs0.any h5 0
      have sl5 := oc5.sl
      have ix1 : idxA Try.T 55 a (.int .i64 1) = some (a.at EB.sz 0 1) := Try.ix55 sl5 (by omega) (by simp) .mk
      have ix2 : idxA Try.T 55 a (.int .i64 2) = some (a.at EB.sz 0 2) := Try.ix55 sl5 (by omega) (by simp) .mk
      clear f5 st hc4 hF4 s4 oc
      cases hst : noteC s n with
      | none =>
        rw [hst] at ho5
        refine vI ?_; repeat' (first
      | (with_reducible first | refine q_nn ?_ | refine q_nr ?_ | refine q_ne ?_ | refine q_en ?_ | refine q_er ?_ | refine q_es ?_ | refine q_gn ?_ | refine q_gr ?_ | refine q_ge ?_ | refine c_seq ?_ | refine c_block ?_ | refine c_scope ?_ | refine c_skip ?_ | refine c_label ?_ | refine c_ret ?_ | refine c_exit ?_ | (refine hK _ _ ?_; clear hK K) | refine seg_nil ?_) | ((with_reducible refine q_eo ?_ ?_); exact rfl)
      | ((with_reducible first | refine vO ?_ | refine c_reg fun K hK => ?_ | refine c_drw (by decide +kernel) fun K hK => ?_ | refine c_cond ?_ | refine seg_cons fun K hK => ?_ | show endW _ _ _ _ _ | refine ifb_dec (fun _ => ?_) (fun _ => ?_) | refine ifb_ieq (fun _ => ?_) (fun _ => ?_) | refine ifb_seq (fun _ => ?_) (fun _ => ?_)) <;> try simp (disch := first | (with_unfolding_all first | exact Lk.mk rfl | exact Seen.of rfl) | assumption | (fail_if_success with_reducible first | refine Seen.of ?_ | apply Sl.frame | apply Ow.frame); omega) only [go_sem, Int.reduceEq, Int.reduceLE, Int.reduceLT, Int.reduceNe, Int.reduceNeg, Int.reduceAdd, Int.reduceSub, Int.reduceMul, Int.reduceToNat, Nat.reduceLT, Nat.reduceLeDiff, Nat.reduceEqDiff, Nat.reduceAdd, Nat.reduceSub, Nat.reduceMul, reduceCtorEq, reduceIte, k0, k3, k4, k5, k6, k7, t8, Option.isSome_none]))
        try dsimp only
        refine ⟨rfl, 100 - (k + 1), by omega, k + 1, s, ?_, by omega, by omega, hwk.up, hcm, ho5, oc5, b0, b1, bd, by omega, rfl⟩
        (first | with_reducible rfl | (simp (disch := first | (with_unfolding_all first | exact Lk.mk rfl | exact Seen.of rfl) | assumption | (fail_if_success with_reducible first | refine Seen.of ?_ | apply Sl.frame | apply Ow.frame); omega) only [go_sem, Int.reduceEq, Int.reduceLE, Int.reduceLT, Int.reduceNe, Int.reduceNeg, Int.reduceAdd, Int.reduceSub, Int.reduceMul, Int.reduceToNat, Nat.reduceLT, Nat.reduceLeDiff, Nat.reduceEqDiff, Nat.reduceAdd, Nat.reduceSub, Nat.reduceMul, reduceCtorEq, reduceIte] <;> first | with_reducible rfl | (congr 1 <;> omega)))
      | some s' =>
        rw [hst] at ho5
        have hcm' := hcm.next hst
        have hwk' := noteC_wf hwk wn2 hst
        obtain ⟨sh1, sh2⟩ := shut_next hst
        by_cases h14 : n.kind = 14
        · have sh := sh1 h14
          clear sh1 sh2
          rcases sh with ⟨hro, rfl⟩ | ⟨hro, rfl⟩
          · refine vI ?_; repeat' (first
      | (with_reducible first | refine q_nn ?_ | refine q_nr ?_ | refine q_ne ?_ | refine q_en ?_ | refine q_er ?_ | refine q_es ?_ | refine q_gn ?_ | refine q_gr ?_ | refine q_ge ?_ | refine c_seq ?_ | refine c_block ?_ | refine c_scope ?_ | refine c_skip ?_ | refine c_label ?_ | refine c_ret ?_ | refine c_exit ?_ | (refine hK _ _ ?_; clear hK K) | refine seg_nil ?_) | ((with_reducible refine q_eo ?_ ?_); exact rfl)
      | ((with_reducible first | refine vO ?_ | refine c_reg fun K hK => ?_ | refine c_drw (by decide +kernel) fun K hK => ?_ | refine c_cond ?_ | refine seg_cons fun K hK => ?_ | show endW _ _ _ _ _ | refine ifb_dec (fun _ => ?_) (fun _ => ?_) | refine ifb_ieq (fun _ => ?_) (fun _ => ?_) | refine ifb_seq (fun _ => ?_) (fun _ => ?_)) <;> try simp (disch := first | (with_unfolding_all first | exact Lk.mk rfl | exact Seen.of rfl) | assumption | (fail_if_success with_reducible first | refine Seen.of ?_ | apply Sl.frame | apply Ow.frame); omega) only [go_sem, Int.reduceEq, Int.reduceLE, Int.reduceLT, Int.reduceNe, Int.reduceNeg, Int.reduceAdd, Int.reduceSub, Int.reduceMul, Int.reduceToNat, Nat.reduceLT, Nat.reduceLeDiff, Nat.reduceEqDiff, Nat.reduceAdd, Nat.reduceSub, Nat.reduceMul, reduceCtorEq, reduceIte, k0, k3, k4, k5, k6, k7, t8, Option.isSome_some, ldk, ldr, h14, hro, bd, ix1, ix2]))
            refine Try.wr4 oc5 true (by rfl) (by omega) (by simp) (by exact .mk) fun h6 oc6 z6 f6 => ?_
            obtain ⟨zc1, zc2⟩ := zc
            refine vI ?_; repeat' (first
      | (with_reducible first | refine q_nn ?_ | refine q_nr ?_ | refine q_ne ?_ | refine q_en ?_ | refine q_er ?_ | refine q_es ?_ | refine q_gn ?_ | refine q_gr ?_ | refine q_ge ?_ | refine c_seq ?_ | refine c_block ?_ | refine c_scope ?_ | refine c_skip ?_ | refine c_label ?_ | refine c_ret ?_ | refine c_exit ?_ | (refine hK _ _ ?_; clear hK K) | refine seg_nil ?_) | ((with_reducible refine q_eo ?_ ?_); exact rfl)
      | ((with_reducible first | refine vO ?_ | refine c_reg fun K hK => ?_ | refine c_drw (by decide +kernel) fun K hK => ?_ | refine c_cond ?_ | refine seg_cons fun K hK => ?_ | show endW _ _ _ _ _ | refine ifb_dec (fun _ => ?_) (fun _ => ?_) | refine ifb_ieq (fun _ => ?_) (fun _ => ?_) | refine ifb_seq (fun _ => ?_) (fun _ => ?_)) <;> try simp (disch := first | (with_unfolding_all first | exact Lk.mk rfl | exact Seen.of rfl) | assumption | (fail_if_success with_reducible first | refine Seen.of ?_ | apply Sl.frame | apply Ow.frame); omega) only [go_sem, Int.reduceEq, Int.reduceLE, Int.reduceLT, Int.reduceNe, Int.reduceNeg, Int.reduceAdd, Int.reduceSub, Int.reduceMul, Int.reduceToNat, Nat.reduceLT, Nat.reduceLeDiff, Nat.reduceEqDiff, Nat.reduceAdd, Nat.reduceSub, Nat.reduceMul, reduceCtorEq, reduceIte, k0, k3, k4, k5, k6, k7, t8, ldk, ldr, h14, hro]))
            try dsimp only
            refine ⟨rfl, 100 - (k + 1), by omega, k + 1, { s with cl := true }, ?_, by omega, by omega, hwk', hcm', ho5.own (by omega) (fun x hx hn => f6 x (fun e => hn (.inr (.inr (.inl e))))), oc6, (f6 0 (by omega)).trans b0, (f6 1 (by omega)).trans b1, (f6 d (by omega)).trans bd, by omega, rfl⟩
            (first | with_reducible rfl | (simp (disch := first | (with_unfolding_all first | exact Lk.mk rfl | exact Seen.of rfl) | assumption | (fail_if_success with_reducible first | refine Seen.of ?_ | apply Sl.frame | apply Ow.frame); omega) only [go_sem, Int.reduceEq, Int.reduceLE, Int.reduceLT, Int.reduceNe, Int.reduceNeg, Int.reduceAdd, Int.reduceSub, Int.reduceMul, Int.reduceToNat, Nat.reduceLT, Nat.reduceLeDiff, Nat.reduceEqDiff, Nat.reduceAdd, Nat.reduceSub, Nat.reduceMul, reduceCtorEq, reduceIte] <;> first | with_reducible rfl | (congr 1 <;> omega)))
          · refine vI ?_; repeat' (first
      | (with_reducible first | refine q_nn ?_ | refine q_nr ?_ | refine q_ne ?_ | refine q_en ?_ | refine q_er ?_ | refine q_es ?_ | refine q_gn ?_ | refine q_gr ?_ | refine q_ge ?_ | refine c_seq ?_ | refine c_block ?_ | refine c_scope ?_ | refine c_skip ?_ | refine c_label ?_ | refine c_ret ?_ | refine c_exit ?_ | (refine hK _ _ ?_; clear hK K) | refine seg_nil ?_) | ((with_reducible refine q_eo ?_ ?_); exact rfl)
      | ((with_reducible first | refine vO ?_ | refine c_reg fun K hK => ?_ | refine c_drw (by decide +kernel) fun K hK => ?_ | refine c_cond ?_ | refine seg_cons fun K hK => ?_ | show endW _ _ _ _ _ | refine ifb_dec (fun _ => ?_) (fun _ => ?_) | refine ifb_ieq (fun _ => ?_) (fun _ => ?_) | refine ifb_seq (fun _ => ?_) (fun _ => ?_)) <;> try simp (disch := first | (with_unfolding_all first | exact Lk.mk rfl | exact Seen.of rfl) | assumption | (fail_if_success with_reducible first | refine Seen.of ?_ | apply Sl.frame | apply Ow.frame); omega) only [go_sem, Int.reduceEq, Int.reduceLE, Int.reduceLT, Int.reduceNe, Int.reduceNeg, Int.reduceAdd, Int.reduceSub, Int.reduceMul, Int.reduceToNat, Nat.reduceLT, Nat.reduceLeDiff, Nat.reduceEqDiff, Nat.reduceAdd, Nat.reduceSub, Nat.reduceMul, reduceCtorEq, reduceIte, k0, k3, k4, k5, k6, k7, t8, Option.isSome_some, ldk, ldr, h14, hro, bd, ix1, ix2]))
            refine Try.wr4 oc5 true (by rfl) (by omega) (by simp) (by exact .mk) fun h6 oc6 z6 f6 => ?_
            obtain ⟨zc1, zc2⟩ := zc
            refine vI ?_; repeat' (first
      | (with_reducible first | refine q_nn ?_ | refine q_nr ?_ | refine q_ne ?_ | refine q_en ?_ | refine q_er ?_ | refine q_es ?_ | refine q_gn ?_ | refine q_gr ?_ | refine q_ge ?_ | refine c_seq ?_ | refine c_block ?_ | refine c_scope ?_ | refine c_skip ?_ | refine c_label ?_ | refine c_ret ?_ | refine c_exit ?_ | (refine hK _ _ ?_; clear hK K) | refine seg_nil ?_) | ((with_reducible refine q_eo ?_ ?_); exact rfl)
      | ((with_reducible first | refine vO ?_ | refine c_reg fun K hK => ?_ | refine c_drw (by decide +kernel) fun K hK => ?_ | refine c_cond ?_ | refine seg_cons fun K hK => ?_ | show endW _ _ _ _ _ | refine ifb_dec (fun _ => ?_) (fun _ => ?_) | refine ifb_ieq (fun _ => ?_) (fun _ => ?_) | refine ifb_seq (fun _ => ?_) (fun _ => ?_)) <;> try simp (disch := first | (with_unfolding_all first | exact Lk.mk rfl | exact Seen.of rfl) | assumption | (fail_if_success with_reducible first | refine Seen.of ?_ | apply Sl.frame | apply Ow.frame); omega) only [go_sem, Int.reduceEq, Int.reduceLE, Int.reduceLT, Int.reduceNe, Int.reduceNeg, Int.reduceAdd, Int.reduceSub, Int.reduceMul, Int.reduceToNat, Nat.reduceLT, Nat.reduceLeDiff, Nat.reduceEqDiff, Nat.reduceAdd, Nat.reduceSub, Nat.reduceMul, reduceCtorEq, reduceIte, k0, k3, k4, k5, k6, k7, t8, ldk, ldr, h14, hro]))
            try dsimp only
            refine ⟨rfl, 100 - (k + 1), by omega, k + 1, { s with sv := true }, ?_, by omega, by omega, hwk', hcm', ho5.own (by omega) (fun x hx hn => f6 x (fun e => hn (.inr (.inr (.inl e))))), oc6, (f6 0 (by omega)).trans b0, (f6 1 (by omega)).trans b1, (f6 d (by omega)).trans bd, by omega, rfl⟩
            (first | with_reducible rfl | (simp (disch := first | (with_unfolding_all first | exact Lk.mk rfl | exact Seen.of rfl) | assumption | (fail_if_success with_reducible first | refine Seen.of ?_ | apply Sl.frame | apply Ow.frame); omega) only [go_sem, Int.reduceEq, Int.reduceLE, Int.reduceLT, Int.reduceNe, Int.reduceNeg, Int.reduceAdd, Int.reduceSub, Int.reduceMul, Int.reduceToNat, Nat.reduceLT, Nat.reduceLeDiff, Nat.reduceEqDiff, Nat.reduceAdd, Nat.reduceSub, Nat.reduceMul, reduceCtorEq, reduceIte] <;> first | with_reducible rfl | (congr 1 <;> omega)))
        · obtain ⟨c1, c2, sh⟩ := sh2 h14
          clear sh1 sh2
          rcases sh with ⟨hro, hcc⟩ | ⟨hro, hcc⟩
          · have ldb : loadA Try.T h5 4 (a.at EB.sz 0 1) = some (.bool s.cl) := sl5.ld (by omega) (by simp) rfl (by decide) rfl rfl
            refine vI ?_; repeat' (first
      | (with_reducible first | refine q_nn ?_ | refine q_nr ?_ | refine q_ne ?_ | refine q_en ?_ | refine q_er ?_ | refine q_es ?_ | refine q_gn ?_ | refine q_gr ?_ | refine q_ge ?_ | refine c_seq ?_ | refine c_block ?_ | refine c_scope ?_ | refine c_skip ?_ | refine c_label ?_ | refine c_ret ?_ | refine c_exit ?_ | (refine hK _ _ ?_; clear hK K) | refine seg_nil ?_) | ((with_reducible refine q_eo ?_ ?_); exact rfl)
      | ((with_reducible first | refine vO ?_ | refine c_reg fun K hK => ?_ | refine c_drw (by decide +kernel) fun K hK => ?_ | refine c_cond ?_ | refine seg_cons fun K hK => ?_ | show endW _ _ _ _ _ | refine ifb_dec (fun _ => ?_) (fun _ => ?_) | refine ifb_ieq (fun _ => ?_) (fun _ => ?_) | refine ifb_seq (fun _ => ?_) (fun _ => ?_)) <;> try simp (disch := first | (with_unfolding_all first | exact Lk.mk rfl | exact Seen.of rfl) | assumption | (fail_if_success with_reducible first | refine Seen.of ?_ | apply Sl.frame | apply Ow.frame); omega) only [go_sem, Int.reduceEq, Int.reduceLE, Int.reduceLT, Int.reduceNe, Int.reduceNeg, Int.reduceAdd, Int.reduceSub, Int.reduceMul, Int.reduceToNat, Nat.reduceLT, Nat.reduceLeDiff, Nat.reduceEqDiff, Nat.reduceAdd, Nat.reduceSub, Nat.reduceMul, reduceCtorEq, reduceIte, k0, k3, k4, k5, k6, k7, t8, Option.isSome_some, ldk, ldr, h14, hro, bd, ix1, ix2, ldb, hcc]))
            try dsimp only
            refine ⟨rfl, 100 - (k + 1), by omega, k + 1, s', ?_, by omega, by omega, hwk', hcm', ho5, by rw [c1, c2]; exact oc5, b0, b1, bd, by omega, rfl⟩
            (first | with_reducible rfl | (simp (disch := first | (with_unfolding_all first | exact Lk.mk rfl | exact Seen.of rfl) | assumption | (fail_if_success with_reducible first | refine Seen.of ?_ | apply Sl.frame | apply Ow.frame); omega) only [go_sem, Int.reduceEq, Int.reduceLE, Int.reduceLT, Int.reduceNe, Int.reduceNeg, Int.reduceAdd, Int.reduceSub, Int.reduceMul, Int.reduceToNat, Nat.reduceLT, Nat.reduceLeDiff, Nat.reduceEqDiff, Nat.reduceAdd, Nat.reduceSub, Nat.reduceMul, reduceCtorEq, reduceIte] <;> first | with_reducible rfl | (congr 1 <;> omega)))
          · have ldb : loadA Try.T h5 4 (a.at EB.sz 0 2) = some (.bool s.sv) := sl5.ld (by omega) (by simp) rfl (by decide) rfl rfl
            refine vI ?_; repeat' (first
      | (with_reducible first | refine q_nn ?_ | refine q_nr ?_ | refine q_ne ?_ | refine q_en ?_ | refine q_er ?_ | refine q_es ?_ | refine q_gn ?_ | refine q_gr ?_ | refine q_ge ?_ | refine c_seq ?_ | refine c_block ?_ | refine c_scope ?_ | refine c_skip ?_ | refine c_label ?_ | refine c_ret ?_ | refine c_exit ?_ | (refine hK _ _ ?_; clear hK K) | refine seg_nil ?_) | ((with_reducible refine q_eo ?_ ?_); exact rfl)
      | ((with_reducible first | refine vO ?_ | refine c_reg fun K hK => ?_ | refine c_drw (by decide +kernel) fun K hK => ?_ | refine c_cond ?_ | refine seg_cons fun K hK => ?_ | show endW _ _ _ _ _ | refine ifb_dec (fun _ => ?_) (fun _ => ?_) | refine ifb_ieq (fun _ => ?_) (fun _ => ?_) | refine ifb_seq (fun _ => ?_) (fun _ => ?_)) <;> try simp (disch := first | (with_unfolding_all first | exact Lk.mk rfl | exact Seen.of rfl) | assumption | (fail_if_success with_reducible first | refine Seen.of ?_ | apply Sl.frame | apply Ow.frame); omega) only [go_sem, Int.reduceEq, Int.reduceLE, Int.reduceLT, Int.reduceNe, Int.reduceNeg, Int.reduceAdd, Int.reduceSub, Int.reduceMul, Int.reduceToNat, Nat.reduceLT, Nat.reduceLeDiff, Nat.reduceEqDiff, Nat.reduceAdd, Nat.reduceSub, Nat.reduceMul, reduceCtorEq, reduceIte, k0, k3, k4, k5, k6, k7, t8, Option.isSome_some, ldk, ldr, h14, hro, bd, ix1, ix2, ldb, hcc]))
            try dsimp only
            refine ⟨rfl, 100 - (k + 1), by omega, k + 1, s', ?_, by omega, by omega, hwk', hcm', ho5, by rw [c1, c2]; exact oc5, b0, b1, bd, by omega, rfl⟩
            (first | with_reducible rfl | (simp (disch := first | (with_unfolding_all first | exact Lk.mk rfl | exact Seen.of rfl) | assumption | (fail_if_success with_reducible first | refine Seen.of ?_ | apply Sl.frame | apply Ow.frame); omega) only [go_sem, Int.reduceEq, Int.reduceLE, Int.reduceLT, Int.reduceNe, Int.reduceNeg, Int.reduceAdd, Int.reduceSub, Int.reduceMul, Int.reduceToNat, Nat.reduceLT, Nat.reduceLeDiff, Nat.reduceEqDiff, Nat.reduceAdd, Nat.reduceSub, Nat.reduceMul, reduceCtorEq, reduceIte] <;> first | with_reducible rfl | (congr 1 <;> omega)))
    · obtain ⟨Oc, hc4, hF4⟩ := ho4
      obtain ⟨sl, g, bs, hcp, hpp, op, hbn, hrp⟩ := hc4.fix
      have hsl := hwk.2
      obtain ⟨zc1, zc2⟩ := zc
      by_cases hc2 : k < ns.length
      all_goals
        repeat' (first
      | (with_reducible first | refine q_nn ?_ | refine q_nr ?_ | refine q_ne ?_ | refine q_en ?_ | refine q_er ?_ | refine q_es ?_ | refine q_gn ?_ | refine q_gr ?_ | refine q_ge ?_ | refine c_seq ?_ | refine c_block ?_ | refine c_scope ?_ | refine c_skip ?_ | refine c_label ?_ | refine c_ret ?_ | refine c_exit ?_ | (refine hK _ _ ?_; clear hK K) | refine seg_nil ?_) | ((with_reducible refine q_eo ?_ ?_); exact rfl)
      | ((with_reducible first | refine c_reg fun K hK => ?_ | refine c_drw (by decide +kernel) fun K hK => ?_ | refine c_cond ?_ | refine seg_cons fun K hK => ?_ | show endW _ _ _ _ _ | refine ifb_dec (fun _ => ?_) (fun _ => ?_) | refine ifb_ieq (fun _ => ?_) (fun _ => ?_) | refine ifb_seq (fun _ => ?_) (fun _ => ?_)) <;> try simp (disch := first | (with_unfolding_all first | exact Lk.mk rfl | exact Seen.of rfl) | assumption | (fail_if_success with_reducible first | refine Seen.of ?_ | apply Sl.frame | apply Ow.frame); omega) only [go_sem, Int.reduceEq, Int.reduceLE, Int.reduceLT, Int.reduceNe, Int.reduceNeg, Int.reduceAdd, Int.reduceSub, Int.reduceMul, Int.reduceToNat, Nat.reduceLT, Nat.reduceLeDiff, Nat.reduceEqDiff, Nat.reduceAdd, Nat.reduceSub, Nat.reduceMul, reduceCtorEq, reduceIte, k0, k3, k4, k5, k6, k7, t8]))
        refine callM_of (allC p h4) ?_
        rintro v h6 ⟨rfl, hh6⟩
        have z6 : h6.size = h4.size + 1 := by rw [hh6]; simp (disch := first | (with_unfolding_all first | exact Lk.mk rfl | exact Seen.of rfl) | assumption | (fail_if_success with_reducible first | refine Seen.of ?_ | apply Sl.frame | apply Ow.frame); omega) only [go_sem, Int.reduceEq, Int.reduceLE, Int.reduceLT, Int.reduceNe, Int.reduceNeg, Int.reduceAdd, Int.reduceSub, Int.reduceMul, Int.reduceToNat, Nat.reduceLT, Nat.reduceLeDiff, Nat.reduceEqDiff, Nat.reduceAdd, Nat.reduceSub, Nat.reduceMul, reduceCtorEq, reduceIte]
        have c6 : h6.get h4.size = some (.cells [.ptr (some (p, 0))]) := by rw [hh6]; simp (disch := first | (with_unfolding_all first | exact Lk.mk rfl | exact Seen.of rfl) | assumption | (fail_if_success with_reducible first | refine Seen.of ?_ | apply Sl.frame | apply Ow.frame); omega) only [go_sem, Int.reduceEq, Int.reduceLE, Int.reduceLT, Int.reduceNe, Int.reduceNeg, Int.reduceAdd, Int.reduceSub, Int.reduceMul, Int.reduceToNat, Nat.reduceLT, Nat.reduceLeDiff, Nat.reduceEqDiff, Nat.reduceAdd, Nat.reduceSub, Nat.reduceMul, reduceCtorEq, reduceIte]
        have f6 : ∀ b, b < h4.size → h6.get b = h4.get b := fun b hb => by rw [hh6, AH.get_push, if_neg (by omega)]
        clear hh6
        refine vI ?_; repeat' (first
      | (with_reducible first | refine q_nn ?_ | refine q_nr ?_ | refine q_ne ?_ | refine q_en ?_ | refine q_er ?_ | refine q_es ?_ | refine q_gn ?_ | refine q_gr ?_ | refine q_ge ?_ | refine c_seq ?_ | refine c_block ?_ | refine c_scope ?_ | refine c_skip ?_ | refine c_label ?_ | refine c_ret ?_ | refine c_exit ?_ | (refine hK _ _ ?_; clear hK K) | refine seg_nil ?_) | ((with_reducible refine q_eo ?_ ?_); exact rfl)
      | ((with_reducible first | refine vO ?_ | refine c_reg fun K hK => ?_ | refine c_drw (by decide +kernel) fun K hK => ?_ | refine c_cond ?_ | refine seg_cons fun K hK => ?_ | show endW _ _ _ _ _ | refine ifb_dec (fun _ => ?_) (fun _ => ?_) | refine ifb_ieq (fun _ => ?_) (fun _ => ?_) | refine ifb_seq (fun _ => ?_) (fun _ => ?_)) <;> try simp (disch := first | (with_unfolding_all first | exact Lk.mk rfl | exact Seen.of rfl) | assumption | (fail_if_success with_reducible first | refine Seen.of ?_ | apply Sl.frame | apply Ow.frame); omega) only [go_sem, Int.reduceEq, Int.reduceLE, Int.reduceLT, Int.reduceNe, Int.reduceNeg, Int.reduceAdd, Int.reduceSub, Int.reduceMul, Int.reduceToNat, Nat.reduceLT, Nat.reduceLeDiff, Nat.reduceEqDiff, Nat.reduceAdd, Nat.reduceSub, Nat.reduceMul, reduceCtorEq, reduceIte, k0, k3, k4, k5, k6, k7, t8]))
        refine codeW_base fun tr3 ho3 => ?_
        have q3 := ho3 3 (Seen.of rfl); simp (disch := first | (with_unfolding_all first | exact Lk.mk rfl | exact Seen.of rfl) | assumption | (fail_if_success with_reducible first | refine Seen.of ?_ | apply Sl.frame | apply Ow.frame); omega) only [go_sem, Int.reduceEq, Int.reduceLE, Int.reduceLT, Int.reduceNe, Int.reduceNeg, Int.reduceAdd, Int.reduceSub, Int.reduceMul, Int.reduceToNat, Nat.reduceLT, Nat.reduceLeDiff, Nat.reduceEqDiff, Nat.reduceAdd, Nat.reduceSub, Nat.reduceMul, reduceCtorEq, reduceIte, k0, k3, k4, k5, k6, k7, t8] at q3; have q4 := ho3 4 (Seen.of rfl); simp (disch := first | (with_unfolding_all first | exact Lk.mk rfl | exact Seen.of rfl) | assumption | (fail_if_success with_reducible first | refine Seen.of ?_ | apply Sl.frame | apply Ow.frame); omega) only [go_sem, Int.reduceEq, Int.reduceLE, Int.reduceLT, Int.reduceNe, Int.reduceNeg, Int.reduceAdd, Int.reduceSub, Int.reduceMul, Int.reduceToNat, Nat.reduceLT, Nat.reduceLeDiff, Nat.reduceEqDiff, Nat.reduceAdd, Nat.reduceSub, Nat.reduceMul, reduceCtorEq, reduceIte, k0, k3, k4, k5, k6, k7, t8] at q4; have q5 := ho3 5 (Seen.of rfl); simp (disch := first | (with_unfolding_all first | exact Lk.mk rfl | exact Seen.of rfl) | assumption | (fail_if_success with_reducible first | refine Seen.of ?_ | apply Sl.frame | apply Ow.frame); omega) only [go_sem, Int.reduceEq, Int.reduceLE, Int.reduceLT, Int.reduceNe, Int.reduceNeg, Int.reduceAdd, Int.reduceSub, Int.reduceMul, Int.reduceToNat, Nat.reduceLT, Nat.reduceLeDiff, Nat.reduceEqDiff, Nat.reduceAdd, Nat.reduceSub, Nat.reduceMul, reduceCtorEq, reduceIte, k0, k3, k4, k5, k6, k7, t8] at q5; have q6 := ho3 6 (Seen.of rfl); simp (disch := first | (with_unfolding_all first | exact Lk.mk rfl | exact Seen.of rfl) | assumption | (fail_if_success with_reducible first | refine Seen.of ?_ | apply Sl.frame | apply Ow.frame); omega) only [go_sem, Int.reduceEq, Int.reduceLE, Int.reduceLT, Int.reduceNe, Int.reduceNeg, Int.reduceAdd, Int.reduceSub, Int.reduceMul, Int.reduceToNat, Nat.reduceLT, Nat.reduceLeDiff, Nat.reduceEqDiff, Nat.reduceAdd, Nat.reduceSub, Nat.reduceMul, reduceCtorEq, reduceIte, k0, k3, k4, k5, k6, k7, t8] at q6; have q7 := ho3 7 (Seen.of rfl); simp (disch := first | (with_unfolding_all first | exact Lk.mk rfl | exact Seen.of rfl) | assumption | (fail_if_success with_reducible first | refine Seen.of ?_ | apply Sl.frame | apply Ow.frame); omega) only [go_sem, Int.reduceEq, Int.reduceLE, Int.reduceLT, Int.reduceNe, Int.reduceNeg, Int.reduceAdd, Int.reduceSub, Int.reduceMul, Int.reduceToNat, Nat.reduceLT, Nat.reduceLeDiff, Nat.reduceEqDiff, Nat.reduceAdd, Nat.reduceSub, Nat.reduceMul, reduceCtorEq, reduceIte, k0, k3, k4, k5, k6, k7, t8] at q7; have q76 := ho3 76 (Seen.of rfl); simp (disch := first | (with_unfolding_all first | exact Lk.mk rfl | exact Seen.of rfl) | assumption | (fail_if_success with_reducible first | refine Seen.of ?_ | apply Sl.frame | apply Ow.frame); omega) only [go_sem, Int.reduceEq, Int.reduceLE, Int.reduceLT, Int.reduceNe, Int.reduceNeg, Int.reduceAdd, Int.reduceSub, Int.reduceMul, Int.reduceToNat, Nat.reduceLT, Nat.reduceLeDiff, Nat.reduceEqDiff, Nat.reduceAdd, Nat.reduceSub, Nat.reduceMul, reduceCtorEq, reduceIte, k0, k3, k4, k5, k6, k7, t8] at q76
        refine c_rangeR (g := 25) (cap := [.ptr (some (h4.size, 0))]) (by simp (disch := first | (with_unfolding_all first | exact Lk.mk rfl | exact Seen.of rfl) | assumption | (fail_if_success with_reducible first | refine Seen.of ?_ | apply Sl.frame | apply Ow.frame); omega) only [go_sem, Int.reduceEq, Int.reduceLE, Int.reduceLT, Int.reduceNe, Int.reduceNeg, Int.reduceAdd, Int.reduceSub, Int.reduceMul, Int.reduceToNat, Nat.reduceLT, Nat.reduceLeDiff, Nat.reduceEqDiff, Nat.reduceAdd, Nat.reduceSub, Nat.reduceMul, reduceCtorEq, reduceIte, q76]) fun R hR => ?_
        have z7 : ((h6.push (.defs false)).push R).size = h6.size + 2 := by simp (disch := first | (with_unfolding_all first | exact Lk.mk rfl | exact Seen.of rfl) | assumption | (fail_if_success with_reducible first | refine Seen.of ?_ | apply Sl.frame | apply Ow.frame); omega) only [go_sem, Int.reduceEq, Int.reduceLE, Int.reduceLT, Int.reduceNe, Int.reduceNeg, Int.reduceAdd, Int.reduceSub, Int.reduceMul, Int.reduceToNat, Nat.reduceLT, Nat.reduceLeDiff, Nat.reduceEqDiff, Nat.reduceAdd, Nat.reduceSub, Nat.reduceMul, reduceCtorEq, reduceIte]
        have f7 : ∀ b, b < h4.size → ((h6.push (.defs false)).push R).get b = h4.get b := fun b hb => by
          rw [← f6 b (by omega)]; simp (disch := first | (with_unfolding_all first | exact Lk.mk rfl | exact Seen.of rfl) | assumption | (fail_if_success with_reducible first | refine Seen.of ?_ | apply Sl.frame | apply Ow.frame); omega) only [go_sem, Int.reduceEq, Int.reduceLE, Int.reduceLT, Int.reduceNe, Int.reduceNeg, Int.reduceAdd, Int.reduceSub, Int.reduceMul, Int.reduceToNat, Nat.reduceLT, Nat.reduceLeDiff, Nat.reduceEqDiff, Nat.reduceAdd, Nat.reduceSub, Nat.reduceMul, reduceCtorEq, reduceIte]
        have g8 : ((h6.push (.defs false)).push R).get h4.size = some (.cells [.ptr (some (p, 0))]) := by
          rw [← c6]; simp (disch := first | (with_unfolding_all first | exact Lk.mk rfl | exact Seen.of rfl) | assumption | (fail_if_success with_reducible first | refine Seen.of ?_ | apply Sl.frame | apply Ow.frame); omega) only [go_sem, Int.reduceEq, Int.reduceLE, Int.reduceLT, Int.reduceNe, Int.reduceNeg, Int.reduceAdd, Int.reduceSub, Int.reduceMul, Int.reduceToNat, Nat.reduceLT, Nat.reduceLeDiff, Nat.reduceEqDiff, Nat.reduceAdd, Nat.reduceSub, Nat.reduceMul, reduceCtorEq, reduceIte]
        have g9 : ((h6.push (.defs false)).push R).get (h6.size + 1) = some R := by simp (disch := first | (with_unfolding_all first | exact Lk.mk rfl | exact Seen.of rfl) | assumption | (fail_if_success with_reducible first | refine Seen.of ?_ | apply Sl.frame | apply Ow.frame); omega) only [go_sem, Int.reduceEq, Int.reduceLE, Int.reduceLT, Int.reduceNe, Int.reduceNeg, Int.reduceAdd, Int.reduceSub, Int.reduceMul, Int.reduceToNat, Nat.reduceLT, Nat.reduceLeDiff, Nat.reduceEqDiff, Nat.reduceAdd, Nat.reduceSub, Nat.reduceMul, reduceCtorEq, reduceIte]
        have g10 : ((h6.push (.defs false)).push R).get h6.size = some (.defs false) := by simp (disch := first | (with_unfolding_all first | exact Lk.mk rfl | exact Seen.of rfl) | assumption | (fail_if_success with_reducible first | refine Seen.of ?_ | apply Sl.frame | apply Ow.frame); omega) only [go_sem, Int.reduceEq, Int.reduceLE, Int.reduceLT, Int.reduceNe, Int.reduceNeg, Int.reduceAdd, Int.reduceSub, Int.reduceMul, Int.reduceToNat, Nat.reduceLT, Nat.reduceLeDiff, Nat.reduceEqDiff, Nat.reduceAdd, Nat.reduceSub, Nat.reduceMul, reduceCtorEq, reduceIte]
        generalize (h6.push (.defs false)).push R = h7 at *
        clear f6 c6
        have old : ∀ h : AH, (∀ b, b < h7.size → ¬ b = h6.size + 1 → h.get b = h7.get b) → ∀ b, b < h4.size → h.get b = h4.get b := fun h hf b hb => by rw [hf b (by omega) (by omega), f7 b hb]
        refine callW_mono (ledIter _ h4.size p s sl g bs h7
          (fun h => h7.size ≤ h.size ∧ (∀ b, b < h7.size → ¬ b = h6.size + 1 → h.get b = h7.get b) ∧ h.get (h6.size + 1) = some R)
          (fun k h => h7.size ≤ h.size ∧ (∀ b, b < h7.size → ¬ b = h6.size + 1 → h.get b = h7.get b) ∧ h.get (h6.size + 1) = some R) (by omega) hbn ?_ ?_ ?_ (fun h hh => hh)) ?_
        · rintro j h ⟨hz, hf, -⟩
          have ho := old h hf
          refine ⟨(hf _ (by omega) (by omega)).trans g8, (ho p hpp).trans hcp, op.frame (fun i hi => ho i (op.lt hi)) (by omega), fun j2 r b h1 h2 => ?_⟩
          obtain ⟨v1, v2, v3, v4, a1, a2⟩ := hrp j2 r b h1 h2
          exact ⟨v1, v2, v3, v4, (ho b a2).trans a1, by omega⟩
        · exact ⟨Nat.le_refl _, fun b _ _ => rfl, g9⟩
        · rintro j h1 r hrk ⟨hz, hf, hRj⟩
          have ho := old h1 hf
          refine y_roundR hR hRj (setAll_two .mk .mk) ?_
          refine codeW_hide fun Q1 hQ1 => ?_
          repeat' (first
      | (with_reducible first | refine q_nn ?_ | refine q_nr ?_ | refine q_ne ?_ | refine q_en ?_ | refine q_er ?_ | refine q_es ?_ | refine q_gn ?_ | refine q_gr ?_ | refine q_ge ?_ | refine c_seq ?_ | refine c_block ?_ | refine c_scope ?_ | refine c_skip ?_ | refine c_label ?_ | refine c_ret ?_ | refine c_exit ?_ | (refine hK _ _ ?_; clear hK K) | refine seg_nil ?_) | ((with_reducible refine q_eo ?_ ?_); exact rfl)
      | ((with_reducible first | refine c_reg fun K hK => ?_ | refine c_drw (by decide +kernel) fun K hK => ?_ | refine c_cond ?_ | refine seg_cons fun K hK => ?_ | show endW _ _ _ _ _ | refine ifb_dec (fun _ => ?_) (fun _ => ?_) | refine ifb_ieq (fun _ => ?_) (fun _ => ?_) | refine ifb_seq (fun _ => ?_) (fun _ => ?_)) <;> try simp (disch := first | (with_unfolding_all first | exact Lk.mk rfl | exact Seen.of rfl) | assumption | (fail_if_success with_reducible first | refine Seen.of ?_ | apply Sl.frame | apply Ow.frame); omega) only [go_sem, Int.reduceEq, Int.reduceLE, Int.reduceLT, Int.reduceNe, Int.reduceNeg, Int.reduceAdd, Int.reduceSub, Int.reduceMul, Int.reduceToNat, Nat.reduceLT, Nat.reduceLeDiff, Nat.reduceEqDiff, Nat.reduceAdd, Nat.reduceSub, Nat.reduceMul, reduceCtorEq, reduceIte]))
          refine hQ1 _ _ ?_
          clear hQ1 Q1
          refine ⟨rfl, hRj, fun hb zb fb lb => ?_⟩
          dsimp only at zb fb
          have oh : ∀ b, b < h4.size → hb.get b = h4.get b := fun b hb2 => (fb b (by omega)).trans (ho b hb2)
          have xd := (oh d zd).trans bd
          have ocb := oc.frame (h' := hb) (fun hi => oh c hi) (by omega)
          have slb := ocb.sl
          have ix1 : idxA Try.T 55 a (.int .i64 1) = some (a.at EB.sz 0 1) := Try.ix55 slb (by omega) (by simp) .mk
          have ldb : loadA Try.T hb 4 (a.at EB.sz 0 1) = some (.bool s.cl) := slb.ld (by omega) (by simp) rfl (by decide) rfl rfl
          have hnv : s.cl = true → ¬ r.verdict = 1 := fun h e => by
            have := hcm h
            rw [pend_some hrk e] at this; cases this
          refine codeW_hide fun Q2 hQ2 => ?_
          cases hcl : s.cl with
          | false =>
            rw [hcl] at ldb
            repeat' (first
      | (with_reducible first | refine q_nn ?_ | refine q_nr ?_ | refine q_ne ?_ | refine q_en ?_ | refine q_er ?_ | refine q_es ?_ | refine q_gn ?_ | refine q_gr ?_ | refine q_ge ?_ | refine c_seq ?_ | refine c_block ?_ | refine c_scope ?_ | refine c_skip ?_ | refine c_label ?_ | refine c_ret ?_ | refine c_exit ?_ | (refine hK _ _ ?_; clear hK K) | refine seg_nil ?_) | ((with_reducible refine q_eo ?_ ?_); exact rfl)
      | ((with_reducible first | refine c_reg fun K hK => ?_ | refine c_drw (by decide +kernel) fun K hK => ?_ | refine c_cond ?_ | refine seg_cons fun K hK => ?_ | show endW _ _ _ _ _ | refine ifb_dec (fun _ => ?_) (fun _ => ?_) | refine ifb_ieq (fun _ => ?_) (fun _ => ?_) | refine ifb_seq (fun _ => ?_) (fun _ => ?_)) <;> try simp (disch := first | (with_unfolding_all first | exact Lk.mk rfl | exact Seen.of rfl) | assumption | (fail_if_success with_reducible first | refine Seen.of ?_ | apply Sl.frame | apply Ow.frame); omega) only [go_sem, Int.reduceEq, Int.reduceLE, Int.reduceLT, Int.reduceNe, Int.reduceNeg, Int.reduceAdd, Int.reduceSub, Int.reduceMul, Int.reduceToNat, Nat.reduceLT, Nat.reduceLeDiff, Nat.reduceEqDiff, Nat.reduceAdd, Nat.reduceSub, Nat.reduceMul, reduceCtorEq, reduceIte, xd, ix1, ldb, q3, q4, q5, q6, q7]))
            refine hQ2 _ _ ?_
            refine ⟨lb, fun hx zx fx lx => .inl ⟨rfl, ?_, fun b b1 b2 => ?_, lx.trans (congrArg some (AO.fin_normal hR))⟩⟩
            · dsimp only at zx; omega
            · dsimp only at fx; rw [fx b b2, fb b b2, hf b b1 b2]
          | true =>
            rw [hcl] at ldb
            have hv := hnv hcl
            repeat' (first
      | (with_reducible first | refine q_nn ?_ | refine q_nr ?_ | refine q_ne ?_ | refine q_en ?_ | refine q_er ?_ | refine q_es ?_ | refine q_gn ?_ | refine q_gr ?_ | refine q_ge ?_ | refine c_seq ?_ | refine c_block ?_ | refine c_scope ?_ | refine c_skip ?_ | refine c_label ?_ | refine c_ret ?_ | refine c_exit ?_ | (refine hK _ _ ?_; clear hK K) | refine seg_nil ?_) | ((with_reducible refine q_eo ?_ ?_); exact rfl)
      | ((with_reducible first | refine c_reg fun K hK => ?_ | refine c_drw (by decide +kernel) fun K hK => ?_ | refine c_cond ?_ | refine seg_cons fun K hK => ?_ | show endW _ _ _ _ _ | refine ifb_dec (fun _ => ?_) (fun _ => ?_) | refine ifb_ieq (fun _ => ?_) (fun _ => ?_) | refine ifb_seq (fun _ => ?_) (fun _ => ?_)) <;> try simp (disch := first | (with_unfolding_all first | exact Lk.mk rfl | exact Seen.of rfl) | assumption | (fail_if_success with_reducible first | refine Seen.of ?_ | apply Sl.frame | apply Ow.frame); omega) only [go_sem, Int.reduceEq, Int.reduceLE, Int.reduceLT, Int.reduceNe, Int.reduceNeg, Int.reduceAdd, Int.reduceSub, Int.reduceMul, Int.reduceToNat, Nat.reduceLT, Nat.reduceLeDiff, Nat.reduceEqDiff, Nat.reduceAdd, Nat.reduceSub, Nat.reduceMul, reduceCtorEq, reduceIte, xd, ix1, ldb, q3, q4, q5, q6, q7]))
            refine hQ2 _ _ ?_
            refine ⟨lb, fun hx zx fx lx => .inl ⟨rfl, ?_, fun b b1 b2 => ?_, lx.trans (congrArg some (AO.fin_normal hR))⟩⟩
            · dsimp only at zx; omega
            · dsimp only at fx; rw [fx b b2, fb b b2, hf b b1 b2]
        · rintro _ hh ⟨hz, hf, hRj⟩
          have ho := old hh hf
          refine EndR_fin (e := .normal) hR (by rw [AO.fin_normal hR]; exact hRj) ?_
          have oz : ∀ b, b < h4.size → (hh.set (h6.size + 1) .dead).get b = h4.get b := fun b hb => by rw [AH.get_set, if_neg (by omega), ho b hb]
          have xm : (hh.set (h6.size + 1) .dead).get h6.size = some (.defs false) := by rw [AH.get_set, if_neg (by omega), hf h6.size (by omega) (by omega)]; exact g10
          have zz : (hh.set (h6.size + 1) .dead).size = hh.size := by simp (disch := first | (with_unfolding_all first | exact Lk.mk rfl | exact Seen.of rfl) | assumption | (fail_if_success with_reducible first | refine Seen.of ?_ | apply Sl.frame | apply Ow.frame); omega) only [go_sem, Int.reduceEq, Int.reduceLE, Int.reduceLT, Int.reduceNe, Int.reduceNeg, Int.reduceAdd, Int.reduceSub, Int.reduceMul, Int.reduceToNat, Nat.reduceLT, Nat.reduceLeDiff, Nat.reduceEqDiff, Nat.reduceAdd, Nat.reduceSub, Nat.reduceMul, reduceCtorEq, reduceIte]
          generalize hh.set (h6.size + 1) .dead = hy at *
          have x0 := (oz 0 (by omega)).trans b0
          have x1 := (oz 1 (by omega)).trans b1
          have xd := (oz d zd).trans bd
          have ocy := oc.frame (h' := hy) (fun hi => oz c hi) (by omega)
          have ho4 : One (fun b => b = 0 ∨ b = 1 ∨ b = c ∨ b = d) h4 p s := ⟨Oc, hc4, hF4⟩
          have hoy := ho4.keep (F' := fun b => b = 0 ∨ b = 1 ∨ b = c ∨ b = d ∨ b = h6.size) ⟨by omega, oz⟩ (fun x hx => by omega)
          repeat' (first
      | (with_reducible first | refine q_nn ?_ | refine q_nr ?_ | refine q_ne ?_ | refine q_en ?_ | refine q_er ?_ | refine q_es ?_ | refine q_gn ?_ | refine q_gr ?_ | refine q_ge ?_ | refine c_seq ?_ | refine c_block ?_ | refine c_scope ?_ | refine c_skip ?_ | refine c_label ?_ | refine c_ret ?_ | refine c_exit ?_ | (refine hK _ _ ?_; clear hK K) | refine seg_nil ?_) | ((with_reducible refine q_eo ?_ ?_); exact rfl)
      | ((with_reducible first | refine c_reg fun K hK => ?_ | refine c_drw (by decide +kernel) fun K hK => ?_ | refine c_cond ?_ | refine seg_cons fun K hK => ?_ | show endW _ _ _ _ _ | refine ifb_dec (fun _ => ?_) (fun _ => ?_) | refine ifb_ieq (fun _ => ?_) (fun _ => ?_) | refine ifb_seq (fun _ => ?_) (fun _ => ?_)) <;> try simp (disch := first | (with_unfolding_all first | exact Lk.mk rfl | exact Seen.of rfl) | assumption | (fail_if_success with_reducible first | refine Seen.of ?_ | apply Sl.frame | apply Ow.frame); omega) only [go_sem, Int.reduceEq, Int.reduceLE, Int.reduceLT, Int.reduceNe, Int.reduceNeg, Int.reduceAdd, Int.reduceSub, Int.reduceMul, Int.reduceToNat, Nat.reduceLT, Nat.reduceLeDiff, Nat.reduceEqDiff, Nat.reduceAdd, Nat.reduceSub, Nat.reduceMul, reduceCtorEq, reduceIte, x0, x1, xd, q3, q4, q5, q6, q7]))
          refine c_loopM 1267573228975774065229522034688 (fun m tm mk h => ∃ (j : Nat) (r0 : Int), tm.get 13 = .int .i64 j ∧ 1 ≤ j ∧ j ≤ 3 ∧ h.get 0 = some (.cells (nC { mo with role := r0 })) ∧ h.get 1 = some (.cells [.bool false]) ∧ h.get d = some (.cells [a]) ∧ Ow EB h c a [false, s.cl, s.sv] ∧ One (fun b => b = 0 ∨ b = 1 ∨ b = c ∨ b = d ∨ b = h6.size) h p s ∧ mk = [h6.size] ∧ h.get h6.size = some (.defs false) ∧ m = 4 - j) (3) (by kernel_rfl) ?_ ?_
          · refine ⟨1, mo.role, ?_, by omega, by omega, x0, x1, xd, ocy, hoy, rfl, xm, rfl⟩
            (first | with_reducible rfl | (simp (disch := first | (with_unfolding_all first | exact Lk.mk rfl | exact Seen.of rfl) | assumption | (fail_if_success with_reducible first | refine Seen.of ?_ | apply Sl.frame | apply Ow.frame); omega) only [go_sem, Int.reduceEq, Int.reduceLE, Int.reduceLT, Int.reduceNe, Int.reduceNeg, Int.reduceAdd, Int.reduceSub, Int.reduceMul, Int.reduceToNat, Nat.reduceLT, Nat.reduceLeDiff, Nat.reduceEqDiff, Nat.reduceAdd, Nat.reduceSub, Nat.reduceMul, reduceCtorEq, reduceIte] <;> first | with_reducible rfl | (congr 1 <;> omega)))
          · rintro m tr4 mks hz1 ho5 ⟨j, r0, t13, hj1, hj3, y0, y1, yd, ocz, hoz, rfl, ym, rfl⟩
            have u3 := ho5 3 (Seen.of rfl); simp (disch := first | (with_unfolding_all first | exact Lk.mk rfl | exact Seen.of rfl) | assumption | (fail_if_success with_reducible first | refine Seen.of ?_ | apply Sl.frame | apply Ow.frame); omega) only [go_sem, Int.reduceEq, Int.reduceLE, Int.reduceLT, Int.reduceNe, Int.reduceNeg, Int.reduceAdd, Int.reduceSub, Int.reduceMul, Int.reduceToNat, Nat.reduceLT, Nat.reduceLeDiff, Nat.reduceEqDiff, Nat.reduceAdd, Nat.reduceSub, Nat.reduceMul, reduceCtorEq, reduceIte, q3, q4, q5, q6, q7] at u3; have u4 := ho5 4 (Seen.of rfl); simp (disch := first | (with_unfolding_all first | exact Lk.mk rfl | exact Seen.of rfl) | assumption | (fail_if_success with_reducible first | refine Seen.of ?_ | apply Sl.frame | apply Ow.frame); omega) only [go_sem, Int.reduceEq, Int.reduceLE, Int.reduceLT, Int.reduceNe, Int.reduceNeg, Int.reduceAdd, Int.reduceSub, Int.reduceMul, Int.reduceToNat, Nat.reduceLT, Nat.reduceLeDiff, Nat.reduceEqDiff, Nat.reduceAdd, Nat.reduceSub, Nat.reduceMul, reduceCtorEq, reduceIte, q3, q4, q5, q6, q7] at u4; have u5 := ho5 5 (Seen.of rfl); simp (disch := first | (with_unfolding_all first | exact Lk.mk rfl | exact Seen.of rfl) | assumption | (fail_if_success with_reducible first | refine Seen.of ?_ | apply Sl.frame | apply Ow.frame); omega) only [go_sem, Int.reduceEq, Int.reduceLE, Int.reduceLT, Int.reduceNe, Int.reduceNeg, Int.reduceAdd, Int.reduceSub, Int.reduceMul, Int.reduceToNat, Nat.reduceLT, Nat.reduceLeDiff, Nat.reduceEqDiff, Nat.reduceAdd, Nat.reduceSub, Nat.reduceMul, reduceCtorEq, reduceIte, q3, q4, q5, q6, q7] at u5; have u6 := ho5 6 (Seen.of rfl); simp (disch := first | (with_unfolding_all first | exact Lk.mk rfl | exact Seen.of rfl) | assumption | (fail_if_success with_reducible first | refine Seen.of ?_ | apply Sl.frame | apply Ow.frame); omega) only [go_sem, Int.reduceEq, Int.reduceLE, Int.reduceLT, Int.reduceNe, Int.reduceNeg, Int.reduceAdd, Int.reduceSub, Int.reduceMul, Int.reduceToNat, Nat.reduceLT, Nat.reduceLeDiff, Nat.reduceEqDiff, Nat.reduceAdd, Nat.reduceSub, Nat.reduceMul, reduceCtorEq, reduceIte, q3, q4, q5, q6, q7] at u6; have u7 := ho5 7 (Seen.of rfl); simp (disch := first | (with_unfolding_all first | exact Lk.mk rfl | exact Seen.of rfl) | assumption | (fail_if_success with_reducible first | refine Seen.of ?_ | apply Sl.frame | apply Ow.frame); omega) only [go_sem, Int.reduceEq, Int.reduceLE, Int.reduceLT, Int.reduceNe, Int.reduceNeg, Int.reduceAdd, Int.reduceSub, Int.reduceMul, Int.reduceToNat, Nat.reduceLT, Nat.reduceLeDiff, Nat.reduceEqDiff, Nat.reduceAdd, Nat.reduceSub, Nat.reduceMul, reduceCtorEq, reduceIte, q3, q4, q5, q6, q7] at u7
            unfold nC at y0
            by_cases hj : j < 3
            · have ixj : idxA Try.T 55 a (.int .i64 (j : Int)) = some (a.at EB.sz 0 (j : Int)) := Try.ix55 ocz.sl (by omega) (by simp; omega) .mk
              obtain ⟨cj, ldb, hsh⟩ : ∃ cj, (∀ o, loadA Try.T (hz1.set 0 o) 4 (a.at EB.sz 0 (j : Int)) = some (.bool cj)) ∧ (cj = true → noteC s { mo with role := (j : Int) } = none) := by
                have oco : ∀ o, Sl EB (hz1.set 0 o) c a [false, s.cl, s.sv] := fun o => (ocz.frame (h' := hz1.set 0 o) (fun hi => by rw [AH.get_set, if_neg (by omega)]) (by simp)).sl
                have hj12 : j = 1 ∨ j = 2 := by omega
                rcases hj12 with e | e
                · subst e
                  exact ⟨s.cl, fun o => (oco o).ld (by omega) (by simp) rfl (by decide) rfl rfl, fun h => noteC_shut (.inl ⟨rfl, h⟩)⟩
                · subst e
                  exact ⟨s.sv, fun o => (oco o).ld (by omega) (by simp) rfl (by decide) rfl rfl, fun h => noteC_shut (.inr ⟨rfl, h⟩)⟩
              have hos : ∀ o, One (fun b => b = 0 ∨ b = 1 ∨ b = c ∨ b = d ∨ b = h6.size) (hz1.set 0 o) p s := fun o => hoz.own (by simp) (fun x hx hn => by rw [AH.get_set, if_neg (fun e => hn (.inl e))])
              have w1 : ∀ h, NtOk h { mo with role := (j : Int) } := mw1
              have y0s : 0 < hz1.size := by
                obtain ⟨_, _, hF⟩ := hoz
                exact (hF 0 (.inl rfl)).1
              have eqs : ∀ o, (hz1.set 0 o).get 0 = some o ∧ (hz1.set 0 o).get 1 = some (.cells [.bool false]) ∧ (hz1.set 0 o).get d = some (.cells [a]) ∧ Ow EB (hz1.set 0 o) c a [false, s.cl, s.sv] ∧ (hz1.set 0 o).get h6.size = some (.defs false) := fun o => ⟨by rw [AH.get_set, if_pos rfl], by rw [AH.get_set, if_neg (by omega)]; exact y1, by rw [AH.get_set, if_neg (by omega)]; exact yd, ocz.frame (fun hi => by rw [AH.get_set, if_neg (by omega)]) (by simp), by rw [AH.get_set, if_neg (by omega)]; exact ym⟩
              cases cj with
              | false =>
                repeat' (first
      | (with_reducible first | refine q_nn ?_ | refine q_nr ?_ | refine q_ne ?_ | refine q_en ?_ | refine q_er ?_ | refine q_es ?_ | refine q_gn ?_ | refine q_gr ?_ | refine q_ge ?_ | refine c_seq ?_ | refine c_block ?_ | refine c_scope ?_ | refine c_skip ?_ | refine c_label ?_ | refine c_ret ?_ | refine c_exit ?_ | (refine hK _ _ ?_; clear hK K) | refine seg_nil ?_) | ((with_reducible refine q_eo ?_ ?_); exact rfl)
      | ((with_reducible first | refine c_reg fun K hK => ?_ | refine c_drw (by decide +kernel) fun K hK => ?_ | refine c_cond ?_ | refine seg_cons fun K hK => ?_ | show endW _ _ _ _ _ | refine ifb_dec (fun _ => ?_) (fun _ => ?_) | refine ifb_ieq (fun _ => ?_) (fun _ => ?_) | refine ifb_seq (fun _ => ?_) (fun _ => ?_)) <;> try simp (disch := first | (with_unfolding_all first | exact Lk.mk rfl | exact Seen.of rfl) | assumption | (fail_if_success with_reducible first | refine Seen.of ?_ | apply Sl.frame | apply Ow.frame); omega) only [go_sem, Int.reduceEq, Int.reduceLE, Int.reduceLT, Int.reduceNe, Int.reduceNeg, Int.reduceAdd, Int.reduceSub, Int.reduceMul, Int.reduceToNat, Nat.reduceLT, Nat.reduceLeDiff, Nat.reduceEqDiff, Nat.reduceAdd, Nat.reduceSub, Nat.reduceMul, reduceCtorEq, reduceIte, u3, u4, u5, u6, u7, t13, y0, yd, mof, mod', ixj, ldb]))
                try dsimp only
                obtain ⟨a1, a2, a3, a4, a5⟩ := eqs (.cells (nC { mo with role := (j : Int) }))
                refine ⟨4 - (j + 1), by omega, j + 1, j, ?_, by omega, by omega, a1, a2, a3, a4, hos _, rfl, a5, rfl⟩
                (first | with_reducible rfl | (simp (disch := first | (with_unfolding_all first | exact Lk.mk rfl | exact Seen.of rfl) | assumption | (fail_if_success with_reducible first | refine Seen.of ?_ | apply Sl.frame | apply Ow.frame); omega) only [go_sem, Int.reduceEq, Int.reduceLE, Int.reduceLT, Int.reduceNe, Int.reduceNeg, Int.reduceAdd, Int.reduceSub, Int.reduceMul, Int.reduceToNat, Nat.reduceLT, Nat.reduceLeDiff, Nat.reduceEqDiff, Nat.reduceAdd, Nat.reduceSub, Nat.reduceMul, reduceCtorEq, reduceIte] <;> first | with_reducible rfl | (congr 1 <;> omega)))
              | true =>
                have hnn := hsh rfl
                repeat' (first
      | (with_reducible first | refine q_nn ?_ | refine q_nr ?_ | refine q_ne ?_ | refine q_en ?_ | refine q_er ?_ | refine q_es ?_ | refine q_gn ?_ | refine q_gr ?_ | refine q_ge ?_ | refine c_seq ?_ | refine c_block ?_ | refine c_scope ?_ | refine c_skip ?_ | refine c_label ?_ | refine c_ret ?_ | refine c_exit ?_ | (refine hK _ _ ?_; clear hK K) | refine seg_nil ?_) | ((with_reducible refine q_eo ?_ ?_); exact rfl)
      | ((with_reducible first | refine c_reg fun K hK => ?_ | refine c_drw (by decide +kernel) fun K hK => ?_ | refine c_cond ?_ | refine seg_cons fun K hK => ?_ | show endW _ _ _ _ _ | refine ifb_dec (fun _ => ?_) (fun _ => ?_) | refine ifb_ieq (fun _ => ?_) (fun _ => ?_) | refine ifb_seq (fun _ => ?_) (fun _ => ?_)) <;> try simp (disch := first | (with_unfolding_all first | exact Lk.mk rfl | exact Seen.of rfl) | assumption | (fail_if_success with_reducible first | refine Seen.of ?_ | apply Sl.frame | apply Ow.frame); omega) only [go_sem, Int.reduceEq, Int.reduceLE, Int.reduceLT, Int.reduceNe, Int.reduceNeg, Int.reduceAdd, Int.reduceSub, Int.reduceMul, Int.reduceToNat, Nat.reduceLT, Nat.reduceLeDiff, Nat.reduceEqDiff, Nat.reduceAdd, Nat.reduceSub, Nat.reduceMul, reduceCtorEq, reduceIte, u3, u4, u5, u6, u7, t13, y0, yd, mof, mod', ixj, ldb]))
                obtain ⟨a1, a2, a3, a4, a5⟩ := eqs (.cells (nC { mo with role := (j : Int) }))
                obtain ⟨Ox, hcx, hFx⟩ := hos (.cells (nC { mo with role := (j : Int) }))
                refine callM_of (note Ox p s { mo with role := (j : Int) } (hz1.set 0 (.cells (nC { mo with role := (j : Int) }))) hcx (w1 _) (hwk.wf (by omega)) mw3) ?_
                rintro v hz2 ⟨rfl, st⟩
                rw [hnn] at st ⊢
                obtain ⟨hox, fx, zx⟩ := one_next hFx st
                refine vI ?_; repeat' (first
      | (with_reducible first | refine q_nn ?_ | refine q_nr ?_ | refine q_ne ?_ | refine q_en ?_ | refine q_er ?_ | refine q_es ?_ | refine q_gn ?_ | refine q_gr ?_ | refine q_ge ?_ | refine c_seq ?_ | refine c_block ?_ | refine c_scope ?_ | refine c_skip ?_ | refine c_label ?_ | refine c_ret ?_ | refine c_exit ?_ | (refine hK _ _ ?_; clear hK K) | refine seg_nil ?_) | ((with_reducible refine q_eo ?_ ?_); exact rfl)
      | ((with_reducible first | refine vO ?_ | refine c_reg fun K hK => ?_ | refine c_drw (by decide +kernel) fun K hK => ?_ | refine c_cond ?_ | refine seg_cons fun K hK => ?_ | show endW _ _ _ _ _ | refine ifb_dec (fun _ => ?_) (fun _ => ?_) | refine ifb_ieq (fun _ => ?_) (fun _ => ?_) | refine ifb_seq (fun _ => ?_) (fun _ => ?_)) <;> try simp (disch := first | (with_unfolding_all first | exact Lk.mk rfl | exact Seen.of rfl) | assumption | (fail_if_success with_reducible first | refine Seen.of ?_ | apply Sl.frame | apply Ow.frame); omega) only [go_sem, Int.reduceEq, Int.reduceLE, Int.reduceLT, Int.reduceNe, Int.reduceNeg, Int.reduceAdd, Int.reduceSub, Int.reduceMul, Int.reduceToNat, Nat.reduceLT, Nat.reduceLeDiff, Nat.reduceEqDiff, Nat.reduceAdd, Nat.reduceSub, Nat.reduceMul, reduceCtorEq, reduceIte, u3, u4, u5, u6, u7, t13, Option.isSome_none]))
                try dsimp only
                refine ⟨4 - (j + 1), by omega, j + 1, j, ?_, by omega, by omega, (fx 0 (.inl rfl)).trans a1, (fx 1 (.inr (.inl rfl))).trans a2, (fx d (.inr (.inr (.inr (.inl rfl))))).trans a3, a4.frame (fun _ => fx c (.inr (.inr (.inl rfl)))) zx, hox, rfl, (fx h6.size (.inr (.inr (.inr (.inr rfl))))).trans a5, rfl⟩
                (first | with_reducible rfl | (simp (disch := first | (with_unfolding_all first | exact Lk.mk rfl | exact Seen.of rfl) | assumption | (fail_if_success with_reducible first | refine Seen.of ?_ | apply Sl.frame | apply Ow.frame); omega) only [go_sem, Int.reduceEq, Int.reduceLE, Int.reduceLT, Int.reduceNe, Int.reduceNeg, Int.reduceAdd, Int.reduceSub, Int.reduceMul, Int.reduceToNat, Nat.reduceLT, Nat.reduceLeDiff, Nat.reduceEqDiff, Nat.reduceAdd, Nat.reduceSub, Nat.reduceMul, reduceCtorEq, reduceIte] <;> first | with_reducible rfl | (congr 1 <;> omega)))
            · have hjj : j = 3 := by omega
              subst hjj
              repeat' (first
      | (with_reducible first | refine q_nn ?_ | refine q_nr ?_ | refine q_ne ?_ | refine q_en ?_ | refine q_er ?_ | refine q_es ?_ | refine q_gn ?_ | refine q_gr ?_ | refine q_ge ?_ | refine c_seq ?_ | refine c_block ?_ | refine c_scope ?_ | refine c_skip ?_ | refine c_label ?_ | refine c_ret ?_ | refine c_exit ?_ | (refine hK _ _ ?_; clear hK K) | refine seg_nil ?_) | ((with_reducible refine q_eo ?_ ?_); exact rfl)
      | ((with_reducible first | refine c_reg fun K hK => ?_ | refine c_drw (by decide +kernel) fun K hK => ?_ | refine c_cond ?_ | refine seg_cons fun K hK => ?_ | show endW _ _ _ _ _ | refine ifb_dec (fun _ => ?_) (fun _ => ?_) | refine ifb_ieq (fun _ => ?_) (fun _ => ?_) | refine ifb_seq (fun _ => ?_) (fun _ => ?_)) <;> try simp (disch := first | (with_unfolding_all first | exact Lk.mk rfl | exact Seen.of rfl) | assumption | (fail_if_success with_reducible first | refine Seen.of ?_ | apply Sl.frame | apply Ow.frame); omega) only [go_sem, Int.reduceEq, Int.reduceLE, Int.reduceLT, Int.reduceNe, Int.reduceNeg, Int.reduceAdd, Int.reduceSub, Int.reduceMul, Int.reduceToNat, Nat.reduceLT, Nat.reduceLeDiff, Nat.reduceEqDiff, Nat.reduceAdd, Nat.reduceSub, Nat.reduceMul, reduceCtorEq, reduceIte, u3, u4, u5, u6, u7, t13, y1, ym]))
              exact hKK _ _ rfl
end Go.Proofs.Ytanbckdhlmhdeaa
