/- 'ShelfTexts' is true for all ops and texts: no conditions. A shelf of something else is the same shelf. -/
import Derived.Test.YtedhjjjheafjeaaShLaw
import Derived.Test.YtedhjjjheafjeaaShDS
set_option linter.unusedSimpArgs false
set_option linter.unusedVariables false
namespace Go.Proofs.Ytedhjjjheafjeaa
open Go.Abs Go.RowKit Go.ChangeShapes
set_option maxRecDepth 100000
/-- The shelf of texts whose places are those of the numbers. -/
def lift (tx : List (List UInt8)) (s : Sh Int) : Sh (List UInt8) := { l := s.l.map fun x => (x.1, tx[x.2.toNat]!), t := s.t, top := s.top }
theorem lift_fst (tx : List (List UInt8)) (s : Sh Int) : (lift tx s).l.map (·.1) = s.l.map (·.1) := by
  unfold lift; rw [List.map_map]; rfl
theorem lift_fpos (tx : List (List UInt8)) (s : Sh Int) (id : Int) : fpos (lift tx s).l id = fpos s.l id := by
  rw [← fpos_map, lift_fst, fpos_map]
theorem lift_ok {tx : List (List UInt8)} {s : Sh Int} {n : Nat} (ok : ShOk s n) : ShOk (lift tx s) n := by
  obtain ⟨so, lo, tb, tl, tp, ln⟩ := ok
  refine ⟨by unfold Sorted at so ⊢; rw [lift_fst]; exact so, fun x hx => ?_, tb, tl, tp, by unfold lift; simp only [List.length_map]; exact ln⟩
  obtain ⟨y, a, rfl⟩ := List.mem_map.1 hx
  exact lo y a
theorem lift_open (tx : List (List UInt8)) (s : Sh Int) (id : Int) (k : Nat) : openS (lift tx s) id (tx[k]!) = lift tx (openS s id (k : Int)) := by
  unfold openS
  have : (lift tx s).top = s.top := rfl
  rw [this]
  split
  · unfold lift; simp
  · rfl
theorem lift_close (tx : List (List UInt8)) (s : Sh Int) (id why : Int) : closeS (lift tx s) id why = lift tx (closeS s id why) ∧ closeE (lift tx s) id why = closeE s id why := by
  unfold closeS closeE
  rw [lift_fpos]
  constructor
  · split
    · cases fpos s.l id with
      | none => rfl
      | some k => simp only [lift, eraseIdx_map']
    · rfl
  · rfl
/-- The places are places of texts. -/
def InTx (n : Nat) (s : Sh Int) : Prop := ∀ x ∈ s.l, 0 ≤ x.2 ∧ x.2 < n
theorem InTx.openS {n : Nat} {s : Sh Int} (h : InTx n s) (id : Int) {k : Nat} (hk : k < n) : InTx n (openS s id (k : Int)) := by
  unfold Go.Proofs.Ytedhjjjheafjeaa.openS
  split
  · intro x hx
    rcases List.mem_append.1 hx with e | e
    · exact h x e
    · simp only [List.mem_singleton] at e; subst e; simp only; omega
  · exact h
theorem InTx.closeS {n : Nat} {s : Sh Int} (h : InTx n s) (id why : Int) : InTx n (closeS s id why) := by
  unfold Go.Proofs.Ytedhjjjheafjeaa.closeS
  split
  · split
    · exact fun x hx => h x ((List.eraseIdx_sublist _ _).subset hx)
    · exact h
  · exact h
/-- The shelf of texts and the reference's of places. -/
def TwoX (tx : List (List UInt8)) (F : Nat → Prop) (h : AH) (p q : Nat) (s : Sh Int) : Prop := ∃ Oc Or, ShC LS Oc h p (lift tx s) ∧ ShR Or h q (rOf s) ∧ (∀ x, Oc x = 0 ∨ Or x = 0) ∧ ∀ x, F x → x < h.size ∧ Oc x = 0 ∧ Or x = 0
section twox
variable {tx : List (List UInt8)} {F F' : Nat → Prop} {h h' h1 h2 : AH} {p q : Nat} {s s' : Sh Int}
theorem TwoX.keep (t : TwoX tx F h p q s) (k : Keeps h.size h h') (hF : ∀ x, F' x → F x ∨ h.size ≤ x ∧ x < h'.size) : TwoX tx F' h' p q s := by
  obtain ⟨Oc, Or, hc, hr, hd, hf⟩ := t
  refine ⟨_, _, hc.after k, hr.after k, fun x => ?_, fun x hx => ?_⟩
  · unfold O1
    by_cases hx : x < h.size
    · rw [if_pos hx, if_pos hx]; exact hd x
    · rw [if_neg hx]; exact .inl rfl
  · unfold O1
    rcases hF x hx with h1 | ⟨h1, h2⟩
    · obtain ⟨a, b, c⟩ := hf x h1
      rw [if_pos a, if_pos a]
      exact ⟨by have := k.1; omega, b, c⟩
    · rw [if_neg (by omega)]
      exact ⟨h2, rfl, by rw [if_neg (by omega)]⟩
theorem twoX_next {Oc Or : Nat → Nat} (hd : ∀ x, Oc x = 0 ∨ Or x = 0) (hF : ∀ x, F x → x < h.size ∧ Oc x = 0 ∧ Or x = 0) (st : StC LS Oc h h1 p (lift tx s')) (st' : StR (O1 Or h) h1 h2 q (rOf s')) : TwoX tx F h2 p q s' ∧ (∀ x, F x → h2.get x = h.get x) ∧ h.size ≤ h2.size := by
  obtain ⟨z1, f1, O', a1, l1⟩ := st
  obtain ⟨z2, f2, O2, a2, l2⟩ := st'
  have z : ∀ x, x < h1.size → ¬ O' x = 0 → O1 Or h x = 0 := fun x hx hx0 => by
    unfold O1
    by_cases e : x < h.size
    · rw [if_pos e]; rw [a1 x e] at hx0; exact (hd x).resolve_left hx0
    · rw [if_neg e]
  refine ⟨⟨O1 O' h1, O2, l1.frame (fun x hx hx0 => f2 x hx (z x hx hx0)) z2 (fun x hx => if_pos hx), l2, fun x => ?_, fun x hx => ?_⟩, fun x hx => ?_, by omega⟩
  · by_cases e : x < h1.size
    · by_cases c0 : O' x = 0
      · left; unfold O1; rw [if_pos e]; exact c0
      · right; rw [a2 x e]; exact z x e c0
    · left; unfold O1; rw [if_neg e]
  · obtain ⟨a, b, c⟩ := hF x hx
    refine ⟨by omega, ?_, ?_⟩
    · unfold O1; rw [if_pos (by omega), a1 x a]; exact b
    · rw [a2 x (by omega)]; unfold O1; rw [if_pos a]; exact c
  · obtain ⟨a, b, c⟩ := hF x hx
    rw [f2 x (by omega) (by unfold O1; rw [if_pos a]; exact c), f1 x a b]
end twox
set_option maxHeartbeats 8000000 in
theorem textsRun (a0 a1 : AV) (D0 : Dat Try.T 3 22 [a0]) (D1 : Dat Try.T 2 39 [a1]) : callW Try.prog Try.T 5 [a0, a1] AH.empty fun v _ => v = .bool true := by
  obtain ⟨ops, hs0, _, hol⟩ := dat_slice (E := EO) (Wf := fun _ => True) (h := AH.empty) (i := 0) Try.Td22 (fun c hc => dat_op (n := 0) hc) rfl D0
  obtain ⟨tx, si, _, hil⟩ := dat_strs (h := AH.empty) (i := 0) (n := 0) Try.Td39 rfl rfl D1
  refine callW_hide fun KK hKK => ?_
  refine callW_in (n := 127) (rs := [.tmp 4]) (m := 127) Try.func5 rfl rfl rfl rfl fun tr ht => ?_; have e0 := ht 0 _ rfl; have e1 := ht 1 _ rfl; clear ht
  repeat' (first
      | (with_reducible first | refine q_nn ?_ | refine q_nr ?_ | refine q_ne ?_ | refine q_en ?_ | refine q_er ?_ | refine q_es ?_ | refine q_gn ?_ | refine q_gr ?_ | refine q_ge ?_ | refine c_seq ?_ | refine c_block ?_ | refine c_scope ?_ | refine c_skip ?_ | refine c_label ?_ | refine c_ret ?_ | refine c_exit ?_ | (refine hK _ _ ?_; clear hK K) | refine seg_nil ?_) | ((with_reducible refine q_eo ?_ ?_); exact rfl)
      | ((with_reducible first | refine c_reg fun K hK => ?_ | refine c_drw (by decide +kernel) fun K hK => ?_ | refine c_cond ?_ | refine seg_cons fun K hK => ?_ | show endW _ _ _ _ _ | refine ifb_dec (fun _ => ?_) (fun _ => ?_) | refine ifb_ieq (fun _ => ?_) (fun _ => ?_) | refine ifb_seq (fun _ => ?_) (fun _ => ?_)) <;> try simp (disch := first | (with_unfolding_all first | exact Lk.mk rfl | exact Seen.of rfl) | assumption | (fail_if_success with_reducible first | refine Seen.of ?_ | apply Sl.frame | apply Ow.frame); omega) only [go_sem, Int.reduceEq, Int.reduceLE, Int.reduceLT, Int.reduceNe, Int.reduceNeg, Int.reduceAdd, Int.reduceSub, Int.reduceMul, Int.reduceToNat, Nat.reduceLT, Nat.reduceLeDiff, Nat.reduceEqDiff, Nat.reduceAdd, Nat.reduceSub, Nat.reduceMul, reduceCtorEq, reduceIte, e0, e1]))
  refine callM_of (begunE (K := fun v h => v = .bool true) fun h' => rfl) ?_
  rintro v h1 rfl
  refine vI ?_; repeat' (first
      | (with_reducible first | refine q_nn ?_ | refine q_nr ?_ | refine q_ne ?_ | refine q_en ?_ | refine q_er ?_ | refine q_es ?_ | refine q_gn ?_ | refine q_gr ?_ | refine q_ge ?_ | refine c_seq ?_ | refine c_block ?_ | refine c_scope ?_ | refine c_skip ?_ | refine c_label ?_ | refine c_ret ?_ | refine c_exit ?_ | (refine hK _ _ ?_; clear hK K) | refine seg_nil ?_) | ((with_reducible refine q_eo ?_ ?_); exact rfl)
      | ((with_reducible first | refine vO ?_ | refine c_reg fun K hK => ?_ | refine c_drw (by decide +kernel) fun K hK => ?_ | refine c_cond ?_ | refine seg_cons fun K hK => ?_ | show endW _ _ _ _ _ | refine ifb_dec (fun _ => ?_) (fun _ => ?_) | refine ifb_ieq (fun _ => ?_) (fun _ => ?_) | refine ifb_seq (fun _ => ?_) (fun _ => ?_)) <;> try simp (disch := first | (with_unfolding_all first | exact Lk.mk rfl | exact Seen.of rfl) | assumption | (fail_if_success with_reducible first | refine Seen.of ?_ | apply Sl.frame | apply Ow.frame); omega) only [go_sem, Int.reduceEq, Int.reduceLE, Int.reduceLT, Int.reduceNe, Int.reduceNeg, Int.reduceAdd, Int.reduceSub, Int.reduceMul, Int.reduceToNat, Nat.reduceLT, Nat.reduceLeDiff, Nat.reduceEqDiff, Nat.reduceAdd, Nat.reduceSub, Nat.reduceMul, reduceCtorEq, reduceIte, e0, e1]))
  refine callM_of (newZ h1) ?_
  rintro v h2 ⟨rfl, hh2⟩
  have hc2 : ShC LS (fun x => if x = h1.size then 1 else 0) h2 h1.size (lift tx sh0) := by rw [hh2]; exact newCZ h1
  have z2 : h2.size = h1.size + 1 := by rw [hh2]; simp (disch := first | (with_unfolding_all first | exact Lk.mk rfl | exact Seen.of rfl) | assumption | (fail_if_success with_reducible first | refine Seen.of ?_ | apply Sl.frame | apply Ow.frame); omega) only [go_sem, Int.reduceEq, Int.reduceLE, Int.reduceLT, Int.reduceNe, Int.reduceNeg, Int.reduceAdd, Int.reduceSub, Int.reduceMul, Int.reduceToNat, Nat.reduceLT, Nat.reduceLeDiff, Nat.reduceEqDiff, Nat.reduceAdd, Nat.reduceSub, Nat.reduceMul, reduceCtorEq, reduceIte]
  clear hh2
  have si3 := fun h => si.any h 0
  have si2 : Sl ES (h2.push (.cells [.slice none 0 0 0 true, .slice none 0 0 0 true, .slice none 0 0 0 true, .slice none 0 0 0 true, .int .i64 0])) 0 a1 tx := si3 _
  by_cases hne : tx.length = 0
  · refine vI ?_; repeat' (first
      | (with_reducible first | refine q_nn ?_ | refine q_nr ?_ | refine q_ne ?_ | refine q_en ?_ | refine q_er ?_ | refine q_es ?_ | refine q_gn ?_ | refine q_gr ?_ | refine q_ge ?_ | refine c_seq ?_ | refine c_block ?_ | refine c_scope ?_ | refine c_skip ?_ | refine c_label ?_ | refine c_ret ?_ | refine c_exit ?_ | (refine hK _ _ ?_; clear hK K) | refine seg_nil ?_) | ((with_reducible refine q_eo ?_ ?_); exact rfl)
      | ((with_reducible first | refine vO ?_ | refine c_reg fun K hK => ?_ | refine c_drw (by decide +kernel) fun K hK => ?_ | refine c_cond ?_ | refine seg_cons fun K hK => ?_ | show endW _ _ _ _ _ | refine ifb_dec (fun _ => ?_) (fun _ => ?_) | refine ifb_ieq (fun _ => ?_) (fun _ => ?_) | refine ifb_seq (fun _ => ?_) (fun _ => ?_)) <;> try simp (disch := first | (with_unfolding_all first | exact Lk.mk rfl | exact Seen.of rfl) | assumption | (fail_if_success with_reducible first | refine Seen.of ?_ | apply Sl.frame | apply Ow.frame); omega) only [go_sem, Int.reduceEq, Int.reduceLE, Int.reduceLT, Int.reduceNe, Int.reduceNeg, Int.reduceAdd, Int.reduceSub, Int.reduceMul, Int.reduceToNat, Nat.reduceLT, Nat.reduceLeDiff, Nat.reduceEqDiff, Nat.reduceAdd, Nat.reduceSub, Nat.reduceMul, reduceCtorEq, reduceIte, e0, e1, hne]))
    exact hKK _ _ rfl
  refine vI ?_; repeat' (first
      | (with_reducible first | refine q_nn ?_ | refine q_nr ?_ | refine q_ne ?_ | refine q_en ?_ | refine q_er ?_ | refine q_es ?_ | refine q_gn ?_ | refine q_gr ?_ | refine q_ge ?_ | refine c_seq ?_ | refine c_block ?_ | refine c_scope ?_ | refine c_skip ?_ | refine c_label ?_ | refine c_ret ?_ | refine c_exit ?_ | (refine hK _ _ ?_; clear hK K) | refine seg_nil ?_) | ((with_reducible refine q_eo ?_ ?_); exact rfl)
      | ((with_reducible first | refine vO ?_ | refine c_reg fun K hK => ?_ | refine c_drw (by decide +kernel) fun K hK => ?_ | refine c_cond ?_ | refine seg_cons fun K hK => ?_ | show endW _ _ _ _ _ | refine ifb_dec (fun _ => ?_) (fun _ => ?_) | refine ifb_ieq (fun _ => ?_) (fun _ => ?_) | refine ifb_seq (fun _ => ?_) (fun _ => ?_)) <;> try simp (disch := first | (with_unfolding_all first | exact Lk.mk rfl | exact Seen.of rfl) | assumption | (fail_if_success with_reducible first | refine Seen.of ?_ | apply Sl.frame | apply Ow.frame); omega) only [go_sem, Int.reduceEq, Int.reduceLE, Int.reduceLT, Int.reduceNe, Int.reduceNeg, Int.reduceAdd, Int.reduceSub, Int.reduceMul, Int.reduceToNat, Nat.reduceLT, Nat.reduceLeDiff, Nat.reduceEqDiff, Nat.reduceAdd, Nat.reduceSub, Nat.reduceMul, reduceCtorEq, reduceIte, e0, e1]))
  refine c_hide fun h3 hh3 => ?_
  have hr3 := newR h2
  rw [← hh3] at hr3
  have k3 : Keeps h2.size h2 h3 := by rw [hh3]; exact (Keeps.refl _ _).push (Nat.le_refl _) _
  clear hh3
  have ht3 : TwoX tx (fun _ => False) h3 h1.size h2.size sh0 := ⟨_, _, hc2.after k3, hr3, fun x => by
    unfold O1
    by_cases e : x = h2.size
    · rw [if_neg (by omega)]; exact .inl rfl
    · right; rw [if_neg e], fun x hx => hx.elim⟩
  clear hc2 hr3 k3
  generalize h1.size = p at *
  generalize h2.size = q at *
  refine c_loopF 85070591730234615865843651823582838544 (fun m tm h => ∃ (k : Nat) (s : Sh Int), tm.get 8 = .int .i64 k ∧ k ≤ ops.length ∧ k ≤ 60 ∧ ShOk s k ∧ InTx tx.length s ∧ TwoX tx (fun _ => False) h p q s ∧ m = 60 - k) (60) (by kernel_rfl) ?_ ?_
  · refine ⟨0, sh0, ?_, by omega, by omega, ok0, by simp [InTx, sh0], ht3, rfl⟩
    (first | with_reducible rfl | (simp (disch := first | (with_unfolding_all first | exact Lk.mk rfl | exact Seen.of rfl) | assumption | (fail_if_success with_reducible first | refine Seen.of ?_ | apply Sl.frame | apply Ow.frame); omega) only [go_sem, Int.reduceEq, Int.reduceLE, Int.reduceLT, Int.reduceNe, Int.reduceNeg, Int.reduceAdd, Int.reduceSub, Int.reduceMul, Int.reduceToNat, Nat.reduceLT, Nat.reduceLeDiff, Nat.reduceEqDiff, Nat.reduceAdd, Nat.reduceSub, Nat.reduceMul, reduceCtorEq, reduceIte] <;> first | with_reducible rfl | (congr 1 <;> omega)))
  · rintro m tr2 h4 ho ⟨k, s, t8, hk, hk60, ok, hin, ht4, rfl⟩
    have k0 := ho 0 (Seen.of rfl); simp (disch := first | (with_unfolding_all first | exact Lk.mk rfl | exact Seen.of rfl) | assumption | (fail_if_success with_reducible first | refine Seen.of ?_ | apply Sl.frame | apply Ow.frame); omega) only [go_sem, Int.reduceEq, Int.reduceLE, Int.reduceLT, Int.reduceNe, Int.reduceNeg, Int.reduceAdd, Int.reduceSub, Int.reduceMul, Int.reduceToNat, Nat.reduceLT, Nat.reduceLeDiff, Nat.reduceEqDiff, Nat.reduceAdd, Nat.reduceSub, Nat.reduceMul, reduceCtorEq, reduceIte, e0, e1] at k0; have k1 := ho 1 (Seen.of rfl); simp (disch := first | (with_unfolding_all first | exact Lk.mk rfl | exact Seen.of rfl) | assumption | (fail_if_success with_reducible first | refine Seen.of ?_ | apply Sl.frame | apply Ow.frame); omega) only [go_sem, Int.reduceEq, Int.reduceLE, Int.reduceLT, Int.reduceNe, Int.reduceNeg, Int.reduceAdd, Int.reduceSub, Int.reduceMul, Int.reduceToNat, Nat.reduceLT, Nat.reduceLeDiff, Nat.reduceEqDiff, Nat.reduceAdd, Nat.reduceSub, Nat.reduceMul, reduceCtorEq, reduceIte, e0, e1] at k1; have k5 := ho 5 (Seen.of rfl); simp (disch := first | (with_unfolding_all first | exact Lk.mk rfl | exact Seen.of rfl) | assumption | (fail_if_success with_reducible first | refine Seen.of ?_ | apply Sl.frame | apply Ow.frame); omega) only [go_sem, Int.reduceEq, Int.reduceLE, Int.reduceLT, Int.reduceNe, Int.reduceNeg, Int.reduceAdd, Int.reduceSub, Int.reduceMul, Int.reduceToNat, Nat.reduceLT, Nat.reduceLeDiff, Nat.reduceEqDiff, Nat.reduceAdd, Nat.reduceSub, Nat.reduceMul, reduceCtorEq, reduceIte, e0, e1] at k5; have k6 := ho 6 (Seen.of rfl); simp (disch := first | (with_unfolding_all first | exact Lk.mk rfl | exact Seen.of rfl) | assumption | (fail_if_success with_reducible first | refine Seen.of ?_ | apply Sl.frame | apply Ow.frame); omega) only [go_sem, Int.reduceEq, Int.reduceLE, Int.reduceLT, Int.reduceNe, Int.reduceNeg, Int.reduceAdd, Int.reduceSub, Int.reduceMul, Int.reduceToNat, Nat.reduceLT, Nat.reduceLeDiff, Nat.reduceEqDiff, Nat.reduceAdd, Nat.reduceSub, Nat.reduceMul, reduceCtorEq, reduceIte, e0, e1] at k6; have k7 := ho 7 (Seen.of rfl); simp (disch := first | (with_unfolding_all first | exact Lk.mk rfl | exact Seen.of rfl) | assumption | (fail_if_success with_reducible first | refine Seen.of ?_ | apply Sl.frame | apply Ow.frame); omega) only [go_sem, Int.reduceEq, Int.reduceLE, Int.reduceLT, Int.reduceNe, Int.reduceNeg, Int.reduceAdd, Int.reduceSub, Int.reduceMul, Int.reduceToNat, Nat.reduceLT, Nat.reduceLeDiff, Nat.reduceEqDiff, Nat.reduceAdd, Nat.reduceSub, Nat.reduceMul, reduceCtorEq, reduceIte, e0, e1] at k7
    have s4 := hs0.any h4 0
    have si4 := si.any h4 0
    by_cases hc : k < ops.length ∧ k < 60
    · rcases hx : ops[k]! with ⟨o1, o2, o3⟩
      obtain ⟨md, hmd⟩ : ∃ md : Nat, md = k % tx.length := ⟨_, rfl⟩
      have hmi : (k : Int) % (tx.length : Int) = (md : Int) := by rw [hmd]; rfl
      have hml : md < tx.length := by rw [hmd]; exact Nat.mod_lt _ (by omega)
      clear hmd
      have hln := ok.ln
      have htl := ok.tl
      have ldt : ∀ h, loadA Try.T h 9 (a1.at ES.sz 0 (md : Int)) = some (.str (tx[md]!)) := fun h => (si.any h 0).ld (by omega) (by omega) (by rw [Int.toNat_natCast]; rfl) (by decide) rfl rfl
      have sX := fun h => si.any h 0
      by_cases d0 : o1 = 0
      case' pos =>
        repeat' (first
      | (with_reducible first | refine q_nn ?_ | refine q_nr ?_ | refine q_ne ?_ | refine q_en ?_ | refine q_er ?_ | refine q_es ?_ | refine q_gn ?_ | refine q_gr ?_ | refine q_ge ?_ | refine c_seq ?_ | refine c_block ?_ | refine c_scope ?_ | refine c_skip ?_ | refine c_label ?_ | refine c_ret ?_ | refine c_exit ?_ | (refine hK _ _ ?_; clear hK K) | refine seg_nil ?_) | ((with_reducible refine q_eo ?_ ?_); exact rfl)
      | ((with_reducible first | refine c_reg fun K hK => ?_ | refine c_drw (by decide +kernel) fun K hK => ?_ | refine c_cond ?_ | refine seg_cons fun K hK => ?_ | show endW _ _ _ _ _ | refine ifb_dec (fun _ => ?_) (fun _ => ?_) | refine ifb_ieq (fun _ => ?_) (fun _ => ?_) | refine ifb_seq (fun _ => ?_) (fun _ => ?_)) <;> try simp (disch := first | (with_unfolding_all first | exact Lk.mk rfl | exact Seen.of rfl) | assumption | (fail_if_success with_reducible first | refine Seen.of ?_ | apply Sl.frame | apply Ow.frame); omega) only [go_sem, Int.reduceEq, Int.reduceLE, Int.reduceLT, Int.reduceNe, Int.reduceNeg, Int.reduceAdd, Int.reduceSub, Int.reduceMul, Int.reduceToNat, Nat.reduceLT, Nat.reduceLeDiff, Nat.reduceEqDiff, Nat.reduceAdd, Nat.reduceSub, Nat.reduceMul, reduceCtorEq, reduceIte, k0, k1, k5, k6, k7, t8, hmi, hx, EOf, ldt, d0]))
        refine cM_hide fun h5 hh5 => ?_
        have k5' : Keeps h4.size h4 h5 := by rw [hh5]; exact ((Keeps.refl _ _).push (Nat.le_refl _) _).set (Nat.le_refl _) _
        have bx5 : h5.get h4.size = some (.cells [.int .i64 0, .int .i64 o2, .int .i64 o3]) := by rw [hh5]; simp (disch := first | (with_unfolding_all first | exact Lk.mk rfl | exact Seen.of rfl) | assumption | (fail_if_success with_reducible first | refine Seen.of ?_ | apply Sl.frame | apply Ow.frame); omega) only [go_sem, Int.reduceEq, Int.reduceLE, Int.reduceLT, Int.reduceNe, Int.reduceNeg, Int.reduceAdd, Int.reduceSub, Int.reduceMul, Int.reduceToNat, Nat.reduceLT, Nat.reduceLeDiff, Nat.reduceEqDiff, Nat.reduceAdd, Nat.reduceSub, Nat.reduceMul, reduceCtorEq, reduceIte]
        have z5 : h5.size = h4.size + 1 := by rw [hh5]; simp (disch := first | (with_unfolding_all first | exact Lk.mk rfl | exact Seen.of rfl) | assumption | (fail_if_success with_reducible first | refine Seen.of ?_ | apply Sl.frame | apply Ow.frame); omega) only [go_sem, Int.reduceEq, Int.reduceLE, Int.reduceLT, Int.reduceNe, Int.reduceNeg, Int.reduceAdd, Int.reduceSub, Int.reduceMul, Int.reduceToNat, Nat.reduceLT, Nat.reduceLeDiff, Nat.reduceEqDiff, Nat.reduceAdd, Nat.reduceSub, Nat.reduceMul, reduceCtorEq, reduceIte]
        clear hh5
        obtain ⟨Oc, Or, hc5, hr5, hd5, hF5⟩ := ht4.keep (F' := fun b => b = h4.size) k5' (fun b hb => .inr (by omega))
        refine callM_of (openZ Oc p (lift tx s) o2 (tx[md]!) h5 hc5 (by unfold lift; simp only [List.length_map]; omega)) ?_
        rintro v h6 ⟨hv, st⟩
        obtain rfl : v = .int .i64 (freshE s.top o2) := hv
        try clear hv
        rw [lift_open] at st
        have bx6 := (st.2.1 h4.size (by omega) (hF5 _ rfl).2.1).trans bx5
        have s6 := sX h6
        refine vI ?_; repeat' (first
      | (with_reducible first | refine q_nn ?_ | refine q_nr ?_ | refine q_ne ?_ | refine q_en ?_ | refine q_er ?_ | refine q_es ?_ | refine q_gn ?_ | refine q_gr ?_ | refine q_ge ?_ | refine c_seq ?_ | refine c_block ?_ | refine c_scope ?_ | refine c_skip ?_ | refine c_label ?_ | refine c_ret ?_ | refine c_exit ?_ | (refine hK _ _ ?_; clear hK K) | refine seg_nil ?_) | ((with_reducible refine q_eo ?_ ?_); exact rfl)
      | ((with_reducible first | refine vO ?_ | refine c_reg fun K hK => ?_ | refine c_drw (by decide +kernel) fun K hK => ?_ | refine c_cond ?_ | refine seg_cons fun K hK => ?_ | show endW _ _ _ _ _ | refine ifb_dec (fun _ => ?_) (fun _ => ?_) | refine ifb_ieq (fun _ => ?_) (fun _ => ?_) | refine ifb_seq (fun _ => ?_) (fun _ => ?_)) <;> try simp (disch := first | (with_unfolding_all first | exact Lk.mk rfl | exact Seen.of rfl) | assumption | (fail_if_success with_reducible first | refine Seen.of ?_ | apply Sl.frame | apply Ow.frame); omega) only [go_sem, Int.reduceEq, Int.reduceLE, Int.reduceLT, Int.reduceNe, Int.reduceNeg, Int.reduceAdd, Int.reduceSub, Int.reduceMul, Int.reduceToNat, Nat.reduceLT, Nat.reduceLeDiff, Nat.reduceEqDiff, Nat.reduceAdd, Nat.reduceSub, Nat.reduceMul, reduceCtorEq, reduceIte, k0, k1, k5, k6, k7, t8, bx6, hmi]))
        refine callM_of (ropen (O1 Or h5) q (rOf s) o2 (md : Int) h6 (hr5.skipC hd5 st) (by unfold rOf; simp only [List.length_map]; omega) (by unfold rOf; simp only [List.length_map]; omega)) ?_
        rintro v h7 ⟨hv, st'⟩
        obtain rfl : v = .int .i64 (freshE s.top o2) := hv
        try clear hv
        have st' : StR (O1 Or h5) h6 h7 q (rOf (openS s o2 (md : Int))) := by rw [← rOf_open]; exact st'
        obtain ⟨ht7, f7, z7⟩ := twoX_next hd5 hF5 st st'
        have bx7 := (f7 _ rfl).trans bx5
        have ok1 := ok.openS o2 (md : Int)
        have hin1 := hin.openS o2 hml
        generalize openS s o2 (md : Int) = s1 at *
        have hk0 : (0 : Int) = 0 := rfl
        refine vI ?_; repeat' (first
      | (with_reducible first | refine q_nn ?_ | refine q_nr ?_ | refine q_ne ?_ | refine q_en ?_ | refine q_er ?_ | refine q_es ?_ | refine q_gn ?_ | refine q_gr ?_ | refine q_ge ?_ | refine c_seq ?_ | refine c_block ?_ | refine c_scope ?_ | refine c_skip ?_ | refine c_label ?_ | refine c_ret ?_ | refine c_exit ?_ | (refine hK _ _ ?_; clear hK K) | refine seg_nil ?_) | ((with_reducible refine q_eo ?_ ?_); exact rfl)
      | ((with_reducible first | refine vO ?_ | refine c_reg fun K hK => ?_ | refine c_drw (by decide +kernel) fun K hK => ?_ | refine c_cond ?_ | refine seg_cons fun K hK => ?_ | show endW _ _ _ _ _ | refine ifb_dec (fun _ => ?_) (fun _ => ?_) | refine ifb_ieq (fun _ => ?_) (fun _ => ?_) | refine ifb_seq (fun _ => ?_) (fun _ => ?_)) <;> try simp (disch := first | (with_unfolding_all first | exact Lk.mk rfl | exact Seen.of rfl) | assumption | (fail_if_success with_reducible first | refine Seen.of ?_ | apply Sl.frame | apply Ow.frame); omega) only [go_sem, Int.reduceEq, Int.reduceLE, Int.reduceLT, Int.reduceNe, Int.reduceNeg, Int.reduceAdd, Int.reduceSub, Int.reduceMul, Int.reduceToNat, Nat.reduceLT, Nat.reduceLeDiff, Nat.reduceEqDiff, Nat.reduceAdd, Nat.reduceSub, Nat.reduceMul, reduceCtorEq, reduceIte, k0, k1, k5, k6, k7, t8, bx7]))
      case' neg =>
        repeat' (first
      | (with_reducible first | refine q_nn ?_ | refine q_nr ?_ | refine q_ne ?_ | refine q_en ?_ | refine q_er ?_ | refine q_es ?_ | refine q_gn ?_ | refine q_gr ?_ | refine q_ge ?_ | refine c_seq ?_ | refine c_block ?_ | refine c_scope ?_ | refine c_skip ?_ | refine c_label ?_ | refine c_ret ?_ | refine c_exit ?_ | (refine hK _ _ ?_; clear hK K) | refine seg_nil ?_) | ((with_reducible refine q_eo ?_ ?_); exact rfl)
      | ((with_reducible first | refine c_reg fun K hK => ?_ | refine c_drw (by decide +kernel) fun K hK => ?_ | refine c_cond ?_ | refine seg_cons fun K hK => ?_ | show endW _ _ _ _ _ | refine ifb_dec (fun _ => ?_) (fun _ => ?_) | refine ifb_ieq (fun _ => ?_) (fun _ => ?_) | refine ifb_seq (fun _ => ?_) (fun _ => ?_)) <;> try simp (disch := first | (with_unfolding_all first | exact Lk.mk rfl | exact Seen.of rfl) | assumption | (fail_if_success with_reducible first | refine Seen.of ?_ | apply Sl.frame | apply Ow.frame); omega) only [go_sem, Int.reduceEq, Int.reduceLE, Int.reduceLT, Int.reduceNe, Int.reduceNeg, Int.reduceAdd, Int.reduceSub, Int.reduceMul, Int.reduceToNat, Nat.reduceLT, Nat.reduceLeDiff, Nat.reduceEqDiff, Nat.reduceAdd, Nat.reduceSub, Nat.reduceMul, reduceCtorEq, reduceIte, k0, k1, k5, k6, k7, t8, hmi, hx, EOf, ldt]))
        refine cM_hide fun h5 hh5 => ?_
        have k5' : Keeps h4.size h4 h5 := by rw [hh5]; exact ((Keeps.refl _ _).push (Nat.le_refl _) _).set (Nat.le_refl _) _
        have bx5 : h5.get h4.size = some (.cells [.int .i64 o1, .int .i64 o2, .int .i64 o3]) := by rw [hh5]; simp (disch := first | (with_unfolding_all first | exact Lk.mk rfl | exact Seen.of rfl) | assumption | (fail_if_success with_reducible first | refine Seen.of ?_ | apply Sl.frame | apply Ow.frame); omega) only [go_sem, Int.reduceEq, Int.reduceLE, Int.reduceLT, Int.reduceNe, Int.reduceNeg, Int.reduceAdd, Int.reduceSub, Int.reduceMul, Int.reduceToNat, Nat.reduceLT, Nat.reduceLeDiff, Nat.reduceEqDiff, Nat.reduceAdd, Nat.reduceSub, Nat.reduceMul, reduceCtorEq, reduceIte]
        have z5 : h5.size = h4.size + 1 := by rw [hh5]; simp (disch := first | (with_unfolding_all first | exact Lk.mk rfl | exact Seen.of rfl) | assumption | (fail_if_success with_reducible first | refine Seen.of ?_ | apply Sl.frame | apply Ow.frame); omega) only [go_sem, Int.reduceEq, Int.reduceLE, Int.reduceLT, Int.reduceNe, Int.reduceNeg, Int.reduceAdd, Int.reduceSub, Int.reduceMul, Int.reduceToNat, Nat.reduceLT, Nat.reduceLeDiff, Nat.reduceEqDiff, Nat.reduceAdd, Nat.reduceSub, Nat.reduceMul, reduceCtorEq, reduceIte]
        clear hh5
        obtain ⟨Oc, Or, hc5, hr5, hd5, hF5⟩ := ht4.keep (F' := fun b => b = h4.size) k5' (fun b hb => .inr (by omega))
        refine callM_of (closeZ Oc p (lift tx s) o2 o3 h5 k hc5 (lift_ok ok) (by omega)) ?_
        rintro v h6 ⟨rfl, st⟩
        rw [(lift_close tx s o2 o3).1] at st
        rw [(lift_close tx s o2 o3).2]
        have bx6 := (st.2.1 h4.size (by omega) (hF5 _ rfl).2.1).trans bx5
        have s6 := sX h6
        refine vI ?_; repeat' (first
      | (with_reducible first | refine q_nn ?_ | refine q_nr ?_ | refine q_ne ?_ | refine q_en ?_ | refine q_er ?_ | refine q_es ?_ | refine q_gn ?_ | refine q_gr ?_ | refine q_ge ?_ | refine c_seq ?_ | refine c_block ?_ | refine c_scope ?_ | refine c_skip ?_ | refine c_label ?_ | refine c_ret ?_ | refine c_exit ?_ | (refine hK _ _ ?_; clear hK K) | refine seg_nil ?_) | ((with_reducible refine q_eo ?_ ?_); exact rfl)
      | ((with_reducible first | refine vO ?_ | refine c_reg fun K hK => ?_ | refine c_drw (by decide +kernel) fun K hK => ?_ | refine c_cond ?_ | refine seg_cons fun K hK => ?_ | show endW _ _ _ _ _ | refine ifb_dec (fun _ => ?_) (fun _ => ?_) | refine ifb_ieq (fun _ => ?_) (fun _ => ?_) | refine ifb_seq (fun _ => ?_) (fun _ => ?_)) <;> try simp (disch := first | (with_unfolding_all first | exact Lk.mk rfl | exact Seen.of rfl) | assumption | (fail_if_success with_reducible first | refine Seen.of ?_ | apply Sl.frame | apply Ow.frame); omega) only [go_sem, Int.reduceEq, Int.reduceLE, Int.reduceLT, Int.reduceNe, Int.reduceNeg, Int.reduceAdd, Int.reduceSub, Int.reduceMul, Int.reduceToNat, Nat.reduceLT, Nat.reduceLeDiff, Nat.reduceEqDiff, Nat.reduceAdd, Nat.reduceSub, Nat.reduceMul, reduceCtorEq, reduceIte, k0, k1, k5, k6, k7, t8, bx6]))
        refine callM_of (rclose (O1 Or h5) q (rOf s) o2 o3 h6 (hr5.skipC hd5 st) (by unfold rOf; simp only [List.length_map]; omega) (by unfold rOf; simp only [List.length_map]) (by unfold rOf; simp only [List.length_map]; omega) (by unfold rOf; simp only [List.length_map])) ?_
        rintro v h7 ⟨hv, st'⟩
        obtain rfl : v = .int .i64 (closeE s o2 o3) := by
          have e : idx (rOf s).a o2 = fpos s.l o2 := idx_map
          rw [hv, e]; rfl
        try clear hv
        have st' : StR (O1 Or h5) h6 h7 q (rOf (closeS s o2 o3)) := by rw [← rOf_close s o2 o3 htl]; exact st'
        obtain ⟨ht7, f7, z7⟩ := twoX_next hd5 hF5 st st'
        have bx7 := (f7 _ rfl).trans bx5
        have ok1 := ok.closeS o2 o3
        have hin1 := hin.closeS o2 o3
        generalize closeS s o2 o3 = s1 at *
        refine vI ?_; repeat' (first
      | (with_reducible first | refine q_nn ?_ | refine q_nr ?_ | refine q_ne ?_ | refine q_en ?_ | refine q_er ?_ | refine q_es ?_ | refine q_gn ?_ | refine q_gr ?_ | refine q_ge ?_ | refine c_seq ?_ | refine c_block ?_ | refine c_scope ?_ | refine c_skip ?_ | refine c_label ?_ | refine c_ret ?_ | refine c_exit ?_ | (refine hK _ _ ?_; clear hK K) | refine seg_nil ?_) | ((with_reducible refine q_eo ?_ ?_); exact rfl)
      | ((with_reducible first | refine vO ?_ | refine c_reg fun K hK => ?_ | refine c_drw (by decide +kernel) fun K hK => ?_ | refine c_cond ?_ | refine seg_cons fun K hK => ?_ | show endW _ _ _ _ _ | refine ifb_dec (fun _ => ?_) (fun _ => ?_) | refine ifb_ieq (fun _ => ?_) (fun _ => ?_) | refine ifb_seq (fun _ => ?_) (fun _ => ?_)) <;> try simp (disch := first | (with_unfolding_all first | exact Lk.mk rfl | exact Seen.of rfl) | assumption | (fail_if_success with_reducible first | refine Seen.of ?_ | apply Sl.frame | apply Ow.frame); omega) only [go_sem, Int.reduceEq, Int.reduceLE, Int.reduceLT, Int.reduceNe, Int.reduceNeg, Int.reduceAdd, Int.reduceSub, Int.reduceMul, Int.reduceToNat, Nat.reduceLT, Nat.reduceLeDiff, Nat.reduceEqDiff, Nat.reduceAdd, Nat.reduceSub, Nat.reduceMul, reduceCtorEq, reduceIte, k0, k1, k5, k6, k7, t8, bx7]))
      all_goals
        obtain ⟨Oc', Or', hc7, hr7, hd7, hF7⟩ := ht7
        have hln1 := ok1.ln
        refine callM_of (getZ Oc' p (lift tx s1) o2 h7 (k + 1) hc7 (lift_ok ok1) (by omega)) ?_
        rintro v h8 ⟨hv, k8⟩
        rw [lift_fpos] at hv
        have bx8 := (k8.2 h4.size (by omega)).trans bx7
        have hr8 := hr7.after k8
        have s8 := sX h8
        have z8 := k8.1
        have la : (rOf s1).a.length ≤ 1000 := by unfold rOf; simp only [List.length_map]; omega
        have lb : (rOf s1).b.length = (rOf s1).a.length := by unfold rOf; simp only [List.length_map]
        have hT : TwoX tx (fun _ => False) h8 p q s1 := TwoX.keep (F := fun b => b = h4.size) ⟨Oc', Or', hc7, hr7, hd7, hF7⟩ k8 (fun x hx => hx.elim)
        cases hf : fpos s1.l o2 with
        | none =>
          rw [hf] at hv
          subst hv
          refine vI ?_; repeat' (first
      | (with_reducible first | refine q_nn ?_ | refine q_nr ?_ | refine q_ne ?_ | refine q_en ?_ | refine q_er ?_ | refine q_es ?_ | refine q_gn ?_ | refine q_gr ?_ | refine q_ge ?_ | refine c_seq ?_ | refine c_block ?_ | refine c_scope ?_ | refine c_skip ?_ | refine c_label ?_ | refine c_ret ?_ | refine c_exit ?_ | (refine hK _ _ ?_; clear hK K) | refine seg_nil ?_) | ((with_reducible refine q_eo ?_ ?_); exact rfl)
      | ((with_reducible first | refine vO ?_ | refine c_reg fun K hK => ?_ | refine c_drw (by decide +kernel) fun K hK => ?_ | refine c_cond ?_ | refine seg_cons fun K hK => ?_ | show endW _ _ _ _ _ | refine ifb_dec (fun _ => ?_) (fun _ => ?_) | refine ifb_ieq (fun _ => ?_) (fun _ => ?_) | refine ifb_seq (fun _ => ?_) (fun _ => ?_)) <;> try simp (disch := first | (with_unfolding_all first | exact Lk.mk rfl | exact Seen.of rfl) | assumption | (fail_if_success with_reducible first | refine Seen.of ?_ | apply Sl.frame | apply Ow.frame); omega) only [go_sem, Int.reduceEq, Int.reduceLE, Int.reduceLT, Int.reduceNe, Int.reduceNeg, Int.reduceAdd, Int.reduceSub, Int.reduceMul, Int.reduceToNat, Nat.reduceLT, Nat.reduceLeDiff, Nat.reduceEqDiff, Nat.reduceAdd, Nat.reduceSub, Nat.reduceMul, reduceCtorEq, reduceIte, k0, k1, k5, k6, k7, t8, bx8]))
          refine callM_of (rget _ q (rOf s1) o2 h8 hr8 la lb) ?_
          rintro v h9 ⟨hv, rfl⟩
          have e : idx (rOf s1).a o2 = fpos s1.l o2 := idx_map
          rw [e, hf] at hv
          subst hv
          refine vI ?_; repeat' (first
      | (with_reducible first | refine q_nn ?_ | refine q_nr ?_ | refine q_ne ?_ | refine q_en ?_ | refine q_er ?_ | refine q_es ?_ | refine q_gn ?_ | refine q_gr ?_ | refine q_ge ?_ | refine c_seq ?_ | refine c_block ?_ | refine c_scope ?_ | refine c_skip ?_ | refine c_label ?_ | refine c_ret ?_ | refine c_exit ?_ | (refine hK _ _ ?_; clear hK K) | refine seg_nil ?_) | ((with_reducible refine q_eo ?_ ?_); exact rfl)
      | ((with_reducible first | refine vO ?_ | refine c_reg fun K hK => ?_ | refine c_drw (by decide +kernel) fun K hK => ?_ | refine c_cond ?_ | refine seg_cons fun K hK => ?_ | show endW _ _ _ _ _ | refine ifb_dec (fun _ => ?_) (fun _ => ?_) | refine ifb_ieq (fun _ => ?_) (fun _ => ?_) | refine ifb_seq (fun _ => ?_) (fun _ => ?_)) <;> try simp (disch := first | (with_unfolding_all first | exact Lk.mk rfl | exact Seen.of rfl) | assumption | (fail_if_success with_reducible first | refine Seen.of ?_ | apply Sl.frame | apply Ow.frame); omega) only [go_sem, Int.reduceEq, Int.reduceLE, Int.reduceLT, Int.reduceNe, Int.reduceNeg, Int.reduceAdd, Int.reduceSub, Int.reduceMul, Int.reduceToNat, Nat.reduceLT, Nat.reduceLeDiff, Nat.reduceEqDiff, Nat.reduceAdd, Nat.reduceSub, Nat.reduceMul, reduceCtorEq, reduceIte, k0, k1, k5, k6, k7, t8]))
          try dsimp only
          refine ⟨rfl, 60 - (k + 1), by omega, k + 1, s1, ?_, by omega, by omega, ok1, hin1, hT, rfl⟩
          (first | with_reducible rfl | (simp (disch := first | (with_unfolding_all first | exact Lk.mk rfl | exact Seen.of rfl) | assumption | (fail_if_success with_reducible first | refine Seen.of ?_ | apply Sl.frame | apply Ow.frame); omega) only [go_sem, Int.reduceEq, Int.reduceLE, Int.reduceLT, Int.reduceNe, Int.reduceNeg, Int.reduceAdd, Int.reduceSub, Int.reduceMul, Int.reduceToNat, Nat.reduceLT, Nat.reduceLeDiff, Nat.reduceEqDiff, Nat.reduceAdd, Nat.reduceSub, Nat.reduceMul, reduceCtorEq, reduceIte] <;> first | with_reducible rfl | (congr 1 <;> omega)))
        | some j =>
          rw [hf] at hv
          obtain ⟨x, hxj, _, hjl⟩ := fpos_get hf
          have hlb : (lift tx s1).l[j]! = (x.1, tx[x.2.toNat]!) := by
            have : (lift tx s1).l[j]? = some (x.1, tx[x.2.toNat]!) := by unfold lift; rw [List.getElem?_map, hxj]; rfl
            have hb := bang_some (show j < (lift tx s1).l.length by unfold lift; simp only [List.length_map]; exact hjl)
            rw [this] at hb; exact (Option.some.inj hb).symm
          have hsb : s1.l[j]! = x := by
            have hb := bang_some hjl
            rw [hxj] at hb; exact (Option.some.inj hb).symm
          have hrb : (rOf s1).b[j]! = x.2 := by rw [← hsb]; exact bang_map hjl _
          obtain ⟨w0, w1⟩ := hin1 x (List.mem_of_getElem? hxj)
          have ldw : ∀ h, loadA Try.T h 9 (a1.at ES.sz 0 x.2) = some (.str (tx[x.2.toNat]!)) := fun h => (si.any h 0).ld (by omega) (by omega) rfl (by decide) rfl rfl
          simp only [hlb] at hv
          subst hv
          generalize tx[x.2.toNat]! = str at *
          generalize x.2 = w at *
          refine vI ?_; repeat' (first
      | (with_reducible first | refine q_nn ?_ | refine q_nr ?_ | refine q_ne ?_ | refine q_en ?_ | refine q_er ?_ | refine q_es ?_ | refine q_gn ?_ | refine q_gr ?_ | refine q_ge ?_ | refine c_seq ?_ | refine c_block ?_ | refine c_scope ?_ | refine c_skip ?_ | refine c_label ?_ | refine c_ret ?_ | refine c_exit ?_ | (refine hK _ _ ?_; clear hK K) | refine seg_nil ?_) | ((with_reducible refine q_eo ?_ ?_); exact rfl)
      | ((with_reducible first | refine vO ?_ | refine c_reg fun K hK => ?_ | refine c_drw (by decide +kernel) fun K hK => ?_ | refine c_cond ?_ | refine seg_cons fun K hK => ?_ | show endW _ _ _ _ _ | refine ifb_dec (fun _ => ?_) (fun _ => ?_) | refine ifb_ieq (fun _ => ?_) (fun _ => ?_) | refine ifb_seq (fun _ => ?_) (fun _ => ?_)) <;> try simp (disch := first | (with_unfolding_all first | exact Lk.mk rfl | exact Seen.of rfl) | assumption | (fail_if_success with_reducible first | refine Seen.of ?_ | apply Sl.frame | apply Ow.frame); omega) only [go_sem, Int.reduceEq, Int.reduceLE, Int.reduceLT, Int.reduceNe, Int.reduceNeg, Int.reduceAdd, Int.reduceSub, Int.reduceMul, Int.reduceToNat, Nat.reduceLT, Nat.reduceLeDiff, Nat.reduceEqDiff, Nat.reduceAdd, Nat.reduceSub, Nat.reduceMul, reduceCtorEq, reduceIte, k0, k1, k5, k6, k7, t8, bx8]))
          refine callM_of (rget _ q (rOf s1) o2 h8 hr8 la lb) ?_
          rintro v h9 ⟨hv, rfl⟩
          have e : idx (rOf s1).a o2 = fpos s1.l o2 := idx_map
          rw [e, hf] at hv
          simp only [hrb] at hv
          subst hv
          refine vI ?_; repeat' (first
      | (with_reducible first | refine q_nn ?_ | refine q_nr ?_ | refine q_ne ?_ | refine q_en ?_ | refine q_er ?_ | refine q_es ?_ | refine q_gn ?_ | refine q_gr ?_ | refine q_ge ?_ | refine c_seq ?_ | refine c_block ?_ | refine c_scope ?_ | refine c_skip ?_ | refine c_label ?_ | refine c_ret ?_ | refine c_exit ?_ | (refine hK _ _ ?_; clear hK K) | refine seg_nil ?_) | ((with_reducible refine q_eo ?_ ?_); exact rfl)
      | ((with_reducible first | refine vO ?_ | refine c_reg fun K hK => ?_ | refine c_drw (by decide +kernel) fun K hK => ?_ | refine c_cond ?_ | refine seg_cons fun K hK => ?_ | show endW _ _ _ _ _ | refine ifb_dec (fun _ => ?_) (fun _ => ?_) | refine ifb_ieq (fun _ => ?_) (fun _ => ?_) | refine ifb_seq (fun _ => ?_) (fun _ => ?_)) <;> try simp (disch := first | (with_unfolding_all first | exact Lk.mk rfl | exact Seen.of rfl) | assumption | (fail_if_success with_reducible first | refine Seen.of ?_ | apply Sl.frame | apply Ow.frame); omega) only [go_sem, Int.reduceEq, Int.reduceLE, Int.reduceLT, Int.reduceNe, Int.reduceNeg, Int.reduceAdd, Int.reduceSub, Int.reduceMul, Int.reduceToNat, Nat.reduceLT, Nat.reduceLeDiff, Nat.reduceEqDiff, Nat.reduceAdd, Nat.reduceSub, Nat.reduceMul, reduceCtorEq, reduceIte, k0, k1, k5, k6, k7, t8, ldw]))
          try dsimp only
          refine ⟨rfl, 60 - (k + 1), by omega, k + 1, s1, ?_, by omega, by omega, ok1, hin1, hT, rfl⟩
          (first | with_reducible rfl | (simp (disch := first | (with_unfolding_all first | exact Lk.mk rfl | exact Seen.of rfl) | assumption | (fail_if_success with_reducible first | refine Seen.of ?_ | apply Sl.frame | apply Ow.frame); omega) only [go_sem, Int.reduceEq, Int.reduceLE, Int.reduceLT, Int.reduceNe, Int.reduceNeg, Int.reduceAdd, Int.reduceSub, Int.reduceMul, Int.reduceToNat, Nat.reduceLT, Nat.reduceLeDiff, Nat.reduceEqDiff, Nat.reduceAdd, Nat.reduceSub, Nat.reduceMul, reduceCtorEq, reduceIte] <;> first | with_reducible rfl | (congr 1 <;> omega)))
    · by_cases hc2 : k < ops.length
      · repeat' (first
      | (with_reducible first | refine q_nn ?_ | refine q_nr ?_ | refine q_ne ?_ | refine q_en ?_ | refine q_er ?_ | refine q_es ?_ | refine q_gn ?_ | refine q_gr ?_ | refine q_ge ?_ | refine c_seq ?_ | refine c_block ?_ | refine c_scope ?_ | refine c_skip ?_ | refine c_label ?_ | refine c_ret ?_ | refine c_exit ?_ | (refine hK _ _ ?_; clear hK K) | refine seg_nil ?_) | ((with_reducible refine q_eo ?_ ?_); exact rfl)
      | ((with_reducible first | refine c_reg fun K hK => ?_ | refine c_drw (by decide +kernel) fun K hK => ?_ | refine c_cond ?_ | refine seg_cons fun K hK => ?_ | show endW _ _ _ _ _ | refine ifb_dec (fun _ => ?_) (fun _ => ?_) | refine ifb_ieq (fun _ => ?_) (fun _ => ?_) | refine ifb_seq (fun _ => ?_) (fun _ => ?_)) <;> try simp (disch := first | (with_unfolding_all first | exact Lk.mk rfl | exact Seen.of rfl) | assumption | (fail_if_success with_reducible first | refine Seen.of ?_ | apply Sl.frame | apply Ow.frame); omega) only [go_sem, Int.reduceEq, Int.reduceLE, Int.reduceLT, Int.reduceNe, Int.reduceNeg, Int.reduceAdd, Int.reduceSub, Int.reduceMul, Int.reduceToNat, Nat.reduceLT, Nat.reduceLeDiff, Nat.reduceEqDiff, Nat.reduceAdd, Nat.reduceSub, Nat.reduceMul, reduceCtorEq, reduceIte, k0, k1, k5, k6, k7, t8]))
        exact hKK _ _ rfl
      · repeat' (first
      | (with_reducible first | refine q_nn ?_ | refine q_nr ?_ | refine q_ne ?_ | refine q_en ?_ | refine q_er ?_ | refine q_es ?_ | refine q_gn ?_ | refine q_gr ?_ | refine q_ge ?_ | refine c_seq ?_ | refine c_block ?_ | refine c_scope ?_ | refine c_skip ?_ | refine c_label ?_ | refine c_ret ?_ | refine c_exit ?_ | (refine hK _ _ ?_; clear hK K) | refine seg_nil ?_) | ((with_reducible refine q_eo ?_ ?_); exact rfl)
      | ((with_reducible first | refine c_reg fun K hK => ?_ | refine c_drw (by decide +kernel) fun K hK => ?_ | refine c_cond ?_ | refine seg_cons fun K hK => ?_ | show endW _ _ _ _ _ | refine ifb_dec (fun _ => ?_) (fun _ => ?_) | refine ifb_ieq (fun _ => ?_) (fun _ => ?_) | refine ifb_seq (fun _ => ?_) (fun _ => ?_)) <;> try simp (disch := first | (with_unfolding_all first | exact Lk.mk rfl | exact Seen.of rfl) | assumption | (fail_if_success with_reducible first | refine Seen.of ?_ | apply Sl.frame | apply Ow.frame); omega) only [go_sem, Int.reduceEq, Int.reduceLE, Int.reduceLT, Int.reduceNe, Int.reduceNeg, Int.reduceAdd, Int.reduceSub, Int.reduceMul, Int.reduceToNat, Nat.reduceLT, Nat.reduceLeDiff, Nat.reduceEqDiff, Nat.reduceAdd, Nat.reduceSub, Nat.reduceMul, reduceCtorEq, reduceIte, k0, k1, k5, k6, k7, t8]))
        exact hKK _ _ rfl
theorem lifted5 (os : Os) (started : os.Started) (H : Type) (enc : TypeId × Value → H) :
    ReturnsInHanded {} Try.checked os 5 .any (Rows.shelfTextsSpec.pre6 enc Try.prog Try.f5 Rows.shelfTextsRow.domain false) (Rows.shelfTextsSpec.post enc Try.prog Try.f5 false true false false) := by
  refine returnsInHanded_of_change (C := Try.checked) own started (by kernel_rfl) Try.func5
    (ChangeSpec.witness6 (enc := enc) (C := Try.checked) false ⟨#[], #[.slice none 0 0, .slice none 0 0], []⟩ 8 (by kernel_rfl) (by kernel_rfl) (by kernel_rfl) (by kernel_rfl)) ?_
  intro W base args ds gs before hval hW _ _
  have hW' := hW
  obtain ⟨p, q, hA0, hV, rfl, _, _⟩ := hW
  have hA : DataW.TrodAll enc Try.prog W 0 (fun _ => true) true Try.f5.params.toList args.toList ds p := hA0
  rw [Try.params5] at hA hval
  obtain ⟨v0, vs0, d0, ds0, p0, q0, hargs, rfl, rfl, k0, r0⟩ := trodAll_cons hA
  obtain ⟨v1, vs1, d1, ds1, p1, q1, rfl, rfl, rfl, k1, r1⟩ := trodAll_cons r0
  obtain ⟨rfl, rfl, rfl⟩ := trodAll_nil r1
  obtain rfl : args = #[v0, v1] := by cases args; simp_all
  obtain ⟨rfl, rfl⟩ := trodVars_none hV
  obtain ⟨a0, w0, D0, g0, s0⟩ := arg_read tok (n := 3) (by rfl) (hval 0 22 v0 rfl rfl) k0
  rw [s0 (by rfl)] at D0
  obtain ⟨a1, w1, D1, g1, s1⟩ := arg_read tok (n := 2) (by rfl) (hval 1 39 v1 rfl rfl) k1
  rw [s1 (by rfl)] at D1
  obtain ⟨n, h', hr⟩ := callW_run (textsRun a0 a1 D0 D1)
  refine (calls_true mixed tok fok hr (.cons _ _ _ _ w0 (.cons _ _ _ _ w1 .nil))).mono ?_
  rintro e W' ⟨rfl, hb⟩
  exact ⟨_, rfl, post_true laidOut (by kernel_rfl) (by kernel_rfl) Try.underlying4 rfl hW' rfl hb⟩
theorem shelfTexts : Rows.ShelfTextsSaid :=
  OpenClaim.holds_of_wide 5 Try.f5 rfl rfl rfl rfl rfl rfl rfl ⟨rfl, rfl, rfl, rfl, rfl⟩ rfl rfl rfl rfl rfl (by kernel_rfl) Try.func5 (by kernel_rfl)
    (of_decide_eq_true (by kernel_rfl)) (by unfold Func.isWrapper; first | (rw [if_pos (by decide +kernel)]; kernel_rfl) | (rw [if_neg (by decide +kernel)]; exact ⟨rfl, rfl⟩))
    (fun os started H enc _ => lifted5 os started H enc)
#print axioms shelfTexts
end Go.Proofs.Ytedhjjjheafjeaa
