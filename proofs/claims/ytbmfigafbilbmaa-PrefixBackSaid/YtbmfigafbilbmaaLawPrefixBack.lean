/- 'PrefixBack' is true for every number of bits, byte, number and bytes behind: no conditions. What was put is got again, whatever is behind it. -/
import Derived.Test.YtbmfigafbilbmaaPfxLaw
set_option linter.unusedSimpArgs false
set_option linter.unusedVariables false
namespace Go.Proofs.Ytbmfigafbilbmaa
open Go.Abs Go.RowKit Go.ChangeShapes
set_option maxRecDepth 100000
set_option maxHeartbeats 4000000 in
theorem backRun (a b c d : AV) (D0 : Dat Try.T 1 3 [a]) (D1 : Dat Try.T 1 5 [b]) (D2 : Dat Try.T 1 2 [c]) (D3 : Dat Try.T 2 23 [d]) : callW Try.prog Try.T 5 [a, b, c, d] AH.empty fun v _ => v = .bool true := by
  obtain ⟨b, rfl, hb⟩ := dat_int rfl D0
  obtain ⟨g, rfl, hg⟩ := dat_int rfl D1
  obtain ⟨n, rfl, hn⟩ := dat_int rfl D2
  obtain ⟨l, hs0, hl⟩ := dat_bytes (h := AH.empty) (i := 0) rfl rfl rfl D3
  have hg2 := wf_u8 hg
  refine callW_in (n := 101) (rs := [.tmp 8]) (m := 101) Try.func5 rfl rfl rfl rfl fun tr ht => ?_; have e0 := ht 0 _ rfl; have e1 := ht 1 _ rfl; have e2 := ht 2 _ rfl; have e3 := ht 3 _ rfl; clear ht
  repeat' (first
      | with_reducible refine q_nn ?_ | with_reducible refine q_nr ?_ | with_reducible refine q_ne ?_ | with_reducible refine q_en ?_ | with_reducible refine q_er ?_ | with_reducible refine q_es ?_ | ((with_reducible refine q_eo ?_ ?_); exact rfl) | with_reducible refine q_gn ?_ | with_reducible refine q_gr ?_ | with_reducible refine q_ge ?_ | with_reducible refine c_seq ?_ | with_reducible refine c_block ?_ | with_reducible refine c_scope ?_ | with_reducible refine c_skip ?_ | with_reducible refine c_label ?_ | with_reducible refine c_ret ?_ | with_reducible refine c_exit ?_ | ((with_reducible refine hK _ _ ?_); clear hK K)
      | ((first | with_reducible refine c_reg fun K hK => ?_ | ((with_reducible refine c_drw ?_ fun K hK => ?_); kernel_rfl) | with_reducible refine c_cond ?_ | with_reducible show endW _ _ _ _ _ | with_reducible refine ifb_dec (fun _ => ?_) (fun _ => ?_) | with_reducible refine ifb_ieq (fun _ => ?_) (fun _ => ?_) | with_reducible refine ifb_seq (fun _ => ?_) (fun _ => ?_)) <;> simp (disch := first | with_unfolding_all exact Lk.mk rfl | with_unfolding_all exact Seen.of rfl | assumption | (fail_if_success (first | refine Seen.of ?_ | refine Sl.frame ?_ ?_ ?_ | refine Ow.frame ?_ ?_ ?_)); omega) only [go_sem, Int.reduceEq, Int.reduceLE, Int.reduceLT, Int.reduceNe, Int.reduceNeg, Int.reduceAdd, Int.reduceSub, Int.reduceMul, Int.reduceToNat, Nat.reduceLT, Nat.reduceLeDiff, Nat.reduceEqDiff, Nat.reduceAdd, Nat.reduceSub, Nat.reduceMul, reduceCtorEq, reduceIte, e0, e1, e2, e3]))
  refine callM_of begun ?_
  rintro v h1 rfl
  have hs1 := hs0.any h1 0
  simp (disch := first | with_unfolding_all exact Lk.mk rfl | with_unfolding_all exact Seen.of rfl | assumption | (fail_if_success (first | refine Seen.of ?_ | refine Sl.frame ?_ ?_ ?_ | refine Ow.frame ?_ ?_ ?_)); omega) only [go_sem, Int.reduceEq, Int.reduceLE, Int.reduceLT, Int.reduceNe, Int.reduceNeg, Int.reduceAdd, Int.reduceSub, Int.reduceMul, Int.reduceToNat, Nat.reduceLT, Nat.reduceLeDiff, Nat.reduceEqDiff, Nat.reduceAdd, Nat.reduceSub, Nat.reduceMul, reduceCtorEq, reduceIte, e0, e1, e2, e3]; repeat' (first
      | with_reducible refine q_nn ?_ | with_reducible refine q_nr ?_ | with_reducible refine q_ne ?_ | with_reducible refine q_en ?_ | with_reducible refine q_er ?_ | with_reducible refine q_es ?_ | ((with_reducible refine q_eo ?_ ?_); exact rfl) | with_reducible refine q_gn ?_ | with_reducible refine q_gr ?_ | with_reducible refine q_ge ?_ | with_reducible refine c_seq ?_ | with_reducible refine c_block ?_ | with_reducible refine c_scope ?_ | with_reducible refine c_skip ?_ | with_reducible refine c_label ?_ | with_reducible refine c_ret ?_ | with_reducible refine c_exit ?_ | ((with_reducible refine hK _ _ ?_); clear hK K)
      | ((first | with_reducible refine c_reg fun K hK => ?_ | ((with_reducible refine c_drw ?_ fun K hK => ?_); kernel_rfl) | with_reducible refine c_cond ?_ | with_reducible show endW _ _ _ _ _ | with_reducible refine ifb_dec (fun _ => ?_) (fun _ => ?_) | with_reducible refine ifb_ieq (fun _ => ?_) (fun _ => ?_) | with_reducible refine ifb_seq (fun _ => ?_) (fun _ => ?_)) <;> simp (disch := first | with_unfolding_all exact Lk.mk rfl | with_unfolding_all exact Seen.of rfl | assumption | (fail_if_success (first | refine Seen.of ?_ | refine Sl.frame ?_ ?_ ?_ | refine Ow.frame ?_ ?_ ?_)); omega) only [go_sem, Int.reduceEq, Int.reduceLE, Int.reduceLT, Int.reduceNe, Int.reduceNeg, Int.reduceAdd, Int.reduceSub, Int.reduceMul, Int.reduceToNat, Nat.reduceLT, Nat.reduceLeDiff, Nat.reduceEqDiff, Nat.reduceAdd, Nat.reduceSub, Nat.reduceMul, reduceCtorEq, reduceIte, e0, e1, e2, e3]))
  have hp := pow_le8 (b := b) (by omega) (by omega)
  refine callM_of (power b h1 (by omega) (by omega)) ?_
  rintro v h1 ⟨rfl, rfl⟩
  have hf : 0 ≤ g / 2 ^ b.toNat * 2 ^ b.toNat ∧ g / 2 ^ b.toNat * 2 ^ b.toNat ≤ 255 := by
    have := Int.ediv_mul_le g (b := 2 ^ b.toNat) (by omega)
    have : 0 ≤ g / 2 ^ b.toNat := Int.ediv_nonneg (by omega) (by omega)
    have := Int.mul_nonneg this (show (0 : Int) ≤ 2 ^ b.toNat by omega)
    omega
  have hf0 : g / 2 ^ b.toNat ≤ 255 := by
    have : g / 2 ^ b.toNat ≤ g := Int.ediv_le_self _ (by omega)
    omega
  have hf1 : 0 ≤ g / 2 ^ b.toNat := Int.ediv_nonneg (by omega) (by omega)
  obtain ⟨k1, k2, k3, ⟨y, r, k4, k5⟩, k6, _⟩ := putS_ok (b := b) (f := g / 2 ^ b.toNat * 2 ^ b.toNat) (n := n) (by omega) (by omega) hf.1 hf.2 (by omega) (by omega) (by simp)
  have hput := put b (g / 2 ^ b.toNat * 2 ^ b.toNat) n h1
  have hy := y.toNat_lt
  have hy1 : (y.toNat : Int) / 2 ^ b.toNat ≤ y.toNat := Int.ediv_le_self _ (by omega)
  have hy2 : 0 ≤ (y.toNat : Int) / 2 ^ b.toNat := Int.ediv_nonneg (by omega) (by omega)
  generalize hM : (2 : Int) ^ b.toNat = M at *
  generalize hF : g / M * M = F at *
  generalize hP : putS b F n = p at *
  simp (disch := first | with_unfolding_all exact Lk.mk rfl | with_unfolding_all exact Seen.of rfl | assumption | (fail_if_success (first | refine Seen.of ?_ | refine Sl.frame ?_ ?_ ?_ | refine Ow.frame ?_ ?_ ?_)); omega) only [go_sem, Int.reduceEq, Int.reduceLE, Int.reduceLT, Int.reduceNe, Int.reduceNeg, Int.reduceAdd, Int.reduceSub, Int.reduceMul, Int.reduceToNat, Nat.reduceLT, Nat.reduceLeDiff, Nat.reduceEqDiff, Nat.reduceAdd, Nat.reduceSub, Nat.reduceMul, reduceCtorEq, reduceIte, e0, e1, e2, e3, hF]; repeat' (first
      | with_reducible refine q_nn ?_ | with_reducible refine q_nr ?_ | with_reducible refine q_ne ?_ | with_reducible refine q_en ?_ | with_reducible refine q_er ?_ | with_reducible refine q_es ?_ | ((with_reducible refine q_eo ?_ ?_); exact rfl) | with_reducible refine q_gn ?_ | with_reducible refine q_gr ?_ | with_reducible refine q_ge ?_ | with_reducible refine c_seq ?_ | with_reducible refine c_block ?_ | with_reducible refine c_scope ?_ | with_reducible refine c_skip ?_ | with_reducible refine c_label ?_ | with_reducible refine c_ret ?_ | with_reducible refine c_exit ?_ | ((with_reducible refine hK _ _ ?_); clear hK K)
      | ((first | with_reducible refine c_reg fun K hK => ?_ | ((with_reducible refine c_drw ?_ fun K hK => ?_); kernel_rfl) | with_reducible refine c_cond ?_ | with_reducible show endW _ _ _ _ _ | with_reducible refine ifb_dec (fun _ => ?_) (fun _ => ?_) | with_reducible refine ifb_ieq (fun _ => ?_) (fun _ => ?_) | with_reducible refine ifb_seq (fun _ => ?_) (fun _ => ?_)) <;> simp (disch := first | with_unfolding_all exact Lk.mk rfl | with_unfolding_all exact Seen.of rfl | assumption | (fail_if_success (first | refine Seen.of ?_ | refine Sl.frame ?_ ?_ ?_ | refine Ow.frame ?_ ?_ ?_)); omega) only [go_sem, Int.reduceEq, Int.reduceLE, Int.reduceLT, Int.reduceNe, Int.reduceNeg, Int.reduceAdd, Int.reduceSub, Int.reduceMul, Int.reduceToNat, Nat.reduceLT, Nat.reduceLeDiff, Nat.reduceEqDiff, Nat.reduceAdd, Nat.reduceSub, Nat.reduceMul, reduceCtorEq, reduceIte, e0, e1, e2, e3, hF]))
  refine callM_of hput ?_
  rintro v h2 ⟨a, rfl, ⟨i, hi, hoa⟩, hk⟩
  have hsa := hoa.sl
  have hpl : p.2[0]! = y := by rw [k4]; rfl
  simp (disch := first | with_unfolding_all exact Lk.mk rfl | with_unfolding_all exact Seen.of rfl | assumption | (fail_if_success (first | refine Seen.of ?_ | refine Sl.frame ?_ ?_ ?_ | refine Ow.frame ?_ ?_ ?_)); omega) only [go_sem, Int.reduceEq, Int.reduceLE, Int.reduceLT, Int.reduceNe, Int.reduceNeg, Int.reduceAdd, Int.reduceSub, Int.reduceMul, Int.reduceToNat, Nat.reduceLT, Nat.reduceLeDiff, Nat.reduceEqDiff, Nat.reduceAdd, Nat.reduceSub, Nat.reduceMul, reduceCtorEq, reduceIte, e0, e1, e2, e3, hF, k1, hpl, k5]; repeat' (first
      | with_reducible refine q_nn ?_ | with_reducible refine q_nr ?_ | with_reducible refine q_ne ?_ | with_reducible refine q_en ?_ | with_reducible refine q_er ?_ | with_reducible refine q_es ?_ | ((with_reducible refine q_eo ?_ ?_); exact rfl) | with_reducible refine q_gn ?_ | with_reducible refine q_gr ?_ | with_reducible refine q_ge ?_ | with_reducible refine c_seq ?_ | with_reducible refine c_block ?_ | with_reducible refine c_scope ?_ | with_reducible refine c_skip ?_ | with_reducible refine c_label ?_ | with_reducible refine c_ret ?_ | with_reducible refine c_exit ?_ | ((with_reducible refine hK _ _ ?_); clear hK K)
      | ((first | with_reducible refine c_reg fun K hK => ?_ | ((with_reducible refine c_drw ?_ fun K hK => ?_); kernel_rfl) | with_reducible refine c_cond ?_ | with_reducible show endW _ _ _ _ _ | with_reducible refine ifb_dec (fun _ => ?_) (fun _ => ?_) | with_reducible refine ifb_ieq (fun _ => ?_) (fun _ => ?_) | with_reducible refine ifb_seq (fun _ => ?_) (fun _ => ?_)) <;> simp (disch := first | with_unfolding_all exact Lk.mk rfl | with_unfolding_all exact Seen.of rfl | assumption | (fail_if_success (first | refine Seen.of ?_ | refine Sl.frame ?_ ?_ ?_ | refine Ow.frame ?_ ?_ ?_)); omega) only [go_sem, Int.reduceEq, Int.reduceLE, Int.reduceLT, Int.reduceNe, Int.reduceNeg, Int.reduceAdd, Int.reduceSub, Int.reduceMul, Int.reduceToNat, Nat.reduceLT, Nat.reduceLeDiff, Nat.reduceEqDiff, Nat.reduceAdd, Nat.reduceSub, Nat.reduceMul, reduceCtorEq, reduceIte, e0, e1, e2, e3, hF, k1, hpl, k5]))
  refine Try.ap23 (i := h2.size) (.nil0 _ _) hsa .mk (by simp; omega) fun z h3 i3 ho3 hi3 hz3 hf3 => ?_
  have hs3 := hs0.any h3 0
  have hsa3 := hsa.frame (fun hi => hf3 _ hi (by omega)) hz3
  simp (disch := first | with_unfolding_all exact Lk.mk rfl | with_unfolding_all exact Seen.of rfl | assumption | (fail_if_success (first | refine Seen.of ?_ | refine Sl.frame ?_ ?_ ?_ | refine Ow.frame ?_ ?_ ?_)); omega) only [go_sem, Int.reduceEq, Int.reduceLE, Int.reduceLT, Int.reduceNe, Int.reduceNeg, Int.reduceAdd, Int.reduceSub, Int.reduceMul, Int.reduceToNat, Nat.reduceLT, Nat.reduceLeDiff, Nat.reduceEqDiff, Nat.reduceAdd, Nat.reduceSub, Nat.reduceMul, reduceCtorEq, reduceIte, e0, e1, e2, e3, hF, k1, hpl, k5]; repeat' (first
      | with_reducible refine q_nn ?_ | with_reducible refine q_nr ?_ | with_reducible refine q_ne ?_ | with_reducible refine q_en ?_ | with_reducible refine q_er ?_ | with_reducible refine q_es ?_ | ((with_reducible refine q_eo ?_ ?_); exact rfl) | with_reducible refine q_gn ?_ | with_reducible refine q_gr ?_ | with_reducible refine q_ge ?_ | with_reducible refine c_seq ?_ | with_reducible refine c_block ?_ | with_reducible refine c_scope ?_ | with_reducible refine c_skip ?_ | with_reducible refine c_label ?_ | with_reducible refine c_ret ?_ | with_reducible refine c_exit ?_ | ((with_reducible refine hK _ _ ?_); clear hK K)
      | ((first | with_reducible refine c_reg fun K hK => ?_ | ((with_reducible refine c_drw ?_ fun K hK => ?_); kernel_rfl) | with_reducible refine c_cond ?_ | with_reducible show endW _ _ _ _ _ | with_reducible refine ifb_dec (fun _ => ?_) (fun _ => ?_) | with_reducible refine ifb_ieq (fun _ => ?_) (fun _ => ?_) | with_reducible refine ifb_seq (fun _ => ?_) (fun _ => ?_)) <;> simp (disch := first | with_unfolding_all exact Lk.mk rfl | with_unfolding_all exact Seen.of rfl | assumption | (fail_if_success (first | refine Seen.of ?_ | refine Sl.frame ?_ ?_ ?_ | refine Ow.frame ?_ ?_ ?_)); omega) only [go_sem, Int.reduceEq, Int.reduceLE, Int.reduceLT, Int.reduceNe, Int.reduceNeg, Int.reduceAdd, Int.reduceSub, Int.reduceMul, Int.reduceToNat, Nat.reduceLT, Nat.reduceLeDiff, Nat.reduceEqDiff, Nat.reduceAdd, Nat.reduceSub, Nat.reduceMul, reduceCtorEq, reduceIte, e0, e1, e2, e3, hF, k1, hpl, k5]))
  refine Try.ap23 ho3 hs3 .mk (by simp; omega) fun z h4 i4 ho4 hi4 hz4 hf4 => ?_
  have hsa4 := hsa.frame (fun hi => (hf4 _ (by omega) (by omega)).trans (hf3 _ hi (by omega))) (by omega)
  simp (disch := first | with_unfolding_all exact Lk.mk rfl | with_unfolding_all exact Seen.of rfl | assumption | (fail_if_success (first | refine Seen.of ?_ | refine Sl.frame ?_ ?_ ?_ | refine Ow.frame ?_ ?_ ?_)); omega) only [go_sem, Int.reduceEq, Int.reduceLE, Int.reduceLT, Int.reduceNe, Int.reduceNeg, Int.reduceAdd, Int.reduceSub, Int.reduceMul, Int.reduceToNat, Nat.reduceLT, Nat.reduceLeDiff, Nat.reduceEqDiff, Nat.reduceAdd, Nat.reduceSub, Nat.reduceMul, reduceCtorEq, reduceIte, e0, e1, e2, e3, hF, k1, hpl, k5]; repeat' (first
      | with_reducible refine q_nn ?_ | with_reducible refine q_nr ?_ | with_reducible refine q_ne ?_ | with_reducible refine q_en ?_ | with_reducible refine q_er ?_ | with_reducible refine q_es ?_ | ((with_reducible refine q_eo ?_ ?_); exact rfl) | with_reducible refine q_gn ?_ | with_reducible refine q_gr ?_ | with_reducible refine q_ge ?_ | with_reducible refine c_seq ?_ | with_reducible refine c_block ?_ | with_reducible refine c_scope ?_ | with_reducible refine c_skip ?_ | with_reducible refine c_label ?_ | with_reducible refine c_ret ?_ | with_reducible refine c_exit ?_ | ((with_reducible refine hK _ _ ?_); clear hK K)
      | ((first | with_reducible refine c_reg fun K hK => ?_ | ((with_reducible refine c_drw ?_ fun K hK => ?_); kernel_rfl) | with_reducible refine c_cond ?_ | with_reducible show endW _ _ _ _ _ | with_reducible refine ifb_dec (fun _ => ?_) (fun _ => ?_) | with_reducible refine ifb_ieq (fun _ => ?_) (fun _ => ?_) | with_reducible refine ifb_seq (fun _ => ?_) (fun _ => ?_)) <;> simp (disch := first | with_unfolding_all exact Lk.mk rfl | with_unfolding_all exact Seen.of rfl | assumption | (fail_if_success (first | refine Seen.of ?_ | refine Sl.frame ?_ ?_ ?_ | refine Ow.frame ?_ ?_ ?_)); omega) only [go_sem, Int.reduceEq, Int.reduceLE, Int.reduceLT, Int.reduceNe, Int.reduceNeg, Int.reduceAdd, Int.reduceSub, Int.reduceMul, Int.reduceToNat, Nat.reduceLT, Nat.reduceLeDiff, Nat.reduceEqDiff, Nat.reduceAdd, Nat.reduceSub, Nat.reduceMul, reduceCtorEq, reduceIte, e0, e1, e2, e3, hF, k1, hpl, k5]))
  refine callM_of (get z i4 _ b h4 ho4.sl (by simp; omega)) ?_
  rintro v h5 ⟨rfl, rfl⟩
  have k6' := k6 l
  rw [List.nil_append, k6']
  simp (disch := first | with_unfolding_all exact Lk.mk rfl | with_unfolding_all exact Seen.of rfl | assumption | (fail_if_success (first | refine Seen.of ?_ | refine Sl.frame ?_ ?_ ?_ | refine Ow.frame ?_ ?_ ?_)); omega) only [go_sem, Int.reduceEq, Int.reduceLE, Int.reduceLT, Int.reduceNe, Int.reduceNeg, Int.reduceAdd, Int.reduceSub, Int.reduceMul, Int.reduceToNat, Nat.reduceLT, Nat.reduceLeDiff, Nat.reduceEqDiff, Nat.reduceAdd, Nat.reduceSub, Nat.reduceMul, reduceCtorEq, reduceIte, e0, e1, e2, e3, hF, k1, hpl, k5, enc3]; repeat' (first
      | with_reducible refine q_nn ?_ | with_reducible refine q_nr ?_ | with_reducible refine q_ne ?_ | with_reducible refine q_en ?_ | with_reducible refine q_er ?_ | with_reducible refine q_es ?_ | ((with_reducible refine q_eo ?_ ?_); exact rfl) | with_reducible refine q_gn ?_ | with_reducible refine q_gr ?_ | with_reducible refine q_ge ?_ | with_reducible refine c_seq ?_ | with_reducible refine c_block ?_ | with_reducible refine c_scope ?_ | with_reducible refine c_skip ?_ | with_reducible refine c_label ?_ | with_reducible refine c_ret ?_ | with_reducible refine c_exit ?_ | ((with_reducible refine hK _ _ ?_); clear hK K)
      | ((first | with_reducible refine c_reg fun K hK => ?_ | ((with_reducible refine c_drw ?_ fun K hK => ?_); kernel_rfl) | with_reducible refine c_cond ?_ | with_reducible show endW _ _ _ _ _ | with_reducible refine ifb_dec (fun _ => ?_) (fun _ => ?_) | with_reducible refine ifb_ieq (fun _ => ?_) (fun _ => ?_) | with_reducible refine ifb_seq (fun _ => ?_) (fun _ => ?_)) <;> simp (disch := first | with_unfolding_all exact Lk.mk rfl | with_unfolding_all exact Seen.of rfl | assumption | (fail_if_success (first | refine Seen.of ?_ | refine Sl.frame ?_ ?_ ?_ | refine Ow.frame ?_ ?_ ?_)); omega) only [go_sem, Int.reduceEq, Int.reduceLE, Int.reduceLT, Int.reduceNe, Int.reduceNeg, Int.reduceAdd, Int.reduceSub, Int.reduceMul, Int.reduceToNat, Nat.reduceLT, Nat.reduceLeDiff, Nat.reduceEqDiff, Nat.reduceAdd, Nat.reduceSub, Nat.reduceMul, reduceCtorEq, reduceIte, e0, e1, e2, e3, hF, k1, hpl, k5, enc3]))
theorem lifted5 (os : Os) (started : os.Started) (H : Type) (enc : TypeId × Value → H) :
    ReturnsInHanded {} Try.checked os 5 .any (Rows.prefixBackSpec.pre6 enc Try.prog Try.f5 Rows.prefixBackRow.domain false) (Rows.prefixBackSpec.post enc Try.prog Try.f5 false true false false) := by
  refine returnsInHanded_of_change (C := Try.checked) own started (by kernel_rfl) Try.func5
    (ChangeSpec.witness6 (enc := enc) (C := Try.checked) false ⟨#[], #[.int .i64 0, .int .u8 0, .int .i64 0, .slice none 0 0], []⟩ 8 (by kernel_rfl) (by kernel_rfl) (by kernel_rfl) (by kernel_rfl)) ?_
  intro W base args ds gs before hval hW _ _
  have hW' := hW
  obtain ⟨p, q, hA0, hV, rfl, _, _⟩ := hW
  have hA : DataW.TrodAll enc Try.prog W 0 (fun _ => true) true Try.f5.params.toList args.toList ds p := hA0
  rw [Try.params5] at hA hval
  obtain ⟨v0, vs0, d0, ds0, p0, q0, hargs, rfl, rfl, k0, r0⟩ := trodAll_cons hA
  obtain ⟨v1, vs1, d1, ds1, p1, q1, rfl, rfl, rfl, k1, r1⟩ := trodAll_cons r0
  obtain ⟨v2, vs2, d2, ds2, p2, q2, rfl, rfl, rfl, k2, r2⟩ := trodAll_cons r1
  obtain ⟨v3, vs3, d3, ds3, p3, q3, rfl, rfl, rfl, k3, r3⟩ := trodAll_cons r2
  obtain ⟨rfl, rfl, rfl⟩ := trodAll_nil r3
  obtain rfl : args = #[v0, v1, v2, v3] := by cases args; simp_all
  obtain ⟨rfl, rfl⟩ := trodVars_none hV
  obtain ⟨a0, w0, D0, g0, s0⟩ := arg_read tok (n := 1) (by rfl) (hval 0 3 v0 rfl rfl) k0
  rw [s0 (by rfl)] at D0
  obtain ⟨a1, w1, D1, g1, s1⟩ := arg_read tok (n := 1) (by rfl) (hval 1 5 v1 rfl rfl) k1
  rw [s1 (by rfl)] at D1
  obtain ⟨a2, w2, D2, g2, s2⟩ := arg_read tok (n := 1) (by rfl) (hval 2 2 v2 rfl rfl) k2
  rw [s2 (by rfl)] at D2
  obtain ⟨a3, w3, D3, g3, s3⟩ := arg_read tok (n := 2) (by rfl) (hval 3 23 v3 rfl rfl) k3
  rw [s3 (by rfl)] at D3
  obtain ⟨n, h', hr⟩ := callW_run (backRun a0 a1 a2 a3 D0 D1 D2 D3)
  refine (calls_true mixed tok fok hr (.cons _ _ _ _ w0 (.cons _ _ _ _ w1 (.cons _ _ _ _ w2 (.cons _ _ _ _ w3 .nil))))).mono ?_
  rintro e W' ⟨rfl, hb⟩
  exact ⟨_, rfl, post_true laidOut (by kernel_rfl) (by kernel_rfl) Try.underlying4 rfl hW' rfl hb⟩
theorem prefixBack : Rows.PrefixBackSaid :=
  OpenClaim.holds_of_wide 5 Try.f5 rfl rfl rfl rfl rfl rfl rfl ⟨rfl, rfl, rfl, rfl, rfl⟩ rfl rfl rfl rfl rfl (by kernel_rfl) Try.func5 (by kernel_rfl)
    (of_decide_eq_true (by kernel_rfl)) (by unfold Func.isWrapper; first | (rw [if_pos (by decide +kernel)]; kernel_rfl) | (rw [if_neg (by decide +kernel)]; exact ⟨rfl, rfl⟩))
    (fun os started H enc _ => lifted5 os started H enc)
#print axioms prefixBack
end Go.Proofs.Ytbmfigafbilbmaa
