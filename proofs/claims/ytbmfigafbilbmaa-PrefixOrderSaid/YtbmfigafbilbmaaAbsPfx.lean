import Derived.Test.YtbmfigafbilbmaaAbsSlice
import Derived.Test.YtbmfigafbilbmaaAbsMono
import Derived.Test.YtbmfigafbilbmaaAbsTprefix
import Derived.Test.YtbmfigafbilbmaaProg
set_option linter.unusedSimpArgs false
set_option linter.unusedVariables false
namespace Go.Proofs.Ytbmfigafbilbmaa
open Go.Abs
set_option maxRecDepth 100000
theorem d2 : (Try.T 2).desc = .int .i64 := rfl
theorem d3 : (Try.T 3).desc = .int .i64 := rfl
theorem d5 : (Try.T 5).desc = .int .u8 := rfl
theorem bs23 {h : AH} {x : Int} : bsR Try.T h 23 1 (some [(0, .int .u8 x)]) = some (.val (.slice (some (h.size, 0)) 1 1 1 true) (h.push (.cells [.int .u8 x]))) := bsR_one rfl rfl rfl rfl rfl rfl
set_option maxHeartbeats 4000000 in
theorem power (b : Int) (h : AH) (hb0 : 0 ≤ b) (hb1 : b ≤ 62) : callW Try.prog Try.T 14 [.int .i64 b] h fun v h' => v = .int .i64 (2 ^ b.toNat : Nat) ∧ h = h' := by
  refine callW_of (n := 11) (rs := [.tmp 2]) Try.func14 rfl rfl rfl ?_
  have e0 : (Tm.enter [AV.int IntKind.i64 b] 11).get 0 = .int .i64 b := rfl
  have es : (Tm.enter [AV.int IntKind.i64 b] 11).size = 11 := rfl
  generalize (Tm.enter [AV.int IntKind.i64 b] 11) = tm at *
  repeat (first
      | refine q_nn ?_
      | refine q_nr ?_
      | refine q_ne ?_
      | refine q_en ?_
      | refine q_er ?_
      | refine q_es ?_
      | refine q_eo rfl ?_
      | refine q_gn ?_
      | refine q_gr ?_
      | refine q_ge ?_
      | refine c_seq ?_
      | refine c_block ?_
      | refine c_scope ?_
      | refine c_skip ?_
      | refine c_label ?_
      | refine c_ret ?_
      | refine c_exit ?_
      | (refine c_reg fun K hK => ?_; simp only [go_sem, Int.reduceEq, Int.reduceLE, Int.reduceLT, Int.reduceNe, Int.reduceNeg, Int.reduceAdd, Int.reduceSub, Int.reduceMul, ne_eq, not_false_eq_true, Nat.reduceLT, Nat.reduceLeDiff, Nat.reduceEqDiff, Nat.reduceAdd, Nat.reduceSub, Nat.reduceMul, if_true, if_false, decide_true, decide_false, reduceCtorEq, List.cons_append, List.nil_append, List.append_nil, Option.bind_some, Option.map_some, Option.some.injEq, BEq.rfl, Bool.false_beq, Bool.true_beq, beq_self_eq_true, Bool.not_false, Bool.not_true, Bool.false_eq_true, List.getElem?_cons_zero, List.getElem?_cons_succ, reduceIte, e0, es]; refine hK _ _ ?_; clear hK K)
      | (refine c_drw (by kernel_rfl) fun K hK => ?_; simp only [go_sem, Int.reduceEq, Int.reduceLE, Int.reduceLT, Int.reduceNe, Int.reduceNeg, Int.reduceAdd, Int.reduceSub, Int.reduceMul, ne_eq, not_false_eq_true, Nat.reduceLT, Nat.reduceLeDiff, Nat.reduceEqDiff, Nat.reduceAdd, Nat.reduceSub, Nat.reduceMul, if_true, if_false, decide_true, decide_false, reduceCtorEq, List.cons_append, List.nil_append, List.append_nil, Option.bind_some, Option.map_some, Option.some.injEq, BEq.rfl, Bool.false_beq, Bool.true_beq, beq_self_eq_true, Bool.not_false, Bool.not_true, Bool.false_eq_true, List.getElem?_cons_zero, List.getElem?_cons_succ, reduceIte, e0, es]; refine hK _ _ ?_; clear hK K)
      | (refine c_cond ?_; simp only [go_sem, Int.reduceEq, Int.reduceLE, Int.reduceLT, Int.reduceNe, Int.reduceNeg, Int.reduceAdd, Int.reduceSub, Int.reduceMul, ne_eq, not_false_eq_true, Nat.reduceLT, Nat.reduceLeDiff, Nat.reduceEqDiff, Nat.reduceAdd, Nat.reduceSub, Nat.reduceMul, if_true, if_false, decide_true, decide_false, reduceCtorEq, List.cons_append, List.nil_append, List.append_nil, Option.bind_some, Option.map_some, Option.some.injEq, BEq.rfl, Bool.false_beq, Bool.true_beq, beq_self_eq_true, Bool.not_false, Bool.not_true, Bool.false_eq_true, List.getElem?_cons_zero, List.getElem?_cons_succ, reduceIte, e0, es])
      | (show endW _ _ _ _ _; simp only [go_sem, Int.reduceEq, Int.reduceLE, Int.reduceLT, Int.reduceNe, Int.reduceNeg, Int.reduceAdd, Int.reduceSub, Int.reduceMul, ne_eq, not_false_eq_true, Nat.reduceLT, Nat.reduceLeDiff, Nat.reduceEqDiff, Nat.reduceAdd, Nat.reduceSub, Nat.reduceMul, if_true, if_false, decide_true, decide_false, reduceCtorEq, List.cons_append, List.nil_append, List.append_nil, Option.bind_some, Option.map_some, Option.some.injEq, BEq.rfl, Bool.false_beq, Bool.true_beq, beq_self_eq_true, Bool.not_false, Bool.not_true, Bool.false_eq_true, List.getElem?_cons_zero, List.getElem?_cons_succ, reduceIte, e0, es]))
  refine c_loop (fun m s => ∃ k p : Nat, s.marks = [] ∧ s.h = h ∧ s.tm.size = 11 ∧ s.tm.get 0 = .int .i64 (k : Int) ∧ s.tm.get 3 = .int .i64 (p : Int) ∧ p * 2 ^ k = 2 ^ b.toNat ∧ k ≤ 62 ∧ m = k) b.toNat ?_ ?_
  · refine ⟨b.toNat, 1, rfl, rfl, ?_, ?_, ?_, by omega, by omega, rfl⟩
    · simp only [Tm.size_set, es]
    · rw [Int.toNat_of_nonneg hb0]; simp [Tm.get_set, e0]
    · simp [Tm.get_set]
  · rintro m ⟨tm, mk, h2⟩ ⟨k, p, h1, h2, h3, h4, h5, h6, h7, rfl⟩
    simp only at h1 h2 h3 h4 h5
    subst h1; subst h2
    by_cases hk : m = 0
    · subst hk
      repeat (first
      | refine q_nn ?_
      | refine q_nr ?_
      | refine q_ne ?_
      | refine q_en ?_
      | refine q_er ?_
      | refine q_es ?_
      | refine q_eo rfl ?_
      | refine q_gn ?_
      | refine q_gr ?_
      | refine q_ge ?_
      | refine c_seq ?_
      | refine c_block ?_
      | refine c_scope ?_
      | refine c_skip ?_
      | refine c_label ?_
      | refine c_ret ?_
      | refine c_exit ?_
      | (refine c_reg fun K hK => ?_; simp only [go_sem, Int.reduceEq, Int.reduceLE, Int.reduceLT, Int.reduceNe, Int.reduceNeg, Int.reduceAdd, Int.reduceSub, Int.reduceMul, ne_eq, not_false_eq_true, Nat.reduceLT, Nat.reduceLeDiff, Nat.reduceEqDiff, Nat.reduceAdd, Nat.reduceSub, Nat.reduceMul, if_true, if_false, decide_true, decide_false, reduceCtorEq, List.cons_append, List.nil_append, List.append_nil, Option.bind_some, Option.map_some, Option.some.injEq, BEq.rfl, Bool.false_beq, Bool.true_beq, beq_self_eq_true, Bool.not_false, Bool.not_true, Bool.false_eq_true, List.getElem?_cons_zero, List.getElem?_cons_succ, reduceIte, h3, h4, h5, Int.ofNat_zero, Int.natCast_zero, gt_iff_lt, Int.lt_irrefl]; refine hK _ _ ?_; clear hK K)
      | (refine c_drw (by kernel_rfl) fun K hK => ?_; simp only [go_sem, Int.reduceEq, Int.reduceLE, Int.reduceLT, Int.reduceNe, Int.reduceNeg, Int.reduceAdd, Int.reduceSub, Int.reduceMul, ne_eq, not_false_eq_true, Nat.reduceLT, Nat.reduceLeDiff, Nat.reduceEqDiff, Nat.reduceAdd, Nat.reduceSub, Nat.reduceMul, if_true, if_false, decide_true, decide_false, reduceCtorEq, List.cons_append, List.nil_append, List.append_nil, Option.bind_some, Option.map_some, Option.some.injEq, BEq.rfl, Bool.false_beq, Bool.true_beq, beq_self_eq_true, Bool.not_false, Bool.not_true, Bool.false_eq_true, List.getElem?_cons_zero, List.getElem?_cons_succ, reduceIte, h3, h4, h5, Int.ofNat_zero, Int.natCast_zero, gt_iff_lt, Int.lt_irrefl]; refine hK _ _ ?_; clear hK K)
      | (refine c_cond ?_; simp only [go_sem, Int.reduceEq, Int.reduceLE, Int.reduceLT, Int.reduceNe, Int.reduceNeg, Int.reduceAdd, Int.reduceSub, Int.reduceMul, ne_eq, not_false_eq_true, Nat.reduceLT, Nat.reduceLeDiff, Nat.reduceEqDiff, Nat.reduceAdd, Nat.reduceSub, Nat.reduceMul, if_true, if_false, decide_true, decide_false, reduceCtorEq, List.cons_append, List.nil_append, List.append_nil, Option.bind_some, Option.map_some, Option.some.injEq, BEq.rfl, Bool.false_beq, Bool.true_beq, beq_self_eq_true, Bool.not_false, Bool.not_true, Bool.false_eq_true, List.getElem?_cons_zero, List.getElem?_cons_succ, reduceIte, h3, h4, h5, Int.ofNat_zero, Int.natCast_zero, gt_iff_lt, Int.lt_irrefl])
      | (show endW _ _ _ _ _; simp only [go_sem, Int.reduceEq, Int.reduceLE, Int.reduceLT, Int.reduceNe, Int.reduceNeg, Int.reduceAdd, Int.reduceSub, Int.reduceMul, ne_eq, not_false_eq_true, Nat.reduceLT, Nat.reduceLeDiff, Nat.reduceEqDiff, Nat.reduceAdd, Nat.reduceSub, Nat.reduceMul, if_true, if_false, decide_true, decide_false, reduceCtorEq, List.cons_append, List.nil_append, List.append_nil, Option.bind_some, Option.map_some, Option.some.injEq, BEq.rfl, Bool.false_beq, Bool.true_beq, beq_self_eq_true, Bool.not_false, Bool.not_true, Bool.false_eq_true, List.getElem?_cons_zero, List.getElem?_cons_succ, reduceIte, h3, h4, h5, Int.ofNat_zero, Int.natCast_zero, gt_iff_lt, Int.lt_irrefl]))
      simp only [Nat.pow_zero, Nat.mul_one] at h6
      rw [h6]
      exact ⟨rfl, trivial⟩
    · have hk0 : (m : Int) > 0 := by omega
      have hlt : p * 2 ^ m ≤ 2 ^ 62 := by rw [h6]; exact Nat.pow_le_pow_right (by omega) (by omega)
      have hp2 : 2 * p ≤ p * 2 ^ m := by
        have : 2 ≤ 2 ^ m := by
          have := Nat.pow_le_pow_right (n := 2) (by omega) (show 1 ≤ m by omega)
          simpa using this
        have := Nat.mul_le_mul_left p this
        omega
      have w1 : IntKind.i64.wrap (2 * (p : Int)) = ((2 * p : Nat) : Int) := by rw [wrap_i64 (by omega) (by omega)]; push_cast; rfl
      have w2 : IntKind.i64.wrap ((m : Int) - 1) = ((m - 1 : Nat) : Int) := by rw [wrap_i64 (by omega) (by omega)]; omega
      repeat (first
      | refine q_nn ?_
      | refine q_nr ?_
      | refine q_ne ?_
      | refine q_en ?_
      | refine q_er ?_
      | refine q_es ?_
      | refine q_eo rfl ?_
      | refine q_gn ?_
      | refine q_gr ?_
      | refine q_ge ?_
      | refine c_seq ?_
      | refine c_block ?_
      | refine c_scope ?_
      | refine c_skip ?_
      | refine c_label ?_
      | refine c_ret ?_
      | refine c_exit ?_
      | (refine c_reg fun K hK => ?_; simp only [go_sem, Int.reduceEq, Int.reduceLE, Int.reduceLT, Int.reduceNe, Int.reduceNeg, Int.reduceAdd, Int.reduceSub, Int.reduceMul, ne_eq, not_false_eq_true, Nat.reduceLT, Nat.reduceLeDiff, Nat.reduceEqDiff, Nat.reduceAdd, Nat.reduceSub, Nat.reduceMul, if_true, if_false, decide_true, decide_false, reduceCtorEq, List.cons_append, List.nil_append, List.append_nil, Option.bind_some, Option.map_some, Option.some.injEq, BEq.rfl, Bool.false_beq, Bool.true_beq, beq_self_eq_true, Bool.not_false, Bool.not_true, Bool.false_eq_true, List.getElem?_cons_zero, List.getElem?_cons_succ, reduceIte, h3, h4, h5, hk0, w1, w2]; refine hK _ _ ?_; clear hK K)
      | (refine c_drw (by kernel_rfl) fun K hK => ?_; simp only [go_sem, Int.reduceEq, Int.reduceLE, Int.reduceLT, Int.reduceNe, Int.reduceNeg, Int.reduceAdd, Int.reduceSub, Int.reduceMul, ne_eq, not_false_eq_true, Nat.reduceLT, Nat.reduceLeDiff, Nat.reduceEqDiff, Nat.reduceAdd, Nat.reduceSub, Nat.reduceMul, if_true, if_false, decide_true, decide_false, reduceCtorEq, List.cons_append, List.nil_append, List.append_nil, Option.bind_some, Option.map_some, Option.some.injEq, BEq.rfl, Bool.false_beq, Bool.true_beq, beq_self_eq_true, Bool.not_false, Bool.not_true, Bool.false_eq_true, List.getElem?_cons_zero, List.getElem?_cons_succ, reduceIte, h3, h4, h5, hk0, w1, w2]; refine hK _ _ ?_; clear hK K)
      | (refine c_cond ?_; simp only [go_sem, Int.reduceEq, Int.reduceLE, Int.reduceLT, Int.reduceNe, Int.reduceNeg, Int.reduceAdd, Int.reduceSub, Int.reduceMul, ne_eq, not_false_eq_true, Nat.reduceLT, Nat.reduceLeDiff, Nat.reduceEqDiff, Nat.reduceAdd, Nat.reduceSub, Nat.reduceMul, if_true, if_false, decide_true, decide_false, reduceCtorEq, List.cons_append, List.nil_append, List.append_nil, Option.bind_some, Option.map_some, Option.some.injEq, BEq.rfl, Bool.false_beq, Bool.true_beq, beq_self_eq_true, Bool.not_false, Bool.not_true, Bool.false_eq_true, List.getElem?_cons_zero, List.getElem?_cons_succ, reduceIte, h3, h4, h5, hk0, w1, w2])
      | (show endW _ _ _ _ _; simp only [go_sem, Int.reduceEq, Int.reduceLE, Int.reduceLT, Int.reduceNe, Int.reduceNeg, Int.reduceAdd, Int.reduceSub, Int.reduceMul, ne_eq, not_false_eq_true, Nat.reduceLT, Nat.reduceLeDiff, Nat.reduceEqDiff, Nat.reduceAdd, Nat.reduceSub, Nat.reduceMul, if_true, if_false, decide_true, decide_false, reduceCtorEq, List.cons_append, List.nil_append, List.append_nil, Option.bind_some, Option.map_some, Option.some.injEq, BEq.rfl, Bool.false_beq, Bool.true_beq, beq_self_eq_true, Bool.not_false, Bool.not_true, Bool.false_eq_true, List.getElem?_cons_zero, List.getElem?_cons_succ, reduceIte, h3, h4, h5, hk0, w1, w2]))
      refine ⟨m - 1, by omega, m - 1, 2 * p, rfl, rfl, ?_, ?_, ?_, ?_, by omega, rfl⟩
      · simp only [Tm.size_set, h3]
      · simp [Tm.get_set]
      · simp [Tm.get_set]
      · rw [← h6]
        have : 2 ^ m = 2 * 2 ^ (m - 1) := by
          rw [← Nat.pow_succ']; congr 1; omega
        rw [this, Nat.mul_comm 2 p, Nat.mul_assoc]

/-! ### Put -/
def putL (n : Nat) : List Nat := if 128 ≤ n then (n % 128 + 128) :: putL (n / 128) else [n]
def putS (b f n : Int) : Int × List Nat :=
  if b < 1 ∨ b > 8 ∨ f < 0 ∨ f > 255 ∨ n < 0 ∨ n > 2147483647 ∨ f % 2 ^ b.toNat ≠ 0 then (1, [])
  else if n < 2 ^ b.toNat - 1 then (0, [((f + n) % 256).toNat]) else (0, ((f + (2 ^ b.toNat - 1)) % 256).toNat :: putL (n - (2 ^ b.toNat - 1)).toNat)
def PutK (h : AH) (r : Int × List Nat) (v : AV) (h' : AH) : Prop := ∃ a, v = .tuple [a, .int .i64 r.1] ∧ Tt h.size h' 1 a (cellsB r.2) ∧ Keeps h.size h h'
theorem PutK_err {h : AH} {r : Int × List Nat} (hr : r = (1, [])) : PutK h r (.tuple [.slice none 0 0 0 true, .int .i64 1]) h := by
  subst hr
  exact ⟨_, rfl, .none _ _, Keeps.refl _ _⟩
theorem PutK_one {h : AH} {r : Int × List Nat} {x : Nat} (hr : r = (0, [x])) : PutK h r (.tuple [.slice (some (h.size, 0)) 1 1 1 true, .int .i64 0]) (h.push (.cells [.int .u8 x])) := by
  subst hr
  exact ⟨_, rfl, .some _ _ _ _ (by rw [AH.get_push, if_pos rfl]; rfl) (Nat.le_refl _) (by simp) rfl, (Keeps.refl _ _).push (Nat.le_refl _) _⟩
theorem mask_eq {b : Int} (h1 : 1 ≤ b) (h8 : b ≤ 8) : IntKind.i64.wrap (shlI .i64 1 b - 1) = 2 ^ b.toNat - 1 := by
  have : b = 1 ∨ b = 2 ∨ b = 3 ∨ b = 4 ∨ b = 5 ∨ b = 6 ∨ b = 7 ∨ b = 8 := by omega
  rcases this with rfl | rfl | rfl | rfl | rfl | rfl | rfl | rfl <;> decide
theorem and_all : ∀ b, b < 9 → ∀ f, f < 256 → andI .i64 (f : Nat) (2 ^ b - 1) = (f : Int) % 2 ^ b := by decide +kernel
theorem and_eq {b f : Int} (h1 : 1 ≤ b) (h8 : b ≤ 8) (hf : 0 ≤ f) (hf2 : f ≤ 255) : andI .i64 f (2 ^ b.toNat - 1) = f % 2 ^ b.toNat := by
  have := and_all b.toNat (by omega) f.toNat (by omega)
  rwa [Int.toNat_of_nonneg hf] at this
theorem or_all : ∀ x, x < 256 → orI .u8 (x : Nat) 128 = ((x % 128 + 128 : Nat) : Int) := by decide +kernel
theorem pow_le {b : Int} (h1 : 1 ≤ b) (h8 : b ≤ 8) : (2 : Int) ≤ 2 ^ b.toNat ∧ (2 : Int) ^ b.toNat ≤ 256 := by
  have : b = 1 ∨ b = 2 ∨ b = 3 ∨ b = 4 ∨ b = 5 ∨ b = 6 ∨ b = 7 ∨ b = 8 := by omega
  rcases this with rfl | rfl | rfl | rfl | rfl | rfl | rfl | rfl <;> decide

set_option maxHeartbeats 4000000 in
theorem put (b f n : Int) (h : AH) : callW Try.prog Try.T 9 [.int .i64 b, .int .i64 f, .int .i64 n] h (PutK h (putS b f n)) := by
  refine callW_of (n := 71) (rs := [.tmp 6, .tmp 7]) Try.func9 rfl rfl rfl ?_
  have e0 : (Tm.enter [AV.int IntKind.i64 b, AV.int IntKind.i64 f, AV.int IntKind.i64 n] 71).get 0 = .int .i64 b := rfl
  have e1 : (Tm.enter [AV.int IntKind.i64 b, AV.int IntKind.i64 f, AV.int IntKind.i64 n] 71).get 1 = .int .i64 f := rfl
  have e2 : (Tm.enter [AV.int IntKind.i64 b, AV.int IntKind.i64 f, AV.int IntKind.i64 n] 71).get 2 = .int .i64 n := rfl
  have es : (Tm.enter [AV.int IntKind.i64 b, AV.int IntKind.i64 f, AV.int IntKind.i64 n] 71).size = 71 := rfl
  generalize (Tm.enter [AV.int IntKind.i64 b, AV.int IntKind.i64 f, AV.int IntKind.i64 n] 71) = tm at *
  by_cases hb : b < 1
  · repeat (first
      | refine q_nn ?_
      | refine q_nr ?_
      | refine q_ne ?_
      | refine q_en ?_
      | refine q_er ?_
      | refine q_es ?_
      | refine q_eo rfl ?_
      | refine q_gn ?_
      | refine q_gr ?_
      | refine q_ge ?_
      | refine c_seq ?_
      | refine c_block ?_
      | refine c_scope ?_
      | refine c_skip ?_
      | refine c_label ?_
      | refine c_ret ?_
      | refine c_exit ?_
      | (refine c_reg fun K hK => ?_; simp only [go_sem, Int.reduceEq, Int.reduceLE, Int.reduceLT, Int.reduceNe, Int.reduceNeg, Int.reduceAdd, Int.reduceSub, Int.reduceMul, ne_eq, not_false_eq_true, Nat.reduceLT, Nat.reduceLeDiff, Nat.reduceEqDiff, Nat.reduceAdd, Nat.reduceSub, Nat.reduceMul, if_true, if_false, decide_true, decide_false, reduceCtorEq, List.cons_append, List.nil_append, List.append_nil, Option.bind_some, Option.map_some, Option.some.injEq, BEq.rfl, Bool.false_beq, Bool.true_beq, beq_self_eq_true, Bool.not_false, Bool.not_true, Bool.false_eq_true, List.getElem?_cons_zero, List.getElem?_cons_succ, reduceIte, e0, e1, e2, es, hb]; refine hK _ _ ?_; clear hK K)
      | (refine c_drw (by kernel_rfl) fun K hK => ?_; simp only [go_sem, Int.reduceEq, Int.reduceLE, Int.reduceLT, Int.reduceNe, Int.reduceNeg, Int.reduceAdd, Int.reduceSub, Int.reduceMul, ne_eq, not_false_eq_true, Nat.reduceLT, Nat.reduceLeDiff, Nat.reduceEqDiff, Nat.reduceAdd, Nat.reduceSub, Nat.reduceMul, if_true, if_false, decide_true, decide_false, reduceCtorEq, List.cons_append, List.nil_append, List.append_nil, Option.bind_some, Option.map_some, Option.some.injEq, BEq.rfl, Bool.false_beq, Bool.true_beq, beq_self_eq_true, Bool.not_false, Bool.not_true, Bool.false_eq_true, List.getElem?_cons_zero, List.getElem?_cons_succ, reduceIte, e0, e1, e2, es, hb]; refine hK _ _ ?_; clear hK K)
      | (refine c_cond ?_; simp only [go_sem, Int.reduceEq, Int.reduceLE, Int.reduceLT, Int.reduceNe, Int.reduceNeg, Int.reduceAdd, Int.reduceSub, Int.reduceMul, ne_eq, not_false_eq_true, Nat.reduceLT, Nat.reduceLeDiff, Nat.reduceEqDiff, Nat.reduceAdd, Nat.reduceSub, Nat.reduceMul, if_true, if_false, decide_true, decide_false, reduceCtorEq, List.cons_append, List.nil_append, List.append_nil, Option.bind_some, Option.map_some, Option.some.injEq, BEq.rfl, Bool.false_beq, Bool.true_beq, beq_self_eq_true, Bool.not_false, Bool.not_true, Bool.false_eq_true, List.getElem?_cons_zero, List.getElem?_cons_succ, reduceIte, e0, e1, e2, es, hb])
      | (show endW _ _ _ _ _; simp only [go_sem, Int.reduceEq, Int.reduceLE, Int.reduceLT, Int.reduceNe, Int.reduceNeg, Int.reduceAdd, Int.reduceSub, Int.reduceMul, ne_eq, not_false_eq_true, Nat.reduceLT, Nat.reduceLeDiff, Nat.reduceEqDiff, Nat.reduceAdd, Nat.reduceSub, Nat.reduceMul, if_true, if_false, decide_true, decide_false, reduceCtorEq, List.cons_append, List.nil_append, List.append_nil, Option.bind_some, Option.map_some, Option.some.injEq, BEq.rfl, Bool.false_beq, Bool.true_beq, beq_self_eq_true, Bool.not_false, Bool.not_true, Bool.false_eq_true, List.getElem?_cons_zero, List.getElem?_cons_succ, reduceIte, e0, e1, e2, es, hb]))
    exact PutK_err (by rw [putS, if_pos (.inl hb)])
  by_cases h8 : b > 8
  · repeat (first
      | refine q_nn ?_
      | refine q_nr ?_
      | refine q_ne ?_
      | refine q_en ?_
      | refine q_er ?_
      | refine q_es ?_
      | refine q_eo rfl ?_
      | refine q_gn ?_
      | refine q_gr ?_
      | refine q_ge ?_
      | refine c_seq ?_
      | refine c_block ?_
      | refine c_scope ?_
      | refine c_skip ?_
      | refine c_label ?_
      | refine c_ret ?_
      | refine c_exit ?_
      | (refine c_reg fun K hK => ?_; simp only [go_sem, Int.reduceEq, Int.reduceLE, Int.reduceLT, Int.reduceNe, Int.reduceNeg, Int.reduceAdd, Int.reduceSub, Int.reduceMul, ne_eq, not_false_eq_true, Nat.reduceLT, Nat.reduceLeDiff, Nat.reduceEqDiff, Nat.reduceAdd, Nat.reduceSub, Nat.reduceMul, if_true, if_false, decide_true, decide_false, reduceCtorEq, List.cons_append, List.nil_append, List.append_nil, Option.bind_some, Option.map_some, Option.some.injEq, BEq.rfl, Bool.false_beq, Bool.true_beq, beq_self_eq_true, Bool.not_false, Bool.not_true, Bool.false_eq_true, List.getElem?_cons_zero, List.getElem?_cons_succ, reduceIte, e0, e1, e2, es, hb, h8]; refine hK _ _ ?_; clear hK K)
      | (refine c_drw (by kernel_rfl) fun K hK => ?_; simp only [go_sem, Int.reduceEq, Int.reduceLE, Int.reduceLT, Int.reduceNe, Int.reduceNeg, Int.reduceAdd, Int.reduceSub, Int.reduceMul, ne_eq, not_false_eq_true, Nat.reduceLT, Nat.reduceLeDiff, Nat.reduceEqDiff, Nat.reduceAdd, Nat.reduceSub, Nat.reduceMul, if_true, if_false, decide_true, decide_false, reduceCtorEq, List.cons_append, List.nil_append, List.append_nil, Option.bind_some, Option.map_some, Option.some.injEq, BEq.rfl, Bool.false_beq, Bool.true_beq, beq_self_eq_true, Bool.not_false, Bool.not_true, Bool.false_eq_true, List.getElem?_cons_zero, List.getElem?_cons_succ, reduceIte, e0, e1, e2, es, hb, h8]; refine hK _ _ ?_; clear hK K)
      | (refine c_cond ?_; simp only [go_sem, Int.reduceEq, Int.reduceLE, Int.reduceLT, Int.reduceNe, Int.reduceNeg, Int.reduceAdd, Int.reduceSub, Int.reduceMul, ne_eq, not_false_eq_true, Nat.reduceLT, Nat.reduceLeDiff, Nat.reduceEqDiff, Nat.reduceAdd, Nat.reduceSub, Nat.reduceMul, if_true, if_false, decide_true, decide_false, reduceCtorEq, List.cons_append, List.nil_append, List.append_nil, Option.bind_some, Option.map_some, Option.some.injEq, BEq.rfl, Bool.false_beq, Bool.true_beq, beq_self_eq_true, Bool.not_false, Bool.not_true, Bool.false_eq_true, List.getElem?_cons_zero, List.getElem?_cons_succ, reduceIte, e0, e1, e2, es, hb, h8])
      | (show endW _ _ _ _ _; simp only [go_sem, Int.reduceEq, Int.reduceLE, Int.reduceLT, Int.reduceNe, Int.reduceNeg, Int.reduceAdd, Int.reduceSub, Int.reduceMul, ne_eq, not_false_eq_true, Nat.reduceLT, Nat.reduceLeDiff, Nat.reduceEqDiff, Nat.reduceAdd, Nat.reduceSub, Nat.reduceMul, if_true, if_false, decide_true, decide_false, reduceCtorEq, List.cons_append, List.nil_append, List.append_nil, Option.bind_some, Option.map_some, Option.some.injEq, BEq.rfl, Bool.false_beq, Bool.true_beq, beq_self_eq_true, Bool.not_false, Bool.not_true, Bool.false_eq_true, List.getElem?_cons_zero, List.getElem?_cons_succ, reduceIte, e0, e1, e2, es, hb, h8]))
    exact PutK_err (by rw [putS, if_pos (by omega)])
  by_cases hf : f < 0
  · repeat (first
      | refine q_nn ?_
      | refine q_nr ?_
      | refine q_ne ?_
      | refine q_en ?_
      | refine q_er ?_
      | refine q_es ?_
      | refine q_eo rfl ?_
      | refine q_gn ?_
      | refine q_gr ?_
      | refine q_ge ?_
      | refine c_seq ?_
      | refine c_block ?_
      | refine c_scope ?_
      | refine c_skip ?_
      | refine c_label ?_
      | refine c_ret ?_
      | refine c_exit ?_
      | (refine c_reg fun K hK => ?_; simp only [go_sem, Int.reduceEq, Int.reduceLE, Int.reduceLT, Int.reduceNe, Int.reduceNeg, Int.reduceAdd, Int.reduceSub, Int.reduceMul, ne_eq, not_false_eq_true, Nat.reduceLT, Nat.reduceLeDiff, Nat.reduceEqDiff, Nat.reduceAdd, Nat.reduceSub, Nat.reduceMul, if_true, if_false, decide_true, decide_false, reduceCtorEq, List.cons_append, List.nil_append, List.append_nil, Option.bind_some, Option.map_some, Option.some.injEq, BEq.rfl, Bool.false_beq, Bool.true_beq, beq_self_eq_true, Bool.not_false, Bool.not_true, Bool.false_eq_true, List.getElem?_cons_zero, List.getElem?_cons_succ, reduceIte, e0, e1, e2, es, hb, h8, hf]; refine hK _ _ ?_; clear hK K)
      | (refine c_drw (by kernel_rfl) fun K hK => ?_; simp only [go_sem, Int.reduceEq, Int.reduceLE, Int.reduceLT, Int.reduceNe, Int.reduceNeg, Int.reduceAdd, Int.reduceSub, Int.reduceMul, ne_eq, not_false_eq_true, Nat.reduceLT, Nat.reduceLeDiff, Nat.reduceEqDiff, Nat.reduceAdd, Nat.reduceSub, Nat.reduceMul, if_true, if_false, decide_true, decide_false, reduceCtorEq, List.cons_append, List.nil_append, List.append_nil, Option.bind_some, Option.map_some, Option.some.injEq, BEq.rfl, Bool.false_beq, Bool.true_beq, beq_self_eq_true, Bool.not_false, Bool.not_true, Bool.false_eq_true, List.getElem?_cons_zero, List.getElem?_cons_succ, reduceIte, e0, e1, e2, es, hb, h8, hf]; refine hK _ _ ?_; clear hK K)
      | (refine c_cond ?_; simp only [go_sem, Int.reduceEq, Int.reduceLE, Int.reduceLT, Int.reduceNe, Int.reduceNeg, Int.reduceAdd, Int.reduceSub, Int.reduceMul, ne_eq, not_false_eq_true, Nat.reduceLT, Nat.reduceLeDiff, Nat.reduceEqDiff, Nat.reduceAdd, Nat.reduceSub, Nat.reduceMul, if_true, if_false, decide_true, decide_false, reduceCtorEq, List.cons_append, List.nil_append, List.append_nil, Option.bind_some, Option.map_some, Option.some.injEq, BEq.rfl, Bool.false_beq, Bool.true_beq, beq_self_eq_true, Bool.not_false, Bool.not_true, Bool.false_eq_true, List.getElem?_cons_zero, List.getElem?_cons_succ, reduceIte, e0, e1, e2, es, hb, h8, hf])
      | (show endW _ _ _ _ _; simp only [go_sem, Int.reduceEq, Int.reduceLE, Int.reduceLT, Int.reduceNe, Int.reduceNeg, Int.reduceAdd, Int.reduceSub, Int.reduceMul, ne_eq, not_false_eq_true, Nat.reduceLT, Nat.reduceLeDiff, Nat.reduceEqDiff, Nat.reduceAdd, Nat.reduceSub, Nat.reduceMul, if_true, if_false, decide_true, decide_false, reduceCtorEq, List.cons_append, List.nil_append, List.append_nil, Option.bind_some, Option.map_some, Option.some.injEq, BEq.rfl, Bool.false_beq, Bool.true_beq, beq_self_eq_true, Bool.not_false, Bool.not_true, Bool.false_eq_true, List.getElem?_cons_zero, List.getElem?_cons_succ, reduceIte, e0, e1, e2, es, hb, h8, hf]))
    exact PutK_err (by rw [putS, if_pos (by omega)])
  by_cases hf2 : f > 255
  · repeat (first
      | refine q_nn ?_
      | refine q_nr ?_
      | refine q_ne ?_
      | refine q_en ?_
      | refine q_er ?_
      | refine q_es ?_
      | refine q_eo rfl ?_
      | refine q_gn ?_
      | refine q_gr ?_
      | refine q_ge ?_
      | refine c_seq ?_
      | refine c_block ?_
      | refine c_scope ?_
      | refine c_skip ?_
      | refine c_label ?_
      | refine c_ret ?_
      | refine c_exit ?_
      | (refine c_reg fun K hK => ?_; simp only [go_sem, Int.reduceEq, Int.reduceLE, Int.reduceLT, Int.reduceNe, Int.reduceNeg, Int.reduceAdd, Int.reduceSub, Int.reduceMul, ne_eq, not_false_eq_true, Nat.reduceLT, Nat.reduceLeDiff, Nat.reduceEqDiff, Nat.reduceAdd, Nat.reduceSub, Nat.reduceMul, if_true, if_false, decide_true, decide_false, reduceCtorEq, List.cons_append, List.nil_append, List.append_nil, Option.bind_some, Option.map_some, Option.some.injEq, BEq.rfl, Bool.false_beq, Bool.true_beq, beq_self_eq_true, Bool.not_false, Bool.not_true, Bool.false_eq_true, List.getElem?_cons_zero, List.getElem?_cons_succ, reduceIte, e0, e1, e2, es, hb, h8, hf, hf2]; refine hK _ _ ?_; clear hK K)
      | (refine c_drw (by kernel_rfl) fun K hK => ?_; simp only [go_sem, Int.reduceEq, Int.reduceLE, Int.reduceLT, Int.reduceNe, Int.reduceNeg, Int.reduceAdd, Int.reduceSub, Int.reduceMul, ne_eq, not_false_eq_true, Nat.reduceLT, Nat.reduceLeDiff, Nat.reduceEqDiff, Nat.reduceAdd, Nat.reduceSub, Nat.reduceMul, if_true, if_false, decide_true, decide_false, reduceCtorEq, List.cons_append, List.nil_append, List.append_nil, Option.bind_some, Option.map_some, Option.some.injEq, BEq.rfl, Bool.false_beq, Bool.true_beq, beq_self_eq_true, Bool.not_false, Bool.not_true, Bool.false_eq_true, List.getElem?_cons_zero, List.getElem?_cons_succ, reduceIte, e0, e1, e2, es, hb, h8, hf, hf2]; refine hK _ _ ?_; clear hK K)
      | (refine c_cond ?_; simp only [go_sem, Int.reduceEq, Int.reduceLE, Int.reduceLT, Int.reduceNe, Int.reduceNeg, Int.reduceAdd, Int.reduceSub, Int.reduceMul, ne_eq, not_false_eq_true, Nat.reduceLT, Nat.reduceLeDiff, Nat.reduceEqDiff, Nat.reduceAdd, Nat.reduceSub, Nat.reduceMul, if_true, if_false, decide_true, decide_false, reduceCtorEq, List.cons_append, List.nil_append, List.append_nil, Option.bind_some, Option.map_some, Option.some.injEq, BEq.rfl, Bool.false_beq, Bool.true_beq, beq_self_eq_true, Bool.not_false, Bool.not_true, Bool.false_eq_true, List.getElem?_cons_zero, List.getElem?_cons_succ, reduceIte, e0, e1, e2, es, hb, h8, hf, hf2])
      | (show endW _ _ _ _ _; simp only [go_sem, Int.reduceEq, Int.reduceLE, Int.reduceLT, Int.reduceNe, Int.reduceNeg, Int.reduceAdd, Int.reduceSub, Int.reduceMul, ne_eq, not_false_eq_true, Nat.reduceLT, Nat.reduceLeDiff, Nat.reduceEqDiff, Nat.reduceAdd, Nat.reduceSub, Nat.reduceMul, if_true, if_false, decide_true, decide_false, reduceCtorEq, List.cons_append, List.nil_append, List.append_nil, Option.bind_some, Option.map_some, Option.some.injEq, BEq.rfl, Bool.false_beq, Bool.true_beq, beq_self_eq_true, Bool.not_false, Bool.not_true, Bool.false_eq_true, List.getElem?_cons_zero, List.getElem?_cons_succ, reduceIte, e0, e1, e2, es, hb, h8, hf, hf2]))
    exact PutK_err (by rw [putS, if_pos (by omega)])
  by_cases hn : n < 0
  · repeat (first
      | refine q_nn ?_
      | refine q_nr ?_
      | refine q_ne ?_
      | refine q_en ?_
      | refine q_er ?_
      | refine q_es ?_
      | refine q_eo rfl ?_
      | refine q_gn ?_
      | refine q_gr ?_
      | refine q_ge ?_
      | refine c_seq ?_
      | refine c_block ?_
      | refine c_scope ?_
      | refine c_skip ?_
      | refine c_label ?_
      | refine c_ret ?_
      | refine c_exit ?_
      | (refine c_reg fun K hK => ?_; simp only [go_sem, Int.reduceEq, Int.reduceLE, Int.reduceLT, Int.reduceNe, Int.reduceNeg, Int.reduceAdd, Int.reduceSub, Int.reduceMul, ne_eq, not_false_eq_true, Nat.reduceLT, Nat.reduceLeDiff, Nat.reduceEqDiff, Nat.reduceAdd, Nat.reduceSub, Nat.reduceMul, if_true, if_false, decide_true, decide_false, reduceCtorEq, List.cons_append, List.nil_append, List.append_nil, Option.bind_some, Option.map_some, Option.some.injEq, BEq.rfl, Bool.false_beq, Bool.true_beq, beq_self_eq_true, Bool.not_false, Bool.not_true, Bool.false_eq_true, List.getElem?_cons_zero, List.getElem?_cons_succ, reduceIte, e0, e1, e2, es, hb, h8, hf, hf2, hn]; refine hK _ _ ?_; clear hK K)
      | (refine c_drw (by kernel_rfl) fun K hK => ?_; simp only [go_sem, Int.reduceEq, Int.reduceLE, Int.reduceLT, Int.reduceNe, Int.reduceNeg, Int.reduceAdd, Int.reduceSub, Int.reduceMul, ne_eq, not_false_eq_true, Nat.reduceLT, Nat.reduceLeDiff, Nat.reduceEqDiff, Nat.reduceAdd, Nat.reduceSub, Nat.reduceMul, if_true, if_false, decide_true, decide_false, reduceCtorEq, List.cons_append, List.nil_append, List.append_nil, Option.bind_some, Option.map_some, Option.some.injEq, BEq.rfl, Bool.false_beq, Bool.true_beq, beq_self_eq_true, Bool.not_false, Bool.not_true, Bool.false_eq_true, List.getElem?_cons_zero, List.getElem?_cons_succ, reduceIte, e0, e1, e2, es, hb, h8, hf, hf2, hn]; refine hK _ _ ?_; clear hK K)
      | (refine c_cond ?_; simp only [go_sem, Int.reduceEq, Int.reduceLE, Int.reduceLT, Int.reduceNe, Int.reduceNeg, Int.reduceAdd, Int.reduceSub, Int.reduceMul, ne_eq, not_false_eq_true, Nat.reduceLT, Nat.reduceLeDiff, Nat.reduceEqDiff, Nat.reduceAdd, Nat.reduceSub, Nat.reduceMul, if_true, if_false, decide_true, decide_false, reduceCtorEq, List.cons_append, List.nil_append, List.append_nil, Option.bind_some, Option.map_some, Option.some.injEq, BEq.rfl, Bool.false_beq, Bool.true_beq, beq_self_eq_true, Bool.not_false, Bool.not_true, Bool.false_eq_true, List.getElem?_cons_zero, List.getElem?_cons_succ, reduceIte, e0, e1, e2, es, hb, h8, hf, hf2, hn])
      | (show endW _ _ _ _ _; simp only [go_sem, Int.reduceEq, Int.reduceLE, Int.reduceLT, Int.reduceNe, Int.reduceNeg, Int.reduceAdd, Int.reduceSub, Int.reduceMul, ne_eq, not_false_eq_true, Nat.reduceLT, Nat.reduceLeDiff, Nat.reduceEqDiff, Nat.reduceAdd, Nat.reduceSub, Nat.reduceMul, if_true, if_false, decide_true, decide_false, reduceCtorEq, List.cons_append, List.nil_append, List.append_nil, Option.bind_some, Option.map_some, Option.some.injEq, BEq.rfl, Bool.false_beq, Bool.true_beq, beq_self_eq_true, Bool.not_false, Bool.not_true, Bool.false_eq_true, List.getElem?_cons_zero, List.getElem?_cons_succ, reduceIte, e0, e1, e2, es, hb, h8, hf, hf2, hn]))
    exact PutK_err (by rw [putS, if_pos (by omega)])
  by_cases hn2 : n > 2147483647
  · repeat (first
      | refine q_nn ?_
      | refine q_nr ?_
      | refine q_ne ?_
      | refine q_en ?_
      | refine q_er ?_
      | refine q_es ?_
      | refine q_eo rfl ?_
      | refine q_gn ?_
      | refine q_gr ?_
      | refine q_ge ?_
      | refine c_seq ?_
      | refine c_block ?_
      | refine c_scope ?_
      | refine c_skip ?_
      | refine c_label ?_
      | refine c_ret ?_
      | refine c_exit ?_
      | (refine c_reg fun K hK => ?_; simp only [go_sem, Int.reduceEq, Int.reduceLE, Int.reduceLT, Int.reduceNe, Int.reduceNeg, Int.reduceAdd, Int.reduceSub, Int.reduceMul, ne_eq, not_false_eq_true, Nat.reduceLT, Nat.reduceLeDiff, Nat.reduceEqDiff, Nat.reduceAdd, Nat.reduceSub, Nat.reduceMul, if_true, if_false, decide_true, decide_false, reduceCtorEq, List.cons_append, List.nil_append, List.append_nil, Option.bind_some, Option.map_some, Option.some.injEq, BEq.rfl, Bool.false_beq, Bool.true_beq, beq_self_eq_true, Bool.not_false, Bool.not_true, Bool.false_eq_true, List.getElem?_cons_zero, List.getElem?_cons_succ, reduceIte, e0, e1, e2, es, hb, h8, hf, hf2, hn, hn2]; refine hK _ _ ?_; clear hK K)
      | (refine c_drw (by kernel_rfl) fun K hK => ?_; simp only [go_sem, Int.reduceEq, Int.reduceLE, Int.reduceLT, Int.reduceNe, Int.reduceNeg, Int.reduceAdd, Int.reduceSub, Int.reduceMul, ne_eq, not_false_eq_true, Nat.reduceLT, Nat.reduceLeDiff, Nat.reduceEqDiff, Nat.reduceAdd, Nat.reduceSub, Nat.reduceMul, if_true, if_false, decide_true, decide_false, reduceCtorEq, List.cons_append, List.nil_append, List.append_nil, Option.bind_some, Option.map_some, Option.some.injEq, BEq.rfl, Bool.false_beq, Bool.true_beq, beq_self_eq_true, Bool.not_false, Bool.not_true, Bool.false_eq_true, List.getElem?_cons_zero, List.getElem?_cons_succ, reduceIte, e0, e1, e2, es, hb, h8, hf, hf2, hn, hn2]; refine hK _ _ ?_; clear hK K)
      | (refine c_cond ?_; simp only [go_sem, Int.reduceEq, Int.reduceLE, Int.reduceLT, Int.reduceNe, Int.reduceNeg, Int.reduceAdd, Int.reduceSub, Int.reduceMul, ne_eq, not_false_eq_true, Nat.reduceLT, Nat.reduceLeDiff, Nat.reduceEqDiff, Nat.reduceAdd, Nat.reduceSub, Nat.reduceMul, if_true, if_false, decide_true, decide_false, reduceCtorEq, List.cons_append, List.nil_append, List.append_nil, Option.bind_some, Option.map_some, Option.some.injEq, BEq.rfl, Bool.false_beq, Bool.true_beq, beq_self_eq_true, Bool.not_false, Bool.not_true, Bool.false_eq_true, List.getElem?_cons_zero, List.getElem?_cons_succ, reduceIte, e0, e1, e2, es, hb, h8, hf, hf2, hn, hn2])
      | (show endW _ _ _ _ _; simp only [go_sem, Int.reduceEq, Int.reduceLE, Int.reduceLT, Int.reduceNe, Int.reduceNeg, Int.reduceAdd, Int.reduceSub, Int.reduceMul, ne_eq, not_false_eq_true, Nat.reduceLT, Nat.reduceLeDiff, Nat.reduceEqDiff, Nat.reduceAdd, Nat.reduceSub, Nat.reduceMul, if_true, if_false, decide_true, decide_false, reduceCtorEq, List.cons_append, List.nil_append, List.append_nil, Option.bind_some, Option.map_some, Option.some.injEq, BEq.rfl, Bool.false_beq, Bool.true_beq, beq_self_eq_true, Bool.not_false, Bool.not_true, Bool.false_eq_true, List.getElem?_cons_zero, List.getElem?_cons_succ, reduceIte, e0, e1, e2, es, hb, h8, hf, hf2, hn, hn2]))
    exact PutK_err (by rw [putS, if_pos (by omega)])
  have hb0 : 0 ≤ b := by omega
  have hm := mask_eq (b := b) (by omega) (by omega)
  have ha := and_eq (b := b) (f := f) (by omega) (by omega) (by omega) (by omega)
  have hp := pow_le (b := b) (by omega) (by omega)
  have hbits : IntKind.i64.bits = 64 := rfl
  have hbit8 : IntKind.u8.bits = 8 := rfl
  by_cases hz : f % 2 ^ b.toNat ≠ 0
  · have hz2 : (f % 2 ^ b.toNat != 0) = true := by simpa using hz
    repeat (first
      | refine q_nn ?_
      | refine q_nr ?_
      | refine q_ne ?_
      | refine q_en ?_
      | refine q_er ?_
      | refine q_es ?_
      | refine q_eo rfl ?_
      | refine q_gn ?_
      | refine q_gr ?_
      | refine q_ge ?_
      | refine c_seq ?_
      | refine c_block ?_
      | refine c_scope ?_
      | refine c_skip ?_
      | refine c_label ?_
      | refine c_ret ?_
      | refine c_exit ?_
      | (refine c_reg fun K hK => ?_; simp only [go_sem, Int.reduceEq, Int.reduceLE, Int.reduceLT, Int.reduceNe, Int.reduceNeg, Int.reduceAdd, Int.reduceSub, Int.reduceMul, ne_eq, not_false_eq_true, Nat.reduceLT, Nat.reduceLeDiff, Nat.reduceEqDiff, Nat.reduceAdd, Nat.reduceSub, Nat.reduceMul, if_true, if_false, decide_true, decide_false, reduceCtorEq, List.cons_append, List.nil_append, List.append_nil, Option.bind_some, Option.map_some, Option.some.injEq, BEq.rfl, Bool.false_beq, Bool.true_beq, beq_self_eq_true, Bool.not_false, Bool.not_true, Bool.false_eq_true, List.getElem?_cons_zero, List.getElem?_cons_succ, reduceIte, e0, e1, e2, es, hb, h8, hf, hf2, hn, hn2, hb0, d2, d3, d5, bs23, hbits, hm, ha, hz2]; refine hK _ _ ?_; clear hK K)
      | (refine c_drw (by kernel_rfl) fun K hK => ?_; simp only [go_sem, Int.reduceEq, Int.reduceLE, Int.reduceLT, Int.reduceNe, Int.reduceNeg, Int.reduceAdd, Int.reduceSub, Int.reduceMul, ne_eq, not_false_eq_true, Nat.reduceLT, Nat.reduceLeDiff, Nat.reduceEqDiff, Nat.reduceAdd, Nat.reduceSub, Nat.reduceMul, if_true, if_false, decide_true, decide_false, reduceCtorEq, List.cons_append, List.nil_append, List.append_nil, Option.bind_some, Option.map_some, Option.some.injEq, BEq.rfl, Bool.false_beq, Bool.true_beq, beq_self_eq_true, Bool.not_false, Bool.not_true, Bool.false_eq_true, List.getElem?_cons_zero, List.getElem?_cons_succ, reduceIte, e0, e1, e2, es, hb, h8, hf, hf2, hn, hn2, hb0, d2, d3, d5, bs23, hbits, hm, ha, hz2]; refine hK _ _ ?_; clear hK K)
      | (refine c_cond ?_; simp only [go_sem, Int.reduceEq, Int.reduceLE, Int.reduceLT, Int.reduceNe, Int.reduceNeg, Int.reduceAdd, Int.reduceSub, Int.reduceMul, ne_eq, not_false_eq_true, Nat.reduceLT, Nat.reduceLeDiff, Nat.reduceEqDiff, Nat.reduceAdd, Nat.reduceSub, Nat.reduceMul, if_true, if_false, decide_true, decide_false, reduceCtorEq, List.cons_append, List.nil_append, List.append_nil, Option.bind_some, Option.map_some, Option.some.injEq, BEq.rfl, Bool.false_beq, Bool.true_beq, beq_self_eq_true, Bool.not_false, Bool.not_true, Bool.false_eq_true, List.getElem?_cons_zero, List.getElem?_cons_succ, reduceIte, e0, e1, e2, es, hb, h8, hf, hf2, hn, hn2, hb0, d2, d3, d5, bs23, hbits, hm, ha, hz2])
      | (show endW _ _ _ _ _; simp only [go_sem, Int.reduceEq, Int.reduceLE, Int.reduceLT, Int.reduceNe, Int.reduceNeg, Int.reduceAdd, Int.reduceSub, Int.reduceMul, ne_eq, not_false_eq_true, Nat.reduceLT, Nat.reduceLeDiff, Nat.reduceEqDiff, Nat.reduceAdd, Nat.reduceSub, Nat.reduceMul, if_true, if_false, decide_true, decide_false, reduceCtorEq, List.cons_append, List.nil_append, List.append_nil, Option.bind_some, Option.map_some, Option.some.injEq, BEq.rfl, Bool.false_beq, Bool.true_beq, beq_self_eq_true, Bool.not_false, Bool.not_true, Bool.false_eq_true, List.getElem?_cons_zero, List.getElem?_cons_succ, reduceIte, e0, e1, e2, es, hb, h8, hf, hf2, hn, hn2, hb0, d2, d3, d5, bs23, hbits, hm, ha, hz2]))
    exact PutK_err (by rw [putS, if_pos (by simp [hz])])
  have hz : f % 2 ^ b.toNat = 0 := by omega
  have hz2 : (f % 2 ^ b.toNat != 0) = false := by simpa using hz
  have hS : putS b f n = (if n < 2 ^ b.toNat - 1 then (0, [((f + n) % 256).toNat]) else (0, ((f + (2 ^ b.toNat - 1)) % 256).toNat :: putL (n - (2 ^ b.toNat - 1)).toNat)) := by
    rw [putS, if_neg (by rintro (h | h | h | h | h | h | h) <;> first | exact h hz | omega)]
  rw [hS]
  generalize hM : (2 : Int) ^ b.toNat - 1 = M at *
  by_cases hl : n < M
  · rw [if_pos hl]
    have hw : IntKind.u8.wrap (IntKind.u8.wrap f + IntKind.u8.wrap n) = (((f + n) % 256).toNat : Int) := by
      simp only [wrap_u8]; omega
    repeat (first
      | refine q_nn ?_
      | refine q_nr ?_
      | refine q_ne ?_
      | refine q_en ?_
      | refine q_er ?_
      | refine q_es ?_
      | refine q_eo rfl ?_
      | refine q_gn ?_
      | refine q_gr ?_
      | refine q_ge ?_
      | refine c_seq ?_
      | refine c_block ?_
      | refine c_scope ?_
      | refine c_skip ?_
      | refine c_label ?_
      | refine c_ret ?_
      | refine c_exit ?_
      | (refine c_reg fun K hK => ?_; simp only [go_sem, Int.reduceEq, Int.reduceLE, Int.reduceLT, Int.reduceNe, Int.reduceNeg, Int.reduceAdd, Int.reduceSub, Int.reduceMul, ne_eq, not_false_eq_true, Nat.reduceLT, Nat.reduceLeDiff, Nat.reduceEqDiff, Nat.reduceAdd, Nat.reduceSub, Nat.reduceMul, if_true, if_false, decide_true, decide_false, reduceCtorEq, List.cons_append, List.nil_append, List.append_nil, Option.bind_some, Option.map_some, Option.some.injEq, BEq.rfl, Bool.false_beq, Bool.true_beq, beq_self_eq_true, Bool.not_false, Bool.not_true, Bool.false_eq_true, List.getElem?_cons_zero, List.getElem?_cons_succ, reduceIte, e0, e1, e2, es, hb, h8, hf, hf2, hn, hn2, hb0, d2, d3, d5, bs23, hbits, hm, ha, hz2, hl, hw, conv_int d3 d5, conv_int d2 d5]; refine hK _ _ ?_; clear hK K)
      | (refine c_drw (by kernel_rfl) fun K hK => ?_; simp only [go_sem, Int.reduceEq, Int.reduceLE, Int.reduceLT, Int.reduceNe, Int.reduceNeg, Int.reduceAdd, Int.reduceSub, Int.reduceMul, ne_eq, not_false_eq_true, Nat.reduceLT, Nat.reduceLeDiff, Nat.reduceEqDiff, Nat.reduceAdd, Nat.reduceSub, Nat.reduceMul, if_true, if_false, decide_true, decide_false, reduceCtorEq, List.cons_append, List.nil_append, List.append_nil, Option.bind_some, Option.map_some, Option.some.injEq, BEq.rfl, Bool.false_beq, Bool.true_beq, beq_self_eq_true, Bool.not_false, Bool.not_true, Bool.false_eq_true, List.getElem?_cons_zero, List.getElem?_cons_succ, reduceIte, e0, e1, e2, es, hb, h8, hf, hf2, hn, hn2, hb0, d2, d3, d5, bs23, hbits, hm, ha, hz2, hl, hw, conv_int d3 d5, conv_int d2 d5]; refine hK _ _ ?_; clear hK K)
      | (refine c_cond ?_; simp only [go_sem, Int.reduceEq, Int.reduceLE, Int.reduceLT, Int.reduceNe, Int.reduceNeg, Int.reduceAdd, Int.reduceSub, Int.reduceMul, ne_eq, not_false_eq_true, Nat.reduceLT, Nat.reduceLeDiff, Nat.reduceEqDiff, Nat.reduceAdd, Nat.reduceSub, Nat.reduceMul, if_true, if_false, decide_true, decide_false, reduceCtorEq, List.cons_append, List.nil_append, List.append_nil, Option.bind_some, Option.map_some, Option.some.injEq, BEq.rfl, Bool.false_beq, Bool.true_beq, beq_self_eq_true, Bool.not_false, Bool.not_true, Bool.false_eq_true, List.getElem?_cons_zero, List.getElem?_cons_succ, reduceIte, e0, e1, e2, es, hb, h8, hf, hf2, hn, hn2, hb0, d2, d3, d5, bs23, hbits, hm, ha, hz2, hl, hw, conv_int d3 d5, conv_int d2 d5])
      | (show endW _ _ _ _ _; simp only [go_sem, Int.reduceEq, Int.reduceLE, Int.reduceLT, Int.reduceNe, Int.reduceNeg, Int.reduceAdd, Int.reduceSub, Int.reduceMul, ne_eq, not_false_eq_true, Nat.reduceLT, Nat.reduceLeDiff, Nat.reduceEqDiff, Nat.reduceAdd, Nat.reduceSub, Nat.reduceMul, if_true, if_false, decide_true, decide_false, reduceCtorEq, List.cons_append, List.nil_append, List.append_nil, Option.bind_some, Option.map_some, Option.some.injEq, BEq.rfl, Bool.false_beq, Bool.true_beq, beq_self_eq_true, Bool.not_false, Bool.not_true, Bool.false_eq_true, List.getElem?_cons_zero, List.getElem?_cons_succ, reduceIte, e0, e1, e2, es, hb, h8, hf, hf2, hn, hn2, hb0, d2, d3, d5, bs23, hbits, hm, ha, hz2, hl, hw, conv_int d3 d5, conv_int d2 d5]))
    exact PutK_one rfl
  rw [if_neg hl]
  have hw : IntKind.u8.wrap (IntKind.i64.wrap (f + M)) = (((f + M) % 256).toNat : Int) := by
    rw [wrap_i64 (by omega) (by omega)]
    simp only [wrap_u8]; omega
  have hw2 : IntKind.i64.wrap (n - M) = ((n - M).toNat : Int) := by
    rw [wrap_i64 (by omega) (by omega)]; omega
  repeat (first
      | refine q_nn ?_
      | refine q_nr ?_
      | refine q_ne ?_
      | refine q_en ?_
      | refine q_er ?_
      | refine q_es ?_
      | refine q_eo rfl ?_
      | refine q_gn ?_
      | refine q_gr ?_
      | refine q_ge ?_
      | refine c_seq ?_
      | refine c_block ?_
      | refine c_scope ?_
      | refine c_skip ?_
      | refine c_label ?_
      | refine c_ret ?_
      | refine c_exit ?_
      | (refine c_reg fun K hK => ?_; simp only [go_sem, Int.reduceEq, Int.reduceLE, Int.reduceLT, Int.reduceNe, Int.reduceNeg, Int.reduceAdd, Int.reduceSub, Int.reduceMul, ne_eq, not_false_eq_true, Nat.reduceLT, Nat.reduceLeDiff, Nat.reduceEqDiff, Nat.reduceAdd, Nat.reduceSub, Nat.reduceMul, if_true, if_false, decide_true, decide_false, reduceCtorEq, List.cons_append, List.nil_append, List.append_nil, Option.bind_some, Option.map_some, Option.some.injEq, BEq.rfl, Bool.false_beq, Bool.true_beq, beq_self_eq_true, Bool.not_false, Bool.not_true, Bool.false_eq_true, List.getElem?_cons_zero, List.getElem?_cons_succ, reduceIte, e0, e1, e2, es, hb, h8, hf, hf2, hn, hn2, hb0, d2, d3, d5, bs23, hbits, hm, ha, hz2, hl, hw, hw2, conv_int d3 d5, conv_int d2 d5]; refine hK _ _ ?_; clear hK K)
      | (refine c_drw (by kernel_rfl) fun K hK => ?_; simp only [go_sem, Int.reduceEq, Int.reduceLE, Int.reduceLT, Int.reduceNe, Int.reduceNeg, Int.reduceAdd, Int.reduceSub, Int.reduceMul, ne_eq, not_false_eq_true, Nat.reduceLT, Nat.reduceLeDiff, Nat.reduceEqDiff, Nat.reduceAdd, Nat.reduceSub, Nat.reduceMul, if_true, if_false, decide_true, decide_false, reduceCtorEq, List.cons_append, List.nil_append, List.append_nil, Option.bind_some, Option.map_some, Option.some.injEq, BEq.rfl, Bool.false_beq, Bool.true_beq, beq_self_eq_true, Bool.not_false, Bool.not_true, Bool.false_eq_true, List.getElem?_cons_zero, List.getElem?_cons_succ, reduceIte, e0, e1, e2, es, hb, h8, hf, hf2, hn, hn2, hb0, d2, d3, d5, bs23, hbits, hm, ha, hz2, hl, hw, hw2, conv_int d3 d5, conv_int d2 d5]; refine hK _ _ ?_; clear hK K)
      | (refine c_cond ?_; simp only [go_sem, Int.reduceEq, Int.reduceLE, Int.reduceLT, Int.reduceNe, Int.reduceNeg, Int.reduceAdd, Int.reduceSub, Int.reduceMul, ne_eq, not_false_eq_true, Nat.reduceLT, Nat.reduceLeDiff, Nat.reduceEqDiff, Nat.reduceAdd, Nat.reduceSub, Nat.reduceMul, if_true, if_false, decide_true, decide_false, reduceCtorEq, List.cons_append, List.nil_append, List.append_nil, Option.bind_some, Option.map_some, Option.some.injEq, BEq.rfl, Bool.false_beq, Bool.true_beq, beq_self_eq_true, Bool.not_false, Bool.not_true, Bool.false_eq_true, List.getElem?_cons_zero, List.getElem?_cons_succ, reduceIte, e0, e1, e2, es, hb, h8, hf, hf2, hn, hn2, hb0, d2, d3, d5, bs23, hbits, hm, ha, hz2, hl, hw, hw2, conv_int d3 d5, conv_int d2 d5])
      | (show endW _ _ _ _ _; simp only [go_sem, Int.reduceEq, Int.reduceLE, Int.reduceLT, Int.reduceNe, Int.reduceNeg, Int.reduceAdd, Int.reduceSub, Int.reduceMul, ne_eq, not_false_eq_true, Nat.reduceLT, Nat.reduceLeDiff, Nat.reduceEqDiff, Nat.reduceAdd, Nat.reduceSub, Nat.reduceMul, if_true, if_false, decide_true, decide_false, reduceCtorEq, List.cons_append, List.nil_append, List.append_nil, Option.bind_some, Option.map_some, Option.some.injEq, BEq.rfl, Bool.false_beq, Bool.true_beq, beq_self_eq_true, Bool.not_false, Bool.not_true, Bool.false_eq_true, List.getElem?_cons_zero, List.getElem?_cons_succ, reduceIte, e0, e1, e2, es, hb, h8, hf, hf2, hn, hn2, hb0, d2, d3, d5, bs23, hbits, hm, ha, hz2, hl, hw, hw2, conv_int d3 d5, conv_int d2 d5]))
  have hx := pow_le (b := b) (by omega) (by omega)
  refine c_loop (fun m s => ∃ (a : AV) (l : List Nat), s.marks = [] ∧ s.tm.size = 71 ∧ s.tm.get 2 = .int .i64 (m : Int) ∧ s.tm.get 9 = a ∧ Tt h.size s.h 1 a (cellsB l) ∧ Keeps h.size h s.h ∧
    l ++ putL m = ((f + M) % 256).toNat :: putL (n - M).toNat ∧ m + l.length ≤ 2147483700) (n - M).toNat ?_ ?_
  · refine ⟨_, [((f + M) % 256).toNat], rfl, ?_, ?_, rfl, ?_, (Keeps.refl _ _).push (Nat.le_refl _) _, rfl, by simp; omega⟩
    · simp only [Tm.size_set, es]
    · simp [Tm.get_set]
    · simp only [Tm.get_set, Nat.reduceEqDiff, if_false, if_true]
      exact .some _ _ _ _ (by rw [AH.get_push, if_pos rfl]; rfl) (Nat.le_refl _) (by simp) rfl
  · rintro m ⟨tm2, mk, h2⟩ ⟨a, l, h1, h2', h3, h4, h5, h6, h7, h9⟩
    simp only at h1 h2' h3 h4 h5 h6
    subst h1
    have hbz : h.size ≤ h2.size := h6.1
    by_cases hk : 128 ≤ m
    · have hk0 : ((m : Int) ≥ 128) := by omega
      have hor : orI .u8 (IntKind.u8.wrap m) 128 = ((m % 128 + 128 : Nat) : Int) := by
        have := or_all (m % 256) (Nat.mod_lt _ (by omega))
        rw [wrap_u8]
        have e : ((m : Int) % 256) = ((m % 256 : Nat) : Int) := by omega
        rw [e, this]
        congr 1; omega
      have hsh : shrI .i64 m 7 = ((m / 128 : Nat) : Int) := by
        unfold shrI
        have : (2 : Int) ^ min (7 : Int).toNat IntKind.i64.bits = 128 := by decide
        rw [this, Int.fdiv_eq_ediv_of_nonneg _ (by omega)]
        omega
      obtain ⟨z, h3a, hz1, hz3, hz4⟩ := h5.appendLit (T := Try.T) (t := 23) (xt := 23) (e := 5) (n := 1) (m := l.length) (new := [.int .u8 ((m % 128 + 128 : Nat) : Int)]) rfl rfl rfl rfl (by omega) rfl (by decide) (by rw [cellsB_length]; omega) rfl (by omega)
        (by have : (Try.T 5).bytes = 1 := rfl
            rw [this]; omega) (by omega) h6.1
      repeat (first
      | refine q_nn ?_
      | refine q_nr ?_
      | refine q_ne ?_
      | refine q_en ?_
      | refine q_er ?_
      | refine q_es ?_
      | refine q_eo rfl ?_
      | refine q_gn ?_
      | refine q_gr ?_
      | refine q_ge ?_
      | refine c_seq ?_
      | refine c_block ?_
      | refine c_scope ?_
      | refine c_skip ?_
      | refine c_label ?_
      | refine c_ret ?_
      | refine c_exit ?_
      | (refine c_reg fun K hK => ?_; simp only [go_sem, Int.reduceEq, Int.reduceLE, Int.reduceLT, Int.reduceNe, Int.reduceNeg, Int.reduceAdd, Int.reduceSub, Int.reduceMul, ne_eq, not_false_eq_true, Nat.reduceLT, Nat.reduceLeDiff, Nat.reduceEqDiff, Nat.reduceAdd, Nat.reduceSub, Nat.reduceMul, if_true, if_false, decide_true, decide_false, reduceCtorEq, List.cons_append, List.nil_append, List.append_nil, Option.bind_some, Option.map_some, Option.some.injEq, BEq.rfl, Bool.false_beq, Bool.true_beq, beq_self_eq_true, Bool.not_false, Bool.not_true, Bool.false_eq_true, List.getElem?_cons_zero, List.getElem?_cons_succ, reduceIte, h2', h3, h4, hk0, hor, hsh, hb, h8, hf, hf2, hn, hn2, hb0, d2, d3, d5, bs23, hz1, conv_int d2 d5]; refine hK _ _ ?_; clear hK K)
      | (refine c_drw (by kernel_rfl) fun K hK => ?_; simp only [go_sem, Int.reduceEq, Int.reduceLE, Int.reduceLT, Int.reduceNe, Int.reduceNeg, Int.reduceAdd, Int.reduceSub, Int.reduceMul, ne_eq, not_false_eq_true, Nat.reduceLT, Nat.reduceLeDiff, Nat.reduceEqDiff, Nat.reduceAdd, Nat.reduceSub, Nat.reduceMul, if_true, if_false, decide_true, decide_false, reduceCtorEq, List.cons_append, List.nil_append, List.append_nil, Option.bind_some, Option.map_some, Option.some.injEq, BEq.rfl, Bool.false_beq, Bool.true_beq, beq_self_eq_true, Bool.not_false, Bool.not_true, Bool.false_eq_true, List.getElem?_cons_zero, List.getElem?_cons_succ, reduceIte, h2', h3, h4, hk0, hor, hsh, hb, h8, hf, hf2, hn, hn2, hb0, d2, d3, d5, bs23, hz1, conv_int d2 d5]; refine hK _ _ ?_; clear hK K)
      | (refine c_cond ?_; simp only [go_sem, Int.reduceEq, Int.reduceLE, Int.reduceLT, Int.reduceNe, Int.reduceNeg, Int.reduceAdd, Int.reduceSub, Int.reduceMul, ne_eq, not_false_eq_true, Nat.reduceLT, Nat.reduceLeDiff, Nat.reduceEqDiff, Nat.reduceAdd, Nat.reduceSub, Nat.reduceMul, if_true, if_false, decide_true, decide_false, reduceCtorEq, List.cons_append, List.nil_append, List.append_nil, Option.bind_some, Option.map_some, Option.some.injEq, BEq.rfl, Bool.false_beq, Bool.true_beq, beq_self_eq_true, Bool.not_false, Bool.not_true, Bool.false_eq_true, List.getElem?_cons_zero, List.getElem?_cons_succ, reduceIte, h2', h3, h4, hk0, hor, hsh, hb, h8, hf, hf2, hn, hn2, hb0, d2, d3, d5, bs23, hz1, conv_int d2 d5])
      | (show endW _ _ _ _ _; simp only [go_sem, Int.reduceEq, Int.reduceLE, Int.reduceLT, Int.reduceNe, Int.reduceNeg, Int.reduceAdd, Int.reduceSub, Int.reduceMul, ne_eq, not_false_eq_true, Nat.reduceLT, Nat.reduceLeDiff, Nat.reduceEqDiff, Nat.reduceAdd, Nat.reduceSub, Nat.reduceMul, if_true, if_false, decide_true, decide_false, reduceCtorEq, List.cons_append, List.nil_append, List.append_nil, Option.bind_some, Option.map_some, Option.some.injEq, BEq.rfl, Bool.false_beq, Bool.true_beq, beq_self_eq_true, Bool.not_false, Bool.not_true, Bool.false_eq_true, List.getElem?_cons_zero, List.getElem?_cons_succ, reduceIte, h2', h3, h4, hk0, hor, hsh, hb, h8, hf, hf2, hn, hn2, hb0, d2, d3, d5, bs23, hz1, conv_int d2 d5]))
      refine ⟨m / 128, by omega, z, l ++ [m % 128 + 128], rfl, ?_, ?_, ?_, ?_, h6.trans hz4 (Nat.le_refl _), ?_, ?_⟩
      · simp only [Tm.size_set, h2']
      · simp [Tm.get_set]
      · simp [Tm.get_set]
      · rw [cellsB_append]; exact hz3
      · rw [← h7, List.append_assoc]
        conv => rhs; rw [putL, if_pos hk]
        rfl
      · simp; omega
    · have hk0 : ¬ ((m : Int) ≥ 128) := by omega
      have hw3 : IntKind.u8.wrap (m : Int) = ((m : Nat) : Int) := by rw [wrap_u8]; omega
      obtain ⟨z, h3a, hz1, hz3, hz4⟩ := h5.appendLit (T := Try.T) (t := 23) (xt := 23) (e := 5) (n := 1) (m := l.length) (new := [.int .u8 (m : Int)]) rfl rfl rfl rfl (by omega) rfl (by decide) (by rw [cellsB_length]; omega) rfl (by omega)
        (by have : (Try.T 5).bytes = 1 := rfl
            rw [this]; omega) (by omega) h6.1
      repeat (first
      | refine q_nn ?_
      | refine q_nr ?_
      | refine q_ne ?_
      | refine q_en ?_
      | refine q_er ?_
      | refine q_es ?_
      | refine q_eo rfl ?_
      | refine q_gn ?_
      | refine q_gr ?_
      | refine q_ge ?_
      | refine c_seq ?_
      | refine c_block ?_
      | refine c_scope ?_
      | refine c_skip ?_
      | refine c_label ?_
      | refine c_ret ?_
      | refine c_exit ?_
      | (refine c_reg fun K hK => ?_; simp only [go_sem, Int.reduceEq, Int.reduceLE, Int.reduceLT, Int.reduceNe, Int.reduceNeg, Int.reduceAdd, Int.reduceSub, Int.reduceMul, ne_eq, not_false_eq_true, Nat.reduceLT, Nat.reduceLeDiff, Nat.reduceEqDiff, Nat.reduceAdd, Nat.reduceSub, Nat.reduceMul, if_true, if_false, decide_true, decide_false, reduceCtorEq, List.cons_append, List.nil_append, List.append_nil, Option.bind_some, Option.map_some, Option.some.injEq, BEq.rfl, Bool.false_beq, Bool.true_beq, beq_self_eq_true, Bool.not_false, Bool.not_true, Bool.false_eq_true, List.getElem?_cons_zero, List.getElem?_cons_succ, reduceIte, h2', h3, h4, hk0, hb, h8, hf, hf2, hn, hn2, hb0, d2, d3, d5, bs23, hw3, hz1, conv_int d2 d5]; refine hK _ _ ?_; clear hK K)
      | (refine c_drw (by kernel_rfl) fun K hK => ?_; simp only [go_sem, Int.reduceEq, Int.reduceLE, Int.reduceLT, Int.reduceNe, Int.reduceNeg, Int.reduceAdd, Int.reduceSub, Int.reduceMul, ne_eq, not_false_eq_true, Nat.reduceLT, Nat.reduceLeDiff, Nat.reduceEqDiff, Nat.reduceAdd, Nat.reduceSub, Nat.reduceMul, if_true, if_false, decide_true, decide_false, reduceCtorEq, List.cons_append, List.nil_append, List.append_nil, Option.bind_some, Option.map_some, Option.some.injEq, BEq.rfl, Bool.false_beq, Bool.true_beq, beq_self_eq_true, Bool.not_false, Bool.not_true, Bool.false_eq_true, List.getElem?_cons_zero, List.getElem?_cons_succ, reduceIte, h2', h3, h4, hk0, hb, h8, hf, hf2, hn, hn2, hb0, d2, d3, d5, bs23, hw3, hz1, conv_int d2 d5]; refine hK _ _ ?_; clear hK K)
      | (refine c_cond ?_; simp only [go_sem, Int.reduceEq, Int.reduceLE, Int.reduceLT, Int.reduceNe, Int.reduceNeg, Int.reduceAdd, Int.reduceSub, Int.reduceMul, ne_eq, not_false_eq_true, Nat.reduceLT, Nat.reduceLeDiff, Nat.reduceEqDiff, Nat.reduceAdd, Nat.reduceSub, Nat.reduceMul, if_true, if_false, decide_true, decide_false, reduceCtorEq, List.cons_append, List.nil_append, List.append_nil, Option.bind_some, Option.map_some, Option.some.injEq, BEq.rfl, Bool.false_beq, Bool.true_beq, beq_self_eq_true, Bool.not_false, Bool.not_true, Bool.false_eq_true, List.getElem?_cons_zero, List.getElem?_cons_succ, reduceIte, h2', h3, h4, hk0, hb, h8, hf, hf2, hn, hn2, hb0, d2, d3, d5, bs23, hw3, hz1, conv_int d2 d5])
      | (show endW _ _ _ _ _; simp only [go_sem, Int.reduceEq, Int.reduceLE, Int.reduceLT, Int.reduceNe, Int.reduceNeg, Int.reduceAdd, Int.reduceSub, Int.reduceMul, ne_eq, not_false_eq_true, Nat.reduceLT, Nat.reduceLeDiff, Nat.reduceEqDiff, Nat.reduceAdd, Nat.reduceSub, Nat.reduceMul, if_true, if_false, decide_true, decide_false, reduceCtorEq, List.cons_append, List.nil_append, List.append_nil, Option.bind_some, Option.map_some, Option.some.injEq, BEq.rfl, Bool.false_beq, Bool.true_beq, beq_self_eq_true, Bool.not_false, Bool.not_true, Bool.false_eq_true, List.getElem?_cons_zero, List.getElem?_cons_succ, reduceIte, h2', h3, h4, hk0, hb, h8, hf, hf2, hn, hn2, hb0, d2, d3, d5, bs23, hw3, hz1, conv_int d2 d5]))
      refine ⟨z, rfl, ?_, h6.trans hz4 (Nat.le_refl _)⟩
      have e : ((f + M) % 256).toNat :: putL (n - M).toNat = l ++ [m] := by rw [← h7, putL, if_neg hk]
      show Tt h.size h3a 1 z (cellsB (((f + M) % 256).toNat :: putL (n - M).toNat))
      rw [e, cellsB_append]
      exact hz3

theorem begun {K : AV → AH → Prop} (hk : ∀ h', K (.bool true) h') : callW Try.prog Try.T 8 [] AH.empty K := callW_true (n := 60) (by kernel_rfl) hk

set_option maxHeartbeats 4000000 in
theorem len (b n : Int) (h : AH) : callW Try.prog Try.T 11 [.int .i64 b, .int .i64 n] h fun v h' => v = .tuple [.int .i64 (putS b 0 n).2.length, .int .i64 (putS b 0 n).1] ∧ Keeps h.size h h' := by
  refine callW_of (n := 17) (rs := [.tmp 4, .tmp 5]) Try.func11 rfl rfl rfl ?_
  have e0 : (Tm.enter [AV.int IntKind.i64 b, AV.int IntKind.i64 n] 17).get 0 = .int .i64 b := rfl
  have e1 : (Tm.enter [AV.int IntKind.i64 b, AV.int IntKind.i64 n] 17).get 1 = .int .i64 n := rfl
  have es : (Tm.enter [AV.int IntKind.i64 b, AV.int IntKind.i64 n] 17).size = 17 := rfl
  generalize (Tm.enter [AV.int IntKind.i64 b, AV.int IntKind.i64 n] 17) = tm at *
  repeat (first
      | refine q_nn ?_
      | refine q_nr ?_
      | refine q_ne ?_
      | refine q_en ?_
      | refine q_er ?_
      | refine q_es ?_
      | refine q_eo rfl ?_
      | refine q_gn ?_
      | refine q_gr ?_
      | refine q_ge ?_
      | refine c_seq ?_
      | refine c_block ?_
      | refine c_scope ?_
      | refine c_skip ?_
      | refine c_label ?_
      | refine c_ret ?_
      | refine c_exit ?_
      | (refine c_reg fun K hK => ?_; simp only [go_sem, Int.reduceEq, Int.reduceLE, Int.reduceLT, Int.reduceNe, Int.reduceNeg, Int.reduceAdd, Int.reduceSub, Int.reduceMul, ne_eq, not_false_eq_true, Nat.reduceLT, Nat.reduceLeDiff, Nat.reduceEqDiff, Nat.reduceAdd, Nat.reduceSub, Nat.reduceMul, if_true, if_false, decide_true, decide_false, reduceCtorEq, List.cons_append, List.nil_append, List.append_nil, Option.bind_some, Option.map_some, Option.some.injEq, BEq.rfl, Bool.false_beq, Bool.true_beq, beq_self_eq_true, Bool.not_false, Bool.not_true, Bool.false_eq_true, List.getElem?_cons_zero, List.getElem?_cons_succ, reduceIte, e0, e1, es, d2, d3, d5]; refine hK _ _ ?_; clear hK K)
      | (refine c_drw (by kernel_rfl) fun K hK => ?_; simp only [go_sem, Int.reduceEq, Int.reduceLE, Int.reduceLT, Int.reduceNe, Int.reduceNeg, Int.reduceAdd, Int.reduceSub, Int.reduceMul, ne_eq, not_false_eq_true, Nat.reduceLT, Nat.reduceLeDiff, Nat.reduceEqDiff, Nat.reduceAdd, Nat.reduceSub, Nat.reduceMul, if_true, if_false, decide_true, decide_false, reduceCtorEq, List.cons_append, List.nil_append, List.append_nil, Option.bind_some, Option.map_some, Option.some.injEq, BEq.rfl, Bool.false_beq, Bool.true_beq, beq_self_eq_true, Bool.not_false, Bool.not_true, Bool.false_eq_true, List.getElem?_cons_zero, List.getElem?_cons_succ, reduceIte, e0, e1, es, d2, d3, d5]; refine hK _ _ ?_; clear hK K)
      | (refine c_cond ?_; simp only [go_sem, Int.reduceEq, Int.reduceLE, Int.reduceLT, Int.reduceNe, Int.reduceNeg, Int.reduceAdd, Int.reduceSub, Int.reduceMul, ne_eq, not_false_eq_true, Nat.reduceLT, Nat.reduceLeDiff, Nat.reduceEqDiff, Nat.reduceAdd, Nat.reduceSub, Nat.reduceMul, if_true, if_false, decide_true, decide_false, reduceCtorEq, List.cons_append, List.nil_append, List.append_nil, Option.bind_some, Option.map_some, Option.some.injEq, BEq.rfl, Bool.false_beq, Bool.true_beq, beq_self_eq_true, Bool.not_false, Bool.not_true, Bool.false_eq_true, List.getElem?_cons_zero, List.getElem?_cons_succ, reduceIte, e0, e1, es, d2, d3, d5])
      | (show endW _ _ _ _ _; simp only [go_sem, Int.reduceEq, Int.reduceLE, Int.reduceLT, Int.reduceNe, Int.reduceNeg, Int.reduceAdd, Int.reduceSub, Int.reduceMul, ne_eq, not_false_eq_true, Nat.reduceLT, Nat.reduceLeDiff, Nat.reduceEqDiff, Nat.reduceAdd, Nat.reduceSub, Nat.reduceMul, if_true, if_false, decide_true, decide_false, reduceCtorEq, List.cons_append, List.nil_append, List.append_nil, Option.bind_some, Option.map_some, Option.some.injEq, BEq.rfl, Bool.false_beq, Bool.true_beq, beq_self_eq_true, Bool.not_false, Bool.not_true, Bool.false_eq_true, List.getElem?_cons_zero, List.getElem?_cons_succ, reduceIte, e0, e1, es, d2, d3, d5]))
  (refine c_reg fun K hK => ?_; simp only [go_sem, Int.reduceEq, Int.reduceLE, Int.reduceLT, Int.reduceNe, Int.reduceNeg, Int.reduceAdd, Int.reduceSub, Int.reduceMul, ne_eq, not_false_eq_true, Nat.reduceLT, Nat.reduceLeDiff, Nat.reduceEqDiff, Nat.reduceAdd, Nat.reduceSub, Nat.reduceMul, if_true, if_false, decide_true, decide_false, reduceCtorEq, List.cons_append, List.nil_append, List.append_nil, Option.bind_some, Option.map_some, Option.some.injEq, BEq.rfl, Bool.false_beq, Bool.true_beq, beq_self_eq_true, Bool.not_false, Bool.not_true, Bool.false_eq_true, List.getElem?_cons_zero, List.getElem?_cons_succ, reduceIte, e0, e1, es, d2, d3, d5]; refine callM_of (put b 0 n h) ?_; rintro v h' ⟨a, rfl, ha, hk⟩; simp only [go_sem, Int.reduceEq, Int.reduceLE, Int.reduceLT, Int.reduceNe, Int.reduceNeg, Int.reduceAdd, Int.reduceSub, Int.reduceMul, ne_eq, not_false_eq_true, Nat.reduceLT, Nat.reduceLeDiff, Nat.reduceEqDiff, Nat.reduceAdd, Nat.reduceSub, Nat.reduceMul, if_true, if_false, decide_true, decide_false, reduceCtorEq, List.cons_append, List.nil_append, List.append_nil, Option.bind_some, Option.map_some, Option.some.injEq, BEq.rfl, Bool.false_beq, Bool.true_beq, beq_self_eq_true, Bool.not_false, Bool.not_true, Bool.false_eq_true, List.getElem?_cons_zero, List.getElem?_cons_succ, reduceIte, e0, e1, es, d2, d3, d5]; refine hK _ _ ?_; clear hK K)
  have hl := ha.lenB (T := Try.T) (t := 23) (e := 5) (n := (putS b 0 n).2.length) rfl (by rw [cellsB_length]; omega) (by omega)
  repeat (first
      | refine q_nn ?_
      | refine q_nr ?_
      | refine q_ne ?_
      | refine q_en ?_
      | refine q_er ?_
      | refine q_es ?_
      | refine q_eo rfl ?_
      | refine q_gn ?_
      | refine q_gr ?_
      | refine q_ge ?_
      | refine c_seq ?_
      | refine c_block ?_
      | refine c_scope ?_
      | refine c_skip ?_
      | refine c_label ?_
      | refine c_ret ?_
      | refine c_exit ?_
      | (refine c_reg fun K hK => ?_; simp only [go_sem, Int.reduceEq, Int.reduceLE, Int.reduceLT, Int.reduceNe, Int.reduceNeg, Int.reduceAdd, Int.reduceSub, Int.reduceMul, ne_eq, not_false_eq_true, Nat.reduceLT, Nat.reduceLeDiff, Nat.reduceEqDiff, Nat.reduceAdd, Nat.reduceSub, Nat.reduceMul, if_true, if_false, decide_true, decide_false, reduceCtorEq, List.cons_append, List.nil_append, List.append_nil, Option.bind_some, Option.map_some, Option.some.injEq, BEq.rfl, Bool.false_beq, Bool.true_beq, beq_self_eq_true, Bool.not_false, Bool.not_true, Bool.false_eq_true, List.getElem?_cons_zero, List.getElem?_cons_succ, reduceIte, e0, e1, es, d2, d3, d5, hl]; refine hK _ _ ?_; clear hK K)
      | (refine c_drw (by kernel_rfl) fun K hK => ?_; simp only [go_sem, Int.reduceEq, Int.reduceLE, Int.reduceLT, Int.reduceNe, Int.reduceNeg, Int.reduceAdd, Int.reduceSub, Int.reduceMul, ne_eq, not_false_eq_true, Nat.reduceLT, Nat.reduceLeDiff, Nat.reduceEqDiff, Nat.reduceAdd, Nat.reduceSub, Nat.reduceMul, if_true, if_false, decide_true, decide_false, reduceCtorEq, List.cons_append, List.nil_append, List.append_nil, Option.bind_some, Option.map_some, Option.some.injEq, BEq.rfl, Bool.false_beq, Bool.true_beq, beq_self_eq_true, Bool.not_false, Bool.not_true, Bool.false_eq_true, List.getElem?_cons_zero, List.getElem?_cons_succ, reduceIte, e0, e1, es, d2, d3, d5, hl]; refine hK _ _ ?_; clear hK K)
      | (refine c_cond ?_; simp only [go_sem, Int.reduceEq, Int.reduceLE, Int.reduceLT, Int.reduceNe, Int.reduceNeg, Int.reduceAdd, Int.reduceSub, Int.reduceMul, ne_eq, not_false_eq_true, Nat.reduceLT, Nat.reduceLeDiff, Nat.reduceEqDiff, Nat.reduceAdd, Nat.reduceSub, Nat.reduceMul, if_true, if_false, decide_true, decide_false, reduceCtorEq, List.cons_append, List.nil_append, List.append_nil, Option.bind_some, Option.map_some, Option.some.injEq, BEq.rfl, Bool.false_beq, Bool.true_beq, beq_self_eq_true, Bool.not_false, Bool.not_true, Bool.false_eq_true, List.getElem?_cons_zero, List.getElem?_cons_succ, reduceIte, e0, e1, es, d2, d3, d5, hl])
      | (show endW _ _ _ _ _; simp only [go_sem, Int.reduceEq, Int.reduceLE, Int.reduceLT, Int.reduceNe, Int.reduceNeg, Int.reduceAdd, Int.reduceSub, Int.reduceMul, ne_eq, not_false_eq_true, Nat.reduceLT, Nat.reduceLeDiff, Nat.reduceEqDiff, Nat.reduceAdd, Nat.reduceSub, Nat.reduceMul, if_true, if_false, decide_true, decide_false, reduceCtorEq, List.cons_append, List.nil_append, List.append_nil, Option.bind_some, Option.map_some, Option.some.injEq, BEq.rfl, Bool.false_beq, Bool.true_beq, beq_self_eq_true, Bool.not_false, Bool.not_true, Bool.false_eq_true, List.getElem?_cons_zero, List.getElem?_cons_succ, reduceIte, e0, e1, es, d2, d3, d5, hl]))
  exact ⟨trivial, hk⟩
end Go.Proofs.Ytbmfigafbilbmaa
