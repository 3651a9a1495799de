/- huff.codes: the table of codes. -/
import Derived.Test.YtmpeofjfagdgkaaHufAll
set_option linter.unusedSimpArgs false
set_option linter.unusedVariables false
namespace Go.Proofs.Ytmpeofjfagdgkaa
open Go.Abs
open Int renaming reduceEq → i_0, reduceLE → i_1, reduceLT → i_2, reduceNe → i_3, reduceNeg → i_4, reduceAdd → i_5, reduceSub → i_6, reduceMul → i_7, reduceToNat → i_8
open Nat renaming reduceLT → n_0, reduceLeDiff → n_1, reduceEqDiff → n_2, reduceAdd → n_3, reduceSub → n_4, reduceMul → n_5
set_option maxRecDepth 100000
def stepL (last x : Int × Int) : Int × Int := (x.2, (last.2 + 1) * 2 ^ (x.2 - last.1).toNat)
def stepT (st : (Int × Int) × List (Int × Int)) (x : Int × Int) : (Int × Int) × List (Int × Int) := (stepL st.1 x, st.2.set x.1.toNat (stepL st.1 x))
def stC (k : Nat) : (Int × Int) × List (Int × Int) := (syms.take k).foldl stepT ((5, -1), List.replicate 257 (0, 0))
/-- Each symbol's length and code. -/
def ctab : List (Int × Int) := (stC 257).2
theorem stC_succ {k : Nat} {x : Int × Int} (h : syms[k]? = some x) : stC (k + 1) = stepT (stC k) x := by
  unfold stC
  rw [List.take_add_one, h, List.foldl_append]; rfl
def stN (k : Nat) : (Int × Int) × List (Int × Int) := ((grpN grp).take k).foldl stepT ((5, -1), List.replicate 257 (0, 0))
theorem stC_eq' (k : Nat) : stC k = stN k := by unfold stC stN; rw [syms_eq]
theorem stC_len (k : Nat) : (stC k).2.length = 257 := by
  unfold stC
  have : ∀ (l : List (Int × Int)) (st : (Int × Int) × List (Int × Int)), (l.foldl stepT st).2.length = st.2.length := by
    intro l
    induction l with
    | nil => intro st; rfl
    | cons x r ih => intro st; rw [List.foldl_cons, ih]; simp [stepT]
  rw [this]; simp
def chkC : Nat → List (Int × Int) → Int × Int → Bool
  | _, [], _ => true
  | k, x :: r, last => decide (0 ≤ x.1 ∧ x.1 ≤ 256 ∧ last.1 ≤ x.2 ∧ x.2 ≤ 30 ∧ 5 ≤ last.1 ∧ -1 ≤ last.2 ∧ (last.2 + 1) * 2 ^ (x.2 - last.1).toNat ≤ 1073741824) && chkC (k + 1) r (stepL last x)
theorem chkC_at : ∀ (l : List (Int × Int)) (k0 : Nat) (st : (Int × Int) × List (Int × Int)), chkC k0 l st.1 = true → ∀ k x, l[k]? = some x →
    (0 ≤ x.1 ∧ x.1 ≤ 256 ∧ ((l.take k).foldl stepT st).1.1 ≤ x.2 ∧ x.2 ≤ 30 ∧ 5 ≤ ((l.take k).foldl stepT st).1.1 ∧ -1 ≤ ((l.take k).foldl stepT st).1.2 ∧ (((l.take k).foldl stepT st).1.2 + 1) * 2 ^ (x.2 - ((l.take k).foldl stepT st).1.1).toNat ≤ 1073741824)
  | [], _, _, _, k, x, h => by simp at h
  | y :: r, k0, st, hc, 0, x, h => by
    simp at h; subst h
    simp only [chkC, Bool.and_eq_true, decide_eq_true_eq] at hc
    exact hc.1
  | y :: r, k0, st, hc, k + 1, x, h => by
    simp only [chkC, Bool.and_eq_true] at hc
    have := chkC_at r (k0 + 1) (stepT st y) hc.2 k x (by simpa using h)
    simpa using this
theorem syms_ok {k : Nat} {s n : Int} (h : syms[k]? = some (s, n)) : 0 ≤ s ∧ s ≤ 256 ∧ (stC k).1.1 ≤ n ∧ n ≤ 30 ∧ 5 ≤ (stC k).1.1 ∧ -1 ≤ (stC k).1.2 ∧ ((stC k).1.2 + 1) * 2 ^ (n - (stC k).1.1).toNat ≤ 1073741824 := by
  have hc : chkC 0 (grpN grp) (5, -1) = true := by decide +kernel
  rw [syms_eq] at h
  have := chkC_at _ 0 ((5, -1), List.replicate 257 (0, 0)) hc k _ h
  rw [stC_eq']
  exact this
/-- A code as it lies in memory. -/
def EC : Enc (Int × Int) := ⟨2, fun x => [.int .i64 x.1, .int .i64 x.2], by decide, fun _ => rfl, fun _ => rfl⟩
set_option maxHeartbeats 4000000 in
theorem allF (h0 : AH) : callW Try.prog Try.T 74 [] h0 fun v h' => v = .func 82 [] ∧ h' = h0 := by
  refine callW_in (n := 1) (rs := [.tmp 0]) (m := 1) Try.func74 rfl rfl rfl rfl fun tr ht => ?_; clear ht
  repeat' (first
      | with_reducible first | refine Nx.h ?_ | (refine hK _ _ ?_; clear hK K)
      | ((with_reducible refine q_eo ?_ ?_); exact rfl)
      | ((with_reducible first | (refine Ny.h ?_; intro K hK) | (refine c_drw (by decide +kernel) ?_; intro K hK) | refine c_cond ?_ | show endW _ _ _ _ _ | (refine Nz.h ?_ ?_ <;> intro _) | fail) <;> try simp (disch := first | exact dz | fail) only [go_sem, i_0, i_1, i_2, i_3, i_4, i_5, i_6, i_7, i_8, n_0, n_1, n_2, n_3, n_4, n_5, reduceCtorEq, reduceIte]))
set_option maxHeartbeats 4000000 in
theorem codes (h0 : AH) : callW Try.prog Try.T 64 [] h0 fun v h' => (∃ i, h0.size ≤ i ∧ Ow EC h' i v ctab) ∧ Keeps h0.size h0 h' := by
  refine callW_in (n := 25) (rs := [.tmp 0]) (m := 25) Try.func64 rfl rfl rfl rfl fun tr ht => ?_; clear ht
  repeat' (first
      | with_reducible first | refine Nx.h ?_ | (refine hK _ _ ?_; clear hK K)
      | ((with_reducible refine q_eo ?_ ?_); exact rfl)
      | ((with_reducible first | (refine Ny.h ?_; intro K hK) | (refine c_drw (by decide +kernel) ?_; intro K hK) | refine c_cond ?_ | show endW _ _ _ _ _ | (refine Nz.h ?_ ?_ <;> intro _) | fail) <;> try simp (disch := first | exact dz | fail) only [go_sem, i_0, i_1, i_2, i_3, i_4, i_5, i_6, i_7, i_8, n_0, n_1, n_2, n_3, n_4, n_5, reduceCtorEq, reduceIte]))
  obtain ⟨a, h1, e1, o1, z1, f1⟩ := make_ow (h := h0) (T := Try.T) (E := EC) (t := 92) (k := .i64) (k' := .i64) (n := 257) (m := 257) (0, 0) rfl rfl rfl rfl (by decide) (by decide) (by decide) (by decide)
  refine vI ?_; repeat' (first
      | with_reducible first | refine Nx.h ?_ | (refine hK _ _ ?_; clear hK K)
      | ((with_reducible refine q_eo ?_ ?_); exact rfl)
      | ((with_reducible first | refine vO ?_ | (refine Ny.h ?_; intro K hK) | (refine c_drw (by decide +kernel) ?_; intro K hK) | refine c_cond ?_ | show endW _ _ _ _ _ | (refine Nz.h ?_ ?_ <;> intro _) | fail) <;> try simp (disch := first | exact dz | fail) only [go_sem, i_0, i_1, i_2, i_3, i_4, i_5, i_6, i_7, i_8, n_0, n_1, n_2, n_3, n_4, n_5, reduceCtorEq, reduceIte, e1]))
  refine callM_of (allF _) ?_
  rintro v h3 ⟨rfl, hh3⟩
  have hA1 : h3.size = h0.size + 3 := by rw [hh3]; simp (disch := first | exact dz | fail) only [go_sem, i_0, i_1, i_2, i_3, i_4, i_5, i_6, i_7, i_8, n_0, n_1, n_2, n_3, n_4, n_5, reduceCtorEq, reduceIte, z1]
  have hA2 : h3.get (h0.size + 1) = some (.cells [a]) := by rw [hh3]; simp (disch := first | exact dz | fail) only [go_sem, i_0, i_1, i_2, i_3, i_4, i_5, i_6, i_7, i_8, n_0, n_1, n_2, n_3, n_4, n_5, reduceCtorEq, reduceIte, z1]
  have hA3 : h3.get (h0.size + 2) = some (.cells [.int .i64 5, .int .i64 (-1)]) := by rw [hh3]; simp (disch := first | exact dz | fail) only [go_sem, i_0, i_1, i_2, i_3, i_4, i_5, i_6, i_7, i_8, n_0, n_1, n_2, n_3, n_4, n_5, reduceCtorEq, reduceIte, z1]
  have hA4 : ∀ b, b < h0.size + 1 → h3.get b = h1.get b := by intro b hb; rw [hh3]; simp (disch := first | exact dz | fail) only [go_sem, i_0, i_1, i_2, i_3, i_4, i_5, i_6, i_7, i_8, n_0, n_1, n_2, n_3, n_4, n_5, reduceCtorEq, reduceIte, z1]
  clear hh3
  have oA : Ow EC h3 h0.size a (stC 0).2 := o1.frame (fun hb => hA4 _ (by omega)) (by omega)
  refine vI ?_; repeat' (first
      | with_reducible first | refine Nx.h ?_ | (refine hK _ _ ?_; clear hK K)
      | ((with_reducible refine q_eo ?_ ?_); exact rfl)
      | ((with_reducible first | refine vO ?_ | (refine Ny.h ?_; intro K hK) | (refine c_drw (by decide +kernel) ?_; intro K hK) | refine c_cond ?_ | show endW _ _ _ _ _ | (refine Nz.h ?_ ?_ <;> intro _) | fail) <;> try simp (disch := first | exact dz | fail) only [go_sem, i_0, i_1, i_2, i_3, i_4, i_5, i_6, i_7, i_8, n_0, n_1, n_2, n_3, n_4, n_5, reduceCtorEq, reduceIte, e1, z1]))
  refine c_rangeR (g := 82) (cap := []) (by simp (disch := first | exact dz | fail) only [go_sem, i_0, i_1, i_2, i_3, i_4, i_5, i_6, i_7, i_8, n_0, n_1, n_2, n_3, n_4, n_5, reduceCtorEq, reduceIte]) fun R hR => ?_
  rw [hA1]
  refine all_iter _ _ _ (fun S k h => (∀ b, b < h0.size + 5 → ¬ S b) ∧ h0.size + 5 ≤ h.size ∧ (∀ b, b < h0.size → h.get b = h0.get b) ∧ h.get (h0.size + 1) = some (.cells [a]) ∧ h.get (h0.size + 2) = some (.cells [.int .i64 (stC k).1.1, .int .i64 (stC k).1.2]) ∧
    h.get (h0.size + 3) = some (.defs false) ∧ h.get (h0.size + 4) = some R ∧ Ow EC h h0.size a (stC k).2) ?_ ?_ ?_ ?_
  · rintro S S' k h1' h2' ⟨p1, p2, p3, p4, p5, p6, p7, p8⟩ q1 q2 q3
    refine ⟨fun b hb hs => ?_, by omega, fun b hb => ?_, ?_, ?_, ?_, ?_, ?_⟩
    · rcases q3 b hs with hs | hs
      · exact p1 b hb hs
      · omega
    · rw [q2 b (by omega) (p1 b (by omega))]; exact p3 b hb
    · rw [q2 _ (by omega) (p1 _ (by omega))]; exact p4
    · rw [q2 _ (by omega) (p1 _ (by omega))]; exact p5
    · rw [q2 _ (by omega) (p1 _ (by omega))]; exact p6
    · rw [q2 _ (by omega) (p1 _ (by omega))]; exact p7
    · exact p8.frame (fun hb => q2 _ (by omega) (p1 _ (by omega))) q1
  · refine ⟨fun _ _ h => h, by simp; omega, fun b hb => ?_, ?_, ?_, ?_, ?_, ?_⟩
    · simp (disch := first | exact dz | fail) only [go_sem, i_0, i_1, i_2, i_3, i_4, i_5, i_6, i_7, i_8, n_0, n_1, n_2, n_3, n_4, n_5, reduceCtorEq, reduceIte, hA1]
      rw [hA4 b (by omega)]; exact f1 b hb
    · simp (disch := first | exact dz | fail) only [go_sem, i_0, i_1, i_2, i_3, i_4, i_5, i_6, i_7, i_8, n_0, n_1, n_2, n_3, n_4, n_5, reduceCtorEq, reduceIte, hA1, hA2]
    · simp (disch := first | exact dz | fail) only [go_sem, i_0, i_1, i_2, i_3, i_4, i_5, i_6, i_7, i_8, n_0, n_1, n_2, n_3, n_4, n_5, reduceCtorEq, reduceIte, hA1, hA3]; rfl
    · simp (disch := first | exact dz | fail) only [go_sem, i_0, i_1, i_2, i_3, i_4, i_5, i_6, i_7, i_8, n_0, n_1, n_2, n_3, n_4, n_5, reduceCtorEq, reduceIte, hA1]
    · simp (disch := first | exact dz | fail) only [go_sem, i_0, i_1, i_2, i_3, i_4, i_5, i_6, i_7, i_8, n_0, n_1, n_2, n_3, n_4, n_5, reduceCtorEq, reduceIte, hA1]
    · exact oA.frame (fun hb => by simp (disch := first | exact dz | fail) only [go_sem, i_0, i_1, i_2, i_3, i_4, i_5, i_6, i_7, i_8, n_0, n_1, n_2, n_3, n_4, n_5, reduceCtorEq, reduceIte, hA1]) (by simp; omega)
  · rintro S k h1' s n hk _ ⟨p1, p2, p3, p4, p5, p6, p7, p8⟩
    obtain ⟨c1, c2, c3, c4, c5, c6, c7⟩ := syms_ok hk
    have hsc := stC_succ hk
    have hle := stC_len k
    generalize hst : stC k = st at *
    obtain ⟨⟨lb, lw⟩, lt⟩ := st
    simp only at c3 c5 c6 c7 p5 p8 hle
    have hsh := shl_i64 (x := lw + 1) (y := n - lb) (by omega) (by have hp : (0 : Int) < 2 ^ (n - lb).toNat := Int.pow_pos (by decide); have := Int.mul_nonneg (show 0 ≤ lw + 1 by omega) (Int.le_of_lt hp); omega) (by omega)
    rw [hR] at p7
    refine y_round p7 (setAll_two .mk .mk) ?_
    repeat' (first
      | with_reducible first | refine Nx.h ?_ | (refine hK _ _ ?_; clear hK K)
      | ((with_reducible refine q_eo ?_ ?_); exact rfl)
      | ((with_reducible first | (refine Ny.h ?_; intro K hK) | (refine c_drw (by decide +kernel) ?_; intro K hK) | refine c_cond ?_ | show endW _ _ _ _ _ | (refine Nz.h ?_ ?_ <;> intro _) | fail) <;> try simp (disch := first | exact dz | fail) only [go_sem, i_0, i_1, i_2, i_3, i_4, i_5, i_6, i_7, i_8, n_0, n_1, n_2, n_3, n_4, n_5, reduceCtorEq, reduceIte]))
    refine ⟨rfl, _, _, _, _, p7, ?_⟩
    have hlw : lw + 1 ≤ (lw + 1) * 2 ^ (n - lb).toNat := by
      have hp : (0 : Int) < 2 ^ (n - lb).toNat := Int.pow_pos (by decide)
      have := Int.mul_le_mul_of_nonneg_left (show (1 : Int) ≤ 2 ^ (n - lb).toNat by omega) (show 0 ≤ lw + 1 by omega)
      omega
    have s8 := p8.sl
    repeat' (first
      | with_reducible first | refine Nx.h ?_ | (refine hK _ _ ?_; clear hK K)
      | ((with_reducible refine q_eo ?_ ?_); exact rfl)
      | ((with_reducible first | (refine Ny.h ?_; intro K hK) | (refine c_drw (by decide +kernel) ?_; intro K hK) | refine c_cond ?_ | show endW _ _ _ _ _ | (refine Nz.h ?_ ?_ <;> intro _) | fail) <;> try simp (disch := first | exact dz | fail) only [go_sem, i_0, i_1, i_2, i_3, i_4, i_5, i_6, i_7, i_8, n_0, n_1, n_2, n_3, n_4, n_5, reduceCtorEq, reduceIte, p4, p5, hsh]))
    refine Try.wr95 (p8.frame ?_ ?_) (n, (lw + 1) * 2 ^ (n - lb).toNat) (by rfl) (by omega) (by omega) (by exact .mk) fun h9 o9 z9 f9 => ?_
    · intro _; simp (disch := first | exact dz | fail) only [go_sem, i_0, i_1, i_2, i_3, i_4, i_5, i_6, i_7, i_8, n_0, n_1, n_2, n_3, n_4, n_5, reduceCtorEq, reduceIte]
    · simp (disch := first | exact dz | fail) only [go_sem, i_0, i_1, i_2, i_3, i_4, i_5, i_6, i_7, i_8, n_0, n_1, n_2, n_3, n_4, n_5, reduceCtorEq, reduceIte]; omega
    simp only [go_sem] at z9
    refine vI ?_; repeat' (first
      | with_reducible first | refine Nx.h ?_ | (refine hK _ _ ?_; clear hK K)
      | ((with_reducible refine q_eo ?_ ?_); exact rfl)
      | ((with_reducible first | refine vO ?_ | (refine Ny.h ?_; intro K hK) | (refine c_drw (by decide +kernel) ?_; intro K hK) | refine c_cond ?_ | show endW _ _ _ _ _ | (refine Nz.h ?_ ?_ <;> intro _) | fail) <;> try simp (disch := first | exact dz | fail) only [go_sem, i_0, i_1, i_2, i_3, i_4, i_5, i_6, i_7, i_8, n_0, n_1, n_2, n_3, n_4, n_5, reduceCtorEq, reduceIte, p4]))
    refine ⟨_, _, _, _, (f9 _ (by omega)).trans ((hs_ne (by omega)).trans (hs_eq rfl)), ?_⟩
    have hf9 : ∀ b, ¬ b = h0.size → ¬ b = h0.size + 2 → ¬ b = h0.size + 4 → h9.get b = h1'.get b := by
      intro b q1 q2 q3
      rw [f9 b q1]; simp (disch := first | exact dz | fail) only [go_sem, i_0, i_1, i_2, i_3, i_4, i_5, i_6, i_7, i_8, n_0, n_1, n_2, n_3, n_4, n_5, reduceCtorEq, reduceIte]
    refine ⟨by simp (disch := first | exact dz | fail) only [go_sem, i_0, i_1, i_2, i_3, i_4, i_5, i_6, i_7, i_8, n_0, n_1, n_2, n_3, n_4, n_5, reduceCtorEq, reduceIte, z9]; omega, fun b hb => ?_, .inl ⟨rfl, p1, by simp (disch := first | exact dz | fail) only [go_sem, i_0, i_1, i_2, i_3, i_4, i_5, i_6, i_7, i_8, n_0, n_1, n_2, n_3, n_4, n_5, reduceCtorEq, reduceIte, z9]; omega, fun b hb => ?_, ?_, ?_, ?_, ?_, ?_⟩⟩
    · have : ¬ b < h0.size + 5 := fun e => p1 b e hb
      simp (disch := first | exact dz | fail) only [go_sem, i_0, i_1, i_2, i_3, i_4, i_5, i_6, i_7, i_8, n_0, n_1, n_2, n_3, n_4, n_5, reduceCtorEq, reduceIte]
      exact hf9 b (by omega) (by omega) (by omega)
    · simp (disch := first | exact dz | fail) only [go_sem, i_0, i_1, i_2, i_3, i_4, i_5, i_6, i_7, i_8, n_0, n_1, n_2, n_3, n_4, n_5, reduceCtorEq, reduceIte]
      rw [hf9 b (by omega) (by omega) (by omega)]; exact p3 b hb
    · simp (disch := first | exact dz | fail) only [go_sem, i_0, i_1, i_2, i_3, i_4, i_5, i_6, i_7, i_8, n_0, n_1, n_2, n_3, n_4, n_5, reduceCtorEq, reduceIte]
      rw [hf9 _ (by omega) (by omega) (by omega)]; exact p4
    · simp (disch := first | exact dz | fail) only [go_sem, i_0, i_1, i_2, i_3, i_4, i_5, i_6, i_7, i_8, n_0, n_1, n_2, n_3, n_4, n_5, reduceCtorEq, reduceIte]
      rw [f9 _ (by omega), hsc]
      simp (disch := first | exact dz | fail) only [go_sem, i_0, i_1, i_2, i_3, i_4, i_5, i_6, i_7, i_8, n_0, n_1, n_2, n_3, n_4, n_5, reduceCtorEq, reduceIte]
      rfl
    · simp (disch := first | exact dz | fail) only [go_sem, i_0, i_1, i_2, i_3, i_4, i_5, i_6, i_7, i_8, n_0, n_1, n_2, n_3, n_4, n_5, reduceCtorEq, reduceIte]
      rw [hf9 _ (by omega) (by omega) (by omega)]; exact p6
    · simp (disch := first | exact dz | fail) only [go_sem, i_0, i_1, i_2, i_3, i_4, i_5, i_6, i_7, i_8, n_0, n_1, n_2, n_3, n_4, n_5, reduceCtorEq, reduceIte]
      rw [hR]; rfl
    · rw [hsc]
      exact o9.frame (fun hb => by simp (disch := first | exact dz | fail) only [go_sem, i_0, i_1, i_2, i_3, i_4, i_5, i_6, i_7, i_8, n_0, n_1, n_2, n_3, n_4, n_5, reduceCtorEq, reduceIte]) (by simp (disch := first | exact dz | fail) only [go_sem, i_0, i_1, i_2, i_3, i_4, i_5, i_6, i_7, i_8, n_0, n_1, n_2, n_3, n_4, n_5, reduceCtorEq, reduceIte]; omega)
  · rintro S h1' ⟨p1, p2, p3, p4, p5, p6, p7, p8⟩
    rw [hR] at p7
    refine EndR_none p7 (by simp) ?_
    repeat' (first
      | with_reducible first | refine Nx.h ?_ | (refine hK _ _ ?_; clear hK K)
      | ((with_reducible refine q_eo ?_ ?_); exact rfl)
      | ((with_reducible first | (refine Ny.h ?_; intro K hK) | (refine c_drw (by decide +kernel) ?_; intro K hK) | refine c_cond ?_ | show endW _ _ _ _ _ | (refine Nz.h ?_ ?_ <;> intro _) | fail) <;> try simp (disch := first | exact dz | fail) only [go_sem, i_0, i_1, i_2, i_3, i_4, i_5, i_6, i_7, i_8, n_0, n_1, n_2, n_3, n_4, n_5, reduceCtorEq, reduceIte, p4, p6]))
    rw [syms_len] at p8
    refine ⟨⟨h0.size, Nat.le_refl _, p8.frame (fun hb => by simp (disch := first | exact dz | fail) only [go_sem, i_0, i_1, i_2, i_3, i_4, i_5, i_6, i_7, i_8, n_0, n_1, n_2, n_3, n_4, n_5, reduceCtorEq, reduceIte]) (by simp (disch := first | exact dz | fail) only [go_sem, i_0, i_1, i_2, i_3, i_4, i_5, i_6, i_7, i_8, n_0, n_1, n_2, n_3, n_4, n_5, reduceCtorEq, reduceIte]; omega)⟩, by simp (disch := first | exact dz | fail) only [go_sem, i_0, i_1, i_2, i_3, i_4, i_5, i_6, i_7, i_8, n_0, n_1, n_2, n_3, n_4, n_5, reduceCtorEq, reduceIte]; omega, fun b hb => ?_⟩
    simp (disch := first | exact dz | fail) only [go_sem, i_0, i_1, i_2, i_3, i_4, i_5, i_6, i_7, i_8, n_0, n_1, n_2, n_3, n_4, n_5, reduceCtorEq, reduceIte]
    exact p3 b hb
end Go.Proofs.Ytmpeofjfagdgkaa
