/- huff.rows: the codes by their lengths. -/
import Derived.Test.YtmpeofjfagdgkaaHufCodes
set_option linter.unusedSimpArgs false
set_option linter.unusedVariables false
namespace Go.Proofs.Ytmpeofjfagdgkaa
open Go.Abs
open Int renaming reduceEq → i_0, reduceLE → i_1, reduceLT → i_2, reduceNe → i_3, reduceNeg → i_4, reduceAdd → i_5, reduceSub → i_6, reduceMul → i_7, reduceToNat → i_8
open Nat renaming reduceLT → n_0, reduceLeDiff → n_1, reduceEqDiff → n_2, reduceAdd → n_3, reduceSub → n_4, reduceMul → n_5
set_option maxRecDepth 100000
abbrev Row := Int × List Int
def rowStep (w : Int) (rs : List Row) (x : Int × Int) : List Row := rs.set x.2.toNat (if (rs[x.2.toNat]!).2 = [] then w else (rs[x.2.toNat]!).1, (rs[x.2.toNat]!).2 ++ [x.1])
def stepR (st : (Int × Int) × List Row) (x : Int × Int) : (Int × Int) × List Row := (stepL st.1 x, rowStep (stepL st.1 x).2 st.2 x)
def stR (k : Nat) : (Int × Int) × List Row := (syms.take k).foldl stepR ((5, -1), List.replicate 31 (0, []))
/-- The rows. -/
def rtab : List Row := (stR 257).2
theorem stR_succ {k : Nat} {x : Int × Int} (h : syms[k]? = some x) : stR (k + 1) = stepR (stR k) x := by
  unfold stR
  rw [List.take_add_one, h, List.foldl_append]; rfl
theorem stR_last (k : Nat) : (stR k).1 = (stC k).1 := by
  unfold stR stC
  have : ∀ (l : List (Int × Int)) (a : (Int × Int) × List Row) (b : (Int × Int) × List (Int × Int)), a.1 = b.1 → (l.foldl stepR a).1 = (l.foldl stepT b).1 := by
    intro l
    induction l with
    | nil => intro a b h; exact h
    | cons x r ih => intro a b h; rw [List.foldl_cons, List.foldl_cons]; exact ih _ _ (by simp [stepR, stepT, h])
  exact this _ _ _ rfl
theorem stR_len (k : Nat) : (stR k).2.length = 31 := by
  unfold stR
  have : ∀ (l : List (Int × Int)) (st : (Int × Int) × List Row), (l.foldl stepR st).2.length = st.2.length := by
    intro l
    induction l with
    | nil => intro st; rfl
    | cons x r ih => intro st; rw [List.foldl_cons, ih]; simp [stepR, rowStep]
  rw [this]; simp
/-- No row is longer than what was gone over. -/
theorem stR_short (k : Nat) : ∀ b : Nat, b < 31 → ((stR k).2[b]!).2.length ≤ 257 := by
  have : ∀ (l : List (Int × Int)) (st : (Int × Int) × List Row) (n : Nat), st.2.length = 31 → (∀ b : Nat, b < 31 → (st.2[b]!).2.length ≤ n) → ∀ b : Nat, b < 31 → ((l.foldl stepR st).2[b]!).2.length ≤ n + l.length := by
    intro l
    induction l with
    | nil => intro st n h0 h b hb; exact h b hb
    | cons x r ih =>
      intro st n h0 h b hb
      rw [List.foldl_cons]
      have := ih (stepR st x) (n + 1) (by simp [stepR, rowStep, h0]) ?_ b hb
      · simp only [List.length_cons]; omega
      · intro c hc
        have hl : c < (rowStep (stepL st.1 x).2 st.2 x).length := by simp [rowStep, h0, hc]
        simp only [stepR]
        rw [getElem!_pos _ c hl]
        simp only [rowStep, List.getElem_set]
        split
        · rename_i e; subst e
          have := h _ hc
          rw [List.length_append]; simp only [List.length_cons, List.length_nil]; omega
        · have := h c hc
          rw [getElem!_pos _ c (by omega)] at this
          omega
  intro b hb
  have h := this (syms.take k) ((5, -1), List.replicate 31 (0, [])) 0 (by simp) (by decide) b hb
  have hl : (syms.take k).length ≤ 257 := by rw [List.length_take, syms_len]; omega
  unfold stR
  omega
/-- A row as it lies in memory. -/
def ER : Enc (Int × AV1) := ⟨2, fun x => [.int .i64 x.1, x.2.v], by decide, fun _ => rfl, fun x => by simp [x.2.h]; rfl⟩
def nil1 : AV1 := ⟨.slice none 0 0 0 true, rfl⟩
/-- A row's slice, at h. -/
def RowAt (h : AH) (B : Nat → Nat) (b : Nat) (x : Int × AV1) (r : Row) : Prop := x.1 = r.1 ∧ ((r.2 = [] ∧ x.2 = nil1) ∨ (r.2 ≠ [] ∧ Ow EI h (B b) x.2.v r.2 ∧ B b < h.size))
set_option maxHeartbeats 4000000 in
theorem rows (h0 : AH) : callW Try.prog Try.T 90 [] h0 fun v h' => (∃ (B : Nat → Nat) (L : List (Int × AV1)), L.length = 31 ∧ Ow ER h' h0.size v L ∧ ∀ b : Nat, b < 31 → RowAt h' B b (L[b]!) (rtab[b]!)) ∧ Keeps h0.size h0 h' := by
  refine callW_in (n := 45) (rs := [.tmp 0]) (m := 45) Try.func90 rfl rfl rfl rfl fun tr ht => ?_; clear ht
  repeat' (first
      | with_reducible first | refine Nx.h ?_ | (refine hK _ _ ?_; clear hK K)
      | ((with_reducible refine q_eo ?_ ?_); exact rfl)
      | ((with_reducible first | (refine Ny.h ?_; intro K hK) | (refine c_drw (by decide +kernel) ?_; intro K hK) | refine c_cond ?_ | show endW _ _ _ _ _ | (refine Nz.h ?_ ?_ <;> intro _) | fail) <;> try simp (disch := first | exact dz | fail) only [go_sem, i_0, i_1, i_2, i_3, i_4, i_5, i_6, i_7, i_8, n_0, n_1, n_2, n_3, n_4, n_5, reduceCtorEq, reduceIte]))
  obtain ⟨a, h1, e1, o1, z1, f1⟩ := make_ow (h := h0) (T := Try.T) (E := ER) (t := 130) (k := .i64) (k' := .i64) (n := 31) (m := 31) (0, nil1) rfl rfl rfl rfl (by decide) (by decide) (by decide) (by decide)
  refine vI ?_; repeat' (first
      | with_reducible first | refine Nx.h ?_ | (refine hK _ _ ?_; clear hK K)
      | ((with_reducible refine q_eo ?_ ?_); exact rfl)
      | ((with_reducible first | refine vO ?_ | (refine Ny.h ?_; intro K hK) | (refine c_drw (by decide +kernel) ?_; intro K hK) | refine c_cond ?_ | show endW _ _ _ _ _ | (refine Nz.h ?_ ?_ <;> intro _) | fail) <;> try simp (disch := first | exact dz | fail) only [go_sem, i_0, i_1, i_2, i_3, i_4, i_5, i_6, i_7, i_8, n_0, n_1, n_2, n_3, n_4, n_5, reduceCtorEq, reduceIte, e1]))
  refine callM_of (allF _) ?_
  rintro v h3 ⟨rfl, hh3⟩
  have hA1 : h3.size = h0.size + 3 := by rw [hh3]; simp (disch := first | exact dz | fail) only [go_sem, i_0, i_1, i_2, i_3, i_4, i_5, i_6, i_7, i_8, n_0, n_1, n_2, n_3, n_4, n_5, reduceCtorEq, reduceIte, z1]
  have hA2 : h3.get (h0.size + 1) = some (.cells [a]) := by rw [hh3]; simp (disch := first | exact dz | fail) only [go_sem, i_0, i_1, i_2, i_3, i_4, i_5, i_6, i_7, i_8, n_0, n_1, n_2, n_3, n_4, n_5, reduceCtorEq, reduceIte, z1]
  have hA3 : h3.get (h0.size + 2) = some (.cells [.int .i64 5, .int .i64 (-1)]) := by rw [hh3]; simp (disch := first | exact dz | fail) only [go_sem, i_0, i_1, i_2, i_3, i_4, i_5, i_6, i_7, i_8, n_0, n_1, n_2, n_3, n_4, n_5, reduceCtorEq, reduceIte, z1]
  have hA4 : ∀ b, b < h0.size + 1 → h3.get b = h1.get b := by intro b hb; rw [hh3]; simp (disch := first | exact dz | fail) only [go_sem, i_0, i_1, i_2, i_3, i_4, i_5, i_6, i_7, i_8, n_0, n_1, n_2, n_3, n_4, n_5, reduceCtorEq, reduceIte, z1]
  clear hh3
  have oA : Ow ER h3 h0.size a (List.replicate 31 (0, nil1)) := o1.frame (fun hb => hA4 _ (by omega)) (by omega)
  refine vI ?_; repeat' (first
      | with_reducible first | refine Nx.h ?_ | (refine hK _ _ ?_; clear hK K)
      | ((with_reducible refine q_eo ?_ ?_); exact rfl)
      | ((with_reducible first | refine vO ?_ | (refine Ny.h ?_; intro K hK) | (refine c_drw (by decide +kernel) ?_; intro K hK) | refine c_cond ?_ | show endW _ _ _ _ _ | (refine Nz.h ?_ ?_ <;> intro _) | fail) <;> try simp (disch := first | exact dz | fail) only [go_sem, i_0, i_1, i_2, i_3, i_4, i_5, i_6, i_7, i_8, n_0, n_1, n_2, n_3, n_4, n_5, reduceCtorEq, reduceIte, e1, z1]))
  refine c_rangeR (g := 82) (cap := []) (by simp (disch := first | exact dz | fail) only [go_sem, i_0, i_1, i_2, i_3, i_4, i_5, i_6, i_7, i_8, n_0, n_1, n_2, n_3, n_4, n_5, reduceCtorEq, reduceIte]) fun R hR => ?_
  rw [hA1]
  refine all_iter _ _ _ (fun S k h => (∀ b, b < h0.size + 5 → ¬ S b) ∧ h0.size + 5 ≤ h.size ∧ (∀ b, b < h0.size → h.get b = h0.get b) ∧ h.get (h0.size + 1) = some (.cells [a]) ∧ h.get (h0.size + 2) = some (.cells [.int .i64 (stC k).1.1, .int .i64 (stC k).1.2]) ∧
    h.get (h0.size + 3) = some (.defs false) ∧ h.get (h0.size + 4) = some R ∧ ∃ (B : Nat → Nat) (L : List (Int × AV1)), Ow ER h h0.size a L ∧ L.length = 31 ∧ (∀ b : Nat, b < 31 → RowAt h B b (L[b]!) ((stR k).2[b]!)) ∧
      ∀ b : Nat, b < 31 → ((stR k).2[b]!).2 ≠ [] → h0.size + 5 ≤ B b ∧ ¬ S (B b) ∧ ∀ c : Nat, c < 31 → ((stR k).2[c]!).2 ≠ [] → B b = B c → b = c) ?_ ?_ ?_ ?_
  · rintro S S' k h1' h2' ⟨p1, p2, p3, p4, p5, p6, p7, B, L, p8, p9, p10, p11⟩ q1 q2 q3
    refine ⟨fun b hb hs => ?_, by omega, fun b hb => ?_, ?_, ?_, ?_, ?_, B, L, ?_, p9, fun b hb => ?_, fun b hb hne => ?_⟩
    · rcases q3 b hs with hs | hs
      · exact p1 b hb hs
      · omega
    · rw [q2 b (by omega) (p1 b (by omega))]; exact p3 b hb
    · rw [q2 _ (by omega) (p1 _ (by omega))]; exact p4
    · rw [q2 _ (by omega) (p1 _ (by omega))]; exact p5
    · rw [q2 _ (by omega) (p1 _ (by omega))]; exact p6
    · rw [q2 _ (by omega) (p1 _ (by omega))]; exact p7
    · exact p8.frame (fun hb => q2 _ (by omega) (p1 _ (by omega))) q1
    · obtain ⟨r1, r2⟩ := p10 b hb
      refine ⟨r1, ?_⟩
      rcases r2 with r2 | ⟨r2, r3, r4⟩
      · exact .inl r2
      · exact .inr ⟨r2, r3.frame (fun _ => q2 _ r4 (p11 b hb r2).2.1) q1, by omega⟩
    · obtain ⟨r1, r2, r3⟩ := p11 b hb hne
      refine ⟨r1, fun hs => ?_, r3⟩
      rcases q3 _ hs with hs | hs
      · exact r2 hs
      · rcases (p10 b hb).2 with r4 | ⟨_, _, r4⟩
        · exact hne r4.1
        · omega
  · have hnil : ∀ b : Nat, b < 31 → ((stR 0).2[b]!).2 = [] ∧ ((stR 0).2[b]!).1 = 0 := by decide +kernel
    have hrep : ∀ b : Nat, b < 31 → ((List.replicate 31 ((0 : Int), nil1))[b]!) = ((0 : Int), nil1) := by
      intro b hb
      rw [getElem!_pos _ b (by rw [List.length_replicate]; exact hb), List.getElem_replicate]
    refine ⟨fun _ _ h => h, by simp; omega, fun b hb => ?_, ?_, ?_, ?_, ?_, fun _ => 0, List.replicate 31 (0, nil1), ?_, rfl, fun b hb => ?_, fun b hb hne => absurd (hnil b hb).1 hne⟩
    · simp (disch := first | exact dz | fail) only [go_sem, i_0, i_1, i_2, i_3, i_4, i_5, i_6, i_7, i_8, n_0, n_1, n_2, n_3, n_4, n_5, reduceCtorEq, reduceIte, hA1]
      rw [hA4 b (by omega)]; exact f1 b hb
    · simp (disch := first | exact dz | fail) only [go_sem, i_0, i_1, i_2, i_3, i_4, i_5, i_6, i_7, i_8, n_0, n_1, n_2, n_3, n_4, n_5, reduceCtorEq, reduceIte, hA1, hA2]
    · simp (disch := first | exact dz | fail) only [go_sem, i_0, i_1, i_2, i_3, i_4, i_5, i_6, i_7, i_8, n_0, n_1, n_2, n_3, n_4, n_5, reduceCtorEq, reduceIte, hA1, hA3]; rfl
    · simp (disch := first | exact dz | fail) only [go_sem, i_0, i_1, i_2, i_3, i_4, i_5, i_6, i_7, i_8, n_0, n_1, n_2, n_3, n_4, n_5, reduceCtorEq, reduceIte, hA1]
    · simp (disch := first | exact dz | fail) only [go_sem, i_0, i_1, i_2, i_3, i_4, i_5, i_6, i_7, i_8, n_0, n_1, n_2, n_3, n_4, n_5, reduceCtorEq, reduceIte, hA1]
    · exact oA.frame (fun hb => by simp (disch := first | exact dz | fail) only [go_sem, i_0, i_1, i_2, i_3, i_4, i_5, i_6, i_7, i_8, n_0, n_1, n_2, n_3, n_4, n_5, reduceCtorEq, reduceIte, hA1]) (by simp; omega)
    · rw [hrep b hb]
      exact ⟨(hnil b hb).2.symm, .inl ⟨(hnil b hb).1, rfl⟩⟩
  · rintro S k h1' s n hk hSlt ⟨p1, p2, p3, p4, p5, p6, p7, B, L, p8, p9, p10, p11⟩
    obtain ⟨c1, c2, c3, c4, c5, c6, c7⟩ := syms_ok hk
    have hsc := stC_succ hk
    have hsr := stR_succ hk
    have hlast := stR_last k
    have hle := stR_len k
    have hsh0 := stR_short k n.toNat (by omega)
    generalize hst : stC k = st at *
    obtain ⟨⟨lb, lw⟩, lt⟩ := st
    generalize hrt : stR k = rt at *
    obtain ⟨last, rs⟩ := rt
    simp only at c3 c5 c6 c7 p5 p8 hle hlast p10 p11 hsh0
    subst hlast
    have hsh := shl_i64 (x := lw + 1) (y := n - lb) (by omega) (by have hp : (0 : Int) < 2 ^ (n - lb).toNat := Int.pow_pos (by decide); have := Int.mul_nonneg (show 0 ≤ lw + 1 by omega) (Int.le_of_lt hp); omega) (by omega)
    have hlw : lw + 1 ≤ (lw + 1) * 2 ^ (n - lb).toNat := by
      have hp : (0 : Int) < 2 ^ (n - lb).toNat := Int.pow_pos (by decide)
      have := Int.mul_le_mul_of_nonneg_left (show (1 : Int) ≤ 2 ^ (n - lb).toNat by omega) (show 0 ≤ lw + 1 by omega)
      omega
    refine y_roundR hR p7 (setAll_two .mk .mk) ?_
    repeat' (first
      | with_reducible first | refine Nx.h ?_ | (refine hK _ _ ?_; clear hK K)
      | ((with_reducible refine q_eo ?_ ?_); exact rfl)
      | ((with_reducible first | (refine Ny.h ?_; intro K hK) | (refine c_drw (by decide +kernel) ?_; intro K hK) | refine c_cond ?_ | show endW _ _ _ _ _ | (refine Nz.h ?_ ?_ <;> intro _) | fail) <;> try simp (disch := first | exact dz | fail) only [go_sem, i_0, i_1, i_2, i_3, i_4, i_5, i_6, i_7, i_8, n_0, n_1, n_2, n_3, n_4, n_5, reduceCtorEq, reduceIte]))
    refine ⟨rfl, p7, fun hb (zb : hb.size = h1'.size) (fb : ∀ j, ¬ j = h0.size + 3 + 1 → hb.get j = h1'.get j) lb' => ?_⟩
    have q4 := (fb _ (by omega)).trans p4
    have q5 := (fb _ (by omega)).trans p5
    have q8 := p8.frame (fun _ => fb _ (by omega)) (Nat.le_of_eq zb.symm)
    have s8 := q8.sl
    obtain ⟨m, rfl⟩ : ∃ m : Nat, n = m := ⟨n.toNat, by omega⟩
    have hm : m < 31 := by omega
    have hl1 : ∀ c, loadA Try.T (hb.set (h0.size + 1 + 1) c) 57 (a.at ER.sz 1 m) = some ((L[m]!).2.v) := fun c =>
      (Sl.ld (s8.frame (h' := hb.set (h0.size + 1 + 1) c) (fun _ => hs_ne (by omega)) (by simp)) (by omega) (by omega) rfl (by decide) rfl rfl)
    have r10 := p10 m hm
    generalize hx : L[m]! = x at *
    obtain ⟨fx, sv⟩ := x
    rw [show (m : Int).toNat = m from rfl] at hsh0
    generalize hr : rs[m]! = r at *
    obtain ⟨fr, lr⟩ := r
    obtain ⟨r1, r2⟩ := r10
    simp only at r1 r2 hl1 hsh0
    have hsc2 : stR (k + 1) = stepR ((lb, lw), rs) (s, (m : Int)) := hsr
    have hrow : (stR (k + 1)).2 = rs.set m (if lr = [] then (lw + 1) * 2 ^ ((m : Int) - lb).toNat else fr, lr ++ [s]) := by
      rw [hsr]; simp only [stepR, rowStep, stepL, Int.toNat_natCast, hr]
    have hlast2 : (stC (k + 1)).1 = ((m : Int), (lw + 1) * 2 ^ ((m : Int) - lb).toNat) := by rw [hsc]; rfl
    have ob : Ow EI hb (B m) sv.v lr := by
      rcases r2 with ⟨e1, e2⟩ | ⟨hne, ho, hBm⟩
      · rw [e1, e2]; exact .nil0 _ _
      · refine ho.frame (fun _ => fb _ ?_) (Nat.le_of_eq zb.symm)
        have := (p11 m hm (by rw [hr]; exact hne)).1; omega
    have heq : binA Try.T .eql 57 sv.v (.slice none 0 0 0 true) = some (.bool (decide (lr = []))) := by
      rcases r2 with ⟨e1, e2⟩ | ⟨hne, ho, hBm⟩
      · rw [e1, e2]; simp (disch := first | exact dz | fail) only [go_sem, i_0, i_1, i_2, i_3, i_4, i_5, i_6, i_7, i_8, n_0, n_1, n_2, n_3, n_4, n_5, reduceCtorEq, reduceIte, nil1]
      · rcases ho.form with ⟨_, h⟩ | ⟨n', cap', ex', h⟩
        · exact absurd h hne
        · rw [h, dec_f hne]; simp (disch := first | exact dz | fail) only [go_sem, i_0, i_1, i_2, i_3, i_4, i_5, i_6, i_7, i_8, n_0, n_1, n_2, n_3, n_4, n_5, reduceCtorEq, reduceIte]
    repeat' (first
      | with_reducible first | refine Nx.h ?_ | (refine hK _ _ ?_; clear hK K)
      | ((with_reducible refine q_eo ?_ ?_); exact rfl)
      | ((with_reducible first | (refine Ny.h ?_; intro K hK) | (refine c_drw (by decide +kernel) ?_; intro K hK) | refine c_cond ?_ | show endW _ _ _ _ _ | (refine Nz.h ?_ ?_ <;> intro _) | fail) <;> try simp (disch := first | exact dz | fail) only [go_sem, i_0, i_1, i_2, i_3, i_4, i_5, i_6, i_7, i_8, n_0, n_1, n_2, n_3, n_4, n_5, reduceCtorEq, reduceIte, q4, q5, hsh, hl1, heq]))
    · rename_i hlr
      refine Try.w133_0_2 (q8.frame ?_ ?_) ((lw + 1) * 2 ^ ((m : Int) - lb).toNat, sv) (by rw [Int.toNat_natCast, hx]; rfl) rfl rfl (by omega) (by omega) (by exact .mk) fun hz oz zz fz' => ?_
      · intro _; simp (disch := first | exact dz | fail) only [go_sem, i_0, i_1, i_2, i_3, i_4, i_5, i_6, i_7, i_8, n_0, n_1, n_2, n_3, n_4, n_5, reduceCtorEq, reduceIte]
      · simp (disch := first | exact dz | fail) only [go_sem, i_0, i_1, i_2, i_3, i_4, i_5, i_6, i_7, i_8, n_0, n_1, n_2, n_3, n_4, n_5, reduceCtorEq, reduceIte]; omega
      simp only [go_sem] at zz
      have fz : ∀ b, ¬ b = h0.size → ¬ b = h0.size + 2 → hz.get b = hb.get b := by
        intro b k1 k2
        rw [fz' b k1]; simp (disch := first | exact dz | fail) only [go_sem, i_0, i_1, i_2, i_3, i_4, i_5, i_6, i_7, i_8, n_0, n_1, n_2, n_3, n_4, n_5, reduceCtorEq, reduceIte]
      have z2 : hz.get (h0.size + 2) = some (.cells [.int .i64 m, .int .i64 ((lw + 1) * 2 ^ ((m : Int) - lb).toNat)]) := by
        rw [fz' _ (by omega)]; simp (disch := first | exact dz | fail) only [go_sem, i_0, i_1, i_2, i_3, i_4, i_5, i_6, i_7, i_8, n_0, n_1, n_2, n_3, n_4, n_5, reduceCtorEq, reduceIte]
      rw [Int.toNat_natCast] at oz
      refine vI ?_; repeat' (first
      | with_reducible first | refine Nx.h ?_ | (refine hK _ _ ?_; clear hK K)
      | ((with_reducible refine q_eo ?_ ?_); exact rfl)
      | ((with_reducible first | refine vO ?_ | (refine Ny.h ?_; intro K hK) | (refine c_drw (by decide +kernel) ?_; intro K hK) | refine c_cond ?_ | show endW _ _ _ _ _ | (refine Nz.h ?_ ?_ <;> intro _) | fail) <;> try simp (disch := first | exact dz | fail) only [go_sem, i_0, i_1, i_2, i_3, i_4, i_5, i_6, i_7, i_8, n_0, n_1, n_2, n_3, n_4, n_5, reduceCtorEq, reduceIte]))
      generalize hv0 : (lw + 1) * 2 ^ ((m : Int) - lb).toNat = v0 at oz
      obtain ⟨bm, obz, hbm0, hbmS, hbmd⟩ : ∃ bm, Ow EI hz bm sv.v lr ∧ h0.size + 5 ≤ bm ∧ ¬ S bm ∧ ∀ c : Nat, c < 31 → ¬ c = m → (rs[c]!).2 ≠ [] → ¬ B c = bm := by
        rcases r2 with ⟨e1, e2⟩ | ⟨hne, ho, hBm⟩
        · refine ⟨hz.size, by rw [e1, e2]; exact .nil0 _ _, by omega, fun hs => by have := hSlt _ hs; omega, fun c hc hcm hcn e => ?_⟩
          rcases (p10 c hc).2 with r4 | ⟨_, _, r4⟩
          · exact hcn r4.1
          · omega
        · obtain ⟨t1, t2, t3⟩ := p11 m hm (by rw [hr]; exact hne)
          exact ⟨B m, ob.frame (fun _ => fz _ (by omega) (by omega)) (by omega), t1, t2, fun c hc hcm hcn e => hcm (t3 c hc hcn e.symm).symm⟩
      have sz := oz.sl
      have hsl : (L.set m (v0, sv)).length = 31 := by rw [List.length_set]; exact p9
      have q4z := (fz _ (by omega) (by omega)).trans q4
      have hvl : (L.set m (v0, sv))[m]! = (v0, sv) := by rw [getElem!_pos _ m (by simp; omega), List.getElem_set_self]
      have hlz : loadA Try.T hz 57 (a.at ER.sz 1 m) = some sv.v := Sl.ld sz (by omega) (by simp; omega) (by rw [Int.toNat_natCast, hvl]; rfl) (by decide) rfl rfl
      refine c_looseW [(0, 9), (0, 10), (2, 9), (6, 9)] (by decide +kernel) ?_; repeat' (first
      | with_reducible first | refine Nx.h ?_ | (refine hK _ _ ?_; clear hK K)
      | ((with_reducible refine q_eo ?_ ?_); exact rfl)
      | ((with_reducible first | (refine Ny.h ?_; intro K hK) | (refine c_drw (by decide +kernel) ?_; intro K hK) | refine c_cond ?_ | show endW _ _ _ _ _ | (refine Nz.h ?_ ?_ <;> intro _) | fail) <;> try simp (disch := first | exact dz | fail) only [go_sem, i_0, i_1, i_2, i_3, i_4, i_5, i_6, i_7, i_8, n_0, n_1, n_2, n_3, n_4, n_5, reduceCtorEq, reduceIte, q4z, hlz])
      | with_reducible refine obl_and (by simp (disch := first | exact dz | fail) only [go_sem, i_0, i_1, i_2, i_3, i_4, i_5, i_6, i_7, i_8, n_0, n_1, n_2, n_3, n_4, n_5, reduceCtorEq, reduceIte, q4z, hlz]) ?_)
      refine Try.al57 s obz rfl rfl (by exact .mk) (by omega) fun z h10 i10 o10 i10e z10 f10 => ?_
      have g10' : ∀ b, b < hz.size → ¬ b = bm → h10.get b = hz.get b := f10
      have q4t := (g10' (h0.size + 1) (by omega) (by omega)).trans q4z
      have o10r := oz.frame (fun _ => g10' h0.size (by omega) (by omega)) z10
      have s10 := o10r.sl
      have hl10 : loadA Try.T h10 57 (a.at ER.sz 1 m) = some sv.v := Sl.ld s10 (by omega) (by simp; omega) (by rw [Int.toNat_natCast, hvl]; rfl) (by decide) rfl rfl
      have s10z := o10.one
      have s10c := o10.cells
      refine vI ?_; repeat' (first
      | with_reducible first | refine Nx.h ?_ | (refine hK _ _ ?_; clear hK K)
      | ((with_reducible refine q_eo ?_ ?_); exact rfl)
      | ((with_reducible first | refine vO ?_ | (refine Ny.h ?_; intro K hK) | (refine c_drw (by decide +kernel) ?_; intro K hK) | refine c_cond ?_ | show endW _ _ _ _ _ | (refine Nz.h ?_ ?_ <;> intro _) | fail) <;> try simp (disch := first | exact dz | fail) only [go_sem, i_0, i_1, i_2, i_3, i_4, i_5, i_6, i_7, i_8, n_0, n_1, n_2, n_3, n_4, n_5, reduceCtorEq, reduceIte, q4t, hl10])
      | with_reducible refine obl_and (by simp (disch := first | exact dz | fail) only [go_sem, i_0, i_1, i_2, i_3, i_4, i_5, i_6, i_7, i_8, n_0, n_1, n_2, n_3, n_4, n_5, reduceCtorEq, reduceIte, q4t, hl10]) ?_)
      refine Try.w133_1_57 o10r (v0, ⟨z, s10z⟩) (by rw [Int.toNat_natCast, hvl]; rfl) s10c s10z (by omega) (by omega) (by exact .mk) fun h11 o11 z11 f11 => ?_
      rw [Int.toNat_natCast, List.set_set] at o11
      have hlp : ∀ c, loadA Try.T (hz.push c) 57 (a.at ER.sz 1 m) = some sv.v := fun c => (Sl.ld (sz.frame (h' := hz.push c) (fun _ => by rw [AH.get_push, if_neg (by omega)]) (by simp)) (by omega) (by omega) (by rw [Int.toNat_natCast, hvl]; rfl) (by decide) rfl rfl)
      have q4u := (f11 (h0.size + 1) (by omega)).trans q4t
      refine vI ?_; repeat' (first
      | with_reducible first | refine Nx.h ?_ | (refine hK _ _ ?_; clear hK K)
      | ((with_reducible refine q_eo ?_ ?_); exact rfl)
      | ((with_reducible first | refine vO ?_ | (refine Ny.h ?_; intro K hK) | (refine c_drw (by decide +kernel) ?_; intro K hK) | refine c_cond ?_ | show endW _ _ _ _ _ | (refine Nz.h ?_ ?_ <;> intro _) | fail) <;> try simp (disch := first | exact dz | fail) only [go_sem, i_0, i_1, i_2, i_3, i_4, i_5, i_6, i_7, i_8, n_0, n_1, n_2, n_3, n_4, n_5, reduceCtorEq, reduceIte, q4z, q4t, hlz, hl10, q4u, hlp])
      | with_reducible refine obl_and (by simp (disch := first | exact dz | fail) only [go_sem, i_0, i_1, i_2, i_3, i_4, i_5, i_6, i_7, i_8, n_0, n_1, n_2, n_3, n_4, n_5, reduceCtorEq, reduceIte, q4z, q4t, hlz, hl10, q4u, hlp]) ?_)
      refine ⟨?_, fun h2 (zh2 : h2.size = h11.size) (f2 : ∀ j, ¬ j = h0.size + 3 + 1 → h2.get j = h11.get j) l2 => ?_⟩
      · rw [f11 _ (by omega), g10' _ (by omega) (by omega), fz _ (by omega) (by omega)]; exact lb'
      have hfin : ∀ b, b < h1'.size → ¬ b = h0.size → ¬ b = h0.size + 2 → ¬ b = h0.size + 4 → ¬ b = bm → h2.get b = h1'.get b := by
        intro b k1 k2 k3 k4 k5
        rw [f2 b (by omega), f11 b k2, g10' b (by omega) k5, fz b k2 k3, fb b (by omega)]
      have hv0 : v0 = (if lr = [] then (lw + 1) * 2 ^ ((m : Int) - lb).toNat else fr) := by rw [if_pos hlr]; exact hv0.symm
      refine ⟨by omega, fun b hb => ?_, .inl ⟨rfl, p1, by omega, fun b hb => ?_, ?_, ?_, ?_, ?_, fun c => if c = m then i10 else B c, L.set m (v0, ⟨z, s10z⟩), ?_, by rw [List.length_set]; exact p9, fun b hb => ?_, fun b hb hne => ?_⟩⟩
      · have h5 : ¬ b < h0.size + 5 := fun e => p1 b e hb
        exact hfin b (hSlt b hb) (by omega) (by omega) (by omega) (fun e => hbmS (e ▸ hb))
      · rw [hfin b (by omega) (by omega) (by omega) (by omega) (by omega)]; exact p3 b hb
      · rw [hfin _ (by omega) (by omega) (by omega) (by omega) (by omega)]; exact p4
      · rw [f2 _ (by omega), f11 _ (by omega), g10' _ (by omega) (by omega), z2, hlast2]
      · rw [hfin _ (by omega) (by omega) (by omega) (by omega) (by omega)]; exact p6
      · rw [show h0.size + 4 = h0.size + 3 + 1 from rfl, l2, AO.fin_normal hR]
      · exact o11.frame (fun _ => f2 _ (by omega)) (by omega)
      · rw [hrow]
        by_cases hbm : b = m
        · subst hbm
          rw [getElem!_pos _ b (by rw [List.length_set]; omega), getElem!_pos _ b (by rw [List.length_set]; omega), List.getElem_set_self, List.getElem_set_self]
          refine ⟨hv0, .inr ⟨by simp, ?_, ?_⟩⟩
          · simp only [if_true]
            exact o10.frame (fun _ => by rw [f2 _ (by omega), f11 _ (by omega)]) (by omega)
          · simp only [if_true]
            rcases o10.form with ⟨_, h⟩ | ⟨n', cap', ex', h⟩
            · simp at h
            · have := o10.lt (by simp); omega
        · have e1 : (L.set m (v0, ⟨z, s10z⟩))[b]! = L[b]! := by rw [getElem!_pos _ b (by rw [List.length_set]; omega), getElem!_pos _ b (by omega), List.getElem_set_ne (fun e => hbm e.symm)]
          have e2 : (rs.set m (if lr = [] then (lw + 1) * 2 ^ ((m : Int) - lb).toNat else fr, lr ++ [s]))[b]! = rs[b]! := by rw [getElem!_pos _ b (by rw [List.length_set]; omega), getElem!_pos _ b (by omega), List.getElem_set_ne (fun e => hbm e.symm)]
          rw [e1, e2]
          obtain ⟨t1, t2⟩ := p10 b hb
          refine ⟨t1, ?_⟩
          rcases t2 with t2 | ⟨t2, t3, t4⟩
          · exact .inl t2
          · have := (p11 b hb t2).1
            refine .inr ⟨t2, ?_, ?_⟩
            · simp only [if_neg hbm]
              exact t3.frame (fun _ => hfin _ t4 (by omega) (by omega) (by omega) (hbmd b hb hbm t2)) (by omega)
            · simp only [if_neg hbm]; omega
      · rw [hrow] at hne ⊢
        have e2 : ∀ b : Nat, b < 31 → ¬ b = m → (rs.set m (if lr = [] then (lw + 1) * 2 ^ ((m : Int) - lb).toNat else fr, lr ++ [s]))[b]! = rs[b]! := by
          intro b hb hbm
          rw [getElem!_pos _ b (by rw [List.length_set]; omega), getElem!_pos _ b (by omega), List.getElem_set_ne (fun e => hbm e.symm)]
        have hBlt : ∀ b : Nat, b < 31 → (rs[b]!).2 ≠ [] → B b < h1'.size := by
          intro b hb hne
          rcases (p10 b hb).2 with t2 | ⟨_, _, t4⟩
          · exact absurd t2.1 hne
          · exact t4
        by_cases hbm : b = m
        · subst hbm
          simp only [if_true]
          refine ⟨by omega, fun hs => ?_, fun c hc hcn e => ?_⟩
          · rcases i10e with e | e
            · exact hbmS (e ▸ hs)
            · have := hSlt _ hs; omega
          · by_cases hcm : c = b
            · exact hcm.symm
            · rw [if_neg hcm] at e
              rw [e2 c hc hcm] at hcn
              have k1 := hbmd c hc hcm hcn
              have k2 := hBlt c hc hcn
              omega
        · rw [e2 b hb hbm] at hne
          simp only [if_neg hbm]
          obtain ⟨t1, t2, t3⟩ := p11 b hb hne
          refine ⟨t1, t2, fun c hc hcn e => ?_⟩
          by_cases hcm : c = m
          · rw [if_pos hcm] at e
            have k1 := hbmd b hb hbm hne
            have k2 := hBlt b hb hne
            omega
          · rw [if_neg hcm] at e
            rw [e2 c hc hcm] at hcn
            exact t3 c hc hcn e
    · rename_i hlr
      refine c_hide fun hz hhz => ?_
      have zz : hz.size = hb.size := by rw [hhz]; simp (disch := first | exact dz | fail) only [go_sem, i_0, i_1, i_2, i_3, i_4, i_5, i_6, i_7, i_8, n_0, n_1, n_2, n_3, n_4, n_5, reduceCtorEq, reduceIte]
      have fz : ∀ b, ¬ b = h0.size → ¬ b = h0.size + 2 → hz.get b = hb.get b := by
        intro b k1 k2
        rw [hhz]; simp (disch := first | exact dz | fail) only [go_sem, i_0, i_1, i_2, i_3, i_4, i_5, i_6, i_7, i_8, n_0, n_1, n_2, n_3, n_4, n_5, reduceCtorEq, reduceIte]
      have z2 : hz.get (h0.size + 2) = some (.cells [.int .i64 m, .int .i64 ((lw + 1) * 2 ^ ((m : Int) - lb).toNat)]) := by
        rw [hhz]; simp (disch := first | exact dz | fail) only [go_sem, i_0, i_1, i_2, i_3, i_4, i_5, i_6, i_7, i_8, n_0, n_1, n_2, n_3, n_4, n_5, reduceCtorEq, reduceIte]
      have hset : L.set m (fx, sv) = L := by
        rw [← hx, getElem!_pos L m (by omega), List.set_getElem_self]
      have oz : Ow ER hz h0.size a (L.set m (fx, sv)) := by
        rw [hset]; exact q8.frame (fun _ => by rw [hhz]; simp (disch := first | exact dz | fail) only [go_sem, i_0, i_1, i_2, i_3, i_4, i_5, i_6, i_7, i_8, n_0, n_1, n_2, n_3, n_4, n_5, reduceCtorEq, reduceIte]) (by omega)
      generalize hv0 : fx = v0 at oz
      obtain ⟨bm, obz, hbm0, hbmS, hbmd⟩ : ∃ bm, Ow EI hz bm sv.v lr ∧ h0.size + 5 ≤ bm ∧ ¬ S bm ∧ ∀ c : Nat, c < 31 → ¬ c = m → (rs[c]!).2 ≠ [] → ¬ B c = bm := by
        rcases r2 with ⟨e1, e2⟩ | ⟨hne, ho, hBm⟩
        · refine ⟨hz.size, by rw [e1, e2]; exact .nil0 _ _, by omega, fun hs => by have := hSlt _ hs; omega, fun c hc hcm hcn e => ?_⟩
          rcases (p10 c hc).2 with r4 | ⟨_, _, r4⟩
          · exact hcn r4.1
          · omega
        · obtain ⟨t1, t2, t3⟩ := p11 m hm (by rw [hr]; exact hne)
          exact ⟨B m, ob.frame (fun _ => fz _ (by omega) (by omega)) (by omega), t1, t2, fun c hc hcm hcn e => hcm (t3 c hc hcn e.symm).symm⟩
      have sz := oz.sl
      have hsl : (L.set m (v0, sv)).length = 31 := by rw [List.length_set]; exact p9
      have q4z := (fz _ (by omega) (by omega)).trans q4
      have hvl : (L.set m (v0, sv))[m]! = (v0, sv) := by rw [getElem!_pos _ m (by simp; omega), List.getElem_set_self]
      have hlz : loadA Try.T hz 57 (a.at ER.sz 1 m) = some sv.v := Sl.ld sz (by omega) (by simp; omega) (by rw [Int.toNat_natCast, hvl]; rfl) (by decide) rfl rfl
      refine c_looseW [(0, 9), (0, 10), (2, 9), (6, 9)] (by decide +kernel) ?_; repeat' (first
      | with_reducible first | refine Nx.h ?_ | (refine hK _ _ ?_; clear hK K)
      | ((with_reducible refine q_eo ?_ ?_); exact rfl)
      | ((with_reducible first | (refine Ny.h ?_; intro K hK) | (refine c_drw (by decide +kernel) ?_; intro K hK) | refine c_cond ?_ | show endW _ _ _ _ _ | (refine Nz.h ?_ ?_ <;> intro _) | fail) <;> try simp (disch := first | exact dz | fail) only [go_sem, i_0, i_1, i_2, i_3, i_4, i_5, i_6, i_7, i_8, n_0, n_1, n_2, n_3, n_4, n_5, reduceCtorEq, reduceIte, q4z, hlz])
      | with_reducible refine obl_and (by simp (disch := first | exact dz | fail) only [go_sem, i_0, i_1, i_2, i_3, i_4, i_5, i_6, i_7, i_8, n_0, n_1, n_2, n_3, n_4, n_5, reduceCtorEq, reduceIte, q4z, hlz]) ?_)
      refine Try.al57 s obz rfl rfl (by exact .mk) (by omega) fun z h10 i10 o10 i10e z10 f10 => ?_
      have g10' : ∀ b, b < hz.size → ¬ b = bm → h10.get b = hz.get b := f10
      have q4t := (g10' (h0.size + 1) (by omega) (by omega)).trans q4z
      have o10r := oz.frame (fun _ => g10' h0.size (by omega) (by omega)) z10
      have s10 := o10r.sl
      have hl10 : loadA Try.T h10 57 (a.at ER.sz 1 m) = some sv.v := Sl.ld s10 (by omega) (by simp; omega) (by rw [Int.toNat_natCast, hvl]; rfl) (by decide) rfl rfl
      have s10z := o10.one
      have s10c := o10.cells
      refine vI ?_; repeat' (first
      | with_reducible first | refine Nx.h ?_ | (refine hK _ _ ?_; clear hK K)
      | ((with_reducible refine q_eo ?_ ?_); exact rfl)
      | ((with_reducible first | refine vO ?_ | (refine Ny.h ?_; intro K hK) | (refine c_drw (by decide +kernel) ?_; intro K hK) | refine c_cond ?_ | show endW _ _ _ _ _ | (refine Nz.h ?_ ?_ <;> intro _) | fail) <;> try simp (disch := first | exact dz | fail) only [go_sem, i_0, i_1, i_2, i_3, i_4, i_5, i_6, i_7, i_8, n_0, n_1, n_2, n_3, n_4, n_5, reduceCtorEq, reduceIte, q4t, hl10])
      | with_reducible refine obl_and (by simp (disch := first | exact dz | fail) only [go_sem, i_0, i_1, i_2, i_3, i_4, i_5, i_6, i_7, i_8, n_0, n_1, n_2, n_3, n_4, n_5, reduceCtorEq, reduceIte, q4t, hl10]) ?_)
      refine Try.w133_1_57 o10r (v0, ⟨z, s10z⟩) (by rw [Int.toNat_natCast, hvl]; rfl) s10c s10z (by omega) (by omega) (by exact .mk) fun h11 o11 z11 f11 => ?_
      rw [Int.toNat_natCast, List.set_set] at o11
      have hlp : ∀ c, loadA Try.T (hz.push c) 57 (a.at ER.sz 1 m) = some sv.v := fun c => (Sl.ld (sz.frame (h' := hz.push c) (fun _ => by rw [AH.get_push, if_neg (by omega)]) (by simp)) (by omega) (by omega) (by rw [Int.toNat_natCast, hvl]; rfl) (by decide) rfl rfl)
      have q4u := (f11 (h0.size + 1) (by omega)).trans q4t
      refine vI ?_; repeat' (first
      | with_reducible first | refine Nx.h ?_ | (refine hK _ _ ?_; clear hK K)
      | ((with_reducible refine q_eo ?_ ?_); exact rfl)
      | ((with_reducible first | refine vO ?_ | (refine Ny.h ?_; intro K hK) | (refine c_drw (by decide +kernel) ?_; intro K hK) | refine c_cond ?_ | show endW _ _ _ _ _ | (refine Nz.h ?_ ?_ <;> intro _) | fail) <;> try simp (disch := first | exact dz | fail) only [go_sem, i_0, i_1, i_2, i_3, i_4, i_5, i_6, i_7, i_8, n_0, n_1, n_2, n_3, n_4, n_5, reduceCtorEq, reduceIte, q4z, q4t, hlz, hl10, q4u, hlp])
      | with_reducible refine obl_and (by simp (disch := first | exact dz | fail) only [go_sem, i_0, i_1, i_2, i_3, i_4, i_5, i_6, i_7, i_8, n_0, n_1, n_2, n_3, n_4, n_5, reduceCtorEq, reduceIte, q4z, q4t, hlz, hl10, q4u, hlp]) ?_)
      refine ⟨?_, fun h2 (zh2 : h2.size = h11.size) (f2 : ∀ j, ¬ j = h0.size + 3 + 1 → h2.get j = h11.get j) l2 => ?_⟩
      · rw [f11 _ (by omega), g10' _ (by omega) (by omega), fz _ (by omega) (by omega)]; exact lb'
      have hfin : ∀ b, b < h1'.size → ¬ b = h0.size → ¬ b = h0.size + 2 → ¬ b = h0.size + 4 → ¬ b = bm → h2.get b = h1'.get b := by
        intro b k1 k2 k3 k4 k5
        rw [f2 b (by omega), f11 b k2, g10' b (by omega) k5, fz b k2 k3, fb b (by omega)]
      have hv0 : v0 = (if lr = [] then (lw + 1) * 2 ^ ((m : Int) - lb).toNat else fr) := by rw [if_neg hlr]; omega
      refine ⟨by omega, fun b hb => ?_, .inl ⟨rfl, p1, by omega, fun b hb => ?_, ?_, ?_, ?_, ?_, fun c => if c = m then i10 else B c, L.set m (v0, ⟨z, s10z⟩), ?_, by rw [List.length_set]; exact p9, fun b hb => ?_, fun b hb hne => ?_⟩⟩
      · have h5 : ¬ b < h0.size + 5 := fun e => p1 b e hb
        exact hfin b (hSlt b hb) (by omega) (by omega) (by omega) (fun e => hbmS (e ▸ hb))
      · rw [hfin b (by omega) (by omega) (by omega) (by omega) (by omega)]; exact p3 b hb
      · rw [hfin _ (by omega) (by omega) (by omega) (by omega) (by omega)]; exact p4
      · rw [f2 _ (by omega), f11 _ (by omega), g10' _ (by omega) (by omega), z2, hlast2]
      · rw [hfin _ (by omega) (by omega) (by omega) (by omega) (by omega)]; exact p6
      · rw [show h0.size + 4 = h0.size + 3 + 1 from rfl, l2, AO.fin_normal hR]
      · exact o11.frame (fun _ => f2 _ (by omega)) (by omega)
      · rw [hrow]
        by_cases hbm : b = m
        · subst hbm
          rw [getElem!_pos _ b (by rw [List.length_set]; omega), getElem!_pos _ b (by rw [List.length_set]; omega), List.getElem_set_self, List.getElem_set_self]
          refine ⟨hv0, .inr ⟨by simp, ?_, ?_⟩⟩
          · simp only [if_true]
            exact o10.frame (fun _ => by rw [f2 _ (by omega), f11 _ (by omega)]) (by omega)
          · simp only [if_true]
            rcases o10.form with ⟨_, h⟩ | ⟨n', cap', ex', h⟩
            · simp at h
            · have := o10.lt (by simp); omega
        · have e1 : (L.set m (v0, ⟨z, s10z⟩))[b]! = L[b]! := by rw [getElem!_pos _ b (by rw [List.length_set]; omega), getElem!_pos _ b (by omega), List.getElem_set_ne (fun e => hbm e.symm)]
          have e2 : (rs.set m (if lr = [] then (lw + 1) * 2 ^ ((m : Int) - lb).toNat else fr, lr ++ [s]))[b]! = rs[b]! := by rw [getElem!_pos _ b (by rw [List.length_set]; omega), getElem!_pos _ b (by omega), List.getElem_set_ne (fun e => hbm e.symm)]
          rw [e1, e2]
          obtain ⟨t1, t2⟩ := p10 b hb
          refine ⟨t1, ?_⟩
          rcases t2 with t2 | ⟨t2, t3, t4⟩
          · exact .inl t2
          · have := (p11 b hb t2).1
            refine .inr ⟨t2, ?_, ?_⟩
            · simp only [if_neg hbm]
              exact t3.frame (fun _ => hfin _ t4 (by omega) (by omega) (by omega) (hbmd b hb hbm t2)) (by omega)
            · simp only [if_neg hbm]; omega
      · rw [hrow] at hne ⊢
        have e2 : ∀ b : Nat, b < 31 → ¬ b = m → (rs.set m (if lr = [] then (lw + 1) * 2 ^ ((m : Int) - lb).toNat else fr, lr ++ [s]))[b]! = rs[b]! := by
          intro b hb hbm
          rw [getElem!_pos _ b (by rw [List.length_set]; omega), getElem!_pos _ b (by omega), List.getElem_set_ne (fun e => hbm e.symm)]
        have hBlt : ∀ b : Nat, b < 31 → (rs[b]!).2 ≠ [] → B b < h1'.size := by
          intro b hb hne
          rcases (p10 b hb).2 with t2 | ⟨_, _, t4⟩
          · exact absurd t2.1 hne
          · exact t4
        by_cases hbm : b = m
        · subst hbm
          simp only [if_true]
          refine ⟨by omega, fun hs => ?_, fun c hc hcn e => ?_⟩
          · rcases i10e with e | e
            · exact hbmS (e ▸ hs)
            · have := hSlt _ hs; omega
          · by_cases hcm : c = b
            · exact hcm.symm
            · rw [if_neg hcm] at e
              rw [e2 c hc hcm] at hcn
              have k1 := hbmd c hc hcm hcn
              have k2 := hBlt c hc hcn
              omega
        · rw [e2 b hb hbm] at hne
          simp only [if_neg hbm]
          obtain ⟨t1, t2, t3⟩ := p11 b hb hne
          refine ⟨t1, t2, fun c hc hcn e => ?_⟩
          by_cases hcm : c = m
          · rw [if_pos hcm] at e
            have k1 := hbmd b hb hbm hne
            have k2 := hBlt b hb hne
            omega
          · rw [if_neg hcm] at e
            rw [e2 c hc hcm] at hcn
            exact t3 c hc hcn e
  · rintro S h1' ⟨p1, p2, p3, p4, p5, p6, p7, B, L, p8, p9, p10, p11⟩
    rw [hR] at p7
    refine EndR_none p7 (by simp) ?_
    repeat' (first
      | with_reducible first | refine Nx.h ?_ | (refine hK _ _ ?_; clear hK K)
      | ((with_reducible refine q_eo ?_ ?_); exact rfl)
      | ((with_reducible first | (refine Ny.h ?_; intro K hK) | (refine c_drw (by decide +kernel) ?_; intro K hK) | refine c_cond ?_ | show endW _ _ _ _ _ | (refine Nz.h ?_ ?_ <;> intro _) | fail) <;> try simp (disch := first | exact dz | fail) only [go_sem, i_0, i_1, i_2, i_3, i_4, i_5, i_6, i_7, i_8, n_0, n_1, n_2, n_3, n_4, n_5, reduceCtorEq, reduceIte, p4, p6])
      | with_reducible refine obl_and (by simp (disch := first | exact dz | fail) only [go_sem, i_0, i_1, i_2, i_3, i_4, i_5, i_6, i_7, i_8, n_0, n_1, n_2, n_3, n_4, n_5, reduceCtorEq, reduceIte, p4, p6]) ?_)
    rw [syms_len] at p10 p11
    refine ⟨⟨B, L, p9, p8.frame (fun hb => by simp (disch := first | exact dz | fail) only [go_sem, i_0, i_1, i_2, i_3, i_4, i_5, i_6, i_7, i_8, n_0, n_1, n_2, n_3, n_4, n_5, reduceCtorEq, reduceIte]) (by simp (disch := first | exact dz | fail) only [go_sem, i_0, i_1, i_2, i_3, i_4, i_5, i_6, i_7, i_8, n_0, n_1, n_2, n_3, n_4, n_5, reduceCtorEq, reduceIte]; omega), fun b hb => ?_⟩, by simp (disch := first | exact dz | fail) only [go_sem, i_0, i_1, i_2, i_3, i_4, i_5, i_6, i_7, i_8, n_0, n_1, n_2, n_3, n_4, n_5, reduceCtorEq, reduceIte]; omega, fun b hb => ?_⟩
    · obtain ⟨r1, r2⟩ := p10 b hb
      refine ⟨r1, ?_⟩
      rcases r2 with r2 | ⟨r2, r3, r4⟩
      · exact .inl r2
      · have := (p11 b hb r2).1
        exact .inr ⟨r2, r3.frame (fun _ => by simp (disch := first | exact dz | fail) only [go_sem, i_0, i_1, i_2, i_3, i_4, i_5, i_6, i_7, i_8, n_0, n_1, n_2, n_3, n_4, n_5, reduceCtorEq, reduceIte]) (by simp (disch := first | exact dz | fail) only [go_sem, i_0, i_1, i_2, i_3, i_4, i_5, i_6, i_7, i_8, n_0, n_1, n_2, n_3, n_4, n_5, reduceCtorEq, reduceIte]; omega), by simp (disch := first | exact dz | fail) only [go_sem, i_0, i_1, i_2, i_3, i_4, i_5, i_6, i_7, i_8, n_0, n_1, n_2, n_3, n_4, n_5, reduceCtorEq, reduceIte]; omega⟩
    · simp (disch := first | exact dz | fail) only [go_sem, i_0, i_1, i_2, i_3, i_4, i_5, i_6, i_7, i_8, n_0, n_1, n_2, n_3, n_4, n_5, reduceCtorEq, reduceIte]
      exact p3 b hb
end Go.Proofs.Ytmpeofjfagdgkaa
