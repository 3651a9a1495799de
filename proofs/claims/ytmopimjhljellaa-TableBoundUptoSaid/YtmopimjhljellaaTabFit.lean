/- table: the longest tail that fits. Plain lists, no program. -/
import Derived.Test.YtmopimjhljellaaTabLaw
set_option linter.unusedSimpArgs false
set_option linter.unusedVariables false
namespace Go.Proofs.Ytmopimjhljellaa
open Go.Abs
/-- Of a list, the newest first: its longest front that fits. -/
def fit (m : Int) : List Fd → List Fd
  | [] => []
  | x :: r => if sz1 x ≤ m then x :: fit (m - sz1 x) r else []
theorem sz1_pos (x : Fd) : 32 ≤ sz1 x := by unfold sz1; omega
theorem szs_nn : ∀ l : List Fd, 0 ≤ szs l
  | [] => Int.le_refl _
  | x :: r => by have := szs_nn r; have := sz1_pos x; simp only [szs]; omega
theorem szs_rev (l : List Fd) : szs l.reverse = szs l := by
  induction l with
  | nil => rfl
  | cons x r ih => rw [List.reverse_cons, szs_app, ih]; simp only [szs]; omega
theorem fit_snoc (x : Fd) : ∀ (a : List Fd) (m : Int), fit m (a ++ [x]) = if szs a + sz1 x ≤ m then a ++ [x] else fit m a
  | [], m => by simp only [List.nil_append, fit, szs, Int.zero_add]
  | y :: a, m => by
    have ih := fit_snoc x a (m - sz1 y)
    have h1 := szs_nn a
    have h2 := sz1_pos x
    have hsy : szs (y :: a) = sz1 y + szs a := rfl
    simp only [List.cons_append, fit, ih]
    by_cases hy : sz1 y ≤ m
    · rw [if_pos hy, if_pos hy]
      by_cases hc : szs a + sz1 x ≤ m - sz1 y
      · rw [if_pos hc, if_pos (by omega)]
      · rw [if_neg hc, if_neg (by omega)]
    · rw [if_neg hy, if_neg hy, if_neg (by omega)]
theorem shr_fit (m : Int) : ∀ l : List Fd, szs l ≤ 4611686018427387904 → (shr m l).reverse = fit m l.reverse
  | [], _ => rfl
  | x :: r, h => by
    have h1 := szs_nn r
    have h2 := sz1_pos x
    simp only [szs] at h
    have ih := shr_fit m r (by omega)
    rw [shr_cons, List.reverse_cons, fit_snoc, szs_rev, W_in (by simp only [szs]; omega) (by simp only [szs]; omega)]
    have hsx : szs (x :: r) = sz1 x + szs r := rfl
    by_cases hc : szs (x :: r) > m
    · rw [if_pos hc, if_neg (by omega)]; exact ih
    · rw [if_neg hc, if_pos (by omega), List.reverse_cons]
theorem fit_fit : ∀ (r : List Fd) (m M : Int), m ≤ M → fit m (fit M r) = fit m r
  | [], m, M, _ => rfl
  | x :: r, m, M, h => by
    simp only [fit]
    by_cases h1 : sz1 x ≤ M
    · rw [if_pos h1]
      simp only [fit]
      by_cases h2 : sz1 x ≤ m
      · rw [if_pos h2, if_pos h2, fit_fit r _ _ (by omega)]
      · rw [if_neg h2, if_neg h2]
    · rw [if_neg h1, if_neg (by omega)]; rfl
theorem fit_le : ∀ (r : List Fd) (M : Int), 0 ≤ M → szs (fit M r) ≤ M
  | [], M, h => h
  | x :: r, M, h => by
    simp only [fit]
    by_cases h1 : sz1 x ≤ M
    · rw [if_pos h1]
      have := fit_le r (M - sz1 x) (by omega)
      simp only [szs]; omega
    · rw [if_neg h1]; exact h
/-- Add keeps the longest tail that fits. -/
theorem addL_fit {M : Int} {x y : List UInt8} {l r : List Fd} (h0 : 0 ≤ M) (h1 : M ≤ 65536) (hx : x.length ≤ 140737488355328) (hy : y.length ≤ 140737488355328) (hl : l.reverse = fit M r) : (addL M x y l).reverse = fit M ((x, y, false) :: r) := by
  have hs : sz1 (x, y, false) ≤ 281474976710688 := by unfold sz1; simp only; omega
  have hp := sz1_pos (x, y, false)
  have hle := fit_le r M h0
  rw [← hl, szs_rev] at hle
  unfold addL
  rw [W_in (by omega) (by omega), W_in (by omega) (by omega)]
  have := shr_fit (M - sz1 (x, y, false)) l (by omega)
  rw [hl, fit_fit _ _ _ (by omega)] at this
  simp only [fit]
  by_cases hc : sz1 (x, y, false) ≤ M
  · rw [if_pos hc, if_pos hc, List.reverse_append, this]; rfl
  · rw [if_neg hc, if_neg hc, this]
    cases r with
    | nil => rfl
    | cons z r =>
      have := sz1_pos z
      simp only [fit]; rw [if_neg (by omega)]
/-- The front and what fits behind it. -/
theorem fit_split : ∀ (k : Nat) (r : List Fd) (M : Int), k ≤ r.length → szs (r.take k) ≤ M → fit M r = r.take k ++ fit (M - szs (r.take k)) (r.drop k)
  | 0, r, M, _, _ => by simp [szs]
  | k + 1, [], M, h, _ => by simp at h
  | k + 1, x :: r, M, h, hs => by
    simp only [List.take_succ_cons, szs, List.drop_succ_cons] at hs ⊢
    have h1 := szs_nn (r.take k)
    have ih := fit_split k r (M - sz1 x) (by simpa using h) (by omega)
    simp only [fit, List.cons_append]
    rw [if_pos (by omega), ih]
    congr 3; omega
end Go.Proofs.Ytmopimjhljellaa
