/- The reference's Symbol and Get. -/
import Derived.Test.YtmpeofjfagdgkaaHufGet
set_option linter.unusedSimpArgs false
set_option linter.unusedVariables false
namespace Go.Proofs.Ytmpeofjfagdgkaa
open Go.Abs
set_option maxRecDepth 100000
def findS (n w : Int) : List (Int × Int) → Int
  | [] => -1
  | x :: r => if x.2 > n then -1 else if x.2 = n ∧ (ctab[x.1.toNat]!).2 = w then x.1 else findS n w r
theorem syms_in : ∀ x ∈ syms, x.1 ∈ (rtab[x.2.toNat]!).2 ∧ 5 ≤ x.2 ∧ x.2 ≤ 30 := by rw [syms_eq, rtab_eq]; decide +kernel
theorem rows_in : ∀ n : Nat, n < 31 → ∀ s ∈ (rtab[n]!).2, (s, (n : Int)) ∈ syms := by rw [syms_eq, rtab_eq]; decide +kernel
theorem syms_sorted : syms.Pairwise fun x y => x.2 ≤ y.2 := by rw [syms_eq]; decide +kernel
theorem rows_low : ∀ n : Nat, n < 5 → (rtab[n]!).2 = [] := by rw [rtab_eq]; decide +kernel
theorem findS_none {n w : Int} : ∀ {l : List (Int × Int)}, (∀ x ∈ l, ¬ (x.2 = n ∧ (ctab[x.1.toNat]!).2 = w)) → findS n w l = -1
  | [], _ => rfl
  | x :: r, h => by
    simp only [findS]
    split
    · rfl
    · rw [if_neg (h x List.mem_cons_self)]
      exact findS_none fun y hy => h y (List.mem_cons_of_mem _ hy)
theorem findS_some {n w s : Int} : ∀ {l : List (Int × Int)}, l.Pairwise (fun x y => x.2 ≤ y.2) → (s, n) ∈ l → (ctab[s.toNat]!).2 = w → (∀ y ∈ l, y.2 = n → (ctab[y.1.toNat]!).2 = w → y.1 = s) → findS n w l = s
  | [], _, h, _, _ => by simp at h
  | x :: r, hp, h, hw, hu => by
    rw [List.pairwise_cons] at hp
    simp only [findS]
    have hxn : ¬ x.2 > n := by
      rcases List.mem_cons.1 h with h | h
      · rw [← h]; exact Int.lt_irrefl _
      · have := hp.1 _ h; simp only at this; omega
    rw [if_neg hxn]
    by_cases hc : x.2 = n ∧ (ctab[x.1.toNat]!).2 = w
    · rw [if_pos hc]; exact hu x List.mem_cons_self hc.1 hc.2
    · rw [if_neg hc]
      refine findS_some hp.2 ?_ hw fun y hy => hu y (List.mem_cons_of_mem _ hy)
      rcases List.mem_cons.1 h with h | h
      · exfalso; apply hc; rw [← h]; exact ⟨rfl, hw⟩
      · exact h
/-- A symbol of n bits has its code in its row. -/
theorem word_of {x : Int × Int} (hx : x ∈ syms) : ∃ j : Nat, j < (rtab[x.2.toNat]!).2.length ∧ (rtab[x.2.toNat]!).2[j]! = x.1 ∧ (ctab[x.1.toNat]!).2 = (rtab[x.2.toNat]!).1 + j := by
  obtain ⟨h1, h2, h3⟩ := syms_in x hx
  obtain ⟨j, hj⟩ := List.getElem?_of_mem h1
  have hlt := (List.getElem?_eq_some_iff.1 hj).1
  have hv : (rtab[x.2.toNat]!).2[j]! = x.1 := by rw [getElem!_pos _ j hlt]; exact (List.getElem?_eq_some_iff.1 hj).2
  obtain ⟨_, _, k⟩ := rows_syms x.2.toNat (by omega) j hlt
  rw [hv] at k
  exact ⟨j, hlt, hv, by rw [k]⟩
theorem find_step {n w : Nat} {b : Bool} (h : Live n w) : findS ((n : Int) + 1) ((2 * w + b.toNat : Nat) : Int) syms = (stepS n w b).getD (-1) := by
  have hn := h.1
  have e1 : ((n : Int) + 1).toNat = n + 1 := by omega
  rcases live_step (b := b) h with ⟨h1, h2, _⟩ | ⟨j, h1, h2, h3, h4, h5⟩
  · rw [h1]
    refine findS_none fun x hx hc => ?_
    obtain ⟨j, k1, k2, k3⟩ := word_of hx
    rw [hc.1, e1] at k1 k3
    rw [hc.2] at k3
    omega
  · rw [h4, Option.getD_some]
    obtain ⟨_, _, k⟩ := rows_syms (n + 1) (by omega) j h1
    have hin := rows_in (n + 1) (by omega) ((rtab[n + 1]!).2[j]!) (by rw [getElem!_pos _ j h1]; exact List.getElem_mem h1)
    refine findS_some syms_sorted (by push_cast at hin; exact hin) (by rw [k, h5]) fun y hy hy1 hy2 => ?_
    obtain ⟨j', k1, k2, k3⟩ := word_of hy
    rw [hy1, e1] at k1 k2 k3
    rw [hy2, h5] at k3
    have : j' = j := by omega
    rw [← k2, this]
theorem step_low {n w : Nat} {b : Bool} (h : n + 1 < 5) : stepS n w b = none := by
  have h1 := rows_low (n + 1) h
  have h2 := rows_ok n (by omega)
  unfold stepS
  rw [if_pos]
  rcases h2.1 with ⟨k1, k2⟩ | ⟨k1, k2⟩
  · rw [k1, k2]; simp; omega
  · exact absurd h1 k1
theorem bitsOf_len : ∀ l : List UInt8, (bitsOf l).length = 8 * l.length
  | [] => rfl
  | c :: r => by
    have := bitsOf_len r
    simp only [bitsOf, List.flatMap_cons, List.length_append, bits8_len, List.length_cons] at this ⊢
    omega
theorem bitsOf_at : ∀ (l : List UInt8) (i : Nat), i < 8 * l.length → (bitsOf l)[i]! = ((l[i / 8]!).toNat / 2 ^ (7 - i % 8) % 2 == 1)
  | [], i, h => by simp at h
  | c :: r, i, h => by
    have hl := bitsOf_len (c :: r)
    have hl2 := bitsOf_len r
    rw [getElem!_pos _ i (by omega)]
    have e : bitsOf (c :: r) = bits8 c ++ bitsOf r := rfl
    simp only [e]
    by_cases hi : i < 8
    · rw [List.getElem_append_left (by rw [bits8_len]; exact hi)]
      have := tb_at 8 c.toNat i hi
      rw [getElem!_pos _ i (by rw [toBits_len]; exact hi)] at this
      rw [show i / 8 = 0 by omega, show i % 8 = i by omega, List.getElem!_cons_zero]
      exact this
    · rw [List.getElem_append_right (by rw [bits8_len]; omega)]
      have := bitsOf_at r (i - 8) (by simp at h; omega)
      rw [getElem!_pos _ (i - 8) (by simp at h; omega)] at this
      simp only [bits8_len]
      rw [this, show i / 8 = (i - 8) / 8 + 1 by omega, List.getElem!_cons_succ, show (i - 8) % 8 = i % 8 by omega]
end Go.Proofs.Ytmpeofjfagdgkaa
