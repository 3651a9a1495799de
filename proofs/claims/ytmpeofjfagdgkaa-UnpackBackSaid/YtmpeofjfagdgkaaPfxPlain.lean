/- Plain facts of putS and getS: there and back, fronts. -/
import Derived.Test.YtmpeofjfagdgkaaPfxRef
set_option linter.unusedSimpArgs false
set_option linter.unusedVariables false
namespace Go.Proofs.Ytmpeofjfagdgkaa
open Go.Abs
theorem getL_put : ∀ (k i : Nat) (acc : Int) (more : List UInt8), 0 ≤ acc → acc + (k : Int) * 128 ^ i ≤ 2147483647 → i ≤ 4 → getL i acc (putL k ++ more) = (acc + (k : Int) * 128 ^ i, (i : Int) + 1 + (putL k).length, 0) := by
  intro k
  induction k using Nat.strongRecOn with
  | _ k ih =>
    intro i acc more h0 h1 hi
    have hp := pow128 hi
    rw [putL]
    by_cases hk : 128 ≤ k
    · rw [if_pos hk]
      have hc : (UInt8.ofNat (k % 128 + 128)).toNat = k % 128 + 128 := ofNat_toNat (by omega)
      have hd : (k : Int) = 128 * ((k / 128 : Nat) : Int) + ((k % 128 : Nat) : Int) := by omega
      have hq : 1 ≤ k / 128 := by omega
      have hi4 : i ≠ 4 := by
        rintro rfl
        have : (128 : Int) * 128 ^ 4 ≤ (k : Int) * 128 ^ 4 := Int.mul_le_mul_of_nonneg_right (by omega) (by omega)
        have e : (128 : Int) * 128 ^ 4 = 34359738368 := by decide
        omega
      have hs : (128 : Int) ^ (i + 1) = 128 ^ i * 128 := Int.pow_succ ..
      have hm : ((UInt8.ofNat (k % 128 + 128)).toNat : Int) % 128 = ((k % 128 : Nat) : Int) := by rw [hc]; omega
      have hsum : acc + ((k % 128 : Nat) : Int) * 128 ^ i + ((k / 128 : Nat) : Int) * 128 ^ (i + 1) = acc + (k : Int) * 128 ^ i := by
        rw [hs, hd]
        generalize (128 : Int) ^ i = p
        generalize ((k / 128 : Nat) : Int) = u
        generalize ((k % 128 : Nat) : Int) = w
        grind
      have hn1 : 0 ≤ ((k % 128 : Nat) : Int) * 128 ^ i := Int.mul_nonneg (by omega) (by omega)
      have hn2 : 0 ≤ ((k / 128 : Nat) : Int) * 128 ^ (i + 1) := Int.mul_nonneg (by omega) (by omega)
      simp only [List.cons_append, getL, hm]
      rw [if_neg (by omega), if_pos (by omega), ih (k / 128) (by omega) (i + 1) _ more (by omega) (by omega) (by omega), hsum]
      simp only [List.length_cons]
      congr 2
      omega
    · rw [if_neg hk]
      have hc : (UInt8.ofNat k).toNat = k := ofNat_toNat (by omega)
      have hm : ((UInt8.ofNat k).toNat : Int) % 128 = (k : Int) := by rw [hc]; omega
      simp only [List.cons_append, List.nil_append, getL, hm]
      rw [if_neg (by omega), if_neg (by omega)]
      simp only [List.length_cons, List.length_nil]
      first | rfl | (congr 2 <;> omega)
theorem getL_front : ∀ (k i : Nat) (acc : Int) (j : Nat), 0 ≤ acc → acc + (k : Int) * 128 ^ i ≤ 2147483647 → i ≤ 4 → j < (putL k).length → getL i acc ((putL k).take j) = (0, 0, 3) := by
  intro k
  induction k using Nat.strongRecOn with
  | _ k ih =>
    intro i acc j h0 h1 hi hj
    have hp := pow128 hi
    cases j with
    | zero => rfl
    | succ j =>
      rw [putL] at hj ⊢
      by_cases hk : 128 ≤ k
      · rw [if_pos hk] at hj ⊢
        have hc : (UInt8.ofNat (k % 128 + 128)).toNat = k % 128 + 128 := ofNat_toNat (by omega)
        have hd : (k : Int) = 128 * ((k / 128 : Nat) : Int) + ((k % 128 : Nat) : Int) := by omega
        have hq : 1 ≤ k / 128 := by omega
        have hi4 : i ≠ 4 := by
          rintro rfl
          have : (128 : Int) * 128 ^ 4 ≤ (k : Int) * 128 ^ 4 := Int.mul_le_mul_of_nonneg_right (by omega) (by omega)
          have e : (128 : Int) * 128 ^ 4 = 34359738368 := by decide
          omega
        have hs : (128 : Int) ^ (i + 1) = 128 ^ i * 128 := Int.pow_succ ..
        have hm : ((UInt8.ofNat (k % 128 + 128)).toNat : Int) % 128 = ((k % 128 : Nat) : Int) := by rw [hc]; omega
        have hsum : acc + ((k % 128 : Nat) : Int) * 128 ^ i + ((k / 128 : Nat) : Int) * 128 ^ (i + 1) = acc + (k : Int) * 128 ^ i := by
          rw [hs, hd]
          generalize (128 : Int) ^ i = p
          generalize ((k / 128 : Nat) : Int) = u
          generalize ((k % 128 : Nat) : Int) = w
          grind
        have hn1 : 0 ≤ ((k % 128 : Nat) : Int) * 128 ^ i := Int.mul_nonneg (by omega) (by omega)
        have hn2 : 0 ≤ ((k / 128 : Nat) : Int) * 128 ^ (i + 1) := Int.mul_nonneg (by omega) (by omega)
        simp only [List.take_succ_cons, getL, hm]
        simp only [List.length_cons] at hj
        rw [if_neg (by omega), if_pos (by omega), ih (k / 128) (by omega) (i + 1) _ j (by omega) (by omega) (by omega) (by omega)]
      · rw [if_neg hk] at hj
        simp at hj
theorem putL_len : ∀ (k d : Nat), k < 128 ^ (d + 1) → 1 ≤ (putL k).length ∧ (putL k).length ≤ d + 1 := by
  intro k
  induction k using Nat.strongRecOn with
  | _ k ih =>
    intro d hd
    rw [putL]
    by_cases hk : 128 ≤ k
    · rw [if_pos hk]
      cases d with
      | zero => simp at hd; omega
      | succ d =>
        have := ih (k / 128) (by omega) d (by rw [Nat.pow_succ] at hd; omega)
        simp only [List.length_cons]; omega
    · rw [if_neg hk]; simp
theorem putS_ok {b f n : Int} (hb : 1 ≤ b) (hb8 : b ≤ 8) (hf : 0 ≤ f) (hf2 : f ≤ 255) (hn : 0 ≤ n) (hn2 : n ≤ 2147483647) (hm : f % 2 ^ b.toNat = 0) :
    (putS b f n).1 = 0 ∧ 1 ≤ (putS b f n).2.length ∧ (putS b f n).2.length ≤ 6 ∧ (∃ y r, (putS b f n).2 = y :: r ∧ (y.toNat : Int) / 2 ^ b.toNat * 2 ^ b.toNat = f) ∧
      (∀ more, getS b ((putS b f n).2 ++ more) = (n, ((putS b f n).2.length : Int), 0)) ∧ ∀ j, j < (putS b f n).2.length → getS b ((putS b f n).2.take j) = (0, 0, 3) := by
  have hp := pow_le8 hb hb8
  have hfm : ∀ z, 0 ≤ z → z < 2 ^ b.toNat → f + z ≤ 255 ∧ (f + z) % 2 ^ b.toNat = z ∧ (f + z) / 2 ^ b.toNat * 2 ^ b.toNat = f := by
    intro z h0 h1
    have hb' : b = 1 ∨ b = 2 ∨ b = 3 ∨ b = 4 ∨ b = 5 ∨ b = 6 ∨ b = 7 ∨ b = 8 := by omega
    rcases hb' with rfl | rfl | rfl | rfl | rfl | rfl | rfl | rfl <;> simp at hm h1 ⊢ <;> omega
  have e8 : ∀ z, 0 ≤ z → z < 2 ^ b.toNat → ((UInt8.ofNat ((f + z) % 256).toNat).toNat : Int) = f + z := by
    intro z h0 h1
    have := (hfm z h0 h1).1
    rw [ofNat_toNat (by omega)]; omega
  unfold putS
  rw [if_neg (by omega)]
  have hgs : ∀ x r, getS b (x :: r) = (if (x.toNat : Int) % 2 ^ b.toNat < 2 ^ b.toNat - 1 then ((x.toNat : Int) % 2 ^ b.toNat, 1, 0) else getL 0 ((x.toNat : Int) % 2 ^ b.toNat) r) := by
    intro x r; unfold getS; rw [if_neg (by omega)]
  have hg0 : getS b [] = (0, 0, 3) := by unfold getS; rw [if_neg (by omega)]
  by_cases hs : n < 2 ^ b.toNat - 1
  · rw [if_pos hs]
    have h1 := e8 n hn (by omega)
    have h2 := hfm n hn (by omega)
    refine ⟨rfl, by simp, by simp, ⟨_, _, rfl, by rw [h1]; exact h2.2.2⟩, ?_, ?_⟩
    · intro more
      show getS b (_ :: more) = _
      rw [hgs, h1, h2.2.1, if_pos hs]; rfl
    · intro j hj
      have : j = 0 := by simpa using hj
      subst this
      exact hg0
  · rw [if_neg hs]
    have h1 := e8 (2 ^ b.toNat - 1) (by omega) (by omega)
    have h2 := hfm (2 ^ b.toNat - 1) (by omega) (by omega)
    have hlen := putL_len (n - (2 ^ b.toNat - 1)).toNat 4 (by have : (128 : Nat) ^ 5 = 34359738368 := by decide
                                                              omega)
    have hpn : ((n - (2 ^ b.toNat - 1)).toNat : Int) = n - (2 ^ b.toNat - 1) := Int.toNat_of_nonneg (by omega)
    refine ⟨rfl, by simp, by simp only [List.length_cons]; omega, ⟨_, _, rfl, by rw [h1]; exact h2.2.2⟩, ?_, ?_⟩
    · intro more
      show getS b (_ :: (putL _ ++ more)) = _
      rw [hgs, h1, h2.2.1, if_neg (by omega), getL_put _ 0 _ more (by omega) (by simp; omega) (by omega)]
      simp only [List.length_cons]
      refine Prod.ext ?_ (Prod.ext ?_ rfl) <;> simp <;> omega
    · intro j hj
      cases j with
      | zero => exact hg0
      | succ j =>
        show getS b (_ :: (putL _).take j) = _
        simp only [List.length_cons] at hj
        rw [hgs, h1, h2.2.1, if_neg (by omega)]
        exact getL_front _ 0 _ j (by omega) (by simp; omega) (by omega) (by omega)
end Go.Proofs.Ytmpeofjfagdgkaa
