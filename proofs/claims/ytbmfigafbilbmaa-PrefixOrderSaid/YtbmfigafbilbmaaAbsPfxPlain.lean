/- Plain facts of the bytes that Put writes. -/
import Derived.Test.YtbmfigafbilbmaaAbsPfx
set_option linter.unusedSimpArgs false
set_option linter.unusedVariables false
namespace Go.Proofs.Ytbmfigafbilbmaa
open Go.Abs
theorem putL_ge {n : Nat} (h : 128 ≤ n) : putL n = (n % 128 + 128) :: putL (n / 128) := by rw [putL, if_pos h]
theorem putL_lt {n : Nat} (h : ¬ 128 ≤ n) : putL n = [n] := by rw [putL, if_neg h]
theorem putL_pos (n : Nat) : 1 ≤ (putL n).length := by
  rw [putL]; split <;> simp
theorem putL_mono : ∀ (n m : Nat), n ≤ m → (putL n).length ≤ (putL m).length := by
  intro n
  induction n using Nat.strongRecOn with
  | _ n ih =>
    intro m h
    by_cases h1 : 128 ≤ n
    · rw [putL_ge h1, putL_ge (show 128 ≤ m by omega)]
      simp only [List.length_cons]
      have := ih (n / 128) (by omega) (m / 128) (Nat.div_le_div_right h)
      omega
    · rw [putL_lt h1]
      exact putL_pos m
theorem putL_small : ∀ (n : Nat), ∀ x ∈ putL n, x < 256 := by
  intro n
  induction n using Nat.strongRecOn with
  | _ n ih =>
    intro x hx
    rw [putL] at hx
    split at hx
    · rcases List.mem_cons.1 hx with rfl | hx
      · omega
      · exact ih (n / 128) (by omega) x hx
    · simp at hx; omega
theorem putL_inj : ∀ (n m : Nat), putL n = putL m → n = m := by
  intro n
  induction n using Nat.strongRecOn with
  | _ n ih =>
    intro m h
    by_cases h1 : 128 ≤ n <;> by_cases h2 : 128 ≤ m
    · rw [putL_ge h1, putL_ge h2] at h
      simp only [List.cons.injEq] at h
      have := ih (n / 128) (by omega) (m / 128) h.2
      omega
    · rw [putL_ge h1, putL_lt h2] at h
      simp only [List.cons.injEq] at h
      omega
    · rw [putL_lt h1, putL_ge h2] at h
      simp only [List.cons.injEq] at h
      omega
    · rw [putL_lt h1, putL_lt h2] at h
      simpa using h
/-- The bytes, with nothing in the first byte's other bits. -/
theorem putS_ok {b n : Int} (h1 : 1 ≤ b) (h8 : b ≤ 8) (hn : 0 ≤ n) (hm : n ≤ 2147483647) : putS b 0 n = (if n < 2 ^ b.toNat - 1 then (0, [n.toNat]) else (0, (2 ^ b.toNat - 1 : Int).toNat :: putL (n - (2 ^ b.toNat - 1)).toNat)) := by
  have hp := pow_le h1 h8
  unfold putS
  rw [if_neg (by rintro (h | h | h | h | h | h | h) <;> first | (exact h (by simp)) | omega)]
  split
  · have e : ((0 + n) % 256).toNat = n.toNat := by omega
    rw [e]
  · have e : ((0 + ((2 : Int) ^ b.toNat - 1)) % 256).toNat = ((2 : Int) ^ b.toNat - 1).toNat := by omega
    rw [e]
theorem putS_err {b n : Int} (h1 : 1 ≤ b) (h8 : b ≤ 8) (hn : 0 ≤ n) (hm : n ≤ 2147483647) : (putS b 0 n).1 = 0 := by
  rw [putS_ok h1 h8 hn hm]; split <;> rfl
theorem putS_mono {b n m : Int} (h1 : 1 ≤ b) (h8 : b ≤ 8) (hn : 0 ≤ n) (hnm : n ≤ m) (hm : m ≤ 2147483647) : (putS b 0 n).2.length ≤ (putS b 0 m).2.length := by
  rw [putS_ok h1 h8 hn (by omega), putS_ok h1 h8 (by omega) hm]
  by_cases k1 : n < 2 ^ b.toNat - 1 <;> by_cases k2 : m < 2 ^ b.toNat - 1
  · rw [if_pos k1, if_pos k2]; simp
  · rw [if_pos k1, if_neg k2]; simp
  · omega
  · rw [if_neg k1, if_neg k2]
    have := putL_mono (n - (2 ^ b.toNat - 1)).toNat (m - (2 ^ b.toNat - 1)).toNat (by omega)
    simpa using this
theorem putS_bits {b n : Int} (h1 : 1 ≤ b) (h8 : b ≤ 7) (hn : 0 ≤ n) (hm : n ≤ 2147483647) : (putS (b + 1) 0 n).2.length ≤ (putS b 0 n).2.length := by
  rw [putS_ok h1 (by omega) hn hm, putS_ok (by omega) (by omega) hn hm]
  have hp := pow_le h1 (show b ≤ 8 by omega)
  have e : (2 : Int) ^ (b + 1).toNat = 2 * 2 ^ b.toNat := by
    have : (b + 1).toNat = b.toNat + 1 := by omega
    rw [this, Int.pow_succ]; omega
  rw [e]
  generalize (2 : Int) ^ b.toNat = P at *
  by_cases k1 : n < P - 1
  · rw [if_pos k1, if_pos (by omega)]; simp
  · rw [if_neg k1]
    split
    · simp
    · have := putL_mono (n - (2 * P - 1)).toNat (n - (P - 1)).toNat (by omega)
      simpa using this
theorem putS_small {b n : Int} (h1 : 1 ≤ b) (h8 : b ≤ 8) (hn : 0 ≤ n) (hm : n ≤ 2147483647) : ∀ x ∈ (putS b 0 n).2, x < 256 := by
  have hp := pow_le h1 h8
  rw [putS_ok h1 h8 hn hm]
  split
  · intro x hx; simp at hx; omega
  · intro x hx
    rcases List.mem_cons.1 hx with rfl | hx
    · omega
    · exact putL_small _ x hx
theorem putS_inj {b n m : Int} (h1 : 1 ≤ b) (h8 : b ≤ 8) (hn : 0 ≤ n) (hm : n ≤ 2147483647) (hn' : 0 ≤ m) (hm' : m ≤ 2147483647) (h : (putS b 0 n).2 = (putS b 0 m).2) : n = m := by
  have hp := pow_le h1 h8
  rw [putS_ok h1 h8 hn hm, putS_ok h1 h8 hn' hm'] at h
  by_cases k1 : n < 2 ^ b.toNat - 1 <;> by_cases k2 : m < 2 ^ b.toNat - 1
  · rw [if_pos k1, if_pos k2] at h; simp at h; omega
  · rw [if_pos k1, if_neg k2] at h; simp at h; omega
  · rw [if_neg k1, if_pos k2] at h; simp at h; omega
  · rw [if_neg k1, if_neg k2] at h
    simp only [List.cons.injEq] at h
    have := putL_inj _ _ h.2
    omega
theorem strB_inj : ∀ (l r : List Nat), (∀ x ∈ l, x < 256) → (∀ x ∈ r, x < 256) → strB l = strB r → l = r
  | [], [], _, _, _ => rfl
  | [], y :: r, _, _, h => by simp [strB] at h
  | x :: l, [], _, _, h => by simp [strB] at h
  | x :: l, y :: r, hl, hr, h => by
    simp only [strB, List.map_cons, List.cons.injEq] at h
    have hx := hl x List.mem_cons_self
    have hy := hr y List.mem_cons_self
    have e : x = y := by
      have := congrArg UInt8.toNat h.1
      simp at this
      omega
    rw [e, strB_inj l r (fun z hz => hl z (List.mem_cons_of_mem _ hz)) (fun z hz => hr z (List.mem_cons_of_mem _ hz)) h.2]
end Go.Proofs.Ytbmfigafbilbmaa
