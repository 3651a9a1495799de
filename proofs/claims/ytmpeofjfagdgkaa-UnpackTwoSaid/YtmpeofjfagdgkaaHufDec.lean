/- Decoding, plainly. -/
import Derived.Test.YtmpeofjfagdgkaaHufRPut
set_option linter.unusedSimpArgs false
set_option linter.unusedVariables false
namespace Go.Proofs.Ytmpeofjfagdgkaa
open Go.Abs
set_option maxRecDepth 100000
def rtabN : List Row := (((grpN grp).take 257).foldl stepR ((5, -1), List.replicate 31 (0, []))).2
theorem rtab_eq : rtab = rtabN := by unfold rtab rtabN stR; rw [syms_eq]
/-- Words below this one, of n bits, are known. -/
def lim : Nat → Int
  | 0 => 0
  | n + 1 => 2 * lim n + (rtab[n + 1]!).2.length
def limN : Nat → Int
  | 0 => 0
  | n + 1 => 2 * limN n + (rtabN[n + 1]!).2.length
theorem lim_eq : ∀ n, lim n = limN n
  | 0 => rfl
  | n + 1 => by simp only [lim, limN, lim_eq n, rtab_eq]
theorem rows_ok : ∀ n : Nat, n < 30 → ((rtab[n + 1]!).2 = [] ∧ (rtab[n + 1]!).1 = 0 ∨ (rtab[n + 1]!).2 ≠ [] ∧ (rtab[n + 1]!).1 = 2 * lim n) ∧ (rtab[n + 1]!).2.length ≤ 257 ∧ 0 ≤ lim n ∧ lim n ≤ 1073741824 := by
  rw [rtab_eq]; simp only [lim_eq]; decide +kernel
theorem lim_30 : lim 30 = 1073741824 := by rw [lim_eq]; decide +kernel
theorem rows_syms : ∀ n : Nat, n < 31 → ∀ j : Nat, j < (rtab[n]!).2.length → 0 ≤ (rtab[n]!).2[j]! ∧ (rtab[n]!).2[j]! ≤ 256 ∧ ctab[((rtab[n]!).2[j]!).toNat]! = ((n : Int), (rtab[n]!).1 + j) := by
  rw [rtab_eq, ctab_eq]; decide +kernel
/-- What is read so far may go on. -/
def Live (n w : Nat) : Prop := n ≤ 29 ∧ lim n ≤ w ∧ w < 2 ^ n
theorem live0 : Live 0 0 := ⟨by decide, Int.le_refl _, by decide⟩
/-- The symbol that a further bit ends, if it ends one. -/
def stepS (n w : Nat) (b : Bool) : Option Int := if (rtab[n + 1]!).1 + (rtab[n + 1]!).2.length ≤ ((2 * w + b.toNat : Nat) : Int) then none else some ((rtab[n + 1]!).2[(((2 * w + b.toNat : Nat) : Int) - (rtab[n + 1]!).1).toNat]!)
theorem live_step {n w : Nat} {b : Bool} (h : Live n w) : (stepS n w b = none ∧ (rtab[n + 1]!).1 + (rtab[n + 1]!).2.length ≤ ((2 * w + b.toNat : Nat) : Int) ∧ Live (n + 1) (2 * w + b.toNat)) ∨
    (∃ j : Nat, j < (rtab[n + 1]!).2.length ∧ ¬ (rtab[n + 1]!).1 + (rtab[n + 1]!).2.length ≤ ((2 * w + b.toNat : Nat) : Int) ∧ ((2 * w + b.toNat : Nat) : Int) - (rtab[n + 1]!).1 = j ∧ stepS n w b = some ((rtab[n + 1]!).2[j]!) ∧ ((2 * w + b.toNat : Nat) : Int) = (rtab[n + 1]!).1 + j) := by
  obtain ⟨h1, h2, h3⟩ := h
  have hr := rows_ok n (by omega)
  have hb : b.toNat ≤ 1 := by cases b <;> decide
  have hpow : (2 : Nat) ^ (n + 1) = 2 ^ n * 2 := Nat.pow_succ ..
  have hl : lim (n + 1) = 2 * lim n + (rtab[n + 1]!).2.length := rfl
  unfold stepS
  by_cases hc : (rtab[n + 1]!).1 + (rtab[n + 1]!).2.length ≤ ((2 * w + b.toNat : Nat) : Int)
  · rw [if_pos hc]
    refine .inl ⟨rfl, hc, ?_, ?_, by omega⟩
    · by_cases h29 : n = 29
      · subst h29
        have := lim_30
        rw [hl] at this
        have e30 : (2 : Nat) ^ 29 = 536870912 := by decide
        rcases hr.1 with ⟨k1, k2⟩ | ⟨k1, k2⟩
        · rw [k1] at this; simp at this; omega
        · omega
      · omega
    · rw [hl]
      rcases hr.1 with ⟨k1, k2⟩ | ⟨k1, k2⟩
      · rw [k1]; simp; omega
      · omega
  · rw [if_neg hc]
    rcases hr.1 with ⟨k1, k2⟩ | ⟨k1, k2⟩
    · exfalso; apply hc; rw [k1, k2]; simp; omega
    · refine .inr ⟨(((2 * w + b.toNat : Nat) : Int) - (rtab[n + 1]!).1).toNat, by omega, hc, by omega, rfl, by omega⟩
def dec : List Bool → Nat → Nat → List UInt8 → Option (List UInt8)
  | [], n, w, out => if 8 ≤ n ∨ w + 1 ≠ 2 ^ n then none else some out
  | b :: r, n, w, out => match stepS n w b with
    | none => dec r (n + 1) (2 * w + b.toNat) out
    | some s => if s = 256 then none else dec r 0 0 (out ++ [UInt8.ofNat s.toNat])
def bits8 (c : UInt8) : List Bool := toBits 8 c.toNat
def bitsOf (l : List UInt8) : List Bool := l.flatMap bits8
def getB (l : List UInt8) : Int × List UInt8 := match dec (bitsOf l) 0 0 [] with
  | none => (4, [])
  | some o => (0, o)
theorem bits8_len (c : UInt8) : (bits8 c).length = 8 := toBits_len 8 _
theorem bits8_drop {c : UInt8} {i : Nat} (h : i < 8) : (bits8 c).drop i = (c.toNat / 2 ^ (7 - i) % 2 == 1) :: (bits8 c).drop (i + 1) := by
  rw [drop_bang (by rw [bits8_len]; exact h)]
  congr 1
  exact tb_at 8 c.toNat i h
end Go.Proofs.Ytmpeofjfagdgkaa
