/- There and back, plainly. -/
import Derived.Test.YtmpeofjfagdgkaaHufRGet2
set_option linter.unusedSimpArgs false
set_option linter.unusedVariables false
namespace Go.Proofs.Ytmpeofjfagdgkaa
open Go.Abs
set_option maxRecDepth 100000
theorem bits_pack : ∀ (L : List Bool), L.length % 8 = 0 → bitsOf (pack L) = L := by
  intro L
  induction h : L.length using Nat.strongRecOn generalizing L with
  | _ n ih =>
    intro h8
    by_cases hc : 8 ≤ L.length
    · rw [pack, if_pos hc]
      have e : bitsOf (UInt8.ofNat (val (L.take 8)) :: pack (L.drop 8)) = bits8 (UInt8.ofNat (val (L.take 8))) ++ bitsOf (pack (L.drop 8)) := rfl
      have ht : (L.take 8).length = 8 := by rw [List.length_take]; omega
      have hv := val_lt (L.take 8)
      rw [ht] at hv
      have hb : bits8 (UInt8.ofNat (val (L.take 8))) = L.take 8 := by
        unfold bits8
        have e8 : (2 : Nat) ^ 8 = 256 := by decide
        rw [ofNat_toNat (by omega)]
        have := toBits_val (L.take 8)
        rwa [ht] at this
      rw [e, hb, ih (L.drop 8).length (by rw [List.length_drop]; omega) (L.drop 8) rfl (by rw [List.length_drop]; omega), List.take_append_drop]
    · have : L = [] := List.eq_nil_of_length_eq_zero (by omega)
      subst this
      rw [pack_short (by decide)]; rfl
/-- Bits that end just one symbol. -/
def walk : List Bool → Nat → Nat → Option Int
  | [], _, _ => none
  | b :: r, n, w => match stepS n w b with
    | none => walk r (n + 1) (2 * w + b.toNat)
    | some s => if r = [] then some s else none
theorem dec_walk : ∀ (l : List Bool) (n w : Nat) (s : Int) (rest : List Bool) (out : List UInt8), walk l n w = some s → s ≠ 256 → dec (l ++ rest) n w out = dec rest 0 0 (out ++ [UInt8.ofNat s.toNat])
  | [], n, w, s, rest, out, h, _ => by simp [walk] at h
  | b :: r, n, w, s, rest, out, h, hs => by
    simp only [walk] at h
    simp only [List.cons_append, dec]
    split at h
    · rename_i h1
      rw [h1]
      exact dec_walk r _ _ s rest out h hs
    · rename_i s' h1
      rw [h1]
      split at h
      · rename_i hr
        subst hr
        simp at h; subst h
        simp only [if_neg hs, List.nil_append]
      · simp at h
/-- Bits that end none. -/
def idle : List Bool → Nat → Nat → Bool
  | [], _, _ => true
  | b :: r, n, w => match stepS n w b with
    | none => idle r (n + 1) (2 * w + b.toNat)
    | some _ => false
theorem dec_idle : ∀ (l : List Bool) (n w : Nat) (rest : List Bool) (out : List UInt8), idle l n w = true → dec (l ++ rest) n w out = dec rest (n + l.length) (w * 2 ^ l.length + val l) out
  | [], n, w, rest, out, _ => by simp [val]
  | b :: r, n, w, rest, out, h => by
    simp only [idle] at h
    simp only [List.cons_append, dec]
    split at h
    · rename_i h1
      rw [h1]
      simp only
      rw [dec_idle r _ _ rest out h]
      simp only [List.length_cons, val, Nat.pow_succ]
      congr 1
      · omega
      · rw [Nat.add_mul, Nat.mul_assoc, ← Nat.mul_assoc w (2 ^ r.length) 2]; omega
    · simp at h
def stepN (n w : Nat) (b : Bool) : Option Int := if (rtabN[n + 1]!).1 + (rtabN[n + 1]!).2.length ≤ ((2 * w + b.toNat : Nat) : Int) then none else some ((rtabN[n + 1]!).2[(((2 * w + b.toNat : Nat) : Int) - (rtabN[n + 1]!).1).toNat]!)
def walkN : List Bool → Nat → Nat → Option Int
  | [], _, _ => none
  | b :: r, n, w => match stepN n w b with
    | none => walkN r (n + 1) (2 * w + b.toNat)
    | some s => if r = [] then some s else none
theorem walk_eq : ∀ (l : List Bool) (n w : Nat), walk l n w = walkN l n w
  | [], _, _ => rfl
  | b :: r, n, w => by
    have e : stepS n w b = stepN n w b := by unfold stepS stepN; rw [rtab_eq]
    simp only [walk, walkN, e, walk_eq r]
def idleN : List Bool → Nat → Nat → Bool
  | [], _, _ => true
  | b :: r, n, w => match stepN n w b with
    | none => idleN r (n + 1) (2 * w + b.toNat)
    | some _ => false
theorem idle_eq : ∀ (l : List Bool) (n w : Nat), idle l n w = idleN l n w
  | [], _, _ => rfl
  | b :: r, n, w => by
    have e : stepS n w b = stepN n w b := by unfold stepS stepN; rw [rtab_eq]
    simp only [idle, idleN, e, idle_eq r]
theorem codes_walk : ∀ c : Nat, c < 257 → walk (codeBits c) 0 0 = some (c : Int) := by
  have e : ∀ c, codeBits c = toBits (ctabN[c]!).1.toNat (ctabN[c]!).2.toNat := by intro c; unfold codeBits; rw [ctab_eq]
  simp only [e, walk_eq]
  decide +kernel
theorem ones_idle : ∀ k : Nat, k < 16 → idle (ones k) 0 0 = true := by
  simp only [idle_eq]
  decide +kernel
theorem dec_all : ∀ (s : List UInt8) (rest : List Bool) (out : List UInt8), dec (allBits s ++ rest) 0 0 out = dec rest 0 0 (out ++ s)
  | [], rest, out => by simp [allBits]
  | c :: r, rest, out => by
    have hc := c.toNat_lt
    have e : allBits (c :: r) = codeBits c.toNat ++ allBits r := rfl
    rw [e, List.append_assoc, dec_walk _ 0 0 c.toNat _ _ (codes_walk c.toNat (by omega)) (by omega), dec_all r]
    simp
theorem dec_ones (k : Nat) (h : k < 16) (out : List UInt8) : dec (ones k) 0 0 out = if k < 8 then some out else none := by
  have := dec_idle (ones k) 0 0 [] out (ones_idle k h)
  rw [List.append_nil] at this
  rw [this]
  have hl : (ones k).length = k := by simp [ones]
  have hv := val_ones k
  have e : dec [] (0 + (ones k).length) (0 * 2 ^ (ones k).length + val (ones k)) out = if 8 ≤ (0 + (ones k).length) ∨ (0 * 2 ^ (ones k).length + val (ones k)) + 1 ≠ 2 ^ (0 + (ones k).length) then none else some out := rfl
  rw [e, hl]
  by_cases h8 : k < 8
  · rw [if_pos h8, if_neg]
    intro hh
    rcases hh with hh | hh
    · omega
    · apply hh; rw [Nat.zero_mul, Nat.zero_add, Nat.zero_add]; exact hv
  · rw [if_neg h8, if_pos (.inl (by omega))]
theorem padded_len (L : List Bool) : (padded L).length % 8 = 0 := by
  unfold padded
  rw [List.length_append, show (ones ((8 - L.length % 8) % 8)).length = (8 - L.length % 8) % 8 by simp [ones]]
  omega
theorem get_put (s : List UInt8) : getB (putB s) = (0, s) := by
  unfold getB putB
  rw [bits_pack _ (padded_len _)]
  unfold padded
  rw [dec_all, dec_ones _ (by omega), if_pos (by omega)]; rfl
theorem put_len (s : List UInt8) : ((putB s).length : Int) = (bitsLen s + 7) / 8 := by
  have h := allBits_len s
  unfold putB
  rw [pack_len]
  unfold padded
  rw [List.length_append, show (ones ((8 - (allBits s).length % 8) % 8)).length = (8 - (allBits s).length % 8) % 8 by simp [ones], ← h]
  omega
end Go.Proofs.Ytmpeofjfagdgkaa
