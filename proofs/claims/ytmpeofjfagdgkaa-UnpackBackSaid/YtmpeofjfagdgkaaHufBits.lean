/- Bits and bytes, plainly; what Put gives. -/
import Derived.Test.YtmpeofjfagdgkaaHufRef
set_option linter.unusedSimpArgs false
set_option linter.unusedVariables false
namespace Go.Proofs.Ytmpeofjfagdgkaa
open Go.Abs
set_option maxRecDepth 100000
/-- The value of bits, the greatest first. -/
def val : List Bool → Nat
  | [] => 0
  | b :: r => b.toNat * 2 ^ r.length + val r
theorem val_lt : ∀ l : List Bool, val l < 2 ^ l.length
  | [] => by decide
  | b :: r => by
    have := val_lt r
    have hb : b.toNat ≤ 1 := by cases b <;> decide
    have : b.toNat * 2 ^ r.length ≤ 1 * 2 ^ r.length := Nat.mul_le_mul_right _ hb
    simp only [val, List.length_cons, Nat.pow_succ]
    omega
theorem val_append : ∀ a b : List Bool, val (a ++ b) = val a * 2 ^ b.length + val b
  | [], b => by simp [val]
  | x :: a, b => by
    simp only [List.cons_append, val, val_append a b, List.length_append, Nat.pow_add, Nat.add_mul]
    rw [Nat.mul_assoc]; omega
/-- n bits of a number, the greatest first. -/
def toBits : Nat → Nat → List Bool
  | 0, _ => []
  | n + 1, w => toBits n (w / 2) ++ [w % 2 == 1]
theorem toBits_len : ∀ n w, (toBits n w).length = n
  | 0, _ => rfl
  | n + 1, w => by simp [toBits, toBits_len n]
theorem val_toBits : ∀ n w, w < 2 ^ n → val (toBits n w) = w
  | 0, w, h => by simp at h; subst h; rfl
  | n + 1, w, h => by
    rw [toBits, val_append, val_toBits n (w / 2) (by rw [Nat.pow_succ] at h; omega)]
    by_cases h1 : w % 2 = 1
    · simp [val, h1]; omega
    · have h0 : w % 2 = 0 := by omega
      simp [val, h0]; omega
theorem toBits_val : ∀ l : List Bool, toBits l.length (val l) = l := by
  intro l
  induction h : l.length generalizing l with
  | zero => have := List.eq_nil_of_length_eq_zero h; subst this; rfl
  | succ n ih =>
    obtain ⟨a, b, rfl⟩ : ∃ a b, l = a ++ [b] := ⟨l.dropLast, l.getLast (by intro e; subst e; simp at h), (List.dropLast_concat_getLast _).symm⟩
    have ha : a.length = n := by simp at h; exact h
    rw [toBits, val_append]
    have e1 : (val a * 2 ^ [b].length + val [b]) / 2 = val a := by cases b <;> simp [val] <;> omega
    have e2 : ((val a * 2 ^ [b].length + val [b]) % 2 == 1) = b := by cases b <;> simp [val] <;> omega
    rw [e1, e2, ih a ha]
/-- The bits of a symbol's code. -/
def codeBits (c : Nat) : List Bool := toBits (ctab[c]!).1.toNat (ctab[c]!).2.toNat
def allBits (s : List UInt8) : List Bool := s.flatMap fun c => codeBits c.toNat
theorem codeBits_len {c : Nat} (h : c < 257) : ((codeBits c).length : Int) = (ctab[c]!).1 := by
  have := ctab_ok c h
  unfold codeBits
  rw [toBits_len]; omega
theorem codeBits_val {c : Nat} (h : c < 257) : (val (codeBits c) : Int) = (ctab[c]!).2 := by
  have := ctab_ok c h
  unfold codeBits
  rw [val_toBits]
  · omega
  · have e : (((2 ^ (ctab[c]!).1.toNat : Nat)) : Int) = 2 ^ (ctab[c]!).1.toNat := by push_cast; rfl
    omega
theorem allBits_len (s : List UInt8) : ((allBits s).length : Int) = bitsLen s := by
  induction s with
  | nil => rfl
  | cons c r ih =>
    have := codeBits_len (c := c.toNat) (by have := c.toNat_lt; omega)
    simp only [allBits, List.flatMap_cons, List.length_append, bitsLen, List.map_cons, List.sum_cons] at ih ⊢
    omega
theorem allBits_take {s : List UInt8} {k : Nat} (h : k < s.length) : allBits (s.take (k + 1)) = allBits (s.take k) ++ codeBits (s[k]!).toNat := by
  unfold allBits
  rw [List.take_add_one, List.getElem?_eq_getElem h, getElem!_pos s k h, List.flatMap_append]
  simp
/-- Whole bytes of bits. -/
def pack (l : List Bool) : List UInt8 := if 8 ≤ l.length then UInt8.ofNat (val (l.take 8)) :: pack (l.drop 8) else []
termination_by l.length
decreasing_by simp; omega
theorem pack_len : ∀ l : List Bool, (pack l).length = l.length / 8 := by
  intro l
  induction h : l.length using Nat.strongRecOn generalizing l with
  | _ n ih =>
    rw [pack]
    by_cases h8 : 8 ≤ l.length
    · rw [if_pos h8]
      have := ih (l.drop 8).length (by rw [List.length_drop]; omega) (l.drop 8) rfl
      simp only [List.length_cons, this, List.length_drop]; omega
    · rw [if_neg h8]; simp; omega
theorem pack_short {l : List Bool} (h : l.length < 8) : pack l = [] := by rw [pack, if_neg (by omega)]
/-- Packing the front, then on. -/
theorem pack_append : ∀ (a b : List Bool), a.length % 8 = 0 → pack (a ++ b) = pack a ++ pack b := by
  intro a b
  induction h : a.length using Nat.strongRecOn generalizing a with
  | _ n ih =>
    intro ha
    by_cases h8 : 8 ≤ a.length
    · rw [pack, if_pos (by simp; omega), pack.eq_1 a, if_pos h8, List.take_append_of_le_length h8, List.drop_append_of_le_length h8]
      rw [ih (a.drop 8).length (by rw [List.length_drop]; omega) (a.drop 8) rfl (by rw [List.length_drop]; omega)]
      rfl
    · have : a = [] := List.eq_nil_of_length_eq_zero (by omega)
      subst this
      rw [pack_short (l := []) (by simp)]; rfl
/-- Ones up to whole bytes. -/
def ones (n : Nat) : List Bool := List.replicate n true
def padded (l : List Bool) : List Bool := l ++ ones ((8 - l.length % 8) % 8)
def putB (s : List UInt8) : List UInt8 := pack (padded (allBits s))
theorem putB_nil : putB [] = [] := by
  have : padded (allBits []) = [] := rfl
  unfold putB
  rw [this, pack_short (by decide)]
theorem val_ones : ∀ n, val (ones n) + 1 = 2 ^ n
  | 0 => rfl
  | n + 1 => by
    have := val_ones n
    simp only [ones, List.replicate_succ, val, List.length_replicate, Bool.toNat_true, Nat.pow_succ] at this ⊢
    omega
end Go.Proofs.Ytmpeofjfagdgkaa
