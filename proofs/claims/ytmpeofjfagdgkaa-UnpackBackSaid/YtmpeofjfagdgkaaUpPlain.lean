/- unpack: what it reads out of bytes, plainly. -/
import Derived.Test.YtmpeofjfagdgkaaPkLaw
import Derived.Test.YtmpeofjfagdgkaaPfxPlain
set_option linter.unusedSimpArgs false
set_option linter.unusedVariables false
namespace Go.Proofs.Ytmpeofjfagdgkaa
open Go.Abs
set_option maxRecDepth 100000
def dNum (bits : Int) (b : List UInt8) : Int × Int × List UInt8 := if (getS bits b).2.2 = 0 then (0, (getS bits b).1, b.drop (getS bits b).2.1.toNat) else (4, 0, b)
def coded (b : List UInt8) : Bool := decide (128 ≤ (b.headD 0).toNat)
def dText (b : List UInt8) : Int × List UInt8 × List UInt8 :=
  if ¬ (dNum 7 b).1 = 0 ∨ (dNum 7 b).2.1 > (dNum 7 b).2.2.length then (4, [], (dNum 7 b).2.2)
  else if coded b = true then ((getB ((dNum 7 b).2.2.take (dNum 7 b).2.1.toNat)).1, (getB ((dNum 7 b).2.2.take (dNum 7 b).2.1.toNat)).2, (dNum 7 b).2.2.drop (dNum 7 b).2.1.toNat)
  else (0, (dNum 7 b).2.2.take (dNum 7 b).2.1.toNat, (dNum 7 b).2.2.drop (dNum 7 b).2.1.toNat)
def fd0 : Fd := ([], [], false)
def statG (n : Int) : Fd × Int := if n < 1 ∨ n > 61 then (fd0, 6) else (statL[n.toNat - 1]!, 0)
def dEnt (n : Int) (l : List Fd) : Fd × Int := if n ≤ 61 then statG n else getF (n - 61) l
/-- A block that is being read, and its decoder. -/
structure Rd where
  l : List Fd
  max : Int
  lim : Int
  owed : Bool
  b : List UInt8
  u : Int
  fl : Bool
  size : Int
  out : List Fd
  over : Bool
/-- The name of a field that is written out. -/
def dName (n : Int) (l : List Fd) (r : List UInt8) : Int × Fd × List UInt8 := if n > 0 then ((dEnt n l).2, (dEnt n l).1, r) else ((dText r).1, ((dText r).2.1, [], false), (dText r).2.2)
def dNamed (bits : Int) (s : Rd) : Int × Fd × List UInt8 :=
  if ¬ (dNum bits s.b).1 = 0 then ((dNum bits s.b).1, fd0, s.b) else if s.owed = true then (7, fd0, s.b) else
  if ¬ (dName (dNum bits s.b).2.1 s.l (dNum bits s.b).2.2).1 = 0 then ((dName (dNum bits s.b).2.1 s.l (dNum bits s.b).2.2).1, fd0, s.b) else
  ((dText (dName (dNum bits s.b).2.1 s.l (dNum bits s.b).2.2).2.2).1, ((dName (dNum bits s.b).2.1 s.l (dNum bits s.b).2.2).2.1.1, (dText (dName (dNum bits s.b).2.1 s.l (dNum bits s.b).2.2).2.2).2.1, (dName (dNum bits s.b).2.1 s.l (dNum bits s.b).2.2).2.1.2.2), (dText (dName (dNum bits s.b).2.1 s.l (dNum bits s.b).2.2).2.2).2.2)
def dKnown (s : Rd) : Int × Fd × List UInt8 :=
  if ¬ (dNum 7 s.b).1 = 0 then ((dNum 7 s.b).1, fd0, s.b) else if s.owed = true then (7, fd0, s.b) else ((dEnt (dNum 7 s.b).2.1 s.l).2, (dEnt (dNum 7 s.b).2.1 s.l).1, (dNum 7 s.b).2.2)
def dUpd (s : Rd) : Int × Rd :=
  if ¬ (dNum 5 s.b).1 = 0 then ((dNum 5 s.b).1, s) else if s.fl = true ∨ s.u + 1 > 2 ∨ (dNum 5 s.b).2.1 > s.lim then (7, s) else
  ((rsz (dNum 5 s.b).2.1 s.max s.l).1, { s with b := (dNum 5 s.b).2.2, u := s.u + 1, owed := false, l := (rsz (dNum 5 s.b).2.1 s.max s.l).2.1, max := (rsz (dNum 5 s.b).2.1 s.max s.l).2.2 })
def dTell (most : Int) (s : Rd) (f : Fd) : Rd :=
  { s with fl := true, size := W (s.size + W (szs [f])), over := s.over || decide (W (s.size + W (szs [f])) > most), out := if (s.over || decide (W (s.size + W (szs [f])) > most)) = true then s.out else s.out ++ [f] }
def dStep (most : Int) (s : Rd) (c : UInt8) : Int × Rd :=
  if 128 ≤ c.toNat then (if (dKnown s).1 = 0 then (0, dTell most { s with b := (dKnown s).2.2 } (dKnown s).2.1) else ((dKnown s).1, s))
  else if 64 ≤ c.toNat then (if (dNamed 6 s).1 = 0 then (0, dTell most { s with b := (dNamed 6 s).2.2, l := addL s.max (dNamed 6 s).2.1.1 (dNamed 6 s).2.1.2.1 s.l } (dNamed 6 s).2.1) else ((dNamed 6 s).1, s))
  else if 32 ≤ c.toNat then dUpd s
  else (if (dNamed 4 s).1 = 0 then (0, dTell most { s with b := (dNamed 4 s).2.2 } ((dNamed 4 s).2.1.1, (dNamed 4 s).2.1.2.1, decide (16 ≤ c.toNat))) else ((dNamed 4 s).1, s))
def dLoop (most : Int) : Nat → Rd → Int × Rd
  | 0, s => (0, s)
  | n + 1, s => match s.b with
    | [] => (0, s)
    | c :: _ => if (dStep most s c).1 = 0 then dLoop most n (dStep most s c).2 else dStep most s c
def dBlk (most : Int) (s : Rd) : Int × Rd := if (dLoop most s.b.length s).1 = 0 ∧ (dLoop most s.b.length s).2.owed = true then (7, (dLoop most s.b.length s).2) else dLoop most s.b.length s
/- lengths -/
theorem getL_len : ∀ (l : List UInt8) (i : Nat) (n : Int), 0 ≤ n → (getL i n l).2.2 = 0 → 0 ≤ (getL i n l).1 ∧ (getL i n l).1 ≤ 2147483647 ∧ (i : Int) + 2 ≤ (getL i n l).2.1 ∧ (getL i n l).2.1 ≤ i + 1 + l.length
  | [], i, n, hn, h => by simp [getL] at h
  | c :: r, i, n, hn, h => by
    unfold getL at h ⊢
    have hp : (0 : Int) ≤ 128 ^ i := Int.le_of_lt (Int.pow_pos (by decide))
    have hq : (0 : Int) ≤ (c.toNat : Int) % 128 * 128 ^ i := Int.mul_nonneg (by omega) hp
    split at h
    · simp at h
    · rename_i h1
      rw [if_neg h1]
      split at h
      · rename_i h2
        rw [if_pos h2]
        have := getL_len r (i + 1) _ (by omega) h
        simp only [List.length_cons]; omega
      · rename_i h2
        rw [if_neg h2]
        simp only [List.length_cons]; omega
theorem getS_len (b : Int) (l : List UInt8) (h : (getS b l).2.2 = 0) : 0 ≤ (getS b l).1 ∧ (getS b l).1 ≤ 2147483647 ∧ 1 ≤ (getS b l).2.1 ∧ (getS b l).2.1 ≤ l.length := by
  unfold getS at h ⊢
  split at h
  · simp at h
  · rename_i h1
    rw [if_neg h1]
    have hp : (0 : Int) < 2 ^ b.toNat := Int.pow_pos (by decide)
    cases l with
    | nil => simp at h
    | cons x r =>
      simp only at h ⊢
      have hm : 0 ≤ (x.toNat : Int) % 2 ^ b.toNat := Int.emod_nonneg _ (by omega)
      have hm2 : (x.toNat : Int) % 2 ^ b.toNat ≤ 255 := by
        have h2 : x.toNat % 2 ^ b.toNat ≤ x.toNat := Nat.mod_le _ _
        have e : ((x.toNat % 2 ^ b.toNat : Nat) : Int) = (x.toNat : Int) % 2 ^ b.toNat := by push_cast; rfl
        have := x.toNat_lt
        omega
      split at h
      · rename_i h2
        rw [if_pos h2]
        simp only [List.length_cons]; omega
      · rename_i h2
        rw [if_neg h2]
        have := getL_len r 0 _ hm h
        simp only [List.length_cons]; omega
theorem dNum_len (bits : Int) (b : List UInt8) : 0 ≤ (dNum bits b).2.1 ∧ (dNum bits b).2.1 ≤ 2147483647 ∧ (dNum bits b).2.2.length ≤ b.length ∧ ((dNum bits b).1 = 0 → (dNum bits b).2.2.length < b.length) ∧ ((dNum bits b).1 = 0 ∨ (dNum bits b).1 = 4) := by
  unfold dNum
  split
  · rename_i h
    have := getS_len bits b h
    simp only [List.length_drop]
    refine ⟨by omega, by omega, by omega, by omega, by simp⟩
  · simp
theorem dText_len (b : List UInt8) : (dText b).2.2.length ≤ b.length := by
  have := (dNum_len 7 b).2.2.1
  unfold dText
  split
  · exact this
  · split <;> simp only [List.length_drop] <;> omega
theorem dName_len (n : Int) (l : List Fd) (r : List UInt8) : (dName n l r).2.2.length ≤ r.length := by
  unfold dName
  split
  · exact Nat.le_refl _
  · exact dText_len r
theorem dNamed_len (bits : Int) (s : Rd) (h : (dNamed bits s).1 = 0) : (dNamed bits s).2.2.length < s.b.length := by
  unfold dNamed at h ⊢
  have hn := dNum_len bits s.b
  split at h
  · rename_i h1; exact absurd h h1
  · rename_i h1
    rw [if_neg h1]
    split at h
    · simp at h
    · rename_i h2
      rw [if_neg h2]
      split at h
      · rename_i h3; exact absurd h h3
      · rename_i h3
        rw [if_neg h3]
        have h4 := dName_len (dNum bits s.b).2.1 s.l (dNum bits s.b).2.2
        have h5 := dText_len (dName (dNum bits s.b).2.1 s.l (dNum bits s.b).2.2).2.2
        have h6 := hn.2.2.2.1 (Classical.not_not.1 h1)
        simp only; omega
theorem dKnown_len (s : Rd) (h : (dKnown s).1 = 0) : (dKnown s).2.2.length < s.b.length := by
  unfold dKnown at h ⊢
  have hn := dNum_len 7 s.b
  split at h
  · rename_i h1; exact absurd h h1
  · rename_i h1
    rw [if_neg h1]
    split at h
    · simp at h
    · rename_i h2
      rw [if_neg h2]
      exact hn.2.2.2.1 (Classical.not_not.1 h1)
theorem rsz_len (n M : Int) (l : List Fd) : (rsz n M l).2.1.length ≤ l.length := by
  unfold rsz; split
  · exact Nat.le_refl _
  · exact shr_len _ _
theorem dStep_len (most : Int) (s : Rd) (c : UInt8) (h : (dStep most s c).1 = 0) : (dStep most s c).2.b.length < s.b.length ∧ (dStep most s c).2.l.length ≤ s.l.length + 1 := by
  unfold dStep at h ⊢
  split
  · rename_i h1
    rw [if_pos h1] at h
    split
    · rename_i h2; exact ⟨dKnown_len s h2, Nat.le_succ _⟩
    · rename_i h2; rw [if_neg h2] at h; exact absurd h h2
  · rename_i h1
    rw [if_neg h1] at h
    split
    · rename_i h3
      rw [if_pos h3] at h
      split
      · rename_i h2; exact ⟨dNamed_len 6 s h2, addL_len⟩
      · rename_i h2; rw [if_neg h2] at h; exact absurd h h2
    · rename_i h3
      rw [if_neg h3] at h
      split
      · rename_i h4
        rw [if_pos h4] at h
        unfold dUpd at h ⊢
        have hn := dNum_len 5 s.b
        split
        · rename_i h5; rw [if_pos h5] at h; exact absurd h h5
        · rename_i h5
          rw [if_neg h5] at h
          split
          · rename_i h6; rw [if_pos h6] at h; simp at h
          · exact ⟨hn.2.2.2.1 (Classical.not_not.1 h5), Nat.le_succ_of_le (rsz_len _ _ _)⟩
      · rename_i h4
        rw [if_neg h4] at h
        split
        · rename_i h2; exact ⟨dNamed_len 4 s h2, Nat.le_succ _⟩
        · rename_i h2; rw [if_neg h2] at h; exact absurd h h2
end Go.Proofs.Ytmpeofjfagdgkaa
