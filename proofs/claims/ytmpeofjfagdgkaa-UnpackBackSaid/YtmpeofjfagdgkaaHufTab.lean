/- The code's tables, plainly: the groups, the symbols as their codes rise, each symbol's code. -/
import Derived.Test.YtmpeofjfagdgkaaAbsB
set_option linter.unusedSimpArgs false
set_option linter.unusedVariables false
namespace Go.Abs
def grp : List (Int × List Int) :=
  [(5, [48, 50, 97, 97, 99, 99, 101, 101, 105, 105, 111, 111, 115, 116]),
  (6, [32, 32, 37, 37, 45, 47, 51, 57, 61, 61, 65, 65, 95, 95, 98, 98, 100, 100, 102, 104, 108, 110, 112, 112, 114, 114, 117, 117]),
  (7, [58, 58, 66, 87, 89, 89, 106, 107, 113, 113, 118, 122]),
  (8, [38, 38, 42, 42, 44, 44, 59, 59, 88, 88, 90, 90]),
  (10, [33, 34, 40, 41, 63, 63]),
  (11, [39, 39, 43, 43, 124, 124]),
  (12, [35, 35, 62, 62]),
  (13, [0, 0, 36, 36, 64, 64, 91, 91, 93, 93, 126, 126]),
  (14, [94, 94, 125, 125]),
  (15, [60, 60, 96, 96, 123, 123]),
  (19, [92, 92, 195, 195, 208, 208]),
  (20, [128, 128, 130, 131, 162, 162, 184, 184, 194, 194, 224, 224, 226, 226]),
  (21, [153, 153, 161, 161, 167, 167, 172, 172, 176, 177, 179, 179, 209, 209, 216, 217, 227, 227, 229, 230]),
  (22, [129, 129, 132, 134, 136, 136, 146, 146, 154, 154, 156, 156, 160, 160, 163, 164, 169, 170, 173, 173, 178, 178, 181, 181, 185, 187, 189, 190, 196, 196, 198, 198, 228, 228, 232, 233]),
  (23, [1, 1, 135, 135, 137, 141, 143, 143, 147, 147, 149, 152, 155, 155, 157, 158, 165, 166, 168, 168, 174, 175, 180, 180, 182, 183, 188, 188, 191, 191, 197, 197, 231, 231, 239, 239]),
  (24, [9, 9, 142, 142, 144, 145, 148, 148, 159, 159, 171, 171, 206, 206, 215, 215, 225, 225, 236, 237]),
  (25, [199, 199, 207, 207, 234, 235]),
  (26, [192, 193, 200, 202, 205, 205, 210, 210, 213, 213, 218, 219, 238, 238, 240, 240, 242, 243, 255, 255]),
  (27, [203, 204, 211, 212, 214, 214, 221, 223, 241, 241, 244, 248, 250, 254]),
  (28, [2, 8, 11, 12, 14, 21, 23, 31, 127, 127, 220, 220, 249, 249]),
  (30, [10, 10, 13, 13, 22, 22, 256, 256])]
/-- The symbols of a run, each with its length. -/
def ups (lo hi bits : Int) : List (Int × Int) := if lo ≤ hi then (lo, bits) :: ups (lo + 1) hi bits else []
termination_by (hi + 1 - lo).toNat
decreasing_by omega
def runsSeq (bits : Int) : List Int → List (Int × Int)
  | a :: b :: r => ups a b bits ++ runsSeq bits r
  | _ => []
def grpSeq : List (Int × List Int) → List (Int × Int)
  | [] => []
  | g :: r => runsSeq g.1 g.2 ++ grpSeq r
/-- All symbols, as their codes rise, with their lengths. -/
def syms : List (Int × Int) := grpSeq grp
/-- The same, for the kernel. -/
def upsN : Nat → Int → Int → List (Int × Int)
  | 0, _, _ => []
  | n + 1, lo, bits => (lo, bits) :: upsN n (lo + 1) bits
theorem ups_eq : ∀ (n : Nat) (lo hi bits : Int), (hi + 1 - lo).toNat = n → ups lo hi bits = upsN n lo bits
  | 0, lo, hi, bits, h => by rw [ups, if_neg (by omega)]; rfl
  | n + 1, lo, hi, bits, h => by rw [ups, if_pos (by omega), ups_eq n (lo + 1) hi bits (by omega)]; rfl
def runsN (bits : Int) : List Int → List (Int × Int)
  | a :: b :: r => upsN (b + 1 - a).toNat a bits ++ runsN bits r
  | _ => []
theorem runs_eq (bits : Int) : ∀ l, runsSeq bits l = runsN bits l
  | [] => rfl
  | [_] => rfl
  | a :: b :: r => by rw [runsSeq, runsN, ups_eq _ a b bits rfl, runs_eq bits r]
def grpN : List (Int × List Int) → List (Int × Int)
  | [] => []
  | g :: r => runsN g.1 g.2 ++ grpN r
theorem grp_eq : ∀ l, grpSeq l = grpN l
  | [] => rfl
  | g :: r => by rw [grpSeq, grpN, runs_eq, grp_eq r]
theorem syms_eq : syms = grpN grp := grp_eq grp
theorem pow_mono2 {a b : Nat} (h : a ≤ b) : (2 : Int) ^ a ≤ 2 ^ b := by
  have := Nat.pow_le_pow_right (n := 2) (by decide) h
  exact_mod_cast this
theorem syms_len : syms.length = 257 := by rw [syms_eq]; decide +kernel
end Go.Abs
