/- table: fields, their sizes; field.Size, slices.Delete, room, and the reference's Size, shrink. -/
import Derived.Test.YtmpeofjfagdgkaaAbsB
import Derived.Test.YtmpeofjfagdgkaaAbsFpu
import Derived.Test.YtmpeofjfagdgkaaProg
set_option linter.unusedSimpArgs false
set_option linter.unusedVariables false
namespace Go.Proofs.Ytmpeofjfagdgkaa
open Go.Abs
set_option maxRecDepth 100000
abbrev Fd := List UInt8 × List UInt8 × Bool
def EF : Enc Fd := ⟨3, fun x => [.str x.1, .str x.2.1, .bool x.2.2], by decide, fun _ => rfl, fun _ => rfl⟩
theorem EFf {a b : List UInt8} {c : Bool} : EF.f (a, b, c) = [.str a, .str b, .bool c] := rfl
abbrev W (x : Int) : Int := IntKind.i64.wrap x
/-- A field's size, unwrapped. -/
def sz1 (x : Fd) : Int := x.1.length + x.2.1.length + 32
def szs : List Fd → Int
  | [] => 0
  | x :: r => sz1 x + szs r
theorem szs_app (l r : List Fd) : szs (l ++ r) = szs l + szs r := by
  induction l with
  | nil => simp [szs]
  | cons x l ih => simp only [List.cons_append, szs, ih]; omega
theorem W_def (x : Int) : W x = if x % 18446744073709551616 ≥ 9223372036854775808 then x % 18446744073709551616 - 18446744073709551616 else x % 18446744073709551616 := by
  simp [W, IntKind.wrap, IntKind.signed, IntKind.bits]
theorem W_eq {x y : Int} (h : (x - y) % 18446744073709551616 = 0) : W x = W y := by
  rw [W_def, W_def]
  have : x % 18446744073709551616 = y % 18446744073709551616 := by omega
  rw [this]
theorem W_mod (x : Int) : (W x - x) % 18446744073709551616 = 0 := by
  rw [W_def]; split <;> omega
theorem W_addl (x y : Int) : W (W x + y) = W (x + y) := W_eq (by have := W_mod x; omega)
theorem W_addr (x y : Int) : W (x + W y) = W (x + y) := W_eq (by have := W_mod y; omega)
theorem W_subl (x y : Int) : W (W x - y) = W (x - y) := W_eq (by have := W_mod x; omega)
theorem W_subr (x y : Int) : W (x - W y) = W (x - y) := W_eq (by have := W_mod y; omega)
theorem W_in {x : Int} (h1 : -9223372036854775808 ≤ x) (h2 : x ≤ 9223372036854775807) : W x = x := by rw [W_def]; split <;> omega
/-- The eldest go until the size is at most lim. -/
def shr (lim : Int) : List Fd → List Fd
  | [] => []
  | x :: r => if W (szs (x :: r)) > lim then shr lim r else x :: r
end Go.Proofs.Ytmpeofjfagdgkaa
