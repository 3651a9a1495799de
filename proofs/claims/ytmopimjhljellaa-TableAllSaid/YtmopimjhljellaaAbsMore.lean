/- Arguments that are structs. -/
import Derived.Test.YtmopimjhljellaaAbsDel
import Derived.Test.YtmopimjhljellaaAbsRead
set_option linter.unusedSimpArgs false
set_option linter.unusedVariables false
namespace Go.Abs
section more
variable {T : Tys}
/-- A field of one cell. -/
theorem dat_f1 {n t ft off : Nat} {b : Bool} {cs : List AV} {fs : List (Nat × Nat × Bool)} (ht : (T t).desc = .struct fs) (hd : Dat T (n + 1) t cs) (hm : (ft, off, b) ∈ fs) (hz : (T ft).size = 1) (ho : off < (T t).size) : ∃ v, cs[off]? = some v ∧ Dat T n ft [v] := by
  simp only [Dat, ht] at hd
  obtain ⟨hl, hf⟩ := hd
  have h1 := hf _ hm
  have hlt : off < cs.length := by omega
  refine ⟨cs[off], List.getElem?_eq_getElem hlt, ?_⟩
  have : (cs.drop off).take 1 = [cs[off]] := by rw [List.drop_eq_getElem_cons hlt]; rfl
  rw [← this, ← hz]; exact h1
theorem dat_len {n t : Nat} {cs : List AV} {fs : List (Nat × Nat × Bool)} (ht : (T t).desc = .struct fs) (hd : Dat T (n + 1) t cs) : cs.length = (T t).size := by
  simp only [Dat, ht] at hd
  exact hd.1
/-- A field of several cells. -/
theorem dat_fn {n t ft off : Nat} {b : Bool} {cs : List AV} {fs : List (Nat × Nat × Bool)} (ht : (T t).desc = .struct fs) (hd : Dat T (n + 1) t cs) (hm : (ft, off, b) ∈ fs) : Dat T n ft ((cs.drop off).take (T ft).size) := by
  simp only [Dat, ht] at hd
  exact hd.2 _ hm
theorem list_3 {α : Type} {l : List α} {a b c : α} (hl : l.length = 3) (h0 : l[0]? = some a) (h1 : l[1]? = some b) (h2 : l[2]? = some c) : l = [a, b, c] := by
  match l, hl with
  | [x, y, z], _ => simp at h0 h1 h2; simp [h0, h1, h2]
theorem list_4 {α : Type} {l : List α} {a b c d : α} (hl : l.length = 4) (h0 : l[0]? = some a) (h1 : l[1]? = some b) (h2 : l[2]? = some c) (h3 : l[3]? = some d) : l = [a, b, c, d] := by
  match l, hl with
  | [x, y, z, u], _ => simp at h0 h1 h2 h3; simp [h0, h1, h2, h3]
end more
end Go.Abs
