/- shelf: what the laws share. -/
import Derived.Test.YtedhjjjheafjeaaShSame
set_option linter.unusedSimpArgs false
set_option linter.unusedVariables false
namespace Go.Proofs.Ytedhjjjheafjeaa
open Go.Abs
set_option maxRecDepth 100000
/-- begun, where nothing is yet. -/
theorem begunE {K : AV → AH → Prop} (hk : ∀ h', K (.bool true) h') : callW Try.prog Try.T 8 [] AH.empty K := by
  have h : ((callA Try.prog Try.T 200 8 [] AH.empty).map fun r => r.1.same (.bool true)) = some true := by kernel_rfl
  cases hc : callA Try.prog Try.T 200 8 [] AH.empty with
  | none => rw [hc] at h; simp at h
  | some r =>
    obtain ⟨v, h'⟩ := r
    rw [hc] at h
    simp only [Option.map_some, Option.some.injEq] at h
    have := AV.same_eq _ _ h
    subst this
    exact callW_eval hc (hk h')
theorem dat_op {n : Nat} {c : List AV} (hd : Dat Try.T (n + 2) 32 c) : ∃ x, c = EO.f x ∧ True := by
  obtain ⟨v0, g0, d0⟩ := dat_f1 (b := true) (ft := 3) (off := 0) Try.Td32 hd (by simp) rfl (by decide)
  obtain ⟨v1, g1, d1⟩ := dat_f1 (b := true) (ft := 3) (off := 1) Try.Td32 hd (by simp) rfl (by decide)
  obtain ⟨v2, g2, d2⟩ := dat_f1 (b := true) (ft := 3) (off := 2) Try.Td32 hd (by simp) rfl (by decide)
  obtain ⟨k, rfl, _⟩ := dat_int rfl d0
  obtain ⟨x, rfl, _⟩ := dat_int rfl d1
  obtain ⟨m, rfl, _⟩ := dat_int rfl d2
  exact ⟨(k, x, m), list_3 (dat_len Try.Td32 hd) g0 g1 g2, trivial⟩
def sh0 : Sh Int := { l := [], t := [], top := 0 }
theorem ok0 : ShOk sh0 0 := ⟨by simp [Sorted, sh0], by simp [sh0], by simp [sh0], by simp [sh0], by simp [sh0], by simp [sh0]⟩
theorem newR (h0 : AH) : ShR (fun x => if x = h0.size then 1 else 0) (h0.push (.cells [.slice none 0 0 0 true, .slice none 0 0 0 true, .slice none 0 0 0 true, .slice none 0 0 0 true, .int .i64 0])) h0.size (rOf sh0) :=
  ⟨_, _, _, _, none, none, none, none, ⟨by rw [AH.get_push, if_pos rfl]; rfl, by simp, by simp, .nil _ _, .nil _ _, .nil _ _, .nil _ _, by simp, by simp, by simp, by simp⟩⟩
end Go.Proofs.Ytedhjjjheafjeaa
