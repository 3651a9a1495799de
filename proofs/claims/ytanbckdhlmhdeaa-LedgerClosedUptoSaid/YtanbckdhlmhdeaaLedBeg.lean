/- ledger: begun, behind one block or two. -/
import Derived.Test.YtanbckdhlmhdeaaLedFront
set_option linter.unusedSimpArgs false
set_option linter.unusedVariables false
namespace Go.Proofs.Ytanbckdhlmhdeaa
open Go.Abs
set_option maxRecDepth 100000
theorem begun1 {K : AV → AH → Prop} {X : AO} (hk : ∀ h', h'.get 0 = some X → 1 ≤ h'.size → K (.bool true) h') : callW Try.prog Try.T 9 [] (AH.empty.push X) K := by
  have h : ((callA Try.prog Try.T 200 9 [] (AH.empty.push X)).map fun r => (r.1.same (.bool true), r.2.get 0, Nat.ble 1 r.2.size)) = some (true, some X, true) := by kernel_rfl
  cases hc : callA Try.prog Try.T 200 9 [] (AH.empty.push X) with
  | none => rw [hc] at h; simp at h
  | some r =>
    obtain ⟨v, h'⟩ := r
    rw [hc] at h
    simp only [Option.map_some, Option.some.injEq, Prod.mk.injEq] at h
    obtain ⟨h1, h2, h3⟩ := h
    have := AV.same_eq _ _ h1
    subst this
    exact callW_eval hc (hk h' h2 (Nat.le_of_ble_eq_true h3))
theorem begun2 {K : AV → AH → Prop} {X Y : AO} (hk : ∀ h', h'.get 0 = some X → h'.get 1 = some Y → 2 ≤ h'.size → K (.bool true) h') : callW Try.prog Try.T 9 [] ((AH.empty.push X).push Y) K := by
  have h : ((callA Try.prog Try.T 200 9 [] ((AH.empty.push X).push Y)).map fun r => (r.1.same (.bool true), r.2.get 0, r.2.get 1, Nat.ble 2 r.2.size)) = some (true, some X, some Y, true) := by kernel_rfl
  cases hc : callA Try.prog Try.T 200 9 [] ((AH.empty.push X).push Y) with
  | none => rw [hc] at h; simp at h
  | some r =>
    obtain ⟨v, h'⟩ := r
    rw [hc] at h
    simp only [Option.map_some, Option.some.injEq, Prod.mk.injEq] at h
    obtain ⟨h1, h2, h3, h4⟩ := h
    have := AV.same_eq _ _ h1
    subst this
    exact callW_eval hc (hk h' h2 h3 (Nat.le_of_ble_eq_true h4))
end Go.Proofs.Ytanbckdhlmhdeaa
