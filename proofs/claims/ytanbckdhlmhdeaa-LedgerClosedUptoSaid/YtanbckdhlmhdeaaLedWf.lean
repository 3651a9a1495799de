/- ledger: what always holds of requests. Plain; no program. -/
import Derived.Test.YtanbckdhlmhdeaaLedNote3
set_option linter.unusedSimpArgs false
set_option linter.unusedVariables false
namespace Go.Proofs.Ytanbckdhlmhdeaa
open Go.Abs
def WfRk (r : Rq) (k : Nat) : Prop := r.ask.has = true ∧ r.ask.pos ≤ r.ask.bytes.length ∧ r.ans.pos ≤ r.ans.bytes.length ∧ r.ask.bytes.length ≤ 1048576 * k ∧ r.ans.bytes.length ≤ 1048576 * k ∧ r.ask.fs.length ≤ 1048576 ∧ r.ans.fs.length ≤ 1048576 ∧
  (r.ans.has = false → r.ans.told = false ∧ r.ans.pos = 0 ∧ r.ans.bytes = [] ∧ r.ans.over = false ∧ r.ans.ended = false) ∧ (r.ans.over = true → r.ans.told = true) ∧ 1 ≤ r.id
def Wk (s : Sg) (k : Nat) : Prop := (∀ r ∈ s.l, WfRk r k) ∧ s.l.length ≤ k
theorem WfRk.up {r : Rq} {k : Nat} (h : WfRk r k) : WfRk r (k + 1) := by
  obtain ⟨a, b, c, d, e, f⟩ := h
  exact ⟨a, b, c, by omega, by omega, f⟩
theorem WfRk.wf {r : Rq} {k : Nat} (h : WfRk r k) (hk : k ≤ 1000) : WfR r := by
  obtain ⟨a, b, c, d, e, f, g, _⟩ := h
  exact ⟨a, b, c, by omega, by omega, f, g⟩
theorem topId_nn {l : List Rq} (h : ∀ r ∈ l, 1 ≤ r.id) : 0 ≤ topId l := by
  unfold topId
  cases hl : l.getLast? with
  | none => exact Int.le_refl _
  | some r => have := h r (List.mem_of_getLast? hl); simp only; omega
theorem Wk.wf {s : Sg} {k : Nat} (h : Wk s k) (hk : k ≤ 1000) : WfS s := ⟨fun r hr => (h.1 r hr).wf hk, topId_nn fun r hr => (h.1 r hr).2.2.2.2.2.2.2.2.2, by have := h.2; omega⟩
def NtB (n : Nt) : Prop := n.fs.length ≤ 1048576 ∧ n.data.length ≤ 1048576
theorem giveW_len (w : Wy) (d : List UInt8) (e : Bool) : (giveW w d e).bytes.length = w.bytes.length + d.length := by simp [giveW]
theorem stepC_wf {r r' : Rq} {n : Nt} {k : Nat} (h : WfRk r k) (hn : NtB n) (hs : stepC r n = some r') : WfRk r' (k + 1) ∧ r'.id = r.id := by
  have hu := h.up
  obtain ⟨a, b, c, d, e, f, g, i, j, m⟩ := h
  obtain ⟨q1, q2⟩ := hn
  unfold stepC at hs
  split at hs
  · split at hs
    · cases hs
      refine ⟨?_, rfl⟩; simp only [WfRk, giveW, fieldW, dataW, ansW, List.length_append]; exact ⟨a, by omega, c, by omega, by omega, f, g, i, j, m⟩
    · cases hs
  · split at hs
    · split at hs
      · rename_i ho
        cases hs
        obtain ⟨h1, h2, h3, h4⟩ := ho
        refine ⟨?_, rfl⟩; simp only [WfRk, giveW, fieldW, dataW, ansW, List.length_append]; exact ⟨a, b, c, by omega, by omega, f, g, fun hh => absurd (h1.symm.trans hh) (by decide), fun _ => trivial, m⟩
      · cases hs
    · split at hs
      · split at hs
        · rename_i ho
          cases hs
          obtain ⟨h1, h2, h3, h4⟩ := ho
          have hp := prefix_drop h3 c
          refine ⟨?_, rfl⟩; simp only [WfRk, giveW, fieldW, dataW, ansW, List.length_append]; exact ⟨a, b, by omega, by omega, by omega, f, g, fun hh => absurd (h1.symm.trans (i hh).1) (by decide), fun _ => h1, m⟩
        · cases hs
      · split at hs
        · split at hs
          · cases hs
            exact ⟨hu, rfl⟩
          · cases hs
        · split at hs
          · cases hs; exact ⟨hu, rfl⟩
          · cases hs
theorem stepS_wf {r r' : Rq} {n : Nt} {k : Nat} (h : WfRk r k) (hn : NtB n) (hs : stepS r n = some r') : WfRk r' (k + 1) ∧ r'.id = r.id := by
  have hu := h.up
  obtain ⟨a, b, c, d, e, f, g, i, j, m⟩ := h
  obtain ⟨q1, q2⟩ := hn
  unfold stepS at hs
  split at hs
  · split at hs
    · cases hs
      refine ⟨?_, rfl⟩; simp only [WfRk, giveW, fieldW, dataW, ansW, List.length_append]; exact ⟨a, b, c, by omega, by omega, f, g, i, j, m⟩
    · cases hs
  · split at hs
    · split at hs
      · rename_i ho
        cases hs
        obtain ⟨h1, h2, h3, h4⟩ := ho
        have hp := prefix_drop h3 b
        refine ⟨?_, rfl⟩; simp only [WfRk, giveW, fieldW, dataW, ansW, List.length_append]; exact ⟨a, by omega, c, by omega, by omega, f, g, i, j, m⟩
      · cases hs
    · split at hs
      · split at hs
        · rename_i ho
          cases hs
          obtain ⟨h1, h2, h3, h4, h5⟩ := i ho.2
          refine ⟨?_, rfl⟩; simp only [WfRk, giveW, fieldW, dataW, ansW, List.length_append]; exact ⟨a, b, c, by omega, by omega, f, q1, fun hh => absurd hh (by decide), fun hh => absurd (h4.symm.trans hh) (by decide), m⟩
        · cases hs
      · split at hs
        · split at hs
          · rename_i ho
            cases hs
            refine ⟨?_, rfl⟩; simp only [WfRk, giveW, fieldW, dataW, ansW, List.length_append]; exact ⟨a, b, by omega, by omega, by omega, f, g, fun hh => absurd (ho.1.symm.trans hh) (by decide), j, m⟩
          · cases hs
        · split at hs
          · cases hs; exact ⟨hu, rfl⟩
          · cases hs
theorem Wk.up {s : Sg} {k : Nat} (h : Wk s k) : Wk s (k + 1) := ⟨fun r hr => (h.1 r hr).up, by have := h.2; omega⟩
theorem noteC_wf {s s' : Sg} {n : Nt} {k : Nat} (h : Wk s k) (hn : NtB n) (hs : noteC s n = some s') : Wk s' (k + 1) := by
  unfold noteC at hs
  split at hs
  · cases hs
  · split at hs
    · cases hs
    · split at hs
      · cases hs; exact h.up
      · split at hs
        · split at hs
          · split at hs
            · cases hs
            · cases hs; exact h.up
          · cases hs; exact h.up
        · split at hs
          · split at hs
            · rename_i ho
              cases hs
              have htop := topId_nn fun r hr => (h.1 r hr).2.2.2.2.2.2.2.2.2
              refine ⟨fun r hr => ?_, by have := h.2; simp; omega⟩
              rcases List.mem_append.1 hr with hr | hr
              · exact (h.1 r hr).up
              · simp at hr; subst hr
                have h1 := ho.2.1
                simp only [WfRk, newRq, handW, noWy, List.length_nil]
                exact ⟨trivial, by omega, by omega, by omega, by omega, hn.1, by omega, fun _ => ⟨trivial, trivial, trivial, trivial, trivial⟩, fun hh => hh, by omega⟩
            · cases hs
          · split at hs
            · cases hs
            · split at hs
              · cases hs
              · rename_i r hr
                obtain ⟨r', h1, rfl⟩ := Option.map_eq_some_iff.1 hs
                refine ⟨fun x hx => ?_, by have := h.2; simp; omega⟩
                rcases List.mem_or_eq_of_mem_set hx with hx | rfl
                · exact (h.1 x hx).up
                · have hm := h.1 r (List.mem_of_getElem? hr)
                  split at h1
                  · exact (stepC_wf hm hn h1).1
                  · exact (stepS_wf hm hn h1).1
end Go.Proofs.Ytanbckdhlmhdeaa
