/- A loop, one round at a time. -/
import Derived.Test.YtanbckdhlmhdeaaAbsIter
set_option linter.unusedSimpArgs false
set_option linter.unusedVariables false
namespace Go.Abs
section unroll
variable {P : Program} {T : Tys} {rd : Option Nat} {Q : Ex → St → Prop}
theorem sysA_le2 {n m : Nat} (h : n ≤ m) : SysLe (sysA P T n) (sysA P T m) := by
  induction h with
  | refl => exact ⟨fun _ _ _ _ h => h, fun _ _ _ _ h => h⟩
  | step _ ih => exact ⟨fun f a h r hr => (sysA_le P T _).call _ _ _ _ (ih.call _ _ _ _ hr), fun f a h r hr => (sysA_le P T _).yield _ _ _ _ (ih.yield _ _ _ _ hr)⟩
theorem wpLoop_of {b : Code} {s : St} (h : wp P T rd (.loop b) Q s) : wpLoop P T rd b Q s := by
  obtain ⟨e, s', ⟨N, hN⟩, hq⟩ := h
  refine ⟨e, s', ⟨N, fun n hn k hk => ?_⟩, hq⟩
  have := hN N (Nat.le_refl _)
  simp only [runCode] at this
  exact loopA_mono (fun s r hr => runCode_mono (sysA_le2 hn) hn rd hr) hk this
/-- One round of a loop, then the loop again. -/
theorem c_unroll {b : Code} {s : St} (h : codeW P T rd b (onNormal (codeW P T rd (.loop b) Q) Q) s) : codeW P T rd (.loop b) Q s := by
  refine wp_loop (wpLoop_step (wp_mono (codeW_sound h) ?_))
  intro e s hq
  cases e with
  | normal => exact wpLoop_of hq
  | _ => exact hq
/-- A range that ends, or is left to the block around it. -/
theorem EndR_block {i l : Nat} {R : AO} {e : Ex} {tm tm0 : Tm} {ps : List Nat} {as b : Code} {mk : List Nat} {Q : Ex → St → Prop} {h2 : AH} (hR : R = .loop .ready none tm0 ps as b) (hl : h2.get l = some (R.fin e)) (he : e = .normal ∨ e = .exit i) (hq : Q .normal ⟨tm, mk, h2.set l .dead⟩) : EndR l tm mk (onExit i Q) h2 := by
  subst hR
  rcases he with rfl | rfl
  · exact EndR_none hl (by decide) hq
  · exact EndR_jump (e := .exit i) hl rfl (by intro h; cases h) (by rw [onExit_same]; exact hq)
end unroll
end Go.Abs
