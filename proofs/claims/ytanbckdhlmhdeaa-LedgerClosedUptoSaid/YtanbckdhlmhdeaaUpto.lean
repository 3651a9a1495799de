/- What the second form's bulk gives: it bounds each text and each slice that comes in. -/
import Derived.Test.YtanbckdhlmhdeaaAbsReadB
import Derived.Test.YtanbckdhlmhdeaaRows
import Derived.JoinedCond
set_option linter.unusedSimpArgs false
set_option linter.unusedVariables false
namespace Go.Proofs.Ytanbckdhlmhdeaa
open Go.Abs
section bulk
variable {H : Type} {P : Program}
theorem bulk_one (d : DataW H) : 1 ≤ Rows.uptoBulk d := by
  cases d with
  | lit l => cases l <;> simp [Rows.uptoBulk]
  | _ => simp [Rows.uptoBulk]
theorem bulk_mem {d : DataW H} : ∀ {l : List (DataW H)}, d ∈ l → Rows.uptoBulk d ≤ Rows.uptoBulkAll l
  | [], h => by cases h
  | x :: r, h => by
    simp only [Rows.uptoBulkAll]
    rcases List.mem_cons.1 h with rfl | h
    · omega
    · have := bulk_mem h; omega
theorem bulk_len : ∀ l : List (DataW H), l.length ≤ Rows.uptoBulkAll l
  | [] => by simp
  | x :: r => by have := bulk_one x; have := bulk_len r; simp only [Rows.uptoBulkAll, List.length_cons]; omega
theorem cl_upto : Cl (H := H) P (fun n => n ≤ 1048576) (fun c _ => c ≤ 1048576) (fun _ d => Rows.uptoBulk d ≤ 1048576) := by
  refine ⟨fun t b ht h => ?_, fun t e elems spare ht h => ?_, fun t fs parts ht h j g d hg hd => ?_⟩
  · simp only [Rows.uptoBulk] at h; omega
  · simp only [Rows.uptoBulk] at h
    have h1 := bulk_len elems
    have h2 := bulk_len spare
    refine ⟨by omega, fun d hd => ?_⟩
    rcases List.mem_append.1 hd with hd | hd
    · have := bulk_mem hd; omega
    · have := bulk_mem hd; omega
  · simp only [Rows.uptoBulk] at h
    have := bulk_mem (List.mem_of_getElem? hd)
    omega
theorem upto_hd {d : DataW H} {ds : List (DataW H)} (h : Rows.uptoBulkAll (d :: ds) ≤ 1048576) : Rows.uptoBulk d ≤ 1048576 ∧ Rows.uptoBulkAll ds ≤ 1048576 := by
  simp only [Rows.uptoBulkAll] at h
  omega
end bulk
end Go.Proofs.Ytanbckdhlmhdeaa
