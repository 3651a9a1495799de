/- 'UnpackNone' is true, whatever the start: no conditions, no arguments. The abstract machine (proved to be the model's walk) runs the statement to its end; the kernel reckons that run. -/
import Derived.Test.YtmpeofjfagdgkaaAbspuSeat
namespace Go.Proofs.Ytmpeofjfagdgkaa
open Go.Abs Go.RowKit Go.ChangeShapes
set_option maxRecDepth 100000
theorem ran11 : ∃ h', callA Try.prog Try.T 200 11 [] AH.empty = some (.bool true, h') := by
  have h : ((callA Try.prog Try.T 200 11 [] AH.empty).map (·.1.same (.bool true))) = some true := by kernel_rfl
  cases hc : callA Try.prog Try.T 200 11 [] AH.empty with
  | none => rw [hc] at h; simp at h
  | some r =>
    obtain ⟨v, h'⟩ := r
    rw [hc] at h
    simp at h
    exact ⟨h', by rw [AV.same_eq _ _ h]⟩
theorem lifted11 (os : Os) (started : os.Started) (H : Type) (enc : TypeId × Value → H) :
    ReturnsInHanded {} Try.checked os 11 .any (Rows.unpackNoneSpec.pre6 enc Try.prog Try.f11 Rows.unpackNoneRow.domain false) (Rows.unpackNoneSpec.post enc Try.prog Try.f11 false true false false) := by
  refine returnsInHanded_of_change (C := Try.checked) own started (by kernel_rfl) Try.func11
    (ChangeSpec.witness6 (enc := enc) (C := Try.checked) false ⟨#[], #[], []⟩ 8 (by kernel_rfl) (by kernel_rfl) (by kernel_rfl) (by kernel_rfl)) ?_
  intro W base args ds gs before hval hW _ _
  have hW' := hW
  obtain ⟨p, q, hA, hV, rfl, _, _⟩ := hW
  have hA' : DataW.TrodAll enc Try.prog W 0 (fun _ => true) true [] args.toList ds p := by rw [Try.params11] at hA; exact hA
  obtain ⟨rfl, rfl, rfl⟩ := trodAll_none hA'
  obtain ⟨rfl, rfl⟩ := trodVars_none hV
  obtain ⟨h', hr⟩ := ran11
  refine (calls_true mixed tok fok hr .nil).mono ?_
  rintro e W' ⟨rfl, hb⟩
  exact ⟨_, rfl, post_true laidOut (by kernel_rfl) (by kernel_rfl) Try.underlying4 rfl hW' rfl hb⟩
theorem unpackNone : Rows.UnpackNoneSaid :=
  OpenClaim.holds_of_wide 11 Try.f11 rfl rfl rfl rfl rfl rfl rfl ⟨rfl, rfl, rfl, rfl, rfl⟩ rfl rfl rfl rfl rfl (by kernel_rfl) Try.func11 (by kernel_rfl)
    (of_decide_eq_true (by kernel_rfl)) (by unfold Func.isWrapper; first | (rw [if_pos (by decide +kernel)]; kernel_rfl) | (rw [if_neg (by decide +kernel)]; exact ⟨rfl, rfl⟩))
    (fun os started H enc _ => lifted11 os started H enc)
#print axioms unpackNone
end Go.Proofs.Ytmpeofjfagdgkaa
