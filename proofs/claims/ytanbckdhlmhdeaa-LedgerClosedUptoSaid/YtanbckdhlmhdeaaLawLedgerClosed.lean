/- 'LedgerClosed' of what comes in of bulk at most 1048576 (the second form: beyond it an append of bytes may pass what Go allows). Behind its EPhase nothing happens at an end; a Client's has no pending request then. -/
import Derived.Test.YtanbckdhlmhdeaaLedClosed
set_option linter.unusedSimpArgs false
set_option linter.unusedVariables false
namespace Go.Proofs.Ytanbckdhlmhdeaa
open Go.Abs Go.RowKit Go.ChangeShapes
set_option maxRecDepth 100000
theorem lifted8 (os : Os) (started : os.Started) (H : Type) (enc : TypeId × Value → H) (F : Stop.Interp) :
    ReturnsInHanded {} Try.checked os 8 .any ((Rows.OpenSpec.upto Rows.ledgerClosedSpec).pre6 enc Try.prog Try.f8 Rows.ledgerClosedUptoRow.domain false) (((Rows.OpenSpec.upto Rows.ledgerClosedSpec).at F).post enc Try.prog Try.f8 false true false false) := by
  refine returnsInHanded_of_cond (C := Try.checked) (s := Rows.OpenSpec.upto Rows.ledgerClosedSpec) (k := Rows.uptoSmall) rfl own started (by kernel_rfl) Try.func8
    (OpenSpec.witness (enc := enc) (C := Try.checked) (s := Rows.OpenSpec.upto Rows.ledgerClosedSpec) (k := Rows.uptoSmall) rfl false ⟨#[], #[.slice none 0 0, .agg #[.int .i64 0, .int .i64 0, .int .i64 0, .slice none 0 0, .slice none 0 0, .bool false, .int .i64 0, .int .i64 0]], []⟩ 8 (by kernel_rfl) (by kernel_rfl) (by kernel_rfl)
      (x := ([.nil, .agg [.lit (.int .i64 0), .agg [.lit (.int .i64 0), .lit (.int .i64 0), .nil, .nil, .lit (.bool false), .lit (.int .i64 0), .lit (.int .i64 0)]]], [], [])) (by kernel_rfl) rfl (by kernel_rfl)) ?_
  intro W base args ds gs before hval hW _ hk _
  have hW' := hW
  obtain ⟨p, q, hA0, hV, rfl, _, _⟩ := hW
  have hA : DataW.TrodAll enc Try.prog W 0 (fun _ => true) true Try.f8.params.toList args.toList ds p := hA0
  rw [Try.params8] at hA hval
  obtain ⟨v0, vs0, d0, ds0, p0, q0, hargs, rfl, rfl, k0, r0⟩ := trodAll_cons hA
  obtain ⟨v1, vs1, d1, ds1, p1, q1, rfl, rfl, rfl, k1, r1⟩ := trodAll_cons r0
  obtain ⟨rfl, rfl, rfl⟩ := trodAll_nil r1
  obtain rfl : args = #[v0, v1] := by cases args; simp_all
  obtain ⟨rfl, rfl⟩ := trodVars_none hV
  have hz0 : Rows.uptoBulkAll [d0, d1] ≤ 1048576 := of_decide_eq_true hk
  obtain ⟨z0, hz1⟩ := upto_hd hz0
  obtain ⟨z1, hz2⟩ := upto_hd hz1
  obtain ⟨a0, w0, D0, g0, s0⟩ := arg_readB tok cl_upto (n := 6) (by rfl) (hval 0 22 v0 rfl rfl) z0 k0
  rw [s0 (by rfl)] at D0
  obtain ⟨a1, w1, D1, g1, s1⟩ := arg_readB tok cl_upto (n := 5) (by rfl) (hval 1 37 v1 rfl rfl) z1 k1
  obtain ⟨c1, rfl⟩ := g1 (by rfl)
  obtain ⟨n, h', hr⟩ := callW_run (closedRun a0 c1 D0 D1)
  refine (calls_true mixed tok fok hr (.cons _ _ _ _ w0 (.cons _ _ _ _ w1 .nil))).mono ?_
  rintro e W' ⟨rfl, hb⟩
  exact ⟨_, rfl, post_true laidOut (by kernel_rfl) (by kernel_rfl) Try.underlying4 rfl hW' rfl hb⟩
theorem ledgerClosedUpto : Rows.LedgerClosedUptoSaid :=
  OpenClaim.holds_of_cond 8 Try.f8 rfl rfl rfl rfl rfl rfl rfl ⟨rfl, rfl, rfl, rfl, rfl⟩ rfl rfl rfl rfl rfl (by kernel_rfl) Try.func8 (by kernel_rfl)
    (of_decide_eq_true (by kernel_rfl)) (by unfold Func.isWrapper; first | (rw [if_pos (by decide +kernel)]; kernel_rfl) | (rw [if_neg (by decide +kernel)]; exact ⟨rfl, rfl⟩))
    (fun os started H enc _ F => lifted8 os started H enc F)
#print axioms ledgerClosedUpto
end Go.Proofs.Ytanbckdhlmhdeaa
