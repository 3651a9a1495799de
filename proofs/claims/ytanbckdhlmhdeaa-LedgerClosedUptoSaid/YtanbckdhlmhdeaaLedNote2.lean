/- ledger: Note. -/
import Derived.Test.YtanbckdhlmhdeaaLedIssue
set_option linter.unusedSimpArgs false
set_option linter.unusedVariables false
namespace Go.Proofs.Ytanbckdhlmhdeaa
open Go.Abs
set_option maxRecDepth 100000
open Classical in
/-- What a note does. -/
noncomputable def noteC (s : Sg) (n : Nt) : Option Sg :=
  if ¬ (n.role = 1 ∨ n.role = 2) then none
  else if (n.role = 1 ∧ s.cl = true) ∨ (n.role = 2 ∧ s.sv = true) then none
  else if n.kind = 11 ∨ n.kind = 12 then some s
  else if n.kind = 14 then (if n.role = 1 then (if pend s.l = true then none else some { s with cl := true }) else some { s with sv := true })
  else if n.kind = 15 then (if n.role = 1 ∧ issueOk s.l n then some { s with l := s.l ++ [newRq n] } else none)
  else match fidx s.l n.id with
    | none => none
    | some k => match s.l[k]? with
      | none => none
      | some r => (if n.role = 1 then stepC r n else stepS r n).map fun r' => { s with l := s.l.set k r' }
def WfS (s : Sg) : Prop := (∀ r ∈ s.l, WfR r) ∧ 0 ≤ topId s.l ∧ s.l.length ≤ 1000
def O1 (O : Nat → Nat) (h0 : AH) : Nat → Nat := fun x => if x < h0.size then O x else 0
theorem LgC.after {O : Nat → Nat} {h0 h1 : AH} {p : Nat} {s : Sg} (hl : LgC O h0 p s) (k : Keeps h0.size h0 h1) : LgC (O1 O h0) h1 p s := hl.frame (fun x hx _ => k.2 x hx) k.1 (fun x hx => if_pos hx)
theorem StepL.after {O : Nat → Nat} {h0 h1 h' : AH} {p : Nat} {s : Sg} (k : Keeps h0.size h0 h1) (st : StepL (O1 O h0) h1 h' p s) : StepL O h0 h' p s := by
  obtain ⟨z, f, O', a1, a2⟩ := st
  refine ⟨by have := k.1; omega, fun x hx hx0 => ?_, O', fun x hx => ?_, a2⟩
  · rw [f x (by have := k.1; omega) (by unfold O1; rw [if_pos hx]; exact hx0), k.2 x hx]
  · rw [a1 x (by have := k.1; omega)]; unfold O1; rw [if_pos hx]
/-- A step of one request is a step of the ledger. -/
theorem stepL_of {O : Nat → Nat} {h h' : AH} {p : Nat} {s : Sg} {sl : AV} {g : Option Nat} {bs : List Nat} {k b : Nat} {r r' : Rq} (hc : h.get p = some (.cells [sl, .bool false, .bool s.cl, .bool s.sv])) (hp : p < h.size) (hO : O p = 1) (o : OwN EP h g sl bs) (t : ∀ x, g = some x → O x = 2) (hbn : bs.length = s.l.length)
    (hr : ∀ (k : Nat) r b, s.l[k]? = some r → bs[k]? = some b → RqC O (8 * (k + 1)) h b r) (hk : s.l[k]? = some r) (hb : bs[k]? = some b) (st : StepC O (8 * (k + 1)) h h' b r') : StepL O h h' p { s with l := s.l.set k r' } := by
  obtain ⟨z, f, O', a1, a2, a3⟩ := st
  have hkl := (List.getElem?_eq_some_iff.1 hk).1
  refine ⟨z, fun x hx hx0 => f x hx (by omega), O', a1, sl, g, bs, (f p hp (by omega)).trans hc, by omega, (a1 p hp).trans hO, o.frame (fun i hi => f i (o.lt hi) (by rw [t i hi]; omega)) z, fun x hx => by rw [a1 x (o.lt hx)]; exact t x hx, by simpa using hbn, fun j r2 b2 h1 h2 => ?_⟩
  by_cases e : j = k
  · subst e
    simp only [List.getElem?_set_self hkl] at h1
    cases h1
    rw [hb] at h2
    cases h2
    exact a3
  · simp only [List.getElem?_set_ne (Ne.symm e)] at h1
    exact (hr j r2 b2 h1 h2).frame (fun x hx h3 h4 => f x hx (by omega)) z a1
/-- The same, where nothing is changed but what is new. -/
theorem stepL_same {O : Nat → Nat} {h h' : AH} {p : Nat} {s : Sg} {sl : AV} {g : Option Nat} {bs : List Nat} {k b : Nat} {r : Rq} (hl : LgC O h p s) (hk : s.l[k]? = some r) (st : StepL O h h' p { s with l := s.l.set k r }) : StepL O h h' p s := by
  have e : s.l.set k r = s.l := by
    obtain ⟨h1, h2⟩ := List.getElem?_eq_some_iff.1 hk
    rw [← h2, List.set_getElem_self]
  rw [e] at st
  exact st
end Go.Proofs.Ytanbckdhlmhdeaa
