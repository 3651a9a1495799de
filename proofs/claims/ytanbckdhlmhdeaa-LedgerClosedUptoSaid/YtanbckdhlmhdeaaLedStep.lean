/- ledger: client and server: what a note does to one request. -/
import Derived.Test.YtanbckdhlmhdeaaLedReq2
set_option linter.unusedSimpArgs false
set_option linter.unusedVariables false
namespace Go.Proofs.Ytanbckdhlmhdeaa
open Go.Abs
set_option maxRecDepth 100000
def startOk (r : Rq) (n : Nt) : Prop := r.ask.told = false ∧ ¬ r.verdict = 5 ∧ n.fs = r.ask.fs ∧ n.fin = r.ask.first
def headOk (r : Rq) (n : Nt) : Prop := r.ans.has = true ∧ r.ans.told = false ∧ n.fs = r.ans.fs ∧ n.fin = r.ans.first
open Classical in
/-- What a note of the Client's end does to its request. -/
noncomputable def stepC (r : Rq) (n : Nt) : Option Rq :=
  if n.kind = 16 then (if r.ask.ended = false then some { r with ask := giveW r.ask n.data n.fin } else none)
  else if n.kind = 2 then (if headOk r n then some { r with ans := fieldW r.ans n.fin } else none)
  else if n.kind = 4 then (if r.ans.told = true ∧ dataOk r.ans n.data n.fin then some { r with ans := dataW r.ans n.data n.fin } else none)
  else if n.kind = 13 then (if 0 ≤ n.code ∧ n.code ≤ 6 ∧ rulesB r n.code = true then some { r with verdict := n.code } else none)
  else if n.kind = 5 ∨ n.kind = 6 then some r else none
open Classical in
noncomputable def stepS (r : Rq) (n : Nt) : Option Rq :=
  if n.kind = 1 then (if startOk r n then some { r with ask := fieldW r.ask n.fin } else none)
  else if n.kind = 4 then (if r.ask.told = true ∧ dataOk r.ask n.data n.fin then some { r with ask := dataW r.ask n.data n.fin } else none)
  else if n.kind = 17 then (if r.ask.told = true ∧ r.ans.has = false then some { r with ans := ansW r.ans n } else none)
  else if n.kind = 16 then (if r.ans.has = true ∧ r.ans.ended = false then some { r with ans := giveW r.ans n.data n.fin } else none)
  else if n.kind = 5 ∨ n.kind = 6 then some r else none
/-- A request in memory: its blocks bear the tags t to t + 4. -/
def RqC (O : Nat → Nat) (t : Nat) (h : AH) (b : Nat) (r : Rq) : Prop := ∃ g1 g2 g3 g4 v1 v2 v3 v4, h.get b = some (.cells (cC r v1 v2 v3 v4)) ∧ b < h.size ∧ O b = t ∧ OwN EF h g1 v1 r.ask.fs ∧ OwN E8 h g2 v2 r.ask.bytes ∧ OwN EF h g3 v3 r.ans.fs ∧ OwN E8 h g4 v4 r.ans.bytes ∧
  (∀ x, g1 = some x → O x = t + 1) ∧ (∀ x, g2 = some x → O x = t + 2) ∧ (∀ x, g3 = some x → O x = t + 3) ∧ (∀ x, g4 = some x → O x = t + 4)
/-- What a step of a request with the tags from t on may change. -/
def StepC (O : Nat → Nat) (t : Nat) (h0 h' : AH) (b : Nat) (r : Rq) : Prop := h0.size ≤ h'.size ∧ (∀ x, x < h0.size → ¬ (t ≤ O x ∧ O x < t + 8) → h'.get x = h0.get x) ∧ ∃ O' : Nat → Nat, (∀ x, x < h0.size → O' x = O x) ∧ (∀ x, h0.size ≤ x → O' x = 0 ∨ (t ≤ O' x ∧ O' x < t + 8)) ∧ RqC O' t h' b r
theorem mkStep {O : Nat → Nat} {t : Nat} {h0 h' : AH} {b : Nat} {r : Rq} (i : Nat) (hi : i < 8) (k1 k2 k3 k4 : Option Nat) (w1 w2 w3 w4 : AV) (hz : h0.size ≤ h'.size) (hf : ∀ x, x < h0.size → ¬ (t ≤ O x ∧ O x < t + 8) → h'.get x = h0.get x) (hb : b < h0.size) (hO : O b = t) (hc : h'.get b = some (.cells (cC r w1 w2 w3 w4)))
    (o1 : OwN EF h' k1 w1 r.ask.fs) (o2 : OwN E8 h' k2 w2 r.ask.bytes) (o3 : OwN EF h' k3 w3 r.ans.fs) (o4 : OwN E8 h' k4 w4 r.ans.bytes)
    (c1 : ∀ x, k1 = some x → x < h0.size ∧ O x = t + 1 ∨ h0.size ≤ x ∧ i = 1) (c2 : ∀ x, k2 = some x → x < h0.size ∧ O x = t + 2 ∨ h0.size ≤ x ∧ i = 2) (c3 : ∀ x, k3 = some x → x < h0.size ∧ O x = t + 3 ∨ h0.size ≤ x ∧ i = 3) (c4 : ∀ x, k4 = some x → x < h0.size ∧ O x = t + 4 ∨ h0.size ≤ x ∧ i = 4) : StepC O t h0 h' b r := by
  have tag : ∀ (s : Nat) (k : Option Nat), (∀ x, k = some x → x < h0.size ∧ O x = t + s ∨ h0.size ≤ x ∧ i = s) → ∀ x, k = some x → (if x < h0.size then O x else t + i) = t + s := by
    intro s k hk x hx
    rcases hk x hx with ⟨h1, h2⟩ | ⟨h1, h2⟩
    · rw [if_pos h1, h2]
    · rw [if_neg (by omega), h2]
  refine ⟨hz, hf, fun x => if x < h0.size then O x else t + i, fun x hx => if_pos hx, fun x hx => .inr ?_, k1, k2, k3, k4, w1, w2, w3, w4, hc, by omega, by simp only; rw [if_pos hb, hO], o1, o2, o3, o4, tag 1 _ c1, tag 2 _ c2, tag 3 _ c3, tag 4 _ c4⟩
  simp only
  rw [if_neg (by omega)]
  omega
/-- Nothing of the request is changed. -/
theorem stepKeep {O : Nat → Nat} {t : Nat} {h0 h' : AH} {b : Nat} {r : Rq} (hr : RqC O t h0 b r) (k : Keeps h0.size h0 h') : StepC O t h0 h' b r := by
  obtain ⟨g1, g2, g3, g4, v1, v2, v3, v4, hc, hb, hO, o1, o2, o3, o4, t1, t2, t3, t4⟩ := hr
  refine mkStep 0 (by omega) g1 g2 g3 g4 v1 v2 v3 v4 k.1 (fun x hx _ => k.2 x hx) hb hO ((k.2 b hb).trans hc) (o1.frame (fun i hi => k.2 i (o1.lt hi)) k.1) (o2.frame (fun i hi => k.2 i (o2.lt hi)) k.1) (o3.frame (fun i hi => k.2 i (o3.lt hi)) k.1) (o4.frame (fun i hi => k.2 i (o4.lt hi)) k.1) ?_ ?_ ?_ ?_
  · exact fun x hx => .inl ⟨o1.lt hx, t1 x hx⟩
  · exact fun x hx => .inl ⟨o2.lt hx, t2 x hx⟩
  · exact fun x hx => .inl ⟨o3.lt hx, t3 x hx⟩
  · exact fun x hx => .inl ⟨o4.lt hx, t4 x hx⟩
/-- A step behind a step that kept all. -/
theorem StepC.after {O : Nat → Nat} {t : Nat} {h0 h1 h' : AH} {b : Nat} {r : Rq} (k : Keeps h0.size h0 h1) (ht : 8 ≤ t) (s : StepC (fun x => if x < h0.size then O x else 0) t h1 h' b r) : StepC O t h0 h' b r := by
  obtain ⟨z, f, O', a1, a2, a3⟩ := s
  refine ⟨by have := k.1; omega, fun x hx hn => ?_, O', fun x hx => ?_, fun x hx => ?_, a3⟩
  · rw [f x (by have := k.1; omega) (by simp only; rw [if_pos hx]; exact hn), k.2 x hx]
  · rw [a1 x (by have := k.1; omega)]; simp only; rw [if_pos hx]
  · by_cases hx1 : x < h1.size
    · rw [a1 x hx1]; simp only; rw [if_neg (by omega)]; exact .inl rfl
    · exact a2 x (by omega)
theorem RqC.after {O : Nat → Nat} {t : Nat} {h0 h1 : AH} {b : Nat} {r : Rq} (hr : RqC O t h0 b r) (k : Keeps h0.size h0 h1) : RqC (fun x => if x < h0.size then O x else 0) t h1 b r := by
  obtain ⟨g1, g2, g3, g4, v1, v2, v3, v4, hc, hb, hO, o1, o2, o3, o4, t1, t2, t3, t4⟩ := hr
  refine ⟨g1, g2, g3, g4, v1, v2, v3, v4, (k.2 b hb).trans hc, by have := k.1; omega, by simp only; rw [if_pos hb, hO], o1.frame (fun i hi => k.2 i (o1.lt hi)) k.1, o2.frame (fun i hi => k.2 i (o2.lt hi)) k.1, o3.frame (fun i hi => k.2 i (o3.lt hi)) k.1, o4.frame (fun i hi => k.2 i (o4.lt hi)) k.1, fun x hx => ?_, fun x hx => ?_, fun x hx => ?_, fun x hx => ?_⟩
  · simp only; rw [if_pos (o1.lt hx)]; exact t1 x hx
  · simp only; rw [if_pos (o2.lt hx)]; exact t2 x hx
  · simp only; rw [if_pos (o3.lt hx)]; exact t3 x hx
  · simp only; rw [if_pos (o4.lt hx)]; exact t4 x hx
end Go.Proofs.Ytanbckdhlmhdeaa
