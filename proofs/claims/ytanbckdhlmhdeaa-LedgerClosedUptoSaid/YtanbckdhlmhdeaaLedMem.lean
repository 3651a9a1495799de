/- ledger: the reference's lines in memory, as the code's requests. -/
import Derived.Test.YtanbckdhlmhdeaaLedRef3
set_option linter.unusedSimpArgs false
set_option linter.unusedVariables false
namespace Go.Proofs.Ytanbckdhlmhdeaa
open Go.Abs
set_option maxRecDepth 100000
/-- A request in memory: its blocks bear the tags t to t + 4. -/
def RqR (O : Nat → Nat) (t : Nat) (h : AH) (b : Nat) (r : Rq) : Prop := ∃ g1 g2 g3 g4 v1 v2 v3 v4, h.get b = some (.cells (cR r v1 v2 v3 v4)) ∧ b < h.size ∧ O b = t ∧ OwN EF h g1 v1 r.ask.fs ∧ OwN E8 h g2 v2 r.ask.bytes ∧ OwN EF h g3 v3 r.ans.fs ∧ OwN E8 h g4 v4 r.ans.bytes ∧
  (∀ x, g1 = some x → O x = t + 1) ∧ (∀ x, g2 = some x → O x = t + 2) ∧ (∀ x, g3 = some x → O x = t + 3) ∧ (∀ x, g4 = some x → O x = t + 4)
/-- What a step of a request with the tags from t on may change. -/
def StepR (O : Nat → Nat) (t : Nat) (h0 h' : AH) (b : Nat) (r : Rq) : Prop := h0.size ≤ h'.size ∧ (∀ x, x < h0.size → ¬ (t ≤ O x ∧ O x < t + 8) → h'.get x = h0.get x) ∧ ∃ O' : Nat → Nat, (∀ x, x < h0.size → O' x = O x) ∧ (∀ x, h0.size ≤ x → O' x = 0 ∨ (t ≤ O' x ∧ O' x < t + 8)) ∧ RqR O' t h' b r
theorem mkStepR {O : Nat → Nat} {t : Nat} {h0 h' : AH} {b : Nat} {r : Rq} (i : Nat) (hi : i < 8) (k1 k2 k3 k4 : Option Nat) (w1 w2 w3 w4 : AV) (hz : h0.size ≤ h'.size) (hf : ∀ x, x < h0.size → ¬ (t ≤ O x ∧ O x < t + 8) → h'.get x = h0.get x) (hb : b < h0.size) (hO : O b = t) (hc : h'.get b = some (.cells (cR r w1 w2 w3 w4)))
    (o1 : OwN EF h' k1 w1 r.ask.fs) (o2 : OwN E8 h' k2 w2 r.ask.bytes) (o3 : OwN EF h' k3 w3 r.ans.fs) (o4 : OwN E8 h' k4 w4 r.ans.bytes)
    (c1 : ∀ x, k1 = some x → x < h0.size ∧ O x = t + 1 ∨ h0.size ≤ x ∧ i = 1) (c2 : ∀ x, k2 = some x → x < h0.size ∧ O x = t + 2 ∨ h0.size ≤ x ∧ i = 2) (c3 : ∀ x, k3 = some x → x < h0.size ∧ O x = t + 3 ∨ h0.size ≤ x ∧ i = 3) (c4 : ∀ x, k4 = some x → x < h0.size ∧ O x = t + 4 ∨ h0.size ≤ x ∧ i = 4) : StepR O t h0 h' b r := by
  have tag : ∀ (s : Nat) (k : Option Nat), (∀ x, k = some x → x < h0.size ∧ O x = t + s ∨ h0.size ≤ x ∧ i = s) → ∀ x, k = some x → (if x < h0.size then O x else t + i) = t + s := by
    intro s k hk x hx
    rcases hk x hx with ⟨h1, h2⟩ | ⟨h1, h2⟩
    · rw [if_pos h1, h2]
    · rw [if_neg (by omega), h2]
  refine ⟨hz, hf, fun x => if x < h0.size then O x else t + i, fun x hx => if_pos hx, fun x hx => .inr ?_, k1, k2, k3, k4, w1, w2, w3, w4, hc, by omega, by simp only; rw [if_pos hb, hO], o1, o2, o3, o4, tag 1 _ c1, tag 2 _ c2, tag 3 _ c3, tag 4 _ c4⟩
  simp only
  rw [if_neg (by omega)]
  omega
/-- Nothing of the request is changed. -/
theorem stepKeepR {O : Nat → Nat} {t : Nat} {h0 h' : AH} {b : Nat} {r : Rq} (hr : RqR O t h0 b r) (k : Keeps h0.size h0 h') : StepR O t h0 h' b r := by
  obtain ⟨g1, g2, g3, g4, v1, v2, v3, v4, hc, hb, hO, o1, o2, o3, o4, t1, t2, t3, t4⟩ := hr
  refine mkStepR 0 (by omega) g1 g2 g3 g4 v1 v2 v3 v4 k.1 (fun x hx _ => k.2 x hx) hb hO ((k.2 b hb).trans hc) (o1.frame (fun i hi => k.2 i (o1.lt hi)) k.1) (o2.frame (fun i hi => k.2 i (o2.lt hi)) k.1) (o3.frame (fun i hi => k.2 i (o3.lt hi)) k.1) (o4.frame (fun i hi => k.2 i (o4.lt hi)) k.1) ?_ ?_ ?_ ?_
  · exact fun x hx => .inl ⟨o1.lt hx, t1 x hx⟩
  · exact fun x hx => .inl ⟨o2.lt hx, t2 x hx⟩
  · exact fun x hx => .inl ⟨o3.lt hx, t3 x hx⟩
  · exact fun x hx => .inl ⟨o4.lt hx, t4 x hx⟩
/-- A step behind a step that kept all. -/
theorem StepR.after {O : Nat → Nat} {t : Nat} {h0 h1 h' : AH} {b : Nat} {r : Rq} (k : Keeps h0.size h0 h1) (ht : 8 ≤ t) (s : StepR (fun x => if x < h0.size then O x else 0) t h1 h' b r) : StepR O t h0 h' b r := by
  obtain ⟨z, f, O', a1, a2, a3⟩ := s
  refine ⟨by have := k.1; omega, fun x hx hn => ?_, O', fun x hx => ?_, fun x hx => ?_, a3⟩
  · rw [f x (by have := k.1; omega) (by simp only; rw [if_pos hx]; exact hn), k.2 x hx]
  · rw [a1 x (by have := k.1; omega)]; simp only; rw [if_pos hx]
  · by_cases hx1 : x < h1.size
    · rw [a1 x hx1]; simp only; rw [if_neg (by omega)]; exact .inl rfl
    · exact a2 x (by omega)
theorem RqR.after {O : Nat → Nat} {t : Nat} {h0 h1 : AH} {b : Nat} {r : Rq} (hr : RqR O t h0 b r) (k : Keeps h0.size h0 h1) : RqR (fun x => if x < h0.size then O x else 0) t h1 b r := by
  obtain ⟨g1, g2, g3, g4, v1, v2, v3, v4, hc, hb, hO, o1, o2, o3, o4, t1, t2, t3, t4⟩ := hr
  refine ⟨g1, g2, g3, g4, v1, v2, v3, v4, (k.2 b hb).trans hc, by have := k.1; omega, by simp only; rw [if_pos hb, hO], o1.frame (fun i hi => k.2 i (o1.lt hi)) k.1, o2.frame (fun i hi => k.2 i (o2.lt hi)) k.1, o3.frame (fun i hi => k.2 i (o3.lt hi)) k.1, o4.frame (fun i hi => k.2 i (o4.lt hi)) k.1, fun x hx => ?_, fun x hx => ?_, fun x hx => ?_, fun x hx => ?_⟩
  · simp only; rw [if_pos (o1.lt hx)]; exact t1 x hx
  · simp only; rw [if_pos (o2.lt hx)]; exact t2 x hx
  · simp only; rw [if_pos (o3.lt hx)]; exact t3 x hx
  · simp only; rw [if_pos (o4.lt hx)]; exact t4 x hx
/-- The cells alone are changed. -/
theorem stepCellsR {O : Nat → Nat} {t : Nat} {h0 h' : AH} {b : Nat} {r r' : Rq} {g1 g2 g3 g4 : Option Nat} {v1 v2 v3 v4 : AV} (hb : b < h0.size) (hO : O b = t) (o1 : OwN EF h0 g1 v1 r.ask.fs) (o2 : OwN E8 h0 g2 v2 r.ask.bytes) (o3 : OwN EF h0 g3 v3 r.ans.fs) (o4 : OwN E8 h0 g4 v4 r.ans.bytes)
    (t1 : ∀ x, g1 = some x → O x = t + 1) (t2 : ∀ x, g2 = some x → O x = t + 2) (t3 : ∀ x, g3 = some x → O x = t + 3) (t4 : ∀ x, g4 = some x → O x = t + 4) (k : But b none h0 h') (hc : h'.get b = some (.cells (cR r' v1 v2 v3 v4)))
    (e1 : r'.ask.fs = r.ask.fs) (e2 : r'.ask.bytes = r.ask.bytes) (e3 : r'.ans.fs = r.ans.fs) (e4 : r'.ans.bytes = r.ans.bytes) : StepR O t h0 h' b r' := by
  have fr : ∀ x, x < h0.size → ¬ x = b → h'.get x = h0.get x := fun x hx hxb => k.2 x hx hxb (by simp)
  have ne : ∀ (s : Nat) (g : Option Nat), 0 < s → (∀ x, g = some x → O x = t + s) → ∀ x, g = some x → ¬ x = b := fun s g hs hg x hx e => by
    have := hg x hx; rw [e, hO] at this; omega
  refine mkStepR 0 (by omega) g1 g2 g3 g4 v1 v2 v3 v4 k.1 (fun x hx hn => fr x hx (fun e => hn (by rw [e, hO]; omega))) hb hO hc ?_ ?_ ?_ ?_ ?_ ?_ ?_ ?_
  · rw [e1]; exact o1.frame (fun i hi => fr i (o1.lt hi) (ne 1 g1 (by omega) t1 i hi)) k.1
  · rw [e2]; exact o2.frame (fun i hi => fr i (o2.lt hi) (ne 2 g2 (by omega) t2 i hi)) k.1
  · rw [e3]; exact o3.frame (fun i hi => fr i (o3.lt hi) (ne 3 g3 (by omega) t3 i hi)) k.1
  · rw [e4]; exact o4.frame (fun i hi => fr i (o4.lt hi) (ne 4 g4 (by omega) t4 i hi)) k.1
  · exact fun x hx => .inl ⟨o1.lt hx, t1 x hx⟩
  · exact fun x hx => .inl ⟨o2.lt hx, t2 x hx⟩
  · exact fun x hx => .inl ⟨o3.lt hx, t3 x hx⟩
  · exact fun x hx => .inl ⟨o4.lt hx, t4 x hx⟩
/-- The code's ledger in memory. -/
def LgR (O : Nat → Nat) (h : AH) (p : Nat) (s : Sg) : Prop := ∃ sl g bs, h.get p = some (.cells [sl, .bool s.cl, .bool s.sv]) ∧ p < h.size ∧ O p = 1 ∧ OwN EP h g sl bs ∧ (∀ x, g = some x → O x = 2) ∧ bs.length = s.l.length ∧ ∀ (k : Nat) r b, s.l[k]? = some r → bs[k]? = some b → RqR O (8 * (k + 1)) h b r
theorem RqR.frame {O O' : Nat → Nat} {t : Nat} {h h' : AH} {b : Nat} {r : Rq} (hr : RqR O t h b r) (hf : ∀ x, x < h.size → t ≤ O x → O x < t + 8 → h'.get x = h.get x) (hz : h.size ≤ h'.size) (ho : ∀ x, x < h.size → O' x = O x) : RqR O' t h' b r := by
  obtain ⟨g1, g2, g3, g4, v1, v2, v3, v4, hc, hb, hO, o1, o2, o3, o4, t1, t2, t3, t4⟩ := hr
  refine ⟨g1, g2, g3, g4, v1, v2, v3, v4, (hf b hb (by omega) (by omega)).trans hc, by omega, (ho b hb).trans hO, o1.frame (fun i hi => hf i (o1.lt hi) (by rw [t1 i hi]; omega) (by rw [t1 i hi]; omega)) hz, o2.frame (fun i hi => hf i (o2.lt hi) (by rw [t2 i hi]; omega) (by rw [t2 i hi]; omega)) hz, o3.frame (fun i hi => hf i (o3.lt hi) (by rw [t3 i hi]; omega) (by rw [t3 i hi]; omega)) hz, o4.frame (fun i hi => hf i (o4.lt hi) (by rw [t4 i hi]; omega) (by rw [t4 i hi]; omega)) hz, fun x hx => ?_, fun x hx => ?_, fun x hx => ?_, fun x hx => ?_⟩
  · rw [ho x (o1.lt hx)]; exact t1 x hx
  · rw [ho x (o2.lt hx)]; exact t2 x hx
  · rw [ho x (o3.lt hx)]; exact t3 x hx
  · rw [ho x (o4.lt hx)]; exact t4 x hx
theorem LgR.frame {O O' : Nat → Nat} {h h' : AH} {p : Nat} {s : Sg} (hl : LgR O h p s) (hf : ∀ x, x < h.size → ¬ O x = 0 → h'.get x = h.get x) (hz : h.size ≤ h'.size) (ho : ∀ x, x < h.size → O' x = O x) : LgR O' h' p s := by
  obtain ⟨sl, g, bs, hc, hp, hO, o, t, hn, hr⟩ := hl
  exact ⟨sl, g, bs, (hf p hp (by omega)).trans hc, by omega, (ho p hp).trans hO, o.frame (fun i hi => hf i (o.lt hi) (by rw [t i hi]; omega)) hz, fun x hx => by rw [ho x (o.lt hx)]; exact t x hx, hn, fun k r b h1 h2 => (hr k r b h1 h2).frame (fun x hx h3 h4 => hf x hx (by omega)) hz ho⟩
/-- What a step of the ledger may change: what is not its own stays. -/
def StepM (O : Nat → Nat) (h0 h' : AH) (p : Nat) (s : Sg) : Prop := h0.size ≤ h'.size ∧ (∀ x, x < h0.size → O x = 0 → h'.get x = h0.get x) ∧ ∃ O' : Nat → Nat, (∀ x, x < h0.size → O' x = O x) ∧ LgR O' h' p s
theorem stepMKeep {O : Nat → Nat} {h0 h' : AH} {p : Nat} {s : Sg} (hl : LgR O h0 p s) (k : Keeps h0.size h0 h') : StepM O h0 h' p s :=
  ⟨k.1, fun x hx _ => k.2 x hx, O, fun _ _ => rfl, hl.frame (fun x hx _ => k.2 x hx) k.1 (fun _ _ => rfl)⟩
/-- The ledger's block alone is changed. -/
theorem stepMCell {O : Nat → Nat} {h0 : AH} {p : Nat} {s s' : Sg} {sl : AV} {g : Option Nat} {bs : List Nat} (hp : p < h0.size) (hO : O p = 1) (o : OwN EP h0 g sl bs) (t : ∀ x, g = some x → O x = 2) (hbn : bs.length = s.l.length) (hr : ∀ (k : Nat) r b, s.l[k]? = some r → bs[k]? = some b → RqR O (8 * (k + 1)) h0 b r) (hl : s'.l = s.l) :
    StepM O h0 (h0.set p (.cells [sl, .bool s'.cl, .bool s'.sv])) p s' := by
  refine ⟨by simp, fun x hx hx0 => ?_, O, fun _ _ => rfl, sl, g, bs, by rw [AH.get_set, if_pos rfl], by simpa using hp, hO, o.frame (fun i hi => ?_) (by simp), t, by rw [hl]; exact hbn, fun k r b h1 h2 => ?_⟩
  · rw [AH.get_set, if_neg (fun e => by rw [e, hO] at hx0; cases hx0)]
  · rw [AH.get_set, if_neg (fun e => by have := t i hi; rw [e, hO] at this; omega)]
  · rw [hl] at h1
    exact (hr k r b h1 h2).frame (fun x hx h3 h4 => by rw [AH.get_set, if_neg (fun e => by rw [e, hO] at h3; omega)]) (by simp) (fun _ _ => rfl)
theorem LgR.after {O : Nat → Nat} {h0 h1 : AH} {p : Nat} {s : Sg} (hl : LgR O h0 p s) (k : Keeps h0.size h0 h1) : LgR (O1 O h0) h1 p s := hl.frame (fun x hx _ => k.2 x hx) k.1 (fun x hx => if_pos hx)
theorem StepM.after {O : Nat → Nat} {h0 h1 h' : AH} {p : Nat} {s : Sg} (k : Keeps h0.size h0 h1) (st : StepM (O1 O h0) h1 h' p s) : StepM O h0 h' p s := by
  obtain ⟨z, f, O', a1, a2⟩ := st
  refine ⟨by have := k.1; omega, fun x hx hx0 => ?_, O', fun x hx => ?_, a2⟩
  · rw [f x (by have := k.1; omega) (by unfold O1; rw [if_pos hx]; exact hx0), k.2 x hx]
  · rw [a1 x (by have := k.1; omega)]; unfold O1; rw [if_pos hx]
/-- A step of one request is a step of the ledger. -/
theorem stepM_of {O : Nat → Nat} {h h' : AH} {p : Nat} {s : Sg} {sl : AV} {g : Option Nat} {bs : List Nat} {k b : Nat} {r r' : Rq} (hc : h.get p = some (.cells [sl, .bool s.cl, .bool s.sv])) (hp : p < h.size) (hO : O p = 1) (o : OwN EP h g sl bs) (t : ∀ x, g = some x → O x = 2) (hbn : bs.length = s.l.length)
    (hr : ∀ (k : Nat) r b, s.l[k]? = some r → bs[k]? = some b → RqR O (8 * (k + 1)) h b r) (hk : s.l[k]? = some r) (hb : bs[k]? = some b) (st : StepR O (8 * (k + 1)) h h' b r') : StepM O h h' p { s with l := s.l.set k r' } := by
  obtain ⟨z, f, O', a1, a2, a3⟩ := st
  have hkl := (List.getElem?_eq_some_iff.1 hk).1
  refine ⟨z, fun x hx hx0 => f x hx (by omega), O', a1, sl, g, bs, (f p hp (by omega)).trans hc, by omega, (a1 p hp).trans hO, o.frame (fun i hi => f i (o.lt hi) (by rw [t i hi]; omega)) z, fun x hx => by rw [a1 x (o.lt hx)]; exact t x hx, by simpa using hbn, fun j r2 b2 h1 h2 => ?_⟩
  by_cases e : j = k
  · subst e
    simp only [List.getElem?_set_self hkl] at h1
    cases h1
    rw [hb] at h2
    cases h2
    exact a3
  · simp only [List.getElem?_set_ne (Ne.symm e)] at h1
    exact (hr j r2 b2 h1 h2).frame (fun x hx h3 h4 => f x hx (by omega)) z a1
/-- The same, where nothing is changed but what is new. -/
theorem stepM_same {O : Nat → Nat} {h h' : AH} {p : Nat} {s : Sg} {sl : AV} {g : Option Nat} {bs : List Nat} {k b : Nat} {r : Rq} (hl : LgR O h p s) (hk : s.l[k]? = some r) (st : StepM O h h' p { s with l := s.l.set k r }) : StepM O h h' p s := by
  have e : s.l.set k r = s.l := by
    obtain ⟨h1, h2⟩ := List.getElem?_eq_some_iff.1 hk
    rw [← h2, List.set_getElem_self]
  rw [e] at st
  exact st
end Go.Proofs.Ytanbckdhlmhdeaa
