/- ledger: client and server, walked. -/
import Derived.Test.YtanbckdhlmhdeaaLedStep
set_option linter.unusedSimpArgs false
set_option linter.unusedVariables false
namespace Go.Proofs.Ytanbckdhlmhdeaa
open Go.Abs
set_option maxRecDepth 100000
def NtOk (h : AH) (n : Nt) : Prop := (∃ i, Sl EF h i n.fv n.fs) ∧ (∃ j, Sl E8 h j n.dv n.data) ∧ n.fs.length ≤ 1048576 ∧ n.data.length ≤ 1048576
theorem NtOk.keep {h h' : AH} {n : Nt} (o : NtOk h n) (k : Keeps h.size h h') : NtOk h' n := by
  obtain ⟨⟨i, a⟩, ⟨j, b⟩, c⟩ := o
  exact ⟨⟨i, a.frame (fun hi => k.2 i hi) k.1⟩, ⟨j, b.frame (fun hi => k.2 j hi) k.1⟩, c⟩
/-- The sizes of a request are in bounds. -/
def WfR (r : Rq) : Prop := r.ask.has = true ∧ r.ask.pos ≤ r.ask.bytes.length ∧ r.ans.pos ≤ r.ans.bytes.length ∧ r.ask.bytes.length ≤ 10000000000 ∧ r.ans.bytes.length ≤ 10000000000 ∧ r.ask.fs.length ≤ 1048576 ∧ r.ans.fs.length ≤ 1048576
/-- The cells alone are changed. -/
theorem stepCells {O : Nat → Nat} {t : Nat} {h0 h' : AH} {b : Nat} {r r' : Rq} {g1 g2 g3 g4 : Option Nat} {v1 v2 v3 v4 : AV} (hb : b < h0.size) (hO : O b = t) (o1 : OwN EF h0 g1 v1 r.ask.fs) (o2 : OwN E8 h0 g2 v2 r.ask.bytes) (o3 : OwN EF h0 g3 v3 r.ans.fs) (o4 : OwN E8 h0 g4 v4 r.ans.bytes)
    (t1 : ∀ x, g1 = some x → O x = t + 1) (t2 : ∀ x, g2 = some x → O x = t + 2) (t3 : ∀ x, g3 = some x → O x = t + 3) (t4 : ∀ x, g4 = some x → O x = t + 4) (k : But b none h0 h') (hc : h'.get b = some (.cells (cC r' v1 v2 v3 v4)))
    (e1 : r'.ask.fs = r.ask.fs) (e2 : r'.ask.bytes = r.ask.bytes) (e3 : r'.ans.fs = r.ans.fs) (e4 : r'.ans.bytes = r.ans.bytes) : StepC O t h0 h' b r' := by
  have fr : ∀ x, x < h0.size → ¬ x = b → h'.get x = h0.get x := fun x hx hxb => k.2 x hx hxb (by simp)
  have ne : ∀ (s : Nat) (g : Option Nat), 0 < s → (∀ x, g = some x → O x = t + s) → ∀ x, g = some x → ¬ x = b := fun s g hs hg x hx e => by
    have := hg x hx; rw [e, hO] at this; omega
  refine mkStep 0 (by omega) g1 g2 g3 g4 v1 v2 v3 v4 k.1 (fun x hx hn => fr x hx (fun e => hn (by rw [e, hO]; omega))) hb hO hc ?_ ?_ ?_ ?_ ?_ ?_ ?_ ?_
  · rw [e1]; exact o1.frame (fun i hi => fr i (o1.lt hi) (ne 1 g1 (by omega) t1 i hi)) k.1
  · rw [e2]; exact o2.frame (fun i hi => fr i (o2.lt hi) (ne 2 g2 (by omega) t2 i hi)) k.1
  · rw [e3]; exact o3.frame (fun i hi => fr i (o3.lt hi) (ne 3 g3 (by omega) t3 i hi)) k.1
  · rw [e4]; exact o4.frame (fun i hi => fr i (o4.lt hi) (ne 4 g4 (by omega) t4 i hi)) k.1
  · exact fun x hx => .inl ⟨o1.lt hx, t1 x hx⟩
  · exact fun x hx => .inl ⟨o2.lt hx, t2 x hx⟩
  · exact fun x hx => .inl ⟨o3.lt hx, t3 x hx⟩
  · exact fun x hx => .inl ⟨o4.lt hx, t4 x hx⟩
/-- A contract on a request's block with the note boxed ahead of it. -/
theorem giveAsk {O : Nat → Nat} {t : Nat} {h0 : AH} {b : Nat} {r : Rq} {dv : AV} {d : List UInt8} {e : Bool} {j : Nat} (hr : RqC O t h0 b r) (hw : WfR r) (hd : Sl E8 h0 j dv d) (hdl : d.length ≤ 1048576) :
    callW Try.prog Try.T 31 [.ptr (some (b, 5)), dv, .bool e] h0 fun v h' => v = .bool (!r.ask.ended) ∧ StepC O t h0 h' b (if r.ask.ended = false then { r with ask := giveW r.ask d e } else r) := by
  have hr0 := hr
  obtain ⟨g1, g2, g3, g4, v1, v2, v3, v4, hc, hb, hO, o1, o2, o3, o4, t1, t2, t3, t4⟩ := hr
  obtain ⟨_, _, _, w1, w2, _⟩ := hw
  have ne : ∀ (s : Nat) (g : Option Nat), 0 < s → (∀ x, g = some x → O x = t + s) → ∀ x, g = some x → ¬ x = b := fun s g hs hg x hx e => by
    have := hg x hx; rw [e, hO] at this; omega
  refine callW_mono (givenask b j g2 r v1 v2 v3 v4 dv d e h0 hc hb o2 (fun h => ne 2 g2 (by omega) t2 b h rfl) hd (by omega)) ?_
  rintro v h' (⟨he, rfl, rfl⟩ | ⟨he, rfl, k, z, g', hc', on, hg'⟩)
  · rw [he, if_neg (by simp)]; exact ⟨rfl, stepKeep hr0 (Keeps.refl _ _)⟩
  · rw [he, if_pos rfl]
    refine ⟨rfl, ?_⟩
    have fr : ∀ x, x < h0.size → ¬ x = b → ¬ O x = t + 2 → h'.get x = h0.get x := fun x hx hxb hx2 => k.2 x hx hxb (fun e => hx2 (t2 x e))
    refine mkStep 2 (by omega) g1 g' g3 g4 v1 z v3 v4 k.1 (fun x hx hn => fr x hx (fun e => hn (by rw [e, hO]; omega)) (fun e => hn (by omega))) hb hO hc' (o1.frame (fun i hi => fr i (o1.lt hi) (ne 1 g1 (by omega) t1 i hi) (by rw [t1 i hi]; omega)) k.1) on (o3.frame (fun i hi => fr i (o3.lt hi) (ne 3 g3 (by omega) t3 i hi) (by rw [t3 i hi]; omega)) k.1) (o4.frame (fun i hi => fr i (o4.lt hi) (ne 4 g4 (by omega) t4 i hi) (by rw [t4 i hi]; omega)) k.1) (fun x hx => .inl ⟨o1.lt hx, t1 x hx⟩) ?_ (fun x hx => .inl ⟨o3.lt hx, t3 x hx⟩) (fun x hx => .inl ⟨o4.lt hx, t4 x hx⟩)
    intro x hx
    rcases hg' with h | h | ⟨i, h, hi⟩
    · rw [h] at hx; cases hx
    · rw [h] at hx; exact .inl ⟨o2.lt hx, t2 x hx⟩
    · rw [h] at hx; cases hx; exact .inr ⟨hi, rfl⟩
theorem giveAns {O : Nat → Nat} {t : Nat} {h0 : AH} {b : Nat} {r : Rq} {dv : AV} {d : List UInt8} {e : Bool} {j : Nat} (hr : RqC O t h0 b r) (hw : WfR r) (hd : Sl E8 h0 j dv d) (hdl : d.length ≤ 1048576) :
    callW Try.prog Try.T 31 [.ptr (some (b, 13)), dv, .bool e] h0 fun v h' => v = .bool (!r.ans.ended) ∧ StepC O t h0 h' b (if r.ans.ended = false then { r with ans := giveW r.ans d e } else r) := by
  have hr0 := hr
  obtain ⟨g1, g2, g3, g4, v1, v2, v3, v4, hc, hb, hO, o1, o2, o3, o4, t1, t2, t3, t4⟩ := hr
  obtain ⟨_, _, _, w1, w2, _⟩ := hw
  have ne : ∀ (s : Nat) (g : Option Nat), 0 < s → (∀ x, g = some x → O x = t + s) → ∀ x, g = some x → ¬ x = b := fun s g hs hg x hx e => by
    have := hg x hx; rw [e, hO] at this; omega
  refine callW_mono (givenans b j g4 r v1 v2 v3 v4 dv d e h0 hc hb o4 (fun h => ne 4 g4 (by omega) t4 b h rfl) hd (by omega)) ?_
  rintro v h' (⟨he, rfl, rfl⟩ | ⟨he, rfl, k, z, g', hc', on, hg'⟩)
  · rw [he, if_neg (by simp)]; exact ⟨rfl, stepKeep hr0 (Keeps.refl _ _)⟩
  · rw [he, if_pos rfl]
    refine ⟨rfl, ?_⟩
    have fr : ∀ x, x < h0.size → ¬ x = b → ¬ O x = t + 4 → h'.get x = h0.get x := fun x hx hxb hx2 => k.2 x hx hxb (fun e => hx2 (t4 x e))
    refine mkStep 4 (by omega) g1 g2 g3 g' v1 v2 v3 z k.1 (fun x hx hn => fr x hx (fun e => hn (by rw [e, hO]; omega)) (fun e => hn (by omega))) hb hO hc' (o1.frame (fun i hi => fr i (o1.lt hi) (ne 1 g1 (by omega) t1 i hi) (by rw [t1 i hi]; omega)) k.1) (o2.frame (fun i hi => fr i (o2.lt hi) (ne 2 g2 (by omega) t2 i hi) (by rw [t2 i hi]; omega)) k.1) (o3.frame (fun i hi => fr i (o3.lt hi) (ne 3 g3 (by omega) t3 i hi) (by rw [t3 i hi]; omega)) k.1) on (fun x hx => .inl ⟨o1.lt hx, t1 x hx⟩) (fun x hx => .inl ⟨o2.lt hx, t2 x hx⟩) (fun x hx => .inl ⟨o3.lt hx, t3 x hx⟩) ?_
    intro x hx
    rcases hg' with h | h | ⟨i, h, hi⟩
    · rw [h] at hx; cases hx
    · rw [h] at hx; exact .inl ⟨o4.lt hx, t4 x hx⟩
    · rw [h] at hx; cases hx; exact .inr ⟨hi, rfl⟩
open Classical in
theorem dataAsk {O : Nat → Nat} {t : Nat} {h0 : AH} {b : Nat} {r : Rq} {dv : AV} {d : List UInt8} {e : Bool} {j : Nat} (hr : RqC O t h0 b r) (hw : WfR r) (hd : Sl E8 h0 j dv d) :
    callW Try.prog Try.T 33 [.ptr (some (b, 5)), dv, .bool e] h0 fun v h' => v = .bool (decide (dataOk r.ask d e)) ∧ StepC O t h0 h' b (if dataOk r.ask d e then { r with ask := dataW r.ask d e } else r) := by
  have hr0 := hr
  obtain ⟨g1, g2, g3, g4, v1, v2, v3, v4, hc, hb, hO, o1, o2, o3, o4, t1, t2, t3, t4⟩ := hr
  obtain ⟨_, p1, p2, w1, w2, _⟩ := hw
  refine callW_mono (tellsask b j g2 r v1 v2 v3 v4 dv d e h0 hc hb o2 hd p1 (by omega)) ?_
  rintro v h' (⟨he, rfl, rfl⟩ | ⟨he, rfl, k, hc'⟩)
  · rw [if_neg he]; exact ⟨by simp [he], stepKeep hr0 (Keeps.refl _ _)⟩
  · rw [if_pos he]; exact ⟨by simp [he], stepCells hb hO o1 o2 o3 o4 t1 t2 t3 t4 k hc' rfl rfl rfl rfl⟩
open Classical in
theorem dataAns {O : Nat → Nat} {t : Nat} {h0 : AH} {b : Nat} {r : Rq} {dv : AV} {d : List UInt8} {e : Bool} {j : Nat} (hr : RqC O t h0 b r) (hw : WfR r) (hd : Sl E8 h0 j dv d) :
    callW Try.prog Try.T 33 [.ptr (some (b, 13)), dv, .bool e] h0 fun v h' => v = .bool (decide (dataOk r.ans d e)) ∧ StepC O t h0 h' b (if dataOk r.ans d e then { r with ans := dataW r.ans d e } else r) := by
  have hr0 := hr
  obtain ⟨g1, g2, g3, g4, v1, v2, v3, v4, hc, hb, hO, o1, o2, o3, o4, t1, t2, t3, t4⟩ := hr
  obtain ⟨_, p1, p2, w1, w2, _⟩ := hw
  refine callW_mono (tellsans b j g4 r v1 v2 v3 v4 dv d e h0 hc hb o4 hd p2 (by omega)) ?_
  rintro v h' (⟨he, rfl, rfl⟩ | ⟨he, rfl, k, hc'⟩)
  · rw [if_neg he]; exact ⟨by simp [he], stepKeep hr0 (Keeps.refl _ _)⟩
  · rw [if_pos he]; exact ⟨by simp [he], stepCells hb hO o1 o2 o3 o4 t1 t2 t3 t4 k hc' rfl rfl rfl rfl⟩
end Go.Proofs.Ytanbckdhlmhdeaa
