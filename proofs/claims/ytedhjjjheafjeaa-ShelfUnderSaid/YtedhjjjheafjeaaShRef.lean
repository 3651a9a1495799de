/- shelf: the reference's shelf in memory; fresh, place, without, bury. -/
import Derived.Test.YtedhjjjheafjeaaShLeaf
set_option linter.unusedSimpArgs false
set_option linter.unusedVariables false
namespace Go.Proofs.Ytedhjjjheafjeaa
open Go.Abs
set_option maxRecDepth 100000
/-- The reference's lists. -/
structure R4 where
  a : List Int
  b : List Int
  c : List Int
  d : List Int
  top : Int
structure UnR (O : Nat → Nat) (h : AH) (q : Nat) (r : R4) (v1 v2 v3 v4 : AV) (g1 g2 g3 g4 : Option Nat) : Prop where
  hc : h.get q = some (.cells [v1, v2, v3, v4, .int .i64 r.top])
  hq : q < h.size
  hO : O q = 1
  o1 : OwN EI h g1 v1 r.a
  o2 : OwN EI h g2 v2 r.b
  o3 : OwN EI h g3 v3 r.c
  o4 : OwN EI h g4 v4 r.d
  t1 : ∀ x, g1 = some x → O x = 2
  t2 : ∀ x, g2 = some x → O x = 3
  t3 : ∀ x, g3 = some x → O x = 4
  t4 : ∀ x, g4 = some x → O x = 5
def ShR (O : Nat → Nat) (h : AH) (q : Nat) (r : R4) : Prop := ∃ v1 v2 v3 v4 g1 g2 g3 g4, UnR O h q r v1 v2 v3 v4 g1 g2 g3 g4
section mem
variable {O O' Oz : Nat → Nat} {h h' h0 h1 h2 h3 : AH} {q : Nat} {r r' r1 r2 : R4} {v1 v2 v3 v4 : AV} {g1 g2 g3 g4 : Option Nat}
theorem ShR.frame (hl : ShR O h q r) (hf : ∀ x, x < h.size → ¬ O x = 0 → h'.get x = h.get x) (hz : h.size ≤ h'.size) (ho : ∀ x, x < h.size → O' x = O x) : ShR O' h' q r := by
  obtain ⟨v1, v2, v3, v4, g1, g2, g3, g4, u⟩ := hl
  refine ⟨v1, v2, v3, v4, g1, g2, g3, g4, ⟨(hf q u.hq (by rw [u.hO]; decide)).trans u.hc, by have := u.hq; omega, (ho q u.hq).trans u.hO, u.o1.frame (fun i hi => hf i (u.o1.lt hi) (by rw [u.t1 i hi]; decide)) hz, u.o2.frame (fun i hi => hf i (u.o2.lt hi) (by rw [u.t2 i hi]; decide)) hz, u.o3.frame (fun i hi => hf i (u.o3.lt hi) (by rw [u.t3 i hi]; decide)) hz, u.o4.frame (fun i hi => hf i (u.o4.lt hi) (by rw [u.t4 i hi]; decide)) hz, fun x hx => ?_, fun x hx => ?_, fun x hx => ?_, fun x hx => ?_⟩⟩
  · rw [ho x (u.o1.lt hx)]; exact u.t1 x hx
  · rw [ho x (u.o2.lt hx)]; exact u.t2 x hx
  · rw [ho x (u.o3.lt hx)]; exact u.t3 x hx
  · rw [ho x (u.o4.lt hx)]; exact u.t4 x hx
theorem ShR.after (hl : ShR O h0 q r) (k : Keeps h0.size h0 h1) : ShR (O1 O h0) h1 q r := hl.frame (fun x hx _ => k.2 x hx) k.1 (fun x hx => if_pos hx)
/-- What a step of the reference's shelf may change: what is not its own stays. -/
def StR (O : Nat → Nat) (h0 h' : AH) (q : Nat) (r : R4) : Prop := h0.size ≤ h'.size ∧ (∀ x, x < h0.size → O x = 0 → h'.get x = h0.get x) ∧ ∃ O' : Nat → Nat, (∀ x, x < h0.size → O' x = O x) ∧ ShR O' h' q r
theorem stKeepR (hl : ShR O h0 q r) (k : Keeps h0.size h0 h') : StR O h0 h' q r :=
  ⟨k.1, fun x hx _ => k.2 x hx, O, fun _ _ => rfl, hl.frame (fun x hx _ => k.2 x hx) k.1 (fun _ _ => rfl)⟩
theorem StR.after (k : Keeps h0.size h0 h1) (st : StR (O1 O h0) h1 h' q r) : StR O h0 h' q r := by
  obtain ⟨z, f, O', a1, a2⟩ := st
  refine ⟨by have := k.1; omega, fun x hx hx0 => ?_, O', fun x hx => ?_, a2⟩
  · rw [f x (by have := k.1; omega) (by unfold O1; rw [if_pos hx]; exact hx0), k.2 x hx]
  · rw [a1 x (by have := k.1; omega)]; unfold O1; rw [if_pos hx]
theorem StR.join (z : h0.size ≤ h1.size) (f : ∀ x, x < h0.size → O x = 0 → h1.get x = h0.get x) (a : ∀ x, x < h0.size → Oz x = O x) (st : StR Oz h1 h2 q r2) : StR O h0 h2 q r2 := by
  obtain ⟨z2, f2, O2, a2, l2⟩ := st
  exact ⟨by omega, fun x hx hx0 => by rw [f2 x (by omega) (by rw [a x hx]; exact hx0), f x hx hx0], O2, fun x hx => by rw [a2 x (by omega), a x hx], l2⟩
theorem UnR.gp (u : UnR O h q r v1 v2 v3 v4 g1 g2 g3 g4) : (∀ x, g1 = some x → ¬ x = q) ∧ (∀ x, g2 = some x → ¬ x = q) ∧ (∀ x, g3 = some x → ¬ x = q) ∧ (∀ x, g4 = some x → ¬ x = q) := by
  have hO := u.hO
  exact ⟨fun x hx e => by have := u.t1 x hx; rw [e, hO] at this; omega, fun x hx e => by have := u.t2 x hx; rw [e, hO] at this; omega, fun x hx e => by have := u.t3 x hx; rw [e, hO] at this; omega, fun x hx e => by have := u.t4 x hx; rw [e, hO] at this; omega⟩
/-- The greatest number is written. -/
theorem UnR.topS (u : UnR O h q r v1 v2 v3 v4 g1 g2 g3 g4) (n : Int) : (∀ x, x < h.size → O x = 0 → (h.set q (.cells [v1, v2, v3, v4, .int .i64 n])).get x = h.get x) ∧ UnR O (h.set q (.cells [v1, v2, v3, v4, .int .i64 n])) q { r with top := n } v1 v2 v3 v4 g1 g2 g3 g4 := by
  obtain ⟨p1, p2, p3, p4⟩ := u.gp
  exact ⟨fun x hx hx0 => by rw [AH.get_set, if_neg (fun e => by rw [e, u.hO] at hx0; cases hx0)], ⟨by rw [AH.get_set, if_pos rfl], by simpa using u.hq, u.hO, u.o1.frame (fun i hi => by rw [AH.get_set, if_neg (p1 i hi)]) (by simp), u.o2.frame (fun i hi => by rw [AH.get_set, if_neg (p2 i hi)]) (by simp), u.o3.frame (fun i hi => by rw [AH.get_set, if_neg (p3 i hi)]) (by simp), u.o4.frame (fun i hi => by rw [AH.get_set, if_neg (p4 i hi)]) (by simp), u.t1, u.t2, u.t3, u.t4⟩⟩
theorem UnR.st (u : UnR O' h' q r v1 v2 v3 v4 g1 g2 g3 g4) (z : h.size ≤ h'.size) (f : ∀ x, x < h.size → O x = 0 → h'.get x = h.get x) (a : ∀ x, x < h.size → O' x = O x) : StR O h h' q r := ⟨z, f, O', a, _, _, _, _, _, _, _, _, u⟩
theorem nb_of {g : Option Nat} {h h3 : AH} (f3 : ∀ j, j < h.size → ¬ j = g.getD h.size → h3.get j = h.get j) : ∀ x, x < h.size → ¬ g = some x → h3.get x = h.get x := fun x hx hgx => by
  refine f3 x hx ?_
  cases hg : g with
  | none => simp; omega
  | some y => simp only [Option.getD_some]; intro e; exact hgx (by rw [hg, e])
/-- The 1th list is written anew. -/
theorem UnR.slot1 (u : UnR O h q r v1 v2 v3 v4 g1 g2 g3 g4) {z : AV} {i : Nat} {l : List Int} (o : Ow EI h3 i z l) (hi : i = g1.getD h.size ∨ h.size ≤ i) (hz : h.size ≤ h3.size) (f3 : ∀ j, j < h.size → ¬ j = g1.getD h.size → h3.get j = h.get j) :
    h3.get q = some (.cells [v1, v2, v3, v4, .int .i64 r.top]) ∧ (∀ x, x < h.size → O x = 0 → (h3.set q (.cells [z, v2, v3, v4, .int .i64 r.top])).get x = h.get x) ∧ ∃ O' gn, (∀ x, x < h.size → O' x = O x) ∧ UnR O' (h3.set q (.cells [z, v2, v3, v4, .int .i64 r.top])) q { r with a := l } z v2 v3 v4 gn g2 g3 g4 := by
  obtain ⟨p1, p2, p3, p4⟩ := u.gp
  have nb := nb_of f3
  obtain ⟨gn, og, hg⟩ := OwN.of (g := g1) (b := h.size) o hi rfl
  have hO := u.hO
  have hq := u.hq
  have pn : ∀ x, gn = some x → ¬ x = q := fun x hx e => by
    rcases hg with h' | h' | ⟨j, h', hj⟩
    · rw [h'] at hx; cases hx
    · exact p1 x (by rw [← h']; exact hx) e
    · rw [h'] at hx; cases hx; omega
  have x2 : ∀ x, g2 = some x → ¬ g1 = some x := fun x hx e => by have a := u.t2 x hx; have b := u.t1 x e; omega
  have x3 : ∀ x, g3 = some x → ¬ g1 = some x := fun x hx e => by have a := u.t3 x hx; have b := u.t1 x e; omega
  have x4 : ∀ x, g4 = some x → ¬ g1 = some x := fun x hx e => by have a := u.t4 x hx; have b := u.t1 x e; omega
  have sO : ∀ x, x < h.size → (if x < h.size then O x else 2) = O x := fun x hx => if_pos hx
  refine ⟨(nb q hq (fun e => p1 q e rfl)).trans u.hc, fun x hx hx0 => ?_, fun x => if x < h.size then O x else 2, gn, sO, ⟨by rw [AH.get_set, if_pos rfl], by rw [AH.size_set]; omega, (sO q hq).trans hO, og.frame (fun i hi => by rw [AH.get_set, if_neg (pn i hi)]) (by simp), u.o2.frame (fun i hi => by rw [AH.get_set, if_neg (p2 i hi), nb i (u.o2.lt hi) (x2 i hi)]) (by rw [AH.size_set]; omega), u.o3.frame (fun i hi => by rw [AH.get_set, if_neg (p3 i hi), nb i (u.o3.lt hi) (x3 i hi)]) (by rw [AH.size_set]; omega), u.o4.frame (fun i hi => by rw [AH.get_set, if_neg (p4 i hi), nb i (u.o4.lt hi) (x4 i hi)]) (by rw [AH.size_set]; omega), ?_, ?_, ?_, ?_⟩⟩
  · rw [AH.get_set, if_neg (fun e => by rw [e, hO] at hx0; cases hx0), nb x hx (fun e => by have := u.t1 x e; omega)]
  · intro x hx
    rcases hg with h' | h' | ⟨j, h', hj⟩
    · rw [h'] at hx; cases hx
    · rw [h'] at hx; exact (sO x (u.o1.lt hx)).trans (u.t1 x hx)
    · rw [h'] at hx; cases hx; exact if_neg (by omega)
  · intro x hx; exact (sO x (u.o2.lt hx)).trans (u.t2 x hx)
  · intro x hx; exact (sO x (u.o3.lt hx)).trans (u.t3 x hx)
  · intro x hx; exact (sO x (u.o4.lt hx)).trans (u.t4 x hx)
theorem UnR.put1 (u : UnR O h q r v1 v2 v3 v4 g1 g2 g3 g4) {l : List Int} (o : Ow EI h3 (g1.getD h.size) v1 l) (hz : h.size ≤ h3.size) (f3 : ∀ j, ¬ j = g1.getD h.size → h3.get j = h.get j) : StR O h h3 q { r with a := l } := by
  obtain ⟨h1, f, O', gn, a, u'⟩ := u.slot1 o (.inl rfl) hz (fun j _ hj => f3 j hj)
  have l' : ShR O' (h3.set q (.cells [v1, v2, v3, v4, .int .i64 r.top])) q _ := ⟨_, _, _, _, _, _, _, _, u'⟩
  have e : ∀ x, (h3.set q (.cells [v1, v2, v3, v4, .int .i64 r.top])).get x = h3.get x := fun x => by
    rw [AH.get_set]
    split
    · subst_vars; exact h1.symm
    · rfl
  refine ⟨hz, fun x hx hx0 => (e x).symm.trans (f x hx hx0), O', a, l'.frame (fun x _ _ => (e x).symm) (by simp) (fun _ _ => rfl)⟩
/-- The 2th list is written anew. -/
theorem UnR.slot2 (u : UnR O h q r v1 v2 v3 v4 g1 g2 g3 g4) {z : AV} {i : Nat} {l : List Int} (o : Ow EI h3 i z l) (hi : i = g2.getD h.size ∨ h.size ≤ i) (hz : h.size ≤ h3.size) (f3 : ∀ j, j < h.size → ¬ j = g2.getD h.size → h3.get j = h.get j) :
    h3.get q = some (.cells [v1, v2, v3, v4, .int .i64 r.top]) ∧ (∀ x, x < h.size → O x = 0 → (h3.set q (.cells [v1, z, v3, v4, .int .i64 r.top])).get x = h.get x) ∧ ∃ O' gn, (∀ x, x < h.size → O' x = O x) ∧ UnR O' (h3.set q (.cells [v1, z, v3, v4, .int .i64 r.top])) q { r with b := l } v1 z v3 v4 g1 gn g3 g4 := by
  obtain ⟨p1, p2, p3, p4⟩ := u.gp
  have nb := nb_of f3
  obtain ⟨gn, og, hg⟩ := OwN.of (g := g2) (b := h.size) o hi rfl
  have hO := u.hO
  have hq := u.hq
  have pn : ∀ x, gn = some x → ¬ x = q := fun x hx e => by
    rcases hg with h' | h' | ⟨j, h', hj⟩
    · rw [h'] at hx; cases hx
    · exact p2 x (by rw [← h']; exact hx) e
    · rw [h'] at hx; cases hx; omega
  have x1 : ∀ x, g1 = some x → ¬ g2 = some x := fun x hx e => by have a := u.t1 x hx; have b := u.t2 x e; omega
  have x3 : ∀ x, g3 = some x → ¬ g2 = some x := fun x hx e => by have a := u.t3 x hx; have b := u.t2 x e; omega
  have x4 : ∀ x, g4 = some x → ¬ g2 = some x := fun x hx e => by have a := u.t4 x hx; have b := u.t2 x e; omega
  have sO : ∀ x, x < h.size → (if x < h.size then O x else 3) = O x := fun x hx => if_pos hx
  refine ⟨(nb q hq (fun e => p2 q e rfl)).trans u.hc, fun x hx hx0 => ?_, fun x => if x < h.size then O x else 3, gn, sO, ⟨by rw [AH.get_set, if_pos rfl], by rw [AH.size_set]; omega, (sO q hq).trans hO, u.o1.frame (fun i hi => by rw [AH.get_set, if_neg (p1 i hi), nb i (u.o1.lt hi) (x1 i hi)]) (by rw [AH.size_set]; omega), og.frame (fun i hi => by rw [AH.get_set, if_neg (pn i hi)]) (by simp), u.o3.frame (fun i hi => by rw [AH.get_set, if_neg (p3 i hi), nb i (u.o3.lt hi) (x3 i hi)]) (by rw [AH.size_set]; omega), u.o4.frame (fun i hi => by rw [AH.get_set, if_neg (p4 i hi), nb i (u.o4.lt hi) (x4 i hi)]) (by rw [AH.size_set]; omega), ?_, ?_, ?_, ?_⟩⟩
  · rw [AH.get_set, if_neg (fun e => by rw [e, hO] at hx0; cases hx0), nb x hx (fun e => by have := u.t2 x e; omega)]
  · intro x hx; exact (sO x (u.o1.lt hx)).trans (u.t1 x hx)
  · intro x hx
    rcases hg with h' | h' | ⟨j, h', hj⟩
    · rw [h'] at hx; cases hx
    · rw [h'] at hx; exact (sO x (u.o2.lt hx)).trans (u.t2 x hx)
    · rw [h'] at hx; cases hx; exact if_neg (by omega)
  · intro x hx; exact (sO x (u.o3.lt hx)).trans (u.t3 x hx)
  · intro x hx; exact (sO x (u.o4.lt hx)).trans (u.t4 x hx)
theorem UnR.put2 (u : UnR O h q r v1 v2 v3 v4 g1 g2 g3 g4) {l : List Int} (o : Ow EI h3 (g2.getD h.size) v2 l) (hz : h.size ≤ h3.size) (f3 : ∀ j, ¬ j = g2.getD h.size → h3.get j = h.get j) : StR O h h3 q { r with b := l } := by
  obtain ⟨h1, f, O', gn, a, u'⟩ := u.slot2 o (.inl rfl) hz (fun j _ hj => f3 j hj)
  have l' : ShR O' (h3.set q (.cells [v1, v2, v3, v4, .int .i64 r.top])) q _ := ⟨_, _, _, _, _, _, _, _, u'⟩
  have e : ∀ x, (h3.set q (.cells [v1, v2, v3, v4, .int .i64 r.top])).get x = h3.get x := fun x => by
    rw [AH.get_set]
    split
    · subst_vars; exact h1.symm
    · rfl
  refine ⟨hz, fun x hx hx0 => (e x).symm.trans (f x hx hx0), O', a, l'.frame (fun x _ _ => (e x).symm) (by simp) (fun _ _ => rfl)⟩
/-- The 3th list is written anew. -/
theorem UnR.slot3 (u : UnR O h q r v1 v2 v3 v4 g1 g2 g3 g4) {z : AV} {i : Nat} {l : List Int} (o : Ow EI h3 i z l) (hi : i = g3.getD h.size ∨ h.size ≤ i) (hz : h.size ≤ h3.size) (f3 : ∀ j, j < h.size → ¬ j = g3.getD h.size → h3.get j = h.get j) :
    h3.get q = some (.cells [v1, v2, v3, v4, .int .i64 r.top]) ∧ (∀ x, x < h.size → O x = 0 → (h3.set q (.cells [v1, v2, z, v4, .int .i64 r.top])).get x = h.get x) ∧ ∃ O' gn, (∀ x, x < h.size → O' x = O x) ∧ UnR O' (h3.set q (.cells [v1, v2, z, v4, .int .i64 r.top])) q { r with c := l } v1 v2 z v4 g1 g2 gn g4 := by
  obtain ⟨p1, p2, p3, p4⟩ := u.gp
  have nb := nb_of f3
  obtain ⟨gn, og, hg⟩ := OwN.of (g := g3) (b := h.size) o hi rfl
  have hO := u.hO
  have hq := u.hq
  have pn : ∀ x, gn = some x → ¬ x = q := fun x hx e => by
    rcases hg with h' | h' | ⟨j, h', hj⟩
    · rw [h'] at hx; cases hx
    · exact p3 x (by rw [← h']; exact hx) e
    · rw [h'] at hx; cases hx; omega
  have x1 : ∀ x, g1 = some x → ¬ g3 = some x := fun x hx e => by have a := u.t1 x hx; have b := u.t3 x e; omega
  have x2 : ∀ x, g2 = some x → ¬ g3 = some x := fun x hx e => by have a := u.t2 x hx; have b := u.t3 x e; omega
  have x4 : ∀ x, g4 = some x → ¬ g3 = some x := fun x hx e => by have a := u.t4 x hx; have b := u.t3 x e; omega
  have sO : ∀ x, x < h.size → (if x < h.size then O x else 4) = O x := fun x hx => if_pos hx
  refine ⟨(nb q hq (fun e => p3 q e rfl)).trans u.hc, fun x hx hx0 => ?_, fun x => if x < h.size then O x else 4, gn, sO, ⟨by rw [AH.get_set, if_pos rfl], by rw [AH.size_set]; omega, (sO q hq).trans hO, u.o1.frame (fun i hi => by rw [AH.get_set, if_neg (p1 i hi), nb i (u.o1.lt hi) (x1 i hi)]) (by rw [AH.size_set]; omega), u.o2.frame (fun i hi => by rw [AH.get_set, if_neg (p2 i hi), nb i (u.o2.lt hi) (x2 i hi)]) (by rw [AH.size_set]; omega), og.frame (fun i hi => by rw [AH.get_set, if_neg (pn i hi)]) (by simp), u.o4.frame (fun i hi => by rw [AH.get_set, if_neg (p4 i hi), nb i (u.o4.lt hi) (x4 i hi)]) (by rw [AH.size_set]; omega), ?_, ?_, ?_, ?_⟩⟩
  · rw [AH.get_set, if_neg (fun e => by rw [e, hO] at hx0; cases hx0), nb x hx (fun e => by have := u.t3 x e; omega)]
  · intro x hx; exact (sO x (u.o1.lt hx)).trans (u.t1 x hx)
  · intro x hx; exact (sO x (u.o2.lt hx)).trans (u.t2 x hx)
  · intro x hx
    rcases hg with h' | h' | ⟨j, h', hj⟩
    · rw [h'] at hx; cases hx
    · rw [h'] at hx; exact (sO x (u.o3.lt hx)).trans (u.t3 x hx)
    · rw [h'] at hx; cases hx; exact if_neg (by omega)
  · intro x hx; exact (sO x (u.o4.lt hx)).trans (u.t4 x hx)
theorem UnR.put3 (u : UnR O h q r v1 v2 v3 v4 g1 g2 g3 g4) {l : List Int} (o : Ow EI h3 (g3.getD h.size) v3 l) (hz : h.size ≤ h3.size) (f3 : ∀ j, ¬ j = g3.getD h.size → h3.get j = h.get j) : StR O h h3 q { r with c := l } := by
  obtain ⟨h1, f, O', gn, a, u'⟩ := u.slot3 o (.inl rfl) hz (fun j _ hj => f3 j hj)
  have l' : ShR O' (h3.set q (.cells [v1, v2, v3, v4, .int .i64 r.top])) q _ := ⟨_, _, _, _, _, _, _, _, u'⟩
  have e : ∀ x, (h3.set q (.cells [v1, v2, v3, v4, .int .i64 r.top])).get x = h3.get x := fun x => by
    rw [AH.get_set]
    split
    · subst_vars; exact h1.symm
    · rfl
  refine ⟨hz, fun x hx hx0 => (e x).symm.trans (f x hx hx0), O', a, l'.frame (fun x _ _ => (e x).symm) (by simp) (fun _ _ => rfl)⟩
/-- The 4th list is written anew. -/
theorem UnR.slot4 (u : UnR O h q r v1 v2 v3 v4 g1 g2 g3 g4) {z : AV} {i : Nat} {l : List Int} (o : Ow EI h3 i z l) (hi : i = g4.getD h.size ∨ h.size ≤ i) (hz : h.size ≤ h3.size) (f3 : ∀ j, j < h.size → ¬ j = g4.getD h.size → h3.get j = h.get j) :
    h3.get q = some (.cells [v1, v2, v3, v4, .int .i64 r.top]) ∧ (∀ x, x < h.size → O x = 0 → (h3.set q (.cells [v1, v2, v3, z, .int .i64 r.top])).get x = h.get x) ∧ ∃ O' gn, (∀ x, x < h.size → O' x = O x) ∧ UnR O' (h3.set q (.cells [v1, v2, v3, z, .int .i64 r.top])) q { r with d := l } v1 v2 v3 z g1 g2 g3 gn := by
  obtain ⟨p1, p2, p3, p4⟩ := u.gp
  have nb := nb_of f3
  obtain ⟨gn, og, hg⟩ := OwN.of (g := g4) (b := h.size) o hi rfl
  have hO := u.hO
  have hq := u.hq
  have pn : ∀ x, gn = some x → ¬ x = q := fun x hx e => by
    rcases hg with h' | h' | ⟨j, h', hj⟩
    · rw [h'] at hx; cases hx
    · exact p4 x (by rw [← h']; exact hx) e
    · rw [h'] at hx; cases hx; omega
  have x1 : ∀ x, g1 = some x → ¬ g4 = some x := fun x hx e => by have a := u.t1 x hx; have b := u.t4 x e; omega
  have x2 : ∀ x, g2 = some x → ¬ g4 = some x := fun x hx e => by have a := u.t2 x hx; have b := u.t4 x e; omega
  have x3 : ∀ x, g3 = some x → ¬ g4 = some x := fun x hx e => by have a := u.t3 x hx; have b := u.t4 x e; omega
  have sO : ∀ x, x < h.size → (if x < h.size then O x else 5) = O x := fun x hx => if_pos hx
  refine ⟨(nb q hq (fun e => p4 q e rfl)).trans u.hc, fun x hx hx0 => ?_, fun x => if x < h.size then O x else 5, gn, sO, ⟨by rw [AH.get_set, if_pos rfl], by rw [AH.size_set]; omega, (sO q hq).trans hO, u.o1.frame (fun i hi => by rw [AH.get_set, if_neg (p1 i hi), nb i (u.o1.lt hi) (x1 i hi)]) (by rw [AH.size_set]; omega), u.o2.frame (fun i hi => by rw [AH.get_set, if_neg (p2 i hi), nb i (u.o2.lt hi) (x2 i hi)]) (by rw [AH.size_set]; omega), u.o3.frame (fun i hi => by rw [AH.get_set, if_neg (p3 i hi), nb i (u.o3.lt hi) (x3 i hi)]) (by rw [AH.size_set]; omega), og.frame (fun i hi => by rw [AH.get_set, if_neg (pn i hi)]) (by simp), ?_, ?_, ?_, ?_⟩⟩
  · rw [AH.get_set, if_neg (fun e => by rw [e, hO] at hx0; cases hx0), nb x hx (fun e => by have := u.t4 x e; omega)]
  · intro x hx; exact (sO x (u.o1.lt hx)).trans (u.t1 x hx)
  · intro x hx; exact (sO x (u.o2.lt hx)).trans (u.t2 x hx)
  · intro x hx; exact (sO x (u.o3.lt hx)).trans (u.t3 x hx)
  · intro x hx
    rcases hg with h' | h' | ⟨j, h', hj⟩
    · rw [h'] at hx; cases hx
    · rw [h'] at hx; exact (sO x (u.o4.lt hx)).trans (u.t4 x hx)
    · rw [h'] at hx; cases hx; exact if_neg (by omega)
theorem UnR.put4 (u : UnR O h q r v1 v2 v3 v4 g1 g2 g3 g4) {l : List Int} (o : Ow EI h3 (g4.getD h.size) v4 l) (hz : h.size ≤ h3.size) (f3 : ∀ j, ¬ j = g4.getD h.size → h3.get j = h.get j) : StR O h h3 q { r with d := l } := by
  obtain ⟨h1, f, O', gn, a, u'⟩ := u.slot4 o (.inl rfl) hz (fun j _ hj => f3 j hj)
  have l' : ShR O' (h3.set q (.cells [v1, v2, v3, v4, .int .i64 r.top])) q _ := ⟨_, _, _, _, _, _, _, _, u'⟩
  have e : ∀ x, (h3.set q (.cells [v1, v2, v3, v4, .int .i64 r.top])).get x = h3.get x := fun x => by
    rw [AH.get_set]
    split
    · subst_vars; exact h1.symm
    · rfl
  refine ⟨hz, fun x hx hx0 => (e x).symm.trans (f x hx hx0), O', a, l'.frame (fun x _ _ => (e x).symm) (by simp) (fun _ _ => rfl)⟩
end mem
/-- The reference's lists of what stands at numbers. -/
def rOf (s : Sh Int) : R4 := ⟨s.l.map (·.1), s.l.map (·.2), s.t.map (·.1), s.t.map (·.2), s.top⟩
def idx (l : List Int) (id : Int) : Option Nat := l.findIdx? fun x => x == id
theorem idx_some {l : List Int} {id : Int} {k : Nat} (h1 : l[k]? = some id) (h3 : ∀ (j : Nat) y, j < k → l[j]? = some y → ¬ y = id) : idx l id = some k := by
  unfold idx
  rw [List.findIdx?_eq_some_iff_getElem]
  obtain ⟨hlt, heq⟩ := List.getElem?_eq_some_iff.1 h1
  refine ⟨hlt, by rw [heq]; simp, fun j hj => ?_⟩
  have := h3 j _ hj (List.getElem?_eq_getElem (by omega))
  simpa using this
theorem idx_none {l : List Int} {id : Int} (h : ∀ (j : Nat) x, l[j]? = some x → ¬ x = id) : idx l id = none := by
  unfold idx
  rw [List.findIdx?_eq_none_iff]
  intro r hr
  obtain ⟨j, hj⟩ := List.getElem?_of_mem hr
  simpa using h j r hj
theorem idx_lt {l : List Int} {id : Int} {k : Nat} (h : idx l id = some k) : k < l.length := by
  unfold idx at h
  rw [List.findIdx?_eq_some_iff_getElem] at h
  exact h.1
theorem idx_map {α : Type} {l : List (Int × α)} {id : Int} : idx (l.map (·.1)) id = fpos l id := fpos_map
def idxV (l : List Int) (id : Int) : Int := match idx l id with | some k => (k : Int) | none => -1
theorem rfresh (O : Nat → Nat) (q : Nat) (r : R4) (id : Int) (h0 : AH) (hl : ShR O h0 q r) :
    callW Try.prog Try.T 43 [.ptr (some (q, 0)), .int .i64 id] h0 fun v h' => v = .int .i64 (freshE r.top id) ∧ h' = h0 := by
  refine callW_hide fun KK hKK => ?_
  obtain ⟨v1, v2, v3, v4, g1, g2, g3, g4, u⟩ := hl
  have hc := u.hc
  refine callW_in (n := 17) (rs := [.tmp 4]) (m := 17) Try.func43 rfl rfl rfl rfl fun tr ht => ?_; have e0 := ht 0 _ rfl; have e1 := ht 1 _ rfl; clear ht
  unfold freshE at hKK
  by_cases c1 : id < 1
  · rw [if_pos (.inl c1)] at hKK
    repeat' (first
      | (with_reducible first | refine q_nn ?_ | refine q_nr ?_ | refine q_ne ?_ | refine q_en ?_ | refine q_er ?_ | refine q_es ?_ | refine q_gn ?_ | refine q_gr ?_ | refine q_ge ?_ | refine c_seq ?_ | refine c_block ?_ | refine c_scope ?_ | refine c_skip ?_ | refine c_label ?_ | refine c_ret ?_ | refine c_exit ?_ | (refine hK _ _ ?_; clear hK K) | refine seg_nil ?_) | ((with_reducible refine q_eo ?_ ?_); exact rfl)
      | ((with_reducible first | refine c_reg fun K hK => ?_ | refine c_drw (by decide +kernel) fun K hK => ?_ | refine c_cond ?_ | refine seg_cons fun K hK => ?_ | show endW _ _ _ _ _ | refine ifb_dec (fun _ => ?_) (fun _ => ?_) | refine ifb_ieq (fun _ => ?_) (fun _ => ?_) | refine ifb_seq (fun _ => ?_) (fun _ => ?_)) <;> try simp (disch := first | (with_unfolding_all first | exact Lk.mk rfl | exact Seen.of rfl) | assumption | (fail_if_success with_reducible first | refine Seen.of ?_ | apply Sl.frame | apply Ow.frame); omega) only [go_sem, Int.reduceEq, Int.reduceLE, Int.reduceLT, Int.reduceNe, Int.reduceNeg, Int.reduceAdd, Int.reduceSub, Int.reduceMul, Int.reduceToNat, Nat.reduceLT, Nat.reduceLeDiff, Nat.reduceEqDiff, Nat.reduceAdd, Nat.reduceSub, Nat.reduceMul, reduceCtorEq, reduceIte, e0, e1, hc]))
    exact hKK _ _ ⟨rfl, rfl⟩
  · by_cases c2 : id > 2147483647
    · rw [if_pos (.inr c2)] at hKK
      repeat' (first
      | (with_reducible first | refine q_nn ?_ | refine q_nr ?_ | refine q_ne ?_ | refine q_en ?_ | refine q_er ?_ | refine q_es ?_ | refine q_gn ?_ | refine q_gr ?_ | refine q_ge ?_ | refine c_seq ?_ | refine c_block ?_ | refine c_scope ?_ | refine c_skip ?_ | refine c_label ?_ | refine c_ret ?_ | refine c_exit ?_ | (refine hK _ _ ?_; clear hK K) | refine seg_nil ?_) | ((with_reducible refine q_eo ?_ ?_); exact rfl)
      | ((with_reducible first | refine c_reg fun K hK => ?_ | refine c_drw (by decide +kernel) fun K hK => ?_ | refine c_cond ?_ | refine seg_cons fun K hK => ?_ | show endW _ _ _ _ _ | refine ifb_dec (fun _ => ?_) (fun _ => ?_) | refine ifb_ieq (fun _ => ?_) (fun _ => ?_) | refine ifb_seq (fun _ => ?_) (fun _ => ?_)) <;> try simp (disch := first | (with_unfolding_all first | exact Lk.mk rfl | exact Seen.of rfl) | assumption | (fail_if_success with_reducible first | refine Seen.of ?_ | apply Sl.frame | apply Ow.frame); omega) only [go_sem, Int.reduceEq, Int.reduceLE, Int.reduceLT, Int.reduceNe, Int.reduceNeg, Int.reduceAdd, Int.reduceSub, Int.reduceMul, Int.reduceToNat, Nat.reduceLT, Nat.reduceLeDiff, Nat.reduceEqDiff, Nat.reduceAdd, Nat.reduceSub, Nat.reduceMul, reduceCtorEq, reduceIte, e0, e1, hc]))
      exact hKK _ _ ⟨rfl, rfl⟩
    · rw [if_neg (by omega)] at hKK
      by_cases c3 : id ≤ r.top
      · rw [if_pos c3] at hKK
        repeat' (first
      | (with_reducible first | refine q_nn ?_ | refine q_nr ?_ | refine q_ne ?_ | refine q_en ?_ | refine q_er ?_ | refine q_es ?_ | refine q_gn ?_ | refine q_gr ?_ | refine q_ge ?_ | refine c_seq ?_ | refine c_block ?_ | refine c_scope ?_ | refine c_skip ?_ | refine c_label ?_ | refine c_ret ?_ | refine c_exit ?_ | (refine hK _ _ ?_; clear hK K) | refine seg_nil ?_) | ((with_reducible refine q_eo ?_ ?_); exact rfl)
      | ((with_reducible first | refine c_reg fun K hK => ?_ | refine c_drw (by decide +kernel) fun K hK => ?_ | refine c_cond ?_ | refine seg_cons fun K hK => ?_ | show endW _ _ _ _ _ | refine ifb_dec (fun _ => ?_) (fun _ => ?_) | refine ifb_ieq (fun _ => ?_) (fun _ => ?_) | refine ifb_seq (fun _ => ?_) (fun _ => ?_)) <;> try simp (disch := first | (with_unfolding_all first | exact Lk.mk rfl | exact Seen.of rfl) | assumption | (fail_if_success with_reducible first | refine Seen.of ?_ | apply Sl.frame | apply Ow.frame); omega) only [go_sem, Int.reduceEq, Int.reduceLE, Int.reduceLT, Int.reduceNe, Int.reduceNeg, Int.reduceAdd, Int.reduceSub, Int.reduceMul, Int.reduceToNat, Nat.reduceLT, Nat.reduceLeDiff, Nat.reduceEqDiff, Nat.reduceAdd, Nat.reduceSub, Nat.reduceMul, reduceCtorEq, reduceIte, e0, e1, hc]))
        exact hKK _ _ ⟨rfl, rfl⟩
      · rw [if_neg c3] at hKK
        repeat' (first
      | (with_reducible first | refine q_nn ?_ | refine q_nr ?_ | refine q_ne ?_ | refine q_en ?_ | refine q_er ?_ | refine q_es ?_ | refine q_gn ?_ | refine q_gr ?_ | refine q_ge ?_ | refine c_seq ?_ | refine c_block ?_ | refine c_scope ?_ | refine c_skip ?_ | refine c_label ?_ | refine c_ret ?_ | refine c_exit ?_ | (refine hK _ _ ?_; clear hK K) | refine seg_nil ?_) | ((with_reducible refine q_eo ?_ ?_); exact rfl)
      | ((with_reducible first | refine c_reg fun K hK => ?_ | refine c_drw (by decide +kernel) fun K hK => ?_ | refine c_cond ?_ | refine seg_cons fun K hK => ?_ | show endW _ _ _ _ _ | refine ifb_dec (fun _ => ?_) (fun _ => ?_) | refine ifb_ieq (fun _ => ?_) (fun _ => ?_) | refine ifb_seq (fun _ => ?_) (fun _ => ?_)) <;> try simp (disch := first | (with_unfolding_all first | exact Lk.mk rfl | exact Seen.of rfl) | assumption | (fail_if_success with_reducible first | refine Seen.of ?_ | apply Sl.frame | apply Ow.frame); omega) only [go_sem, Int.reduceEq, Int.reduceLE, Int.reduceLT, Int.reduceNe, Int.reduceNeg, Int.reduceAdd, Int.reduceSub, Int.reduceMul, Int.reduceToNat, Nat.reduceLT, Nat.reduceLeDiff, Nat.reduceEqDiff, Nat.reduceAdd, Nat.reduceSub, Nat.reduceMul, reduceCtorEq, reduceIte, e0, e1, hc]))
        exact hKK _ _ ⟨rfl, rfl⟩
set_option maxHeartbeats 4000000 in
theorem rplace (a : AV) (i : Nat) (l : List Int) (id : Int) (h0 : AH) (ha : Sl EI h0 i a l) (hl : l.length ≤ 1000000) :
    callW Try.prog Try.T 48 [a, .int .i64 id] h0 fun v h' => v = .int .i64 (idxV l id) ∧ h' = h0 := by
  refine callW_hide fun KK hKK => ?_
  refine callW_in (n := 19) (rs := [.tmp 4]) (m := 19) Try.func48 rfl rfl rfl rfl fun tr ht => ?_; have e0 := ht 0 _ rfl; have e1 := ht 1 _ rfl; clear ht
  repeat' (first
      | (with_reducible first | refine q_nn ?_ | refine q_nr ?_ | refine q_ne ?_ | refine q_en ?_ | refine q_er ?_ | refine q_es ?_ | refine q_gn ?_ | refine q_gr ?_ | refine q_ge ?_ | refine c_seq ?_ | refine c_block ?_ | refine c_scope ?_ | refine c_skip ?_ | refine c_label ?_ | refine c_ret ?_ | refine c_exit ?_ | (refine hK _ _ ?_; clear hK K) | refine seg_nil ?_) | ((with_reducible refine q_eo ?_ ?_); exact rfl)
      | ((with_reducible first | refine c_reg fun K hK => ?_ | refine c_drw (by decide +kernel) fun K hK => ?_ | refine c_cond ?_ | refine seg_cons fun K hK => ?_ | show endW _ _ _ _ _ | refine ifb_dec (fun _ => ?_) (fun _ => ?_) | refine ifb_ieq (fun _ => ?_) (fun _ => ?_) | refine ifb_seq (fun _ => ?_) (fun _ => ?_)) <;> try simp (disch := first | (with_unfolding_all first | exact Lk.mk rfl | exact Seen.of rfl) | assumption | (fail_if_success with_reducible first | refine Seen.of ?_ | apply Sl.frame | apply Ow.frame); omega) only [go_sem, Int.reduceEq, Int.reduceLE, Int.reduceLT, Int.reduceNe, Int.reduceNeg, Int.reduceAdd, Int.reduceSub, Int.reduceMul, Int.reduceToNat, Nat.reduceLT, Nat.reduceLeDiff, Nat.reduceEqDiff, Nat.reduceAdd, Nat.reduceSub, Nat.reduceMul, reduceCtorEq, reduceIte, e0, e1]))
  refine c_loopF 524272 (fun m tm h => ∃ (k : Nat), tm.get 5 = .int .i64 k ∧ k ≤ l.length ∧ (∀ (j : Nat) x, j < k → l[j]? = some x → ¬ x = id) ∧ h = h0 ∧ m = l.length - k) (l.length) (by kernel_rfl) ?_ ?_
  · refine ⟨0, ?_, by omega, fun j x hj => by omega, rfl, rfl⟩
    (first | with_reducible rfl | (simp (disch := first | (with_unfolding_all first | exact Lk.mk rfl | exact Seen.of rfl) | assumption | (fail_if_success with_reducible first | refine Seen.of ?_ | apply Sl.frame | apply Ow.frame); omega) only [go_sem, Int.reduceEq, Int.reduceLE, Int.reduceLT, Int.reduceNe, Int.reduceNeg, Int.reduceAdd, Int.reduceSub, Int.reduceMul, Int.reduceToNat, Nat.reduceLT, Nat.reduceLeDiff, Nat.reduceEqDiff, Nat.reduceAdd, Nat.reduceSub, Nat.reduceMul, reduceCtorEq, reduceIte] <;> first | with_reducible rfl | (congr 1 <;> omega)))
  · rintro m tr2 h2 ho ⟨k, t5, hk, hj, rfl, rfl⟩
    have k0 := ho 0 (Seen.of rfl); simp (disch := first | (with_unfolding_all first | exact Lk.mk rfl | exact Seen.of rfl) | assumption | (fail_if_success with_reducible first | refine Seen.of ?_ | apply Sl.frame | apply Ow.frame); omega) only [go_sem, Int.reduceEq, Int.reduceLE, Int.reduceLT, Int.reduceNe, Int.reduceNeg, Int.reduceAdd, Int.reduceSub, Int.reduceMul, Int.reduceToNat, Nat.reduceLT, Nat.reduceLeDiff, Nat.reduceEqDiff, Nat.reduceAdd, Nat.reduceSub, Nat.reduceMul, reduceCtorEq, reduceIte, e0, e1] at k0; have k1 := ho 1 (Seen.of rfl); simp (disch := first | (with_unfolding_all first | exact Lk.mk rfl | exact Seen.of rfl) | assumption | (fail_if_success with_reducible first | refine Seen.of ?_ | apply Sl.frame | apply Ow.frame); omega) only [go_sem, Int.reduceEq, Int.reduceLE, Int.reduceLT, Int.reduceNe, Int.reduceNeg, Int.reduceAdd, Int.reduceSub, Int.reduceMul, Int.reduceToNat, Nat.reduceLT, Nat.reduceLeDiff, Nat.reduceEqDiff, Nat.reduceAdd, Nat.reduceSub, Nat.reduceMul, reduceCtorEq, reduceIte, e0, e1] at k1
    by_cases hc : k < l.length
    · have hx := bang_some hc
      by_cases he : l[k]! = id
      · repeat' (first
      | (with_reducible first | refine q_nn ?_ | refine q_nr ?_ | refine q_ne ?_ | refine q_en ?_ | refine q_er ?_ | refine q_es ?_ | refine q_gn ?_ | refine q_gr ?_ | refine q_ge ?_ | refine c_seq ?_ | refine c_block ?_ | refine c_scope ?_ | refine c_skip ?_ | refine c_label ?_ | refine c_ret ?_ | refine c_exit ?_ | (refine hK _ _ ?_; clear hK K) | refine seg_nil ?_) | ((with_reducible refine q_eo ?_ ?_); exact rfl)
      | ((with_reducible first | refine c_reg fun K hK => ?_ | refine c_drw (by decide +kernel) fun K hK => ?_ | refine c_cond ?_ | refine seg_cons fun K hK => ?_ | show endW _ _ _ _ _ | refine ifb_dec (fun _ => ?_) (fun _ => ?_) | refine ifb_ieq (fun _ => ?_) (fun _ => ?_) | refine ifb_seq (fun _ => ?_) (fun _ => ?_)) <;> try simp (disch := first | (with_unfolding_all first | exact Lk.mk rfl | exact Seen.of rfl) | assumption | (fail_if_success with_reducible first | refine Seen.of ?_ | apply Sl.frame | apply Ow.frame); omega) only [go_sem, Int.reduceEq, Int.reduceLE, Int.reduceLT, Int.reduceNe, Int.reduceNeg, Int.reduceAdd, Int.reduceSub, Int.reduceMul, Int.reduceToNat, Nat.reduceLT, Nat.reduceLeDiff, Nat.reduceEqDiff, Nat.reduceAdd, Nat.reduceSub, Nat.reduceMul, reduceCtorEq, reduceIte, k0, k1, t5, he]))
        exact hKK _ _ ⟨by unfold idxV; rw [idx_some (by rw [← he]; exact hx) hj], rfl⟩
      · repeat' (first
      | (with_reducible first | refine q_nn ?_ | refine q_nr ?_ | refine q_ne ?_ | refine q_en ?_ | refine q_er ?_ | refine q_es ?_ | refine q_gn ?_ | refine q_gr ?_ | refine q_ge ?_ | refine c_seq ?_ | refine c_block ?_ | refine c_scope ?_ | refine c_skip ?_ | refine c_label ?_ | refine c_ret ?_ | refine c_exit ?_ | (refine hK _ _ ?_; clear hK K) | refine seg_nil ?_) | ((with_reducible refine q_eo ?_ ?_); exact rfl)
      | ((with_reducible first | refine c_reg fun K hK => ?_ | refine c_drw (by decide +kernel) fun K hK => ?_ | refine c_cond ?_ | refine seg_cons fun K hK => ?_ | show endW _ _ _ _ _ | refine ifb_dec (fun _ => ?_) (fun _ => ?_) | refine ifb_ieq (fun _ => ?_) (fun _ => ?_) | refine ifb_seq (fun _ => ?_) (fun _ => ?_)) <;> try simp (disch := first | (with_unfolding_all first | exact Lk.mk rfl | exact Seen.of rfl) | assumption | (fail_if_success with_reducible first | refine Seen.of ?_ | apply Sl.frame | apply Ow.frame); omega) only [go_sem, Int.reduceEq, Int.reduceLE, Int.reduceLT, Int.reduceNe, Int.reduceNeg, Int.reduceAdd, Int.reduceSub, Int.reduceMul, Int.reduceToNat, Nat.reduceLT, Nat.reduceLeDiff, Nat.reduceEqDiff, Nat.reduceAdd, Nat.reduceSub, Nat.reduceMul, reduceCtorEq, reduceIte, k0, k1, t5]))
        try dsimp only
        refine ⟨rfl, l.length - (k + 1), by omega, k + 1, ?_, by omega, fun j x hj2 hxj => ?_, rfl, rfl⟩
        · (first | with_reducible rfl | (simp (disch := first | (with_unfolding_all first | exact Lk.mk rfl | exact Seen.of rfl) | assumption | (fail_if_success with_reducible first | refine Seen.of ?_ | apply Sl.frame | apply Ow.frame); omega) only [go_sem, Int.reduceEq, Int.reduceLE, Int.reduceLT, Int.reduceNe, Int.reduceNeg, Int.reduceAdd, Int.reduceSub, Int.reduceMul, Int.reduceToNat, Nat.reduceLT, Nat.reduceLeDiff, Nat.reduceEqDiff, Nat.reduceAdd, Nat.reduceSub, Nat.reduceMul, reduceCtorEq, reduceIte, t5] <;> first | with_reducible rfl | (congr 1 <;> omega)))
        · by_cases e : j = k
          · subst e; rw [hx] at hxj; cases hxj; exact he
          · exact hj j x (by omega) hxj
    · repeat' (first
      | (with_reducible first | refine q_nn ?_ | refine q_nr ?_ | refine q_ne ?_ | refine q_en ?_ | refine q_er ?_ | refine q_es ?_ | refine q_gn ?_ | refine q_gr ?_ | refine q_ge ?_ | refine c_seq ?_ | refine c_block ?_ | refine c_scope ?_ | refine c_skip ?_ | refine c_label ?_ | refine c_ret ?_ | refine c_exit ?_ | (refine hK _ _ ?_; clear hK K) | refine seg_nil ?_) | ((with_reducible refine q_eo ?_ ?_); exact rfl)
      | ((with_reducible first | refine c_reg fun K hK => ?_ | refine c_drw (by decide +kernel) fun K hK => ?_ | refine c_cond ?_ | refine seg_cons fun K hK => ?_ | show endW _ _ _ _ _ | refine ifb_dec (fun _ => ?_) (fun _ => ?_) | refine ifb_ieq (fun _ => ?_) (fun _ => ?_) | refine ifb_seq (fun _ => ?_) (fun _ => ?_)) <;> try simp (disch := first | (with_unfolding_all first | exact Lk.mk rfl | exact Seen.of rfl) | assumption | (fail_if_success with_reducible first | refine Seen.of ?_ | apply Sl.frame | apply Ow.frame); omega) only [go_sem, Int.reduceEq, Int.reduceLE, Int.reduceLT, Int.reduceNe, Int.reduceNeg, Int.reduceAdd, Int.reduceSub, Int.reduceMul, Int.reduceToNat, Nat.reduceLT, Nat.reduceLeDiff, Nat.reduceEqDiff, Nat.reduceAdd, Nat.reduceSub, Nat.reduceMul, reduceCtorEq, reduceIte, k0, k1, t5]))
      exact hKK _ _ ⟨by unfold idxV; rw [idx_none fun j x hx => hj j x (by have := (List.getElem?_eq_some_iff.1 hx).1; omega) hx], rfl⟩
set_option maxHeartbeats 4000000 in
theorem without (a : AV) (i : Nat) (l : List Int) (k : Nat) (h0 : AH) (ha : Sl EI h0 i a l) (hl : l.length ≤ 1000000) (hk : k < l.length) :
    callW Try.prog Try.T 49 [a, .int .i64 (k : Int)] h0 fun v h' => (∃ j, h0.size ≤ j ∧ Ow EI h' j v (l.eraseIdx k)) ∧ Keeps h0.size h0 h' := by
  refine callW_hide fun KK hKK => ?_
  refine callW_in (n := 16) (rs := [.tmp 4]) (m := 16) Try.func49 rfl rfl rfl rfl fun tr ht => ?_; have e0 := ht 0 _ rfl; have e1 := ht 1 _ rfl; clear ht
  have p1 := ha.part (lo := 0) (hi := (k : Int)) (by omega) (by omega) (by omega)
  have p2 : ∀ h, Sl EI h i a l → _ := fun h (s : Sl EI h i a l) => s.part (lo := (k : Int) + 1) (hi := (l.length : Int)) (by omega) (by omega) (Int.le_refl _)
  repeat' (first
      | (with_reducible first | refine q_nn ?_ | refine q_nr ?_ | refine q_ne ?_ | refine q_en ?_ | refine q_er ?_ | refine q_es ?_ | refine q_gn ?_ | refine q_gr ?_ | refine q_ge ?_ | refine c_seq ?_ | refine c_block ?_ | refine c_scope ?_ | refine c_skip ?_ | refine c_label ?_ | refine c_ret ?_ | refine c_exit ?_ | (refine hK _ _ ?_; clear hK K) | refine seg_nil ?_) | ((with_reducible refine q_eo ?_ ?_); exact rfl)
      | ((with_reducible first | refine c_reg fun K hK => ?_ | refine c_drw (by decide +kernel) fun K hK => ?_ | refine c_cond ?_ | refine seg_cons fun K hK => ?_ | show endW _ _ _ _ _ | refine ifb_dec (fun _ => ?_) (fun _ => ?_) | refine ifb_ieq (fun _ => ?_) (fun _ => ?_) | refine ifb_seq (fun _ => ?_) (fun _ => ?_)) <;> try simp (disch := first | (with_unfolding_all first | exact Lk.mk rfl | exact Seen.of rfl) | assumption | (fail_if_success with_reducible first | refine Seen.of ?_ | apply Sl.frame | apply Ow.frame); omega) only [go_sem, Int.reduceEq, Int.reduceLE, Int.reduceLT, Int.reduceNe, Int.reduceNeg, Int.reduceAdd, Int.reduceSub, Int.reduceMul, Int.reduceToNat, Nat.reduceLT, Nat.reduceLeDiff, Nat.reduceEqDiff, Nat.reduceAdd, Nat.reduceSub, Nat.reduceMul, reduceCtorEq, reduceIte, e0, e1]))
  refine Try.ap23 (i := h0.size) (.nil0 _ _) p1 (by exact .mk) (by simp; omega) fun z1 h1 i1 o1 hi1 hz1 hf1 => ?_
  have k1 : Keeps h0.size h0 h1 := ⟨hz1, fun b hb => hf1 b hb (by omega)⟩
  have s1 := ha.frame (h' := h1) (fun hi => k1.2 i hi) hz1
  refine vI ?_; repeat' (first
      | (with_reducible first | refine q_nn ?_ | refine q_nr ?_ | refine q_ne ?_ | refine q_en ?_ | refine q_er ?_ | refine q_es ?_ | refine q_gn ?_ | refine q_gr ?_ | refine q_ge ?_ | refine c_seq ?_ | refine c_block ?_ | refine c_scope ?_ | refine c_skip ?_ | refine c_label ?_ | refine c_ret ?_ | refine c_exit ?_ | (refine hK _ _ ?_; clear hK K) | refine seg_nil ?_) | ((with_reducible refine q_eo ?_ ?_); exact rfl)
      | ((with_reducible first | refine vO ?_ | refine c_reg fun K hK => ?_ | refine c_drw (by decide +kernel) fun K hK => ?_ | refine c_cond ?_ | refine seg_cons fun K hK => ?_ | show endW _ _ _ _ _ | refine ifb_dec (fun _ => ?_) (fun _ => ?_) | refine ifb_ieq (fun _ => ?_) (fun _ => ?_) | refine ifb_seq (fun _ => ?_) (fun _ => ?_)) <;> try simp (disch := first | (with_unfolding_all first | exact Lk.mk rfl | exact Seen.of rfl) | assumption | (fail_if_success with_reducible first | refine Seen.of ?_ | apply Sl.frame | apply Ow.frame); omega) only [go_sem, Int.reduceEq, Int.reduceLE, Int.reduceLT, Int.reduceNe, Int.reduceNeg, Int.reduceAdd, Int.reduceSub, Int.reduceMul, Int.reduceToNat, Nat.reduceLT, Nat.reduceLeDiff, Nat.reduceEqDiff, Nat.reduceAdd, Nat.reduceSub, Nat.reduceMul, reduceCtorEq, reduceIte, e0, e1]))
  refine Try.ap23 o1 (p2 h1 s1) (by exact .mk) (by simp; omega) fun z2 h2 i2 o2 hi2 hz2 hf2 => ?_
  refine vI ?_; repeat' (first
      | (with_reducible first | refine q_nn ?_ | refine q_nr ?_ | refine q_ne ?_ | refine q_en ?_ | refine q_er ?_ | refine q_es ?_ | refine q_gn ?_ | refine q_gr ?_ | refine q_ge ?_ | refine c_seq ?_ | refine c_block ?_ | refine c_scope ?_ | refine c_skip ?_ | refine c_label ?_ | refine c_ret ?_ | refine c_exit ?_ | (refine hK _ _ ?_; clear hK K) | refine seg_nil ?_) | ((with_reducible refine q_eo ?_ ?_); exact rfl)
      | ((with_reducible first | refine vO ?_ | refine c_reg fun K hK => ?_ | refine c_drw (by decide +kernel) fun K hK => ?_ | refine c_cond ?_ | refine seg_cons fun K hK => ?_ | show endW _ _ _ _ _ | refine ifb_dec (fun _ => ?_) (fun _ => ?_) | refine ifb_ieq (fun _ => ?_) (fun _ => ?_) | refine ifb_seq (fun _ => ?_) (fun _ => ?_)) <;> try simp (disch := first | (with_unfolding_all first | exact Lk.mk rfl | exact Seen.of rfl) | assumption | (fail_if_success with_reducible first | refine Seen.of ?_ | apply Sl.frame | apply Ow.frame); omega) only [go_sem, Int.reduceEq, Int.reduceLE, Int.reduceLT, Int.reduceNe, Int.reduceNeg, Int.reduceAdd, Int.reduceSub, Int.reduceMul, Int.reduceToNat, Nat.reduceLT, Nat.reduceLeDiff, Nat.reduceEqDiff, Nat.reduceAdd, Nat.reduceSub, Nat.reduceMul, reduceCtorEq, reduceIte, e0, e1]))
  refine hKK _ _ ⟨⟨i2, by omega, ?_⟩, ⟨by omega, fun b hb => by rw [hf2 b (by omega) (by omega), k1.2 b hb]⟩⟩
  have e : [] ++ List.take ((k : Int).toNat - (0 : Int).toNat) (List.drop (0 : Int).toNat l) ++ List.take ((l.length : Int).toNat - ((k : Int) + 1).toNat) (List.drop ((k : Int) + 1).toNat l) = l.eraseIdx k := by
    rw [List.eraseIdx_eq_take_drop_succ, List.nil_append, Int.toNat_natCast, Int.toNat_natCast, show ((k : Int) + 1).toNat = k + 1 by omega]
    simp only [Int.toNat_zero, Nat.sub_zero, List.drop_zero]
    rw [List.take_of_length_le (l := List.drop (k + 1) l) (by rw [List.length_drop]; omega)]
  rw [← e]; exact o2
end Go.Proofs.Ytedhjjjheafjeaa
