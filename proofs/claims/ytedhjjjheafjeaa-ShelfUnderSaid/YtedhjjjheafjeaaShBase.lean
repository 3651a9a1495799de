/- shelf: what stands at numbers, as plain data, and how it lies in memory. -/
import Derived.Test.YtedhjjjheafjeaaAbsReadB
import Derived.Test.YtedhjjjheafjeaaAbsFshelf
import Derived.Test.YtedhjjjheafjeaaProg
set_option linter.unusedSimpArgs false
set_option linter.unusedVariables false
namespace Go.Proofs.Ytedhjjjheafjeaa
open Go.Abs
set_option maxRecDepth 100000
theorem bang_some {α : Type} [Inhabited α] {l : List α} {k : Nat} (h : k < l.length) : l[k]? = some (l[k]!) := by rw [getElem!_pos l k h]; exact List.getElem?_eq_getElem h
def LI : Enc (Int × Int) := ⟨2, fun x => [.int .i64 x.1, .int .i64 x.2], by decide, fun _ => rfl, fun _ => rfl⟩
def LS : Enc (Int × List UInt8) := ⟨2, fun x => [.int .i64 x.1, .str x.2], by decide, fun _ => rfl, fun _ => rfl⟩
def LB : Enc (Int × Bool) := ⟨2, fun x => [.int .i64 x.1, .bool x.2], by decide, fun _ => rfl, fun _ => rfl⟩
theorem LIf {a b : Int} : LI.f (a, b) = [.int .i64 a, .int .i64 b] := rfl
theorem LSf {a : Int} {b : List UInt8} : LS.f (a, b) = [.int .i64 a, .str b] := rfl
theorem LBf {a : Int} {b : Bool} : LB.f (a, b) = [.int .i64 a, .bool b] := rfl
/-- A slice of one's own, or none. -/
inductive OwN {α : Type} (E : Enc α) (h : AH) : Option Nat → AV → List α → Prop
  | nil (ex : Bool) (z : Nat) : OwN E h none (.slice none 0 0 z ex) []
  | own (i : Nat) (v : AV) (l : List α) (o : Ow E h i v l) (hs : i < h.size) : OwN E h (some i) v l
section own
variable {α : Type} {E : Enc α} {h h' : AH} {g : Option Nat} {v : AV} {l : List α}
theorem OwN.ow (o : OwN E h g v l) : Ow E h (g.getD h.size) v l := by
  cases o with
  | nil ex z => exact .nil0 ex z
  | own i v l o hs => exact o
theorem OwN.sl (o : OwN E h g v l) : Sl E h (g.getD h.size) v l := o.ow.sl
theorem OwN.one (o : OwN E h g v l) : v.one = true := o.ow.one
theorem OwN.cells (o : OwN E h g v l) : v.cells = [v] := o.ow.cells
theorem OwN.lt (o : OwN E h g v l) {i : Nat} (hi : g = some i) : i < h.size := by
  cases o with
  | nil ex z => cases hi
  | own i v l o hs => cases hi; exact hs
theorem OwN.frame (o : OwN E h g v l) (hf : ∀ i, g = some i → h'.get i = h.get i) (hz : h.size ≤ h'.size) : OwN E h' g v l := by
  cases o with
  | nil ex z => exact .nil ex z
  | own i v l o hs => exact .own i v l (o.frame (fun _ => hf i rfl) hz) (by omega)
/-- A slice that was made of an own one. -/
theorem OwN.of {i i' b : Nat} (o : Ow E h i' v l) (hi : i' = i ∨ b ≤ i') (hg : g.getD b = i) : ∃ g', OwN E h g' v l ∧ (g' = none ∨ g' = g ∨ ∃ j, g' = some j ∧ b ≤ j) := by
  cases o with
  | nil0 ex z => exact ⟨none, .nil ex z, .inl rfl⟩
  | blk n cap ex l junk q hs hn hc hj =>
    refine ⟨some i', .own _ _ _ (.blk n cap ex l junk q hs hn hc hj) hs, ?_⟩
    rcases hi with rfl | hi
    · cases g with
      | none => simp at hg; exact .inr (.inr ⟨_, rfl, by omega⟩)
      | some j => simp at hg; subst hg; exact .inr (.inl rfl)
    · exact .inr (.inr ⟨_, rfl, hi⟩)
end own
/-- What stands at numbers: the live ones, the tombs, the greatest number. -/
structure Sh (α : Type) where
  l : List (Int × α)
  t : List (Int × Int)
  top : Int
/-- The code's shelf in memory. -/
def ShC {α : Type} (E : Enc (Int × α)) (O : Nat → Nat) (h : AH) (p : Nat) (s : Sh α) : Prop := ∃ v1 v2 g1 g2, h.get p = some (.cells [v1, v2, .int .i64 s.top]) ∧ p < h.size ∧ O p = 1 ∧ OwN E h g1 v1 s.l ∧ OwN LI h g2 v2 s.t ∧ (∀ x, g1 = some x → O x = 2) ∧ (∀ x, g2 = some x → O x = 3)
def O1 (O : Nat → Nat) (h0 : AH) : Nat → Nat := fun x => if x < h0.size then O x else 0
section mem
variable {α : Type} {E : Enc (Int × α)} {O O' : Nat → Nat} {h h' h0 h1 : AH} {p : Nat} {s s' : Sh α}
theorem ShC.frame (hl : ShC E O h p s) (hf : ∀ x, x < h.size → ¬ O x = 0 → h'.get x = h.get x) (hz : h.size ≤ h'.size) (ho : ∀ x, x < h.size → O' x = O x) : ShC E O' h' p s := by
  obtain ⟨v1, v2, g1, g2, hc, hp, hO, o1, o2, t1, t2⟩ := hl
  exact ⟨v1, v2, g1, g2, (hf p hp (by omega)).trans hc, by omega, (ho p hp).trans hO, o1.frame (fun i hi => hf i (o1.lt hi) (by rw [t1 i hi]; omega)) hz, o2.frame (fun i hi => hf i (o2.lt hi) (by rw [t2 i hi]; omega)) hz, fun x hx => by rw [ho x (o1.lt hx)]; exact t1 x hx, fun x hx => by rw [ho x (o2.lt hx)]; exact t2 x hx⟩
theorem ShC.after (hl : ShC E O h0 p s) (k : Keeps h0.size h0 h1) : ShC E (O1 O h0) h1 p s := hl.frame (fun x hx _ => k.2 x hx) k.1 (fun x hx => if_pos hx)
/-- What a step of the shelf may change: what is not its own stays. -/
def StC (E : Enc (Int × α)) (O : Nat → Nat) (h0 h' : AH) (p : Nat) (s : Sh α) : Prop := h0.size ≤ h'.size ∧ (∀ x, x < h0.size → O x = 0 → h'.get x = h0.get x) ∧ ∃ O' : Nat → Nat, (∀ x, x < h0.size → O' x = O x) ∧ ShC E O' h' p s
theorem stKeep (hl : ShC E O h0 p s) (k : Keeps h0.size h0 h') : StC E O h0 h' p s :=
  ⟨k.1, fun x hx _ => k.2 x hx, O, fun _ _ => rfl, hl.frame (fun x hx _ => k.2 x hx) k.1 (fun _ _ => rfl)⟩
theorem StC.after (k : Keeps h0.size h0 h1) (st : StC E (O1 O h0) h1 h' p s) : StC E O h0 h' p s := by
  obtain ⟨z, f, O', a1, a2⟩ := st
  refine ⟨by have := k.1; omega, fun x hx hx0 => ?_, O', fun x hx => ?_, a2⟩
  · rw [f x (by have := k.1; omega) (by unfold O1; rw [if_pos hx]; exact hx0), k.2 x hx]
  · rw [a1 x (by have := k.1; omega)]; unfold O1; rw [if_pos hx]
/-- One step behind another. -/
theorem StC.trans (st : StC E O h0 h1 p s) (st2 : ∀ O1, ShC E O1 h1 p s → (∀ x, x < h0.size → O1 x = O x) → StC E O1 h1 h' p s') : StC E O h0 h' p s' := by
  obtain ⟨z, f, Oa, a1, a2⟩ := st
  obtain ⟨z2, f2, Ob, b1, b2⟩ := st2 Oa a2 a1
  exact ⟨by omega, fun x hx hx0 => by rw [f2 x (by omega) (by rw [a1 x hx]; exact hx0), f x hx hx0], Ob, fun x hx => by rw [b1 x (by omega), a1 x hx], b2⟩
/-- The shelf as it is made: new cells, one of the slices written anew. -/
theorem mkC {w1 w2 : AV} {g1 g2 k1 k2 : Option Nat} (hp : p < h0.size) (hO : O p = 1) (t1 : ∀ x, g1 = some x → x < h0.size ∧ O x = 2) (t2 : ∀ x, g2 = some x → x < h0.size ∧ O x = 3) (hz : h0.size ≤ h'.size) (hc : h'.get p = some (.cells [w1, w2, .int .i64 s'.top]))
    (o1 : OwN E h' k1 w1 s'.l) (o2 : OwN LI h' k2 w2 s'.t) (i : Nat) (c1 : k1 = none ∨ k1 = g1 ∨ ∃ j, k1 = some j ∧ h0.size ≤ j ∧ i = 2) (c2 : k2 = none ∨ k2 = g2 ∨ ∃ j, k2 = some j ∧ h0.size ≤ j ∧ i = 3)
    (hf : ∀ x, x < h0.size → ¬ x = p → ¬ g1 = some x → ¬ g2 = some x → h'.get x = h0.get x) : StC E O h0 h' p s' := by
  refine ⟨hz, fun x hx h0x => hf x hx (fun e => by rw [e, hO] at h0x; cases h0x) (fun e => by rw [(t1 x e).2] at h0x; cases h0x) (fun e => by rw [(t2 x e).2] at h0x; cases h0x), fun x => if x < h0.size then O x else i, fun x hx => if_pos hx, w1, w2, k1, k2, hc, by omega, by simp only; rw [if_pos hp]; exact hO, o1, o2, fun x hx => ?_, fun x hx => ?_⟩
  · rcases c1 with e | e | ⟨j, e, a, b⟩
    · rw [e] at hx; cases hx
    · rw [e] at hx; obtain ⟨a, b⟩ := t1 x hx; simp only; rw [if_pos a, b]
    · rw [e] at hx; cases hx; simp only; rw [if_neg (by omega), b]
  · rcases c2 with e | e | ⟨j, e, a, b⟩
    · rw [e] at hx; cases hx
    · rw [e] at hx; obtain ⟨a, b⟩ := t2 x hx; simp only; rw [if_pos a, b]
    · rw [e] at hx; cases hx; simp only; rw [if_neg (by omega), b]
end mem
/-! Numbers -/
section num
variable {α : Type}
def Sorted (l : List (Int × α)) : Prop := (l.map (·.1)).Pairwise (· < ·)
def Pos (l : List (Int × α)) (id : Int) (i : Nat) : Prop := i ≤ l.length ∧ (∀ (j : Nat) x, j < i → l[j]? = some x → x.1 < id) ∧ ∀ (j : Nat) x, i ≤ j → l[j]? = some x → id ≤ x.1
def hit (l : List (Int × α)) (id : Int) (i : Nat) : Bool := match l[i]? with | some x => decide (x.1 = id) | none => false
def fpos (l : List (Int × α)) (id : Int) : Option Nat := l.findIdx? fun x => x.1 == id
theorem Sorted.lt {l : List (Int × α)} (hs : Sorted l) {j k : Nat} {x y : Int × α} (hx : l[j]? = some x) (hy : l[k]? = some y) (h : j < k) : x.1 < y.1 := by
  unfold Sorted at hs
  rw [List.pairwise_iff_getElem] at hs
  obtain ⟨a, rfl⟩ := List.getElem?_eq_some_iff.1 hx
  obtain ⟨b, rfl⟩ := List.getElem?_eq_some_iff.1 hy
  have := hs j k (by simpa using a) (by simpa using b) h
  simpa using this
theorem fpos_some {l : List (Int × α)} {id : Int} {k : Nat} {x : Int × α} (h1 : l[k]? = some x) (h2 : x.1 = id) (h3 : ∀ (j : Nat) y, j < k → l[j]? = some y → ¬ y.1 = id) : fpos l id = some k := by
  unfold fpos
  rw [List.findIdx?_eq_some_iff_getElem]
  obtain ⟨hlt, heq⟩ := List.getElem?_eq_some_iff.1 h1
  refine ⟨hlt, by rw [heq]; simpa using h2, fun j hj => ?_⟩
  have := h3 j _ hj (List.getElem?_eq_getElem (by omega))
  simpa using this
theorem fpos_none {l : List (Int × α)} {id : Int} (h : ∀ (j : Nat) x, l[j]? = some x → ¬ x.1 = id) : fpos l id = none := by
  unfold fpos
  rw [List.findIdx?_eq_none_iff]
  intro r hr
  obtain ⟨j, hj⟩ := List.getElem?_of_mem hr
  simpa using h j r hj
theorem fpos_get {l : List (Int × α)} {id : Int} {k : Nat} (h : fpos l id = some k) : ∃ x, l[k]? = some x ∧ x.1 = id ∧ k < l.length := by
  unfold fpos at h
  rw [List.findIdx?_eq_some_iff_getElem] at h
  obtain ⟨hk, h1, _⟩ := h
  exact ⟨l[k], List.getElem?_eq_getElem hk, by simpa using h1, hk⟩
theorem fpos_no {l : List (Int × α)} {id : Int} (h : fpos l id = none) {j : Nat} {x : Int × α} (hx : l[j]? = some x) : ¬ x.1 = id := by
  unfold fpos at h
  rw [List.findIdx?_eq_none_iff] at h
  intro e
  simpa [e] using h x (List.mem_of_getElem? hx)
theorem fpos_map {l : List (Int × α)} {id : Int} : (l.map (·.1)).findIdx? (fun x => x == id) = fpos l id := by
  unfold fpos
  rw [List.findIdx?_map]; rfl
theorem Pos.fpos {l : List (Int × α)} {id : Int} {i : Nat} (hp : Pos l id i) (hs : Sorted l) : fpos l id = if hit l id i = true then some i else none := by
  obtain ⟨h1, h2, h3⟩ := hp
  unfold hit
  cases hi : l[i]? with
  | none =>
    simp only [Bool.false_eq_true, if_false]
    refine fpos_none fun j x hx e => ?_
    have hl : l.length ≤ i := List.getElem?_eq_none_iff.1 hi
    have := h2 j x (by have := (List.getElem?_eq_some_iff.1 hx).1; omega) hx
    omega
  | some y =>
    simp only [decide_eq_true_eq]
    by_cases hy : y.1 = id
    · rw [if_pos hy]
      exact fpos_some hi hy fun j x hj hx e => by have := h2 j x hj hx; omega
    · rw [if_neg hy]
      refine fpos_none fun j x hx e => ?_
      rcases Nat.lt_trichotomy j i with h | h | h
      · have := h2 j x h hx; omega
      · subst h; rw [hi] at hx; cases hx; exact hy e
      · have a := h3 i y (Nat.le_refl _) hi
        have b := hs.lt hi hx h
        omega
end num
/-! What the doings do -/
section ops
variable {α : Type}
def freshE (top id : Int) : Int := if id < 1 ∨ id > 2147483647 then 1 else if id ≤ top then 8 else 0
def mayB (why : Int) : Bool := decide (1 ≤ why) && decide (why ≤ 3)
def buryT (t : List (Int × Int)) (id why : Int) : List (Int × Int) := (t ++ [(id, why)]).drop ((t ++ [(id, why)]).length - 16)
def openS (s : Sh α) (id : Int) (v : α) : Sh α := if freshE s.top id = 0 then { s with l := s.l ++ [(id, v)], top := id } else s
def skipE (s : Sh α) (id why : Int) : Int := if mayB why = true then freshE s.top id else 1
def skipS (s : Sh α) (id why : Int) : Sh α := if skipE s id why = 0 then { s with t := buryT s.t id why, top := id } else s
def setE (s : Sh α) (id : Int) : Int := match fpos s.l id with | some _ => 0 | none => 13
def setS (s : Sh α) (id : Int) (v : α) : Sh α := match fpos s.l id with | some k => { s with l := s.l.set k (id, v) } | none => s
def closeE (s : Sh α) (id why : Int) : Int := if mayB why = true then (match fpos s.l id with | some _ => 0 | none => 13) else 1
def closeS (s : Sh α) (id why : Int) : Sh α := if mayB why = true then (match fpos s.l id with | some k => { s with l := s.l.eraseIdx k, t := buryT s.t id why } | none => s) else s
def turnE (s : Sh α) (id why : Int) : Int := if mayB why = true then (match fpos s.t id with | some _ => 0 | none => 13) else 1
def turnS (s : Sh α) (id why : Int) : Sh α := if mayB why = true then (match fpos s.t id with | some k => { s with t := s.t.set k (id, why) } | none => s) else s
def whereS (s : Sh α) (id : Int) : Int × Int := if id < 1 ∨ id > s.top then (0, 0) else match fpos s.l id with
  | some _ => (1, 0)
  | none => match fpos s.t id with
    | some k => (2, (s.t[k]!).2)
    | none => (3, 0)
/-- The state is in order. -/
structure ShOk (s : Sh α) (n : Nat) : Prop where
  so : Sorted s.l
  lo : ∀ x ∈ s.l, 1 ≤ x.1 ∧ x.1 ≤ s.top
  tb : ∀ x ∈ s.t, 1 ≤ x.1 ∧ x.1 ≤ s.top
  tl : s.t.length ≤ 16
  tp : 0 ≤ s.top ∧ s.top ≤ 2147483647
  ln : s.l.length ≤ n
end ops
end Go.Proofs.Ytedhjjjheafjeaa
