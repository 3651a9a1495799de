/- How the abstract machine's values and heap stand to the model's. -/
import Derived.Test.YtanbckdhlmhdeaaAbsCode
import Derived.Laws.World
import Derived.Laws.Sem
import Derived.Below
import Derived.RangeFuncRecord
namespace Go.Abs
open Go.RowKit

/-! ### The map -/
section tr
variable {α : Type}
theorem Tr.get_mkL (v : Option α) (c r : Tr α) : Tr.mkL v c r = .node v c r := by cases c <;> rfl
theorem Tr.get_mkR (v : Option α) (l c : Tr α) : Tr.mkR v l c = .node v l c := by cases c <;> rfl
theorem Tr.get_setF_same : ∀ (f : Nat) (t : Tr α) (k : Nat) (x : α), k < f → (t.setF f k x).get k = some x := by
  intro f
  induction f with
  | zero => intro t k x h; omega
  | succ f ih =>
    intro t k x h
    cases t with
    | leaf =>
      cases k with
      | zero => rfl
      | succ k =>
        simp only [Tr.setF, Tr.get_mkL, Tr.get_mkR]
        split <;> simp only [Tr.get, *, if_true, if_false] <;> exact ih _ _ _ (by omega)
    | node v l r =>
      cases k with
      | zero => rfl
      | succ k =>
        simp only [Tr.setF, Tr.get_mkL, Tr.get_mkR]
        split <;> simp only [Tr.get, *, if_true, if_false] <;> exact ih _ _ _ (by omega)
theorem Tr.get_setF_ne : ∀ (f : Nat) (t : Tr α) (k j : Nat) (x : α), j ≠ k → (t.setF f k x).get j = t.get j := by
  intro f
  induction f with
  | zero => intro t k j x _; rfl
  | succ f ih =>
    intro t k j x h
    cases t with
    | leaf =>
      cases k with
      | zero =>
        cases j with
        | zero => exact absurd rfl h
        | succ j => simp only [Tr.setF, Tr.get]; split <;> rfl
      | succ k =>
        simp only [Tr.setF, Tr.get_mkL, Tr.get_mkR]
        cases j with
        | zero => split <;> rfl
        | succ j =>
          split <;> rename_i hk <;> simp only [Tr.get]
          · split
            · rename_i hj; rw [ih _ _ _ _ (by omega)]; rfl
            · rfl
          · split
            · rfl
            · rename_i hj; rw [ih _ _ _ _ (by omega)]; rfl
    | node v l r =>
      cases k with
      | zero =>
        cases j with
        | zero => exact absurd rfl h
        | succ j => simp only [Tr.setF, Tr.get]
      | succ k =>
        simp only [Tr.setF, Tr.get_mkL, Tr.get_mkR]
        cases j with
        | zero => split <;> rfl
        | succ j =>
          split <;> rename_i hk <;> simp only [Tr.get]
          · split
            · rename_i hj; exact ih _ _ _ _ (by omega)
            · rfl
          · split
            · rfl
            · rename_i hj; exact ih _ _ _ _ (by omega)
theorem Tr.get_set (t : Tr α) (k j : Nat) (x : α) : (t.set k x).get j = if j = k then some x else t.get j := by
  unfold Tr.set
  split
  · rename_i h; subst h; exact Tr.get_setF_same _ _ _ _ (Nat.lt_succ_self _)
  · rename_i h; exact Tr.get_setF_ne _ _ _ _ _ h
end tr

theorem Tm.get_set (t : Tm) (k j : Nat) (v : AV) : (t.set k v).get j = if j = k then v else t.get j := by
  unfold Tm.get Tm.set; simp only [Tr.get_set]; split <;> rfl
@[simp] theorem Tm.size_set (t : Tm) (k : Nat) (v : AV) : (t.set k v).size = t.size := rfl
theorem AH.get_set (h : AH) (k j : Nat) (o : AO) : (h.set k o).get j = if j = k then some o else h.get j := by
  unfold AH.get AH.set; simp only [Tr.get_set]
theorem AH.get_push (h : AH) (j : Nat) (o : AO) : (h.push o).get j = if j = h.size then some o else h.get j := by
  unfold AH.get AH.push; simp only [Tr.get_set]
@[simp] theorem AH.size_set (h : AH) (k : Nat) (o : AO) : (h.set k o).size = h.size := rfl
@[simp] theorem AH.size_push (h : AH) (o : AO) : (h.push o).size = h.size + 1 := rfl

/-! ### Values -/
/-- Where an abstract block lies: in the block r, from cell s on; the block has R cells. -/
structure Pl where
  r : Nat
  s : Nat
  R : Nat
abbrev Rho := Nat → Option Pl
def Ext (ρ ρ' : Rho) : Prop := ∀ i p, ρ i = some p → ρ' i = some p
theorem Ext.refl (ρ : Rho) : Ext ρ ρ := fun _ _ h => h
theorem Ext.trans {a b c : Rho} (h : Ext a b) (k : Ext b c) : Ext a c := fun i p hi => k i p (h i p hi)

mutual
inductive VR (w0 : World) (ρ : Rho) : AV → Value → Prop
  | int (k : IntKind) (n : Int) : VR w0 ρ (.int k n) (.int k n)
  | bool (b : Bool) : VR w0 ρ (.bool b) (.bool b)
  | str (s : List UInt8) : VR w0 ρ (.str s) (.string ⟨s.toArray⟩)
  | ptr0 : VR w0 ρ (.ptr none) (.pointer none)
  | ptr (i o : Nat) (p : Pl) (h : ρ i = some p) : VR w0 ρ (.ptr (some (i, o))) (.pointer (some ⟨p.r, p.s + o, none⟩))
  | iptr (row : List AV) (off b s : Nat) (vs : List Value) (h : VRs w0 ρ row vs) (hc : ∀ j v, vs[j]? = some v → w0.cell? ⟨b, s + j, none⟩ = some v) :
      VR w0 ρ (.iptr row off) (.pointer (some ⟨b, s + off, none⟩))
  | slice0 (sz : Nat) (ex : Bool) : VR w0 ρ (.slice none 0 0 sz ex) (.slice none 0 0)
  | sliceE (a : Nat × Nat) (sz : Nat) (ex : Bool) (b : Addr) : VR w0 ρ (.slice (some a) 0 0 sz ex) (.slice (some b) 0 0)
  | slice (i o len cap sz : Nat) (ex : Bool) (p : Pl) (cap' : Nat) (h : ρ i = some p) (h1 : len ≤ cap) (h2 : cap ≤ cap') (h3 : ex = true → cap' = cap) (h4 : p.s + o + cap' * sz ≤ p.R) :
      VR w0 ρ (.slice (some (i, o)) len cap sz ex) (.slice (some ⟨p.r, p.s + o, none⟩) len cap')
  | islice (row : List AV) (off len cap sz b s : Nat) (vs : List Value) (h : VRs w0 ρ row vs) (hc : ∀ j v, vs[j]? = some v → w0.cell? ⟨b, s + j, none⟩ = some v) (h1 : len ≤ cap) :
      VR w0 ρ (.islice row off len cap sz) (.slice (some ⟨b, s + off, none⟩) len cap)
  | isliceE (row : List AV) (off sz : Nat) (b : Addr) : VR w0 ρ (.islice row off 0 0 sz) (.slice (some b) 0 0)
  | func (f : FuncId) (cs : List AV) (vs : List Value) (h : VRs w0 ρ cs vs) : VR w0 ρ (.func f cs) (.func (.func f) #[] vs.toArray)
  | yield (l : Nat) (p : Pl) (h : ρ l = some p) : VR w0 ρ (.yield l) (.func (.yield p.r) #[] #[])
  | nilFunc : VR w0 ρ .nilFunc .nilFunc
  | agg (cs : List AV) (vs : List Value) (h : VRs w0 ρ cs vs) : VR w0 ρ (.agg cs) (.agg vs.toArray)
  | tuple (cs : List AV) (vs : List Value) (h : VRs w0 ρ cs vs) : VR w0 ρ (.tuple cs) (.tuple vs.toArray)
inductive VRs (w0 : World) (ρ : Rho) : List AV → List Value → Prop
  | nil : VRs w0 ρ [] []
  | cons (a : AV) (v : Value) (l : List AV) (vs : List Value) (h : VR w0 ρ a v) (hs : VRs w0 ρ l vs) : VRs w0 ρ (a :: l) (v :: vs)
end

mutual
theorem VR.ext {w0 : World} {ρ ρ' : Rho} (he : Ext ρ ρ') : ∀ {a : AV} {v : Value}, VR w0 ρ a v → VR w0 ρ' a v
  | _, _, .int k n => .int k n
  | _, _, .bool b => .bool b
  | _, _, .str s => .str s
  | _, _, .ptr0 => .ptr0
  | _, _, .ptr i o p h => .ptr i o p (he _ _ h)
  | _, _, .iptr row off b s vs h hc => .iptr row off b s vs (h.ext he) hc
  | _, _, .slice0 sz ex => .slice0 sz ex
  | _, _, .sliceE a sz ex b => .sliceE a sz ex b
  | _, _, .slice i o len cap sz ex p cap' h h1 h2 h3 h4 => .slice i o len cap sz ex p cap' (he _ _ h) h1 h2 h3 h4
  | _, _, .islice row off len cap sz b s vs h hc h1 => .islice row off len cap sz b s vs (h.ext he) hc h1
  | _, _, .isliceE row off sz b => .isliceE row off sz b
  | _, _, .func f cs vs h => .func f cs vs (h.ext he)
  | _, _, .yield l p h => .yield l p (he _ _ h)
  | _, _, .nilFunc => .nilFunc
  | _, _, .agg cs vs h => .agg cs vs (h.ext he)
  | _, _, .tuple cs vs h => .tuple cs vs (h.ext he)
theorem VRs.ext {w0 : World} {ρ ρ' : Rho} (he : Ext ρ ρ') : ∀ {a : List AV} {v : List Value}, VRs w0 ρ a v → VRs w0 ρ' a v
  | _, _, .nil => .nil
  | _, _, .cons a v l vs h hs => .cons a v l vs (h.ext he) (hs.ext he)
end

section vrs
variable {w0 : World} {ρ : Rho}
theorem VRs.length : ∀ {a : List AV} {v : List Value}, VRs w0 ρ a v → a.length = v.length
  | _, _, .nil => rfl
  | _, _, .cons _ _ _ _ _ hs => by simp [hs.length]
theorem VRs.get : ∀ {a : List AV} {v : List Value}, VRs w0 ρ a v → ∀ {j : Nat} {x : AV}, a[j]? = some x → ∃ u, v[j]? = some u ∧ VR w0 ρ x u
  | _, _, .nil, j, x, h => by simp at h
  | _, _, .cons a v l vs h hs, 0, x, hx => by simp at hx; subst hx; exact ⟨v, rfl, h⟩
  | _, _, .cons a v l vs h hs, j + 1, x, hx => by simp at hx; obtain ⟨u, h1, h2⟩ := hs.get hx; exact ⟨u, by simpa using h1, h2⟩
theorem VRs.of_get {a : List AV} {v : List Value} (hl : a.length = v.length) (h : ∀ (j : Nat) (x : AV) (u : Value), a[j]? = some x → v[j]? = some u → VR w0 ρ x u) : VRs w0 ρ a v := by
  induction a generalizing v with
  | nil => cases v with
    | nil => exact .nil
    | cons => simp at hl
  | cons x l ih => cases v with
    | nil => simp at hl
    | cons u vs => exact .cons _ _ _ _ (h 0 x u rfl rfl) (ih (by simpa using hl) fun j y z hy hz => h (j + 1) y z (by simpa using hy) (by simpa using hz))
theorem VRs.append {a b : List AV} {v u : List Value} (h : VRs w0 ρ a v) (k : VRs w0 ρ b u) : VRs w0 ρ (a ++ b) (v ++ u) := by
  induction a generalizing v with
  | nil => cases h; exact k
  | cons x l ih => cases h with | cons _ v _ vs h hs => exact .cons _ _ _ _ h (ih hs)
theorem VRs.take {a : List AV} {v : List Value} (h : VRs w0 ρ a v) (n : Nat) : VRs w0 ρ (a.take n) (v.take n) := by
  induction n generalizing a v with
  | zero => simp; exact .nil
  | succ n ih => cases h with
    | nil => simp; exact .nil
    | cons x u l vs h hs => simp; exact .cons _ _ _ _ h (ih hs)
theorem VRs.drop {a : List AV} {v : List Value} (h : VRs w0 ρ a v) (n : Nat) : VRs w0 ρ (a.drop n) (v.drop n) := by
  induction n generalizing a v with
  | zero => exact h
  | succ n ih => cases h with
    | nil => simp; exact .nil
    | cons x u l vs h hs => simp; exact ih hs
theorem VRs.cut {a : List AV} {v : List Value} (h : VRs w0 ρ a v) {o n : Nat} {c : List AV} (hc : cut a o n = some c) : VRs w0 ρ c ((v.drop o).take n) := by
  unfold Abs.cut at hc
  split at hc
  · simp at hc; subst hc; exact (h.drop o).take n
  · simp at hc
theorem VR.cells {a : AV} {v : Value} (h : VR w0 ρ a v) : VRs w0 ρ a.cells v.cells.toList := by
  cases h <;> simp only [AV.cells, Value.cells] <;> first | assumption | (exact .cons _ _ _ _ (by constructor <;> assumption) .nil)
theorem VR.one {a : AV} {v : Value} (h : VR w0 ρ a v) (ho : a.one = true) : v.oneCell' = true := by
  cases h <;> simp [AV.one] at ho <;> rfl
theorem VRs.one {a : List AV} {v : List Value} (h : VRs w0 ρ a v) (ho : a.all AV.one = true) : ∀ u ∈ v, u.oneCell' = true := by
  induction a generalizing v with
  | nil => cases h; simp
  | cons x l ih => cases h with
    | cons _ u _ vs h hs =>
      simp at ho
      intro y hy
      simp at hy
      rcases hy with rfl | hy
      · exact h.one ho.1
      · exact ih hs (by simpa using ho.2) y hy
end vrs

theorem VR.ofVal1 {w0 : World} {ρ : Rho} {v : Value} {a : AV} (h : AV.ofVal1 v = some a) : VR w0 ρ a v := by
  unfold AV.ofVal1 at h
  split at h <;> simp at h <;> subst h
  · exact .int _ _
  · exact .bool _
  · rename_i s; exact .str s.data.toList
  · exact .ptr0
  · exact .slice0 _ _
  · exact .nilFunc
theorem VRs.ofVals {w0 : World} {ρ : Rho} : ∀ {v : List Value} {a : List AV}, AV.ofVals v = some a → VRs w0 ρ a v
  | [], a, h => by simp [AV.ofVals] at h; subst h; exact .nil
  | v :: r, a, h => by
    simp only [AV.ofVals] at h
    split at h
    · rename_i x l hx hl; simp at h; subst h; exact .cons _ _ _ _ (.ofVal1 hx) (VRs.ofVals hl)
    · simp at h
theorem VR.ofVal {w0 : World} {ρ : Rho} {v : Value} {a : AV} (h : AV.ofVal v = some a) : VR w0 ρ a v := by
  unfold AV.ofVal at h
  split at h
  · rename_i cs; simp at h; obtain ⟨l, hl, rfl⟩ := h; exact (VR.agg _ _ (VRs.ofVals hl))
  · rename_i cs; simp at h; obtain ⟨l, hl, rfl⟩ := h; exact (VR.tuple _ _ (VRs.ofVals hl))
  · exact .ofVal1 h

/-! ### Temporaries -/
def TmR (w0 : World) (ρ : Rho) (tm : Tm) (ts : Array Value) : Prop := tm.size = ts.size ∧ ∀ i, VR w0 ρ (tm.get i) (ts.getD i undef)
def EnvR (w0 : World) (ρ : Rho) (e : Env) (ts : Array Value) : Prop := ∀ i, VR w0 ρ (e i) (ts.getD i undef)
theorem TmR.ext {w0 : World} {ρ ρ' : Rho} {tm : Tm} {ts : Array Value} (h : TmR w0 ρ tm ts) (he : Ext ρ ρ') : TmR w0 ρ' tm ts := ⟨h.1, fun i => (h.2 i).ext he⟩
theorem TmR.set {w0 : World} {ρ : Rho} {tm : Tm} {ts : Array Value} (h : TmR w0 ρ tm ts) {d : Nat} {a : AV} {v : Value} (hd : d < tm.size) (hv : VR w0 ρ a v) : TmR w0 ρ (tm.set d a) (ts.setIfInBounds d v) := by
  refine ⟨by simp [h.1], fun i => ?_⟩
  rw [Tm.get_set]
  have hs := h.1
  by_cases e : i = d
  · subst e
    rw [if_pos rfl]
    simp [Array.getD, hs ▸ hd, hv]
  · rw [if_neg e]
    have := h.2 i
    simp only [Array.getD_eq_getD_getElem?] at this ⊢
    rw [Array.getElem?_setIfInBounds_ne (Ne.symm e)]
    exact this
theorem TmR.put {w0 : World} {ρ : Rho} {tm tm' : Tm} {A : Act} (h : TmR w0 ρ tm A.tmps) {d : Option Nat} {a : AV} {v : Value} (hp : tm.put d a = some tm') (hv : VR w0 ρ a v) : TmR w0 ρ tm' (A.put d v).tmps := by
  cases d with
  | none => simp [Tm.put] at hp; subst hp; exact h
  | some d =>
    simp only [Tm.put] at hp
    split at hp
    · rename_i hd; simp at hp; subst hp; exact h.set hd hv
    · simp at hp
theorem undef_VR {w0 : World} {ρ : Rho} : VR w0 ρ undefA undef := .tuple [] [] .nil

/-! ### Operands -/
theorem ev_VR {w0 : World} {ρ : Rho} {e : Env} {A : Act} (h : EnvR w0 ρ e A.tmps) {x : Operand} {a : AV} (hx : ev e x = some a) : VR w0 ρ a (A.eval x) := by
  cases x with
  | tmp t => simp [ev] at hx; subst hx; exact h t
  | const v => simp [ev] at hx; exact .ofVal hx
  | global g => simp [ev] at hx
  | func f => simp [ev] at hx; subst hx; exact .func f [] [] .nil
theorem evs_VR {w0 : World} {ρ : Rho} {e : Env} {A : Act} (h : EnvR w0 ρ e A.tmps) : ∀ {xs : List Operand} {as : List AV}, evs e xs = some as → VRs w0 ρ as (xs.map A.eval)
  | [], as, hx => by simp [evs] at hx; subst hx; exact .nil
  | x :: r, as, hx => by
    simp only [evs] at hx
    split at hx
    · rename_i a l ha hl; simp at hx; subst hx; exact .cons _ _ _ _ (ev_VR h ha) (evs_VR h hl)
    · simp at hx

/-! ### The heap -/
def noFreeze (fz : Nat × Nat) (R : Nat) : Prop := fz.1 ≤ fz.2 ∧ ∀ off, off < R → ¬(fz.1 ≤ off ∧ off < fz.2)
inductive OR (w0 : World) (ρ : Rho) (w : World) : AO → Option Pl → Prop
  | cells (cs : List AV) (p : Pl) (hB : w0.heap.size ≤ p.r) (c : Array Value) (T : TypeId) (fz : Nat × Nat) (hb : w.heap[p.r]? = some (.cells c T fz)) (hR : c.size = p.R) (hs : p.s + cs.length ≤ p.R)
      (hf : noFreeze fz p.R) (hv : VRs w0 ρ cs ((c.toList.drop p.s).take cs.length)) (h1 : cs.all AV.one = true) : OR w0 ρ w (.cells cs) (some p)
  | loop (st : LoopState) (pending : Option Code) (tm : Tm) (ps : List Nat) (assign body : Code) (p : Pl) (hB : w0.heap.size ≤ p.r) (L : Loop) (hb : w.heap[p.r]? = some (.loop L))
      (h1 : L.state = st) (h2 : L.pending = pending) (h3 : TmR w0 ρ tm L.tmps) (h4 : L.params = ps.toArray) (h5 : L.assign = assign) (h6 : L.body = body) : OR w0 ρ w (.loop st pending tm ps assign body) (some p)
  | defs (t : Bool) (p : Pl) (hB : w0.heap.size ≤ p.r) (hb : w.heap[p.r]? = some (.deferred (if t then none else some []))) : OR w0 ρ w (.defs t) (some p)
  | dead (x : Option Pl) : OR w0 ρ w .dead x
def AO.live : AO → Bool
  | .dead => false
  | _ => true
structure WR (w0 : World) (ρ : Rho) (h : AH) (w : World) : Prop where
  below : Below w0.heap.size w0 w
  fresh : ∀ i, h.size ≤ i → ρ i = none ∧ h.get i = none
  obj : ∀ i o, h.get i = some o → OR w0 ρ w o (ρ i)
  inj : ∀ i j o o' p q, h.get i = some o → h.get j = some o' → o.live = true → o'.live = true → ρ i = some p → ρ j = some q → p.r = q.r → i = j

theorem OR.ext {w0 : World} {ρ ρ' : Rho} {w : World} {o : AO} {p : Option Pl} (h : OR w0 ρ w o p) (he : Ext ρ ρ') : OR w0 ρ' w o p := by
  cases h with
  | cells cs p hB c T fz hb hR hs hf hv h1 => exact .cells cs p hB c T fz hb hR hs hf (hv.ext he) h1
  | loop st pe tm ps as bo p hB L hb h1 h2 h3 h4 h5 h6 => exact .loop st pe tm ps as bo p hB L hb h1 h2 (h3.ext he) h4 h5 h6
  | defs t p hB hb => exact .defs t p hB hb
  | dead => exact .dead _
/-- What lies in another block stays. -/
theorem OR.world {w0 : World} {ρ : Rho} {w w' : World} {o : AO} {p : Option Pl} (h : OR w0 ρ w o p) (hw : ∀ q, p = some q → o.live = true → w'.heap[q.r]? = w.heap[q.r]?) : OR w0 ρ w' o p := by
  cases h with
  | cells cs p hB c T fz hb hR hs hf hv h1 => exact .cells cs p hB c T fz ((hw p rfl rfl).trans hb) hR hs hf hv h1
  | loop st pe tm ps as bo p hB L hb h1 h2 h3 h4 h5 h6 => exact .loop st pe tm ps as bo p hB L ((hw p rfl rfl).trans hb) h1 h2 h3 h4 h5 h6
  | defs t p hB hb => exact .defs t p hB ((hw p rfl rfl).trans hb)
  | dead => exact .dead _
theorem OR.lt {w0 : World} {ρ : Rho} {w : World} {o : AO} {p : Pl} (h : OR w0 ρ w o (some p)) (hl : o.live = true) : p.r < w.heap.size ∧ w0.heap.size ≤ p.r := by
  cases h with
  | cells cs p hB c T fz hb hR hs hf hv h1 => exact ⟨(Array.getElem?_eq_some_iff.1 hb).1, hB⟩
  | loop st pe tm ps as bo p hB L hb h1 h2 h3 h4 h5 h6 => exact ⟨(Array.getElem?_eq_some_iff.1 hb).1, hB⟩
  | defs t p hB hb => exact ⟨(Array.getElem?_eq_some_iff.1 hb).1, hB⟩
  | dead => simp [AO.live] at hl
theorem OR.some {w0 : World} {ρ : Rho} {w : World} {o : AO} {x : Option Pl} (h : OR w0 ρ w o x) (hl : o.live = true) : ∃ p, x = some p := by
  cases h with
  | dead => simp [AO.live] at hl
  | _ => exact ⟨_, rfl⟩

/-- The map with one more place. -/
def Rho.add (ρ : Rho) (i : Nat) (p : Pl) : Rho := fun j => if j = i then some p else ρ j
theorem Rho.ext_add {ρ : Rho} {i : Nat} {p : Pl} (h : ρ i = none) : Ext ρ (ρ.add i p) := fun j q hj => by
  unfold Rho.add
  split
  · rename_i e; subst e; rw [h] at hj; cases hj
  · exact hj
theorem Rho.add_same (ρ : Rho) (i : Nat) (p : Pl) : ρ.add i p i = some p := by simp [Rho.add]

theorem WR.lt {w0 : World} {ρ : Rho} {h : AH} {w : World} (H : WR w0 ρ h w) {i : Nat} {o : AO} (hi : h.get i = some o) : i < h.size := by
  rcases Nat.lt_or_ge i h.size with h1 | h1
  · exact h1
  · rw [(H.fresh i h1).2] at hi; cases hi

/-- **A NEW BLOCK.** -/
theorem WR.push {w0 : World} {ρ : Rho} {h : AH} {w : World} (H : WR w0 ρ h w) (o : AO) (b : Obj) (R : Nat)
    (ho : OR w0 (ρ.add h.size ⟨w.heap.size, 0, R⟩) (w.alloc b) o (some ⟨w.heap.size, 0, R⟩)) :
    WR w0 (ρ.add h.size ⟨w.heap.size, 0, R⟩) (h.push o) (w.alloc b) ∧ Ext ρ (ρ.add h.size ⟨w.heap.size, 0, R⟩) := by
  have hx : Ext ρ (ρ.add h.size ⟨w.heap.size, 0, R⟩) := Rho.ext_add (H.fresh _ (Nat.le_refl _)).1
  refine ⟨⟨H.below.alloc H.below.size b, ?_, ?_, ?_⟩, hx⟩
  · intro i hi
    simp at hi
    have := H.fresh i (by omega)
    rw [AH.get_push, if_neg (by omega)]
    exact ⟨by unfold Rho.add; rw [if_neg (by omega)]; exact this.1, this.2⟩
  · intro i o' hi
    rw [AH.get_push] at hi
    split at hi
    · rename_i e
      cases hi
      subst e
      rw [Rho.add_same]
      exact ho
    · rename_i e
      have := H.obj i o' hi
      have e2 : ρ.add h.size ⟨w.heap.size, 0, R⟩ i = ρ i := by unfold Rho.add; rw [if_neg e]
      rw [e2]
      refine (this.ext hx).world fun q hq hl => ?_
      rw [hq] at this
      exact Below.heap_alloc _ _ _ (this.lt hl).1
  · intro i j o1 o2 p q hi hj l1 l2 hp hq e
    rw [AH.get_push] at hi hj
    have key : ∀ i o p, h.get i = some o → o.live = true → i ≠ h.size → ρ.add h.size ⟨w.heap.size, 0, R⟩ i = some p → ρ i = some p ∧ p.r < w.heap.size := by
      intro i o p hi hl hne hp
      unfold Rho.add at hp
      rw [if_neg hne] at hp
      have := H.obj i o hi
      rw [hp] at this
      exact ⟨hp, (this.lt hl).1⟩
    split at hi <;> split at hj
    · omega
    · rename_i e1 e2
      have := key j o2 q hj l2 e2 hq
      rw [e1, Rho.add_same] at hp
      cases hp
      simp at e
      omega
    · rename_i e1 e2
      have := key i o1 p hi l1 e1 hp
      rw [e2, Rho.add_same] at hq
      cases hq
      simp at e
      omega
    · rename_i e1 e2
      exact H.inj i j o1 o2 p q hi hj l1 l2 (key i o1 p hi l1 e1 hp).1 (key j o2 q hj l2 e2 hq).1 e

/-- **A LIVE BLOCK IS WRITTEN**: the world turns in its block alone. -/
theorem WR.set {w0 : World} {ρ : Rho} {h : AH} {w w' : World} (H : WR w0 ρ h w) {i : Nat} {o o' : AO} {p : Pl} (hi : h.get i = some o) (hl : o.live = true) (hp : ρ i = some p) (hb : Below p.r w w')
    (hw : ∀ k, k ≠ p.r → w'.heap[k]? = w.heap[k]?) (ho : OR w0 ρ w' o' (some p)) : WR w0 ρ (h.set i o') w' := by
  have hlt := (hp ▸ H.obj i o hi).lt hl
  refine ⟨H.below.trans (hb.mono hlt.2), ?_, ?_, ?_⟩
  · intro j hj
    have hi' := H.lt hi
    have := H.fresh j (by simpa using hj)
    simp at hj
    rw [AH.get_set, if_neg (by omega)]
    exact this
  · intro j o2 hj
    rw [AH.get_set] at hj
    split at hj
    · rename_i e; cases hj; subst e; rw [hp]; exact ho
    · rename_i e
      refine (H.obj j o2 hj).world fun q hq hl2 => hw _ fun er => e (H.inj j i o2 o q p hj hi hl2 hl hq hp er)
  · intro j k o1 o2 q1 q2 hj hk l1 l2 hq1 hq2 e
    rw [AH.get_set] at hj hk
    split at hj <;> split at hk
    · omega
    · rename_i e1 e2; subst e1; exact H.inj _ _ o o2 q1 q2 hi hk hl l2 hq1 hq2 e
    · rename_i e1 e2; subst e2; exact H.inj _ _ o1 o q1 q2 hj hi l1 hl hq1 hq2 e
    · exact H.inj _ _ o1 o2 q1 q2 hj hk l1 l2 hq1 hq2 e
/-- A block is looked at no more. -/
theorem WR.kill {w0 : World} {ρ : Rho} {h : AH} {w : World} (H : WR w0 ρ h w) {i : Nat} (hi : i < h.size) : WR w0 ρ (h.set i .dead) w := by
  refine ⟨H.below, ?_, ?_, ?_⟩
  · intro j hj
    have := H.fresh j (by simpa using hj)
    simp at hj
    rw [AH.get_set, if_neg (by omega)]
    exact this
  · intro j o2 hj
    rw [AH.get_set] at hj
    split at hj
    · cases hj; exact .dead _
    · exact H.obj j o2 hj
  · intro j k o1 o2 q1 q2 hj hk l1 l2 hq1 hq2 e
    rw [AH.get_set] at hj hk
    split at hj
    · cases hj; simp [AO.live] at l1
    · split at hk
      · cases hk; simp [AO.live] at l2
      · exact H.inj _ _ o1 o2 q1 q2 hj hk l1 l2 hq1 hq2 e
theorem WR.drew {w0 : World} {ρ : Rho} {h : AH} {w : World} (H : WR w0 ρ h w) : WR w0 ρ h w.drew :=
  ⟨H.below.drew, H.fresh, fun i o hi => (H.obj i o hi).world fun _ _ _ => rfl, H.inj⟩

end Go.Abs
