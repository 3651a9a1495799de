/- What the model's small operations come to, in the words of the abstract machine: types, reads and writes of a row of cells. -/
import Derived.Test.YtanbckdhlmhdeaaAbsRel
import Derived.Laws.Append
import Derived.Laws.Cells
namespace Go.Abs
open Go.RowKit

def tdOf : TypeDesc → TD
  | .int k => .int k
  | .bool => .bool
  | .string => .string
  | .pointer e => .pointer e
  | .slice e => .slice e
  | .array n e => .array n e
  | .struct fs => .struct (fs.toList.map fun f => (f.type, f.offset, f.name != "_"))
  | .func _ _ _ => .func
  | .tuple _ => .tuple
  | _ => .bad
def TOk1 (P : Program) (t : TypeId) (ti : TI) : Prop :=
  ∃ i d z, P.info? t = some i ∧ P.underlying t = some d ∧ tdOf d = ti.desc ∧ i.size = ti.size ∧ i.bytes = ti.bytes ∧ i.zero = some z ∧ AV.ofVals z.cells.toList = some ti.zero ∧ ti.zero.all AV.one = true ∧
    (ti.eqOk = true → P.eqGuardType P.depth t = false ∧ P.stoodInHeld t = false)
def TOk (P : Program) (T : Tys) : Prop := ∀ t, (T t).desc ≠ .bad → TOk1 P t (T t)
def FOk (P : Program) : Prop := ∀ (f : FuncId) (fn : Func), P.funcs[f]? = some fn → (fn.name == "runtime.NumGoroutine") = false

section runs
variable {P : Program} {T : Tys} {w : World}
theorem run_und {t : TypeId} {d : TypeDesc} (h : P.underlying t = some d) : (underlying t).run P w = .ok d w := by
  simp [underlying, h]
theorem run_ti {t : TypeId} {i : TypeInfo} (h : P.info? t = some i) : (typeInfo t).run P w = .ok i w := by
  simp [typeInfo, h]
theorem run_size {t : TypeId} {i : TypeInfo} (h : P.info? t = some i) : (sizeOf t).run P w = .ok i.size w := by
  simp [sizeOf, run_ti h]
theorem run_zero {t : TypeId} {i : TypeInfo} {z : Value} (h : P.info? t = some i) (hz : i.zero = some z) : (zeroValue t).run P w = .ok z w := by
  simp [zeroValue, run_ti h, hz]
theorem isAgg_of {d : TypeDesc} {x : TD} (h : tdOf d = x) (hb : x ≠ .bad) : (match d with | .struct _ => true | .array _ _ => true | _ => false) = x.isAgg := by
  subst h
  cases d <;> simp [tdOf, TD.isAgg] at hb ⊢
theorem run_isAgg {t : TypeId} {d : TypeDesc} (h : P.underlying t = some d) (hb : tdOf d ≠ .bad) : (isAgg t).run P w = .ok (tdOf d).isAgg w := by
  have := isAgg_of (d := d) rfl hb
  simp only [isAgg, Sem.run_bind, run_und h, Result.andThen_ok]
  rw [← this]
  cases d <;> rfl
end runs

/-! ### A row of cells, read and written -/
theorem run_loadCells_row {P : Program} {w : World} {b o : Nat} {vs : List Value} (h : ∀ j v, vs[j]? = some v → w.cell? ⟨b, o + j, none⟩ = some v) :
    (loadCells ⟨b, o, none⟩ vs.length).run P w = .ok vs.toArray w := by
  have := run_loadCells_list (P := P) (w := w) ⟨b, o, none⟩ vs fun j v hj => by
    have := h j v hj
    unfold Addr.add
    split
    · rename_i e; subst e; simpa using this
    · exact this
  exact this
theorem add_none (b o n : Nat) : (⟨b, o, none⟩ : Addr).add n = ⟨b, o + n, none⟩ := by
  unfold Addr.add
  split
  · rename_i e; subst e; rfl
  · rfl
/-- A list with new values laid over it from place o on. -/
def overV (c : List Value) (o : Nat) (new : List Value) : List Value := c.take o ++ new ++ c.drop (o + new.length)
theorem overV_length {c : List Value} {o : Nat} {new : List Value} (h : o + new.length ≤ c.length) : (overV c o new).length = c.length := by
  simp [overV]; omega
theorem putObj_setCell {w : World} {r : Nat} {c : Array Value} {T : TypeId} {fz : Nat × Nat} (hb : w.heap[r]? = some (.cells c T fz)) (o : Nat) (v : Value) :
    w.setCell ⟨r, o, none⟩ v = w.putObj r (.cells (c.setIfInBounds o v) T fz) := by
  unfold World.setCell World.putObj
  congr 1
  apply Array.ext_getElem?
  intro i
  obtain ⟨hlt, hget⟩ := Array.getElem?_eq_some_iff.1 hb
  rw [Array.getElem?_modify]
  by_cases e : r = i
  · subst e
    simp [hlt, hget]
  · rw [if_neg e, Array.getElem?_setIfInBounds_ne e]
theorem putObj_putObj {w : World} {r : Nat} (o o' : Obj) : (w.putObj r o).putObj r o' = w.putObj r o' := by
  unfold World.putObj
  congr 1
  simp
theorem cell_row {w : World} {r : Nat} {c : Array Value} {T : TypeId} {fz : Nat × Nat} (hb : w.heap[r]? = some (.cells c T fz)) (o : Nat) : w.cell? ⟨r, o, none⟩ = c[o]? := by
  simp [World.cell?, hb]
theorem frozen_row {w : World} {r : Nat} {c : Array Value} {T : TypeId} {fz : Nat × Nat} (hb : w.heap[r]? = some (.cells c T fz)) (o : Nat) : w.frozen? ⟨r, o, none⟩ = (fz.1 ≤ o && o < fz.2) := by
  simp [World.frozen?, hb]
theorem run_storeCells_row {P : Program} {r o : Nat} {T : TypeId} {fz : Nat × Nat} : ∀ (vs : List Value) (i : Nat) (c : Array Value) (w : World), w.heap[r]? = some (.cells c T fz) → o + i + vs.length ≤ c.size → noFreeze fz c.size →
    (∀ v ∈ vs, v.oneCell' = true) → (storeCells ⟨r, o, none⟩ vs i).run P w = .ok () (w.putObj r (.cells (overV c.toList (o + i) vs).toArray T fz)) := by
  intro vs
  induction vs with
  | nil =>
    intro i c w hb _ _ _
    have e : (overV c.toList (o + i) []).toArray = c := by simp [overV]
    rw [e]
    simp only [storeCells, Sem.run_pure]
    congr 1
    unfold World.putObj
    cases w
    congr 1
    apply Array.ext_getElem?
    intro k
    by_cases ek : r = k
    · subst ek
      simp only at hb
      rw [hb, Array.getElem?_setIfInBounds_self, if_pos (Array.getElem?_eq_some_iff.1 hb).1]
    · rw [Array.getElem?_setIfInBounds_ne ek]
  | cons v vs ih =>
    intro i c w hb hlen hf h1
    simp at hlen
    have hlt : o + i < c.size := by omega
    have hcell : w.cell? ⟨r, o + i, none⟩ = some c[o + i] := by rw [cell_row hb]; simp [hlt]
    have hfro : w.frozen? ⟨r, o + i, none⟩ = false := by
      rw [frozen_row hb]
      have := hf.2 (o + i) hlt
      simp only [Bool.and_eq_false_iff, decide_eq_false_iff_not]
      omega
    have hst : (store ((⟨r, o, none⟩ : Addr).add i) v).run P w = .ok () (w.putObj r (.cells (c.setIfInBounds (o + i) v) T fz)) := by
      rw [add_none, run_store P w _ v _ (h1 v (by simp)), hcell]
      simp [hfro, putObj_setCell hb]
    have hr : r < w.heap.size := (Array.getElem?_eq_some_iff.1 hb).1
    have h2 := ih (i + 1) (c.setIfInBounds (o + i) v) (w.putObj r (.cells (c.setIfInBounds (o + i) v) T fz)) (World.putObj_heap_same hr) (by simp; omega) (by simpa using hf) (fun x hx => h1 x (by simp [hx]))
    simp only [storeCells, Sem.run_bind, hst, Result.andThen_ok, h2, putObj_putObj]
    congr 3
    have e : overV (c.toList.set (o + i) v) (o + (i + 1)) vs = overV c.toList (o + i) (v :: vs) := by
      unfold overV
      rw [show o + (i + 1) = o + i + 1 by omega, List.take_set, List.drop_set, if_pos (by omega)]
      have hl : o + i < c.toList.length := by simpa using hlt
      rw [List.take_succ_eq_append_getElem hl, List.set_append_right _ _ (by simp; omega), show o + i + 1 + vs.length = o + i + (vs.length + 1) by omega]
      simp [Nat.min_eq_left (Nat.le_of_lt hlt)]
    simpa using e
end Go.Abs
namespace Go.Abs
open Go.RowKit
section heap
variable {P : Program} {T : Tys} {w0 w : World} {ρ : Rho} {h h' : AH}

theorem noFreeze_00 (R : Nat) : noFreeze (0, 0) R := ⟨Nat.le_refl _, fun off _ hh => by simp at hh⟩
theorem WR.cellsAt (H : WR w0 ρ h w) {i : Nat} {cs : List AV} (hi : h.get i = some (.cells cs)) : ∃ p c T fz, ρ i = some p ∧ w0.heap.size ≤ p.r ∧ w.heap[p.r]? = some (.cells c T fz) ∧ c.size = p.R ∧ p.s + cs.length ≤ p.R ∧ noFreeze fz p.R ∧
    VRs w0 ρ cs ((c.toList.drop p.s).take cs.length) ∧ cs.all AV.one = true := by
  have := H.obj i _ hi
  generalize hx : ρ i = x at this
  cases this with
  | cells cs p hB c T fz hb hR hs hf hv h1 => exact ⟨p, c, T, fz, rfl, hB, hb, hR, hs, hf, hv, h1⟩
theorem WR.read (H : WR w0 ρ h w) {i o n : Nat} {cs : List AV} (hr : h.read i o n = some cs) {p : Pl} (hp : ρ i = some p) :
    ∃ us, VRs w0 ρ cs us ∧ us.length = n ∧ (∀ j v, us[j]? = some v → w.cell? ⟨p.r, p.s + o + j, none⟩ = some v) ∧ cs.all AV.one = true := by
  unfold AH.read at hr
  split at hr
  · rename_i all hi
    obtain ⟨p', c, T, fz, hp', hB, hb, hR, hs, hf, hv, h1⟩ := H.cellsAt hi
    rw [hp] at hp'; cases hp'
    have hc := hr
    unfold cut at hc
    split at hc
    · rename_i hle
      simp at hc
      refine ⟨_, hv.cut hr, ?_, ?_, ?_⟩
      · simp; omega
      · intro j v hj
        rw [cell_row hb]
        simp only [List.getElem?_take, List.getElem?_drop] at hj
        split at hj
        · rename_i hjn
          split at hj
          · rw [← hj]; simp [Nat.add_assoc]
          · simp at hj
        · simp at hj
      · subst hc
        rw [List.all_eq_true] at h1 ⊢
        intro x hx
        exact h1 x (List.mem_of_mem_drop (List.mem_of_mem_take hx))
    · simp at hc
  · simp at hr
theorem over_length {cs new : List AV} {o : Nat} (h : o + new.length ≤ cs.length) : (over cs o new).length = cs.length := by
  simp [over]; omega
theorem VRs.over {cs new : List AV} {vs us : List Value} (h : VRs w0 ρ cs vs) (k : VRs w0 ρ new us) (o : Nat) : VRs w0 ρ (Abs.over cs o new) (overV vs o us) := by
  unfold Abs.over overV
  rw [k.length]
  exact ((h.take o).append k).append (h.drop _)
theorem overV_get {c us : List Value} {o : Nat} (h : o + us.length ≤ c.length) (k : Nat) : (overV c o us)[k]? = if k < o then c[k]? else if k < o + us.length then us[k - o]? else c[k]? := by
  unfold overV
  have ho : (List.take o c).length = o := by simp; omega
  rw [List.append_assoc]
  by_cases h1 : k < o
  · rw [if_pos h1, List.getElem?_append_left (by omega), List.getElem?_take, if_pos h1]
  · rw [if_neg h1, List.getElem?_append_right (by omega), ho]
    by_cases h2 : k < o + us.length
    · rw [if_pos h2, List.getElem?_append_left (by omega)]
    · rw [if_neg h2, List.getElem?_append_right (by omega), List.getElem?_drop]
      congr 1; omega
theorem overV_mid {c us : List Value} {s o n : Nat} (hn : o + us.length ≤ n) (hc : s + n ≤ c.length) : ((overV c (s + o) us).drop s).take n = overV ((c.drop s).take n) o us := by
  apply List.ext_getElem?
  intro k
  rw [List.getElem?_take, List.getElem?_drop, overV_get (by omega), overV_get (by simp; omega)]
  by_cases hk : k < n
  · rw [if_pos hk]
    by_cases h1 : k < o
    · rw [if_pos (by omega), if_pos h1, List.getElem?_take, if_pos hk, List.getElem?_drop]
    · rw [if_neg (by omega), if_neg h1]
      by_cases h2 : k < o + us.length
      · rw [if_pos (by omega), if_pos h2]; congr 1; omega
      · rw [if_neg (by omega), if_neg h2, List.getElem?_take, if_pos hk, List.getElem?_drop]
  · rw [if_neg hk, if_neg (by omega), if_neg (by omega), List.getElem?_take, if_neg hk]
theorem all_over {cs new : List AV} {o : Nat} (h : cs.all AV.one = true) (k : new.all AV.one = true) : (over cs o new).all AV.one = true := by
  rw [List.all_eq_true] at *
  intro x hx
  simp [over] at hx
  rcases hx with hx | hx | hx
  · exact h x (List.mem_of_mem_take hx)
  · exact k x hx
  · exact h x (List.mem_of_mem_drop hx)
theorem putObj_below {w : World} {r : Nat} (o : Obj) : Below r w (w.putObj r o) :=
  ⟨rfl, rfl, rfl, by simp, fun k hk => World.putObj_heap_other (by omega)⟩
/-- A block that is marked behind its end. -/
theorem WR.refreeze (H : WR w0 ρ h w) {i : Nat} {cs : List AV} (hi : h.get i = some (.cells cs)) {p : Pl} {c : Array Value} {T : TypeId} {fz fz' : Nat × Nat} (hp : ρ i = some p) (hB : w0.heap.size ≤ p.r) (hb : w.heap[p.r]? = some (.cells c T fz)) (hR : c.size = p.R) (hs : p.s + cs.length ≤ p.R)
    (hv : VRs w0 ρ cs ((c.toList.drop p.s).take cs.length)) (h1 : cs.all AV.one = true) (hf : noFreeze fz' p.R) : WR w0 ρ h (w.putObj p.r (.cells c T fz')) := by
  refine ⟨H.below.trans ((putObj_below _).mono hB), H.fresh, ?_, H.inj⟩
  intro j o hj
  by_cases e : j = i
  · subst e
    rw [hi] at hj
    cases hj
    rw [hp]
    exact .cells cs p hB c T fz' (World.putObj_heap_same (Array.getElem?_eq_some_iff.1 hb).1) hR hs hf hv h1
  · exact (H.obj j o hj).world fun q hq hl => World.putObj_heap_other fun er => e (H.inj j i _ _ q p hj hi hl rfl hq hp er)
theorem WR.write (H : WR w0 ρ h w) {i o : Nat} {new : List AV} (hw : h.write i o new = some h') {p : Pl} (hp : ρ i = some p) {us : List Value} (hv : VRs w0 ρ new us) (h1 : new.all AV.one = true) :
    ∃ w', (storeCells ⟨p.r, p.s + o, none⟩ us).run P w = .ok () w' ∧ WR w0 ρ h' w' := by
  unfold AH.write at hw
  split at hw
  · rename_i cs hi
    split at hw
    · rename_i hle
      simp at hw
      obtain ⟨p', c, T, fz, hp', hB, hb, hR, hs, hf, hvs, hone⟩ := H.cellsAt hi
      rw [hp] at hp'; cases hp'
      have hl := hv.length
      have hrun := run_storeCells_row (P := P) (r := p.r) (o := p.s + o) (T := T) (fz := fz) us 0 c w hb (by omega) (by rw [hR]; exact hf) (hv.one h1)
      refine ⟨_, hrun, ?_⟩
      subst hw
      have hlt : p.r < w.heap.size := (Array.getElem?_eq_some_iff.1 hb).1
      refine H.set hi rfl hp (putObj_below _) (fun k hk => World.putObj_heap_other hk) ?_
      refine .cells _ _ hB _ T fz (World.putObj_heap_same hlt) ?_ ?_ hf ?_ (all_over hone h1)
      · simp only [List.size_toArray]
        rw [overV_length (by simp; omega)]
        simpa using hR
      · rw [over_length hle]; exact hs
      · rw [over_length hle]
        simp only [Nat.add_zero]
        rw [overV_mid (by omega) (by simp; omega)]
        exact hvs.over hv o
    · simp at hw
  · simp at hw
theorem WR.pushCells (H : WR w0 ρ h w) {cs : List AV} {vs : List Value} (hv : VRs w0 ρ cs vs) (h1 : cs.all AV.one = true) (more : List Value) (e : TypeId) (fz : Nat × Nat) (hf : noFreeze fz (vs.length + more.length)) :
    ∃ ρ', Ext ρ ρ' ∧ ρ' h.size = some ⟨w.heap.size, 0, vs.length + more.length⟩ ∧ WR w0 ρ' (h.push (.cells cs)) (w.alloc (.cells (vs ++ more).toArray e fz)) := by
  refine ⟨_, Rho.ext_add (H.fresh _ (Nat.le_refl _)).1, Rho.add_same _ _ _, (H.push _ _ (vs.length + more.length) ?_).1⟩
  have hl := hv.length
  refine .cells _ _ H.below.size _ e fz (World.alloc_heap_new _ _) (by simp) (by simp; omega) hf ?_ h1
  simp only [List.drop_zero, hl, List.take_left]
  exact hv.ext (Rho.ext_add (H.fresh _ (Nat.le_refl _)).1)
/-- Memory that came in reads as it did. -/
theorem WR.old (H : WR w0 ρ h w) {a : Addr} {v : Value} (hc : w0.cell? a = some v) : w.cell? a = some v :=
  (H.below.cell (World.block_lt_of_cell? w0 a hc)).trans hc
theorem WR.oldRow (H : WR w0 ρ h w) {b s o n : Nat} {row cs : List AV} {vs : List Value} (hv : VRs w0 ρ row vs) (hc : ∀ j v, vs[j]? = some v → w0.cell? ⟨b, s + j, none⟩ = some v) (hcut : cut row o n = some cs) :
    ∃ us, VRs w0 ρ cs us ∧ us.length = n ∧ ∀ j v, us[j]? = some v → w.cell? ⟨b, s + o + j, none⟩ = some v := by
  have hk := hcut
  unfold cut at hk
  split at hk
  · rename_i hle
    have hl := hv.length
    refine ⟨_, hv.cut hcut, by simp; omega, ?_⟩
    intro j v hj
    simp only [List.getElem?_take, List.getElem?_drop] at hj
    split at hj
    · exact H.old (by have := hc (o + j) v hj; rwa [Nat.add_assoc])
    · simp at hj
  · simp at hk
end heap
end Go.Abs
