/- Further operations as equations, and slices as typed lists. -/
import Derived.Test.YtanbckdhlmhdeaaAbsAuto
set_option linter.unusedSimpArgs false
set_option linter.unusedVariables false
namespace Go.Abs
section ops
variable {P : Program} {T : Tys} {ρ : Env} {d : Option Nat} {ty : TypeId} {pos : String} {aft : Array Edge} {g : Option (Nat × Bool)} {h : AH}
def alR (T : Tys) (h : AH) (e : TypeId) : Option OpR := match (T e).desc with | .bad => none | _ => some (.val (.ptr (some (h.size, 0))) (h.push (.cells (T e).zero)))
theorem op_alloc {e : TypeId} : evalOp T ρ ⟨d, .alloc e, ty, pos, aft, g⟩ h = alR T h e := rfl
theorem alR_ok {e : TypeId} (ho : Seen (okT T e)) : alR T h e = some (.val (.ptr (some (h.size, 0))) (h.push (.cells (T e).zero))) := by
  have := okT_ne ho.eq
  unfold alR; split
  · contradiction
  · rfl
def boxR (h : AH) (x : Option AV) : Option OpR := match x with | some a => if a.cells.all AV.one then some (.val (.ptr (some (h.size, 0))) (h.push (.cells a.cells))) else none | none => none
theorem op_box {t : TypeId} {x : Operand} : evalOp T ρ ⟨d, .box t x, ty, pos, aft, g⟩ h = boxR h (ev ρ x) := by
  simp only [evalOp, boxR]
  cases ev ρ x <;> rfl
def bcR (h : AH) (cs : List AV) (c : Bool) : Option OpR := if c then some (.val (.ptr (some (h.size, 0))) (h.push (.cells cs))) else none
theorem boxR_some {a : AV} : boxR h (some a) = bcR h a.cells (a.cells.all AV.one) := rfl
theorem bcR_t {cs : List AV} : bcR h cs true = some (.val (.ptr (some (h.size, 0))) (h.push (.cells cs))) := rfl
def bldR (T : Tys) (t : TypeId) (l : Option (List (Nat × AV))) : Option AV := match (T t).desc, l with
  | .struct fs, some l => if !(fs.all fun f => okT T f.1) then none else (fillA (fun i => (fs[i]?).map fun f => (f.2.1, (T f.1).size)) (T t).zero l).map .agg
  | _, _ => none
theorem op_build {t : TypeId} {ps : List (Nat × Operand)} : evalOp T ρ ⟨d, .build t ps.toArray, ty, pos, aft, g⟩ h = valR h (bldR T t (evParts ρ ps)) := by
  simp only [evalOp, bldR, valR]
  split <;> simp_all
  split <;> simp_all
def ncR (x : Option AV) : Option AV := match x with
  | some (.ptr (some a)) => some (.ptr (some a))
  | some (.iptr r o) => some (.iptr r o)
  | some (.func f c) => some (.func f c)
  | some (.yield l) => some (.yield l)
  | _ => none
theorem op_nilCheck {x : Operand} : evalOp T ρ ⟨d, .nilCheck x, ty, pos, aft, g⟩ h = valR h (ncR (ev ρ x)) := by
  simp only [evalOp, ncR, valR]
  cases ev ρ x with
  | none => rfl
  | some a => cases a <;> try rfl
              rename_i p; cases p <;> rfl
theorem nc_ptr {a : Nat × Nat} : ncR (some (.ptr (some a))) = some (.ptr (some a)) := rfl
theorem nc_iptr {r : List AV} {o : Nat} : ncR (some (.iptr r o)) = some (.iptr r o) := rfl
theorem nc_func {f : FuncId} {c : List AV} : ncR (some (.func f c)) = some (.func f c) := rfl
theorem nc_yield {l : Nat} : ncR (some (.yield l)) = some (.yield l) := rfl
def mfR (f : FuncId) (first : Array Operand) (l : Option (List AV)) : Option AV := if first.size = 0 then l.map (.func f) else none
theorem op_makeFunc {f : FuncId} {first : Array Operand} {cap : List Operand} : evalOp T ρ ⟨d, .makeFunc (.func f) first cap.toArray, ty, pos, aft, g⟩ h = valR h (mfR f first (evs ρ cap)) := by
  simp only [evalOp, mfR, valR]
  split <;> simp_all
theorem mfR_some {f : FuncId} {l : List AV} : mfR f #[] (some l) = some (.func f l) := rfl
def msR (T : Tys) (h : AH) (t : TypeId) (l c : Option AV) : Option OpR := match (T t).desc, l, c with
  | .slice e, some (.int _ n), some (.int _ m) =>
      if okT T e = true ∧ 0 ≤ n ∧ n ≤ m ∧ m ≤ 9223372036854775807 ∧ (T e).bytes * m ≤ 281474976710656 ∧ (T e).zero.length = (T e).size then
        some (.val (.slice (some (h.size, 0)) n.toNat m.toNat (T e).size true) (h.push (.cells (rep (T e).zero m.toNat))))
      else none
  | _, _, _ => none
theorem op_makeSlice {t : TypeId} {l c : Operand} : evalOp T ρ ⟨d, .makeSlice t l c, ty, pos, aft, g⟩ h = msR T h t (ev ρ l) (ev ρ c) := rfl
/-! Fields -/
def fldR (T : Tys) (t : TypeId) (f : Nat) (x : Option AV) : Option AV := match (T t).desc, x with
  | .struct fs, some (.agg cs) => match fs[f]? with
    | some (ft, off, _) => partA T ft cs off
    | none => none
  | _, _ => none
theorem op_field {t : TypeId} {x : Operand} {f : Nat} : evalOp T ρ ⟨d, .field t x f, ty, pos, aft, g⟩ h = valR h (fldR T t f (ev ρ x)) := by
  simp only [evalOp, fldR, valR]
  cases (T t).desc <;> try rfl
  cases ev ρ x with
  | none => rfl
  | some a => cases a <;> try rfl
              rename_i fs cs
              dsimp only
              cases fs[f]? <;> rfl
def faR (T : Tys) (s : TypeId) (f : Nat) (x : Option AV) : Option AV := match (T s).desc, x with
  | .struct fs, some p => match fs[f]? with
    | some (ft, off, _) =>
      if (T ft).size = 0 then none else
      match (T ft).desc with
      | .bad => none
      | _ => match p with
        | .ptr (some (i, o)) => some (.ptr (some (i, o + off)))
        | .iptr row o => some (.iptr row (o + off))
        | _ => none
    | none => none
  | _, _ => none
theorem op_fieldAddr {s : TypeId} {x : Operand} {f : Nat} : evalOp T ρ ⟨d, .fieldAddr s x f, ty, pos, aft, g⟩ h = valR h (faR T s f (ev ρ x)) := by
  simp only [evalOp, faR, valR]
  cases (T s).desc <;> try rfl
  cases ev ρ x with
  | none => rfl
  | some a =>
    rename_i fs
    dsimp only
    cases fs[f]? with
    | none => rfl
    | some q =>
      obtain ⟨ft, off, c⟩ := q
      dsimp only
      split
      · rfl
      · cases (T ft).desc <;> try rfl
        all_goals (cases a <;> try rfl)
        all_goals (rename_i p; cases p <;> rfl)
/-- What a field's number means: type, offset. -/
def fieldAt (T : Tys) (s f : Nat) : Option (Nat × Nat) := match (T s).desc with
  | .struct fs => (fs[f]?).map fun q => (q.1, q.2.1)
  | _ => none
theorem fa_ptr {s : TypeId} {f ft off i o : Nat} (h1 : fieldAt T s f = some (ft, off)) (h2 : (T ft).size ≠ 0) (h3 : okT T ft = true) : faR T s f (some (.ptr (some (i, o)))) = some (.ptr (some (i, o + off))) := by
  have := okT_ne h3
  unfold fieldAt at h1
  unfold faR
  split at h1
  · rename_i fs hd
    obtain ⟨q, hq, he⟩ := Option.map_eq_some_iff.1 h1
    obtain ⟨a, b, c⟩ := q
    simp at he
    obtain ⟨rfl, rfl⟩ := he
    simp only [hd, hq, if_neg h2]
  · simp at h1
theorem fa_iptr {s : TypeId} {f ft off o : Nat} {row : List AV} (h1 : fieldAt T s f = some (ft, off)) (h2 : (T ft).size ≠ 0) (h3 : okT T ft = true) : faR T s f (some (.iptr row o)) = some (.iptr row (o + off)) := by
  have := okT_ne h3
  unfold fieldAt at h1
  unfold faR
  split at h1
  · rename_i fs hd
    obtain ⟨q, hq, he⟩ := Option.map_eq_some_iff.1 h1
    obtain ⟨a, b, c⟩ := q
    simp at he
    obtain ⟨rfl, rfl⟩ := he
    simp only [hd, hq, if_neg h2]
  · simp at h1
theorem fld_1 {t : TypeId} {f ft off : Nat} {cs : List AV} (h1 : fieldAt T t f = some (ft, off)) (h3 : okT T ft = true) (h4 : (T ft).desc.isAgg = false) : fldR T t f (some (.agg cs)) = cs[off]? := by
  have := okT_ne h3
  unfold fieldAt at h1
  unfold fldR
  split at h1
  · rename_i fs hd
    obtain ⟨q, hq, he⟩ := Option.map_eq_some_iff.1 h1
    obtain ⟨a, b, c⟩ := q
    simp at he
    obtain ⟨rfl, rfl⟩ := he
    simp only [hd, hq, partA]
    simp [h4]
  · simp at h1
theorem fld_n {t : TypeId} {f ft off n : Nat} {cs : List AV} (h1 : fieldAt T t f = some (ft, off)) (h3 : okT T ft = true) (h4 : (T ft).desc.isAgg = true) (hn : (T ft).size = n) : fldR T t f (some (.agg cs)) = (cut cs off n).map .agg := by
  have := okT_ne h3
  unfold fieldAt at h1
  unfold fldR
  subst hn
  split at h1
  · rename_i fs hd
    obtain ⟨q, hq, he⟩ := Option.map_eq_some_iff.1 h1
    obtain ⟨a, b, c⟩ := q
    simp at he
    obtain ⟨rfl, rfl⟩ := he
    simp only [hd, hq, partA]
    simp [h4]
  · simp at h1
/-! Texts -/
def ixR (T : Tys) (t : TypeId) (x ix : Option AV) : Option AV := match (T t).desc, x, ix with
  | .string, some (.str s), some (.int _ n) => if 0 ≤ n then (s[n.toNat]?).map fun b => .int .u8 b.toNat else none
  | .array len e, some (.agg cs), some (.int _ n) => if okT T e = true ∧ 0 ≤ n ∧ n < len then partA T e cs (n.toNat * (T e).size) else none
  | _, _, _ => none
theorem op_index {t : TypeId} {x ix : Operand} : evalOp T ρ ⟨d, .index t x ix, ty, pos, aft, g⟩ h = valR h (ixR T t (ev ρ x) (ev ρ ix)) := by
  simp only [evalOp, ixR, valR]
  cases (T t).desc <;> try rfl
  · cases ev ρ x with
    | none => rfl
    | some a => cases a <;> try rfl
                cases ev ρ ix with
                | none => rfl
                | some b => cases b <;> try rfl
                            rename_i s k n
                            dsimp only
                            split
                            · cases s[n.toNat]? <;> rfl
                            · rfl
  · cases ev ρ x with
    | none => rfl
    | some a => cases a <;> try rfl
                cases ev ρ ix with
                | none => rfl
                | some b => cases b <;> try rfl
                            dsimp only
                            split <;> rfl
theorem ix_str {t : TypeId} {s : List UInt8} {k : IntKind} {n : Int} (ht : Seen (match (T t).desc with | .string => true | _ => false)) (h0 : 0 ≤ n) (h1 : n < s.length) : ixR T t (some (.str s)) (some (.int k n)) = some (.int .u8 (((s[n.toNat]! : UInt8).toNat : Nat) : Int)) := by
  have := ht.eq
  unfold ixR
  split at this
  · rename_i hd
    have hl : n.toNat < s.length := by omega
    simp only [hd, if_pos h0]
    rw [List.getElem?_eq_getElem hl, getElem!_pos s n.toNat hl]
    rfl
  · simp at this
theorem len_str {t : TypeId} {s : List UInt8} (ht : Seen (match (T t).desc with | .string => true | _ => false)) : builtinA T h .len [t] [.str s] = some (.int .i64 (s.length : Int), h) := by
  have := ht.eq
  split at this
  · rename_i hd
    simp only [builtinA, hd]
  · simp at this

/-! ### Loads and stores -/
def rd1 (o : Nat) : Option AO → Option AV
  | some (.cells cs) => cs[o]?
  | _ => none
def rdN (o n : Nat) : Option AO → Option AV
  | some (.cells cs) => (cut cs o n).map .agg
  | _ => none
theorem rd1_some {o : Nat} {cs : List AV} : rd1 o (some (.cells cs)) = cs[o]? := rfl
theorem rdN_some {o n : Nat} {cs : List AV} : rdN o n (some (.cells cs)) = (cut cs o n).map .agg := rfl
theorem ld_1 {t : TypeId} {i o : Nat} (h1 : okT T t = true) (h2 : (T t).desc.isAgg = false) : loadA T h t (.ptr (some (i, o))) = rd1 o (h.get i) := by
  have hb := okT_ne h1
  have key : (match h.read i o 1 with | some [v] => some v | _ => none) = rd1 o (h.get i) := by
    unfold AH.read rd1
    cases h.get i with
    | none => rfl
    | some ob =>
      cases ob <;> try rfl
      rename_i cs
      dsimp only
      unfold cut
      by_cases hl : o + 1 ≤ cs.length
      · rw [if_pos hl]
        have : o < cs.length := by omega
        rw [List.getElem?_eq_getElem this, List.drop_eq_getElem_cons this]
        rfl
      · rw [if_neg hl, List.getElem?_eq_none (by omega)]
  unfold loadA
  cases hd : (T t).desc <;> simp_all [TD.isAgg] <;> exact key
theorem ld_n {t : TypeId} {i o n : Nat} (h1 : okT T t = true) (h2 : (T t).desc.isAgg = true) (hn : (T t).size = n) : loadA T h t (.ptr (some (i, o))) = rdN o n (h.get i) := by
  have hb := okT_ne h1
  subst hn
  unfold loadA
  cases hd : (T t).desc <;> simp_all [TD.isAgg]
  all_goals
    unfold AH.read rdN
    cases h.get i with
    | none => rfl
    | some ob => cases ob <;> rfl
theorem ldi_1 {t : TypeId} {row : List AV} {o : Nat} (h1 : okT T t = true) (h2 : (T t).desc.isAgg = false) : loadA T h t (.iptr row o) = row[o]? := by
  have hb := okT_ne h1
  unfold loadA
  cases hd : (T t).desc <;> simp_all [TD.isAgg]
theorem ldi_n {t : TypeId} {row : List AV} {o n : Nat} (h1 : okT T t = true) (h2 : (T t).desc.isAgg = true) (hn : (T t).size = n) : loadA T h t (.iptr row o) = (cut row o n).map .agg := by
  have hb := okT_ne h1
  subst hn
  unfold loadA
  cases hd : (T t).desc <;> simp_all [TD.isAgg]
theorem sl_eqn {t e l c z : Nat} {ex : Bool} {l' c' z' : Nat} {ex' : Bool} (ht : (T t).desc = .slice e) : binA T .eql t (.slice none l c z ex) (.slice none l' c' z' ex') = some (.bool true) := by simp [binA, ht, eqA]
theorem sl_eqs {t e l c z : Nat} {p : Nat × Nat} {ex : Bool} {l' c' z' : Nat} {ex' : Bool} (ht : (T t).desc = .slice e) : binA T .eql t (.slice (some p) l c z ex) (.slice none l' c' z' ex') = some (.bool false) := by simp [binA, ht, eqA]
theorem sl_eqi {t e o l c z : Nat} {r : List AV} {l' c' z' : Nat} {ex' : Bool} (ht : (T t).desc = .slice e) : binA T .eql t (.islice r o l c z) (.slice none l' c' z' ex') = some (.bool false) := by simp [binA, ht, eqA]
theorem pt_eqn {t e : Nat} (ht : (T t).desc = .pointer e) : binA T .eql t (.ptr none) (.ptr none) = some (.bool true) := by simp [binA, ht, eqA]
theorem pt_eqs {t e : Nat} {p : Nat × Nat} (ht : (T t).desc = .pointer e) : binA T .eql t (.ptr (some p)) (.ptr none) = some (.bool false) := by simp [binA, ht, eqA]
theorem fn_eqs {t : Nat} {f : FuncId} {c : List AV} (ht : (T t).desc = .func) : binA T .eql t (.func f c) .nilFunc = some (.bool false) := by simp [binA, ht, eqA]
theorem fn_eqn {t : Nat} (ht : (T t).desc = .func) : binA T .eql t .nilFunc .nilFunc = some (.bool true) := by simp [binA, ht, eqA]
theorem pt_nen {t e : Nat} (ht : (T t).desc = .pointer e) : binA T .neq t (.ptr none) (.ptr none) = some (.bool false) := by simp [binA, ht, eqA]
theorem pt_nes {t e : Nat} {p : Nat × Nat} (ht : (T t).desc = .pointer e) : binA T .neq t (.ptr (some p)) (.ptr none) = some (.bool true) := by simp [binA, ht, eqA]
def wrO (h : AH) (i o : Nat) (new : List AV) : Option AO → Option AH
  | some (.cells cs) => if o + new.length ≤ cs.length then some (h.set i (.cells (over cs o new))) else none
  | _ => none
theorem write_eq {i o : Nat} {new : List AV} : h.write i o new = wrO h i o new (h.get i) := by
  unfold AH.write wrO
  cases h.get i with
  | none => rfl
  | some ob => cases ob <;> rfl
theorem wrO_some {i o : Nat} {new cs : List AV} (hl : o + new.length ≤ cs.length) : wrO h i o new (some (.cells cs)) = some (h.set i (.cells (over cs o new))) := by simp [wrO, hl]
def stC (h : AH) (i o n : Nat) (cs : List AV) : Option AH := if cs.length = n ∧ cs.all AV.one then wrO h i o cs (h.get i) else none
theorem st_n {t : TypeId} {i o n : Nat} {v : AV} (h1 : okT T t = true) (hn : (T t).size = n) : storeA T h t (.ptr (some (i, o))) v = stC h i o n v.cells := by
  have hb := okT_ne h1
  subst hn
  unfold storeA stC
  cases hd : (T t).desc <;> simp_all [write_eq]
theorem stC_ok {i o n : Nat} {cs : List AV} (h1 : cs.length = n) (h2 : cs.all AV.one = true) : stC h i o n cs = wrO h i o cs (h.get i) := by simp [stC, h1, h2]
theorem stC_1 {i o : Nat} {v : AV} (h2 : Seen v.one) : stC h i o 1 [v] = wrO h i o [v] (h.get i) := by simp [stC, h2.eq]
def stB (h : AH) (i o : Nat) (cs : List AV) (a b : Bool) : Option AH := match a, b with | true, true => wrO h i o cs (h.get i) | _, _ => none
theorem stC_eq {i o n : Nat} {a b : AV} {r : List AV} : stC h i o n (a :: b :: r) = stB h i o (a :: b :: r) (decide (r.length + 2 = n)) (a.one && (b.one && r.all AV.one)) := by
  unfold stC stB
  by_cases h1 : r.length + 2 = n
  · cases h2 : (a :: b :: r).all AV.one
    · have h2' := h2; simp only [List.all_cons] at h2'; simp [h1, h2', h2]
    · have h2' := h2; simp only [List.all_cons] at h2'; rw [if_pos ⟨by simpa using h1, rfl⟩, h2', dec_t h1]
  · rw [if_neg (by simp; intro e; exact absurd e h1), dec_f h1]
theorem stB_t {i o : Nat} {cs : List AV} : stB h i o cs true true = wrO h i o cs (h.get i) := rfl
theorem wr_all {i : Nat} {new cs : List AV} (hl : Seen (Nat.beq cs.length new.length)) : wrO h i 0 new (some (.cells cs)) = some (h.set i (.cells new)) := by
  have := Nat.eq_of_beq_eq_true hl.eq
  rw [wrO_some (by omega)]
  unfold over
  rw [Nat.zero_add, ← this, List.drop_length]; simp
/-- One cell laid over. -/
theorem wr1_some {i o : Nat} {v : AV} {cs : List AV} (hl : Seen (Nat.blt o cs.length)) : wrO h i o [v] (some (.cells cs)) = some (h.set i (.cells (cs.set o v))) := by
  have : o < cs.length := by simpa [Nat.blt_eq] using hl.eq
  rw [wrO_some (show o + [v].length ≤ cs.length by simp; omega)]
  congr 3
  unfold over
  rw [List.set_eq_take_append_cons_drop, if_pos this]
  simp
/-! cells, one -/
theorem cells_int {k : IntKind} {n : Int} : (AV.int k n).cells = [.int k n] := rfl
theorem cells_bool {b : Bool} : (AV.bool b).cells = [.bool b] := rfl
theorem cells_str {s : List UInt8} : (AV.str s).cells = [.str s] := rfl
theorem cells_ptr {p : Option (Nat × Nat)} : (AV.ptr p).cells = [.ptr p] := rfl
theorem cells_iptr {r : List AV} {o : Nat} : (AV.iptr r o).cells = [.iptr r o] := rfl
theorem cells_slice {a : Option (Nat × Nat)} {l c s : Nat} {e : Bool} : (AV.slice a l c s e).cells = [.slice a l c s e] := rfl
theorem cells_islice {r : List AV} {o l c s : Nat} : (AV.islice r o l c s).cells = [.islice r o l c s] := rfl
theorem cells_func {f : FuncId} {c : List AV} : (AV.func f c).cells = [.func f c] := rfl
theorem cells_yield {l : Nat} : (AV.yield l).cells = [.yield l] := rfl
theorem cells_nilFunc : AV.nilFunc.cells = [.nilFunc] := rfl
theorem cells_agg {cs : List AV} : (AV.agg cs).cells = cs := rfl
theorem one_int {k : IntKind} {n : Int} : (AV.int k n).one = true := rfl
theorem one_bool {b : Bool} : (AV.bool b).one = true := rfl
theorem one_str {s : List UInt8} : (AV.str s).one = true := rfl
theorem one_ptr {p : Option (Nat × Nat)} : (AV.ptr p).one = true := rfl
theorem one_iptr {r : List AV} {o : Nat} : (AV.iptr r o).one = true := rfl
theorem one_slice {a : Option (Nat × Nat)} {l c s : Nat} {e : Bool} : (AV.slice a l c s e).one = true := rfl
theorem one_islice {r : List AV} {o l c s : Nat} : (AV.islice r o l c s).one = true := rfl
theorem one_func {f : FuncId} {c : List AV} : (AV.func f c).one = true := rfl
theorem one_yield {l : Nat} : (AV.yield l).one = true := rfl
theorem one_nilFunc : AV.nilFunc.one = true := rfl
/-! heap -/
def pg (j n : Nat) (r : Option AO) (o : AO) : Option AO := if j = n then some o else r
@[congr] theorem pg_congr {j j' n n' : Nat} {r : Option AO} {o : AO} (e1 : j = j') (e : n = n') : pg j n r o = pg j' n' r o := by rw [e1, e]
theorem hp_get {o : AO} {j : Nat} : (h.push o).get j = pg j h.size (h.get j) o := by rw [AH.get_push]; rfl
theorem hp_eq {o : AO} {j n : Nat} {r : Option AO} (hj : j = n) : pg j n r o = some o := by simp [pg, hj]
theorem hp_ne {o : AO} {j n : Nat} {r : Option AO} (hj : ¬ j = n) : pg j n r o = r := by simp [pg, hj]
theorem hs_eq {o : AO} {i j : Nat} (hj : j = i) : (h.set i o).get j = some o := by rw [AH.get_set, if_pos hj]
theorem hs_ne {o : AO} {i j : Nat} (hj : ¬ j = i) : (h.set i o).get j = h.get j := by rw [AH.get_set, if_neg hj]
end ops

/-! ### Slices as typed lists -/
/-- How an element lies in cells. -/
structure Enc (α : Type) where
  sz : Nat
  f : α → List AV
  pos : 0 < sz
  len : ∀ x, (f x).length = sz
  one : ∀ x, (f x).all AV.one = true
section seq
variable {α : Type} {E : Enc α} {T : Tys} {h h' : AH} {i : Nat} {a : AV} {l : List α}
def Enc.all (E : Enc α) (l : List α) : List AV := l.flatMap E.f
theorem Enc.all_len (E : Enc α) : ∀ (l : List α), (E.all l).length = l.length * E.sz
  | [] => by simp [Enc.all]
  | x :: r => by
    have := Enc.all_len E r
    simp only [Enc.all, List.flatMap_cons, List.length_append, E.len, List.length_cons] at *
    rw [this, Nat.add_mul]; omega
theorem Enc.all_app (E : Enc α) (l r : List α) : E.all (l ++ r) = E.all l ++ E.all r := by simp [Enc.all]
theorem Enc.all_one (E : Enc α) (l : List α) : (E.all l).all AV.one = true := by
  simp only [Enc.all, List.all_flatMap, E.one]
  simp
theorem Enc.all_drop (E : Enc α) : ∀ (l : List α) (k : Nat), (E.all l).drop (k * E.sz) = E.all (l.drop k)
  | l, 0 => by simp
  | [], k + 1 => by simp [Enc.all]
  | x :: r, k + 1 => by
    have := Enc.all_drop E r k
    simp only [Enc.all, List.flatMap_cons, List.drop_succ_cons] at *
    rw [← this, Nat.add_mul, Nat.one_mul, Nat.add_comm, ← List.drop_drop]
    congr 1
    have := E.len x
    rw [List.drop_append_of_le_length (by omega), ← this, List.drop_length, List.nil_append]
theorem Enc.all_take (E : Enc α) : ∀ (l : List α) (k : Nat), (E.all l).take (k * E.sz) = E.all (l.take k)
  | l, 0 => by simp [Enc.all]
  | [], k + 1 => by simp [Enc.all]
  | x :: r, k + 1 => by
    have := Enc.all_take E r k
    simp only [Enc.all, List.flatMap_cons, List.take_succ_cons] at *
    rw [← this, Nat.add_mul, Nat.one_mul, Nat.add_comm, List.take_append, E.len]
    have : (E.f x).length ≤ E.sz + k * E.sz := by rw [E.len]; omega
    rw [List.take_of_length_le this]
    congr 2
    omega
/-- A slice that may be read: its elements. i: its block, if it has one. -/
inductive Sl (E : Enc α) (h : AH) (i : Nat) : AV → List α → Prop
  | nil0 (ex : Bool) (z : Nat) : Sl E h i (.slice none 0 0 z ex) []
  | blk (k cap n : Nat) (ex : Bool) (all : List AV) (l : List α) (hi : h.get i = some (.cells all)) (hs : i < h.size) (hl : (all.drop (k * E.sz)).take (n * E.sz) = E.all l) (hn : l.length = n) (hc : n ≤ cap) : Sl E h i (.slice (some (i, k * E.sz)) n cap E.sz ex) l
  | isl (row : List AV) (o n cap : Nat) (l : List α) (hl : (row.drop o).take (n * E.sz) = E.all l) (hn : l.length = n) (hc : n ≤ cap) : Sl E h i (.islice row o n cap E.sz) l
/-- A slice that fills its block. -/
inductive Ow (E : Enc α) (h : AH) (i : Nat) : AV → List α → Prop
  | nil0 (ex : Bool) (z : Nat) : Ow E h i (.slice none 0 0 z ex) []
  | blk (n cap : Nat) (ex : Bool) (l : List α) (junk : List AV) (hi : h.get i = some (.cells (E.all l ++ junk))) (hs : i < h.size) (hn : l.length = n) (hc : n ≤ cap) (hj : junk.length = (cap - n) * E.sz) : Ow E h i (.slice (some (i, 0)) n cap E.sz ex) l
theorem Ow.sl (o : Ow E h i a l) : Sl E h i a l := by
  cases o with
  | nil0 ex z => exact .nil0 ex z
  | blk n cap ex l junk hi hs hn hc hj =>
    have := Sl.blk (E := E) 0 cap n ex (E.all l ++ junk) l hi hs (by rw [Nat.zero_mul, List.drop_zero, ← hn, ← E.all_len, List.take_left]) hn hc
    rwa [Nat.zero_mul] at this
/-- A slice that fills its block. -/
theorem Ow.full (n : Nat) (ex : Bool) (l : List α) (hi : h.get i = some (.cells (E.all l))) (hs : i < h.size) (hn : l.length = n) : Ow E h i (.slice (some (i, 0)) n n E.sz ex) l :=
  .blk n n ex l [] (by rw [List.append_nil]; exact hi) hs hn (Nat.le_refl _) (by simp)
theorem Ow.lt (o : Ow E h i a l) (hne : l ≠ []) : i < h.size := by
  cases o with
  | nil0 ex z => exact absurd rfl hne
  | blk n cap ex l junk hi hs hn hc hj => exact hs
theorem Ow.form (o : Ow E h i a l) : (∃ ex z, a = .slice none 0 0 z ex) ∧ l = [] ∨ ∃ n cap ex, a = .slice (some (i, 0)) n cap E.sz ex := by
  cases o with
  | nil0 ex z => exact .inl ⟨⟨_, _, rfl⟩, rfl⟩
  | blk n cap ex l junk hi hs hn hc hj => exact .inr ⟨_, _, _, rfl⟩
theorem Ow.frame (o : Ow E h i a l) (hf : i < h.size → h'.get i = h.get i) (hz : h.size ≤ h'.size) : Ow E h' i a l := by
  cases o with
  | nil0 ex z => exact .nil0 ex z
  | blk n cap ex l junk hi hs hn hc hj => exact .blk n cap ex l junk (by rw [hf hs]; exact hi) (by omega) hn hc hj
theorem Sl.frame (o : Sl E h i a l) (hf : i < h.size → h'.get i = h.get i) (hz : h.size ≤ h'.size) : Sl E h' i a l := by
  cases o with
  | nil0 ex z => exact .nil0 ex z
  | blk k cap n ex all l hi hs hl hn hc => exact .blk k cap n ex all l (by rw [hf hs]; exact hi) (by omega) hl hn hc
  | isl row o n cap l hl hn hc => exact .isl row o n cap l hl hn hc
theorem Sl.cells (o : Sl E h i a l) : a.cells = [a] := by cases o <;> rfl
theorem Sl.one (o : Sl E h i a l) : a.one = true := by cases o <;> rfl
theorem stC_sl {j b q : Nat} {v : AV} {l : List α} (p : Sl E h' j v l) : stC h b q 1 [v] = wrO h b q [v] (h.get b) := stC_1 (by rw [p.one]; exact .mk)
theorem stC_ow {j b q : Nat} {v : AV} {l : List α} (p : Ow E h' j v l) : stC h b q 1 [v] = wrO h b q [v] (h.get b) := stC_1 (by rw [p.sl.one]; exact .mk)
theorem Ow.cells (o : Ow E h i a l) : a.cells = [a] := o.sl.cells
theorem Ow.one (o : Ow E h i a l) : a.one = true := o.sl.one
theorem Sl.len (o : Sl E h i a l) {t e : TypeId} (ht : (T t).desc = .slice e) : builtinA T h' .len [t] [a] = some (.int .i64 (l.length : Int), h') := by
  cases o with
  | nil0 ex z => simp [builtinA, ht]
  | blk k cap n ex all l hi hs hl hn hc => subst hn; simp [builtinA, ht]
  | isl row o n cap l hl hn hc => subst hn; simp [builtinA, ht]
theorem Sl.lenA (o : Sl E h i a l) : Abs.lenA a = some l.length := by
  cases o with
  | nil0 ex z => rfl
  | blk k cap n ex all l hi hs hl hn hc => subst hn; rfl
  | isl row o n cap l hl hn hc => subst hn; rfl
theorem Sl.rs (o : Sl E h i a l) : Rs h E.sz a (E.all l) := by
  cases o with
  | nil0 ex z => exact .none ex z
  | blk k cap n ex all l hi hs hl hn hc => exact .some _ _ _ _ _ all _ hi hl (by rw [E.all_len, hn]) hc
  | isl row o n cap l hl hn hc => exact .isl _ _ _ _ _ hl (by rw [E.all_len, hn]) hc (E.all_one l)
theorem Sl.elems (o : Sl E h i a l) : Abs.elems h E.sz l.length a = some (E.all l) := o.rs.elems (by rw [E.all_len]) E.pos
/-- The place of an element's cell. -/
def AV.at (sz off : Nat) (j : Int) : AV → AV
  | .slice (some (i, o)) _ _ _ _ => .ptr (some (i, o + j.toNat * sz + off))
  | .islice row o _ _ _ => .iptr row (o + j.toNat * sz + off)
  | a => a
theorem Sl.idx (o : Sl E h i a l) {t e : TypeId} {k : IntKind} {j : Int} (h0 : 0 ≤ j) (h1 : j < l.length) (ht : (T t).desc = .slice e) (he : okT T e = true) (hsz : (T e).size = E.sz) :
    idxA T t a (.int k j) = some (a.at E.sz 0 j) := by
  cases o with
  | nil0 ex z => simp at h1; omega
  | blk m cap n ex all l hi hs hl hn hc =>
    subst hn
    simp only [idxA, ht, AV.at]
    rw [if_pos ⟨he, h0, h1, hsz.symm⟩]; rfl
  | isl row o n cap l hl hn hc =>
    subst hn
    simp only [idxA, ht, AV.at]
    rw [if_pos ⟨he, h0, h1, hc, hsz.symm⟩]; rfl
theorem Sl.nc (o : Sl E h i a l) {j : Int} {off : Nat} (h0 : 0 ≤ j) (h1 : j < l.length) : ncR (some (a.at E.sz off j)) = some (a.at E.sz off j) := by
  cases o with
  | nil0 ex z => simp at h1; omega
  | blk => rfl
  | isl => rfl
theorem Sl.fa (o : Sl E h i a l) {j : Int} {off0 : Nat} (h0 : 0 ≤ j) (h1 : j < l.length) {s f ft off : Nat} (hf : fieldAt T s f = some (ft, off)) (h2 : (T ft).size ≠ 0) (h3 : okT T ft = true) : faR T s f (some (a.at E.sz off0 j)) = some (a.at E.sz (off0 + off) j) := by
  cases o with
  | nil0 ex z => simp at h1; omega
  | blk => rw [AV.at, fa_ptr hf h2 h3, AV.at, Nat.add_assoc]
  | isl => rw [AV.at, fa_iptr hf h2 h3, AV.at, Nat.add_assoc]
theorem take_at {all c : List AV} {o n j sz : Nat} (hz : 0 < sz) (hc : (all.drop o).take (n * sz) = c) (hj : j < n) (hl : c.length = n * sz) : (all.drop (o + j * sz)).take sz = (c.drop (j * sz)).take sz ∧ o + j * sz + sz ≤ all.length := by
  have e1 : (j + 1) * sz ≤ n * sz := Nat.mul_le_mul_right _ hj
  rw [Nat.add_mul, Nat.one_mul] at e1
  subst hc
  rw [List.length_take, List.length_drop] at hl
  have hle : n * sz ≤ all.length - o := by omega
  refine ⟨?_, by omega⟩
  rw [List.drop_take, List.take_take, Nat.min_eq_left (by omega), List.drop_drop]
theorem Enc.all_at (E : Enc α) (l : List α) {j : Nat} (hj : j < l.length) : ((E.all l).drop (j * E.sz)).take E.sz = E.f l[j] := by
  rw [E.all_drop, List.drop_eq_getElem_cons hj]
  have := E.len l[j]
  simp only [Enc.all, List.flatMap_cons]
  rw [List.take_append_of_le_length (by omega), ← this, List.take_length]
theorem cut_eq {all c : List AV} {o n : Nat} (h1 : o + n ≤ all.length) (h2 : (all.drop o).take n = c) : cut all o n = some c := by
  unfold cut; rw [if_pos h1, h2]
theorem get_of_take {all c : List AV} {o n k : Nat} (h2 : (all.drop o).take n = c) (hk : k < n) : all[o + k]? = c[k]? := by
  subst h2
  rw [List.getElem?_take, if_pos hk, List.getElem?_drop]
theorem cut_same {cs : List AV} {n : Nat} (h : Seen (Nat.beq cs.length n)) : cut cs 0 n = some cs := by rw [← Nat.eq_of_beq_eq_true h.eq]; exact cut_all cs
/-- The cells of an element, wherever they lie. -/
theorem Sl.cellsAt [Inhabited α] (o : Sl E h i a l) {j : Int} (h0 : 0 ≤ j) (h1 : j < l.length) : (∃ b q all, (∀ off, a.at E.sz off j = .ptr (some (b, q + off))) ∧ h.get b = some (.cells all) ∧ (all.drop q).take E.sz = E.f (l[j.toNat]!) ∧ q + E.sz ≤ all.length) ∨
    (∃ q row, (∀ off, a.at E.sz off j = .iptr row (q + off)) ∧ (row.drop q).take E.sz = E.f (l[j.toNat]!) ∧ q + E.sz ≤ row.length) := by
  have hj : j.toNat < l.length := by omega
  rw [getElem!_pos l j.toNat hj]
  cases o with
  | nil0 ex z => simp at h1; omega
  | blk k cap n ex all l hi hs hl hn hc =>
    refine .inl ⟨i, k * E.sz + j.toNat * E.sz, all, fun off => rfl, hi, ?_⟩
    have := take_at (j := j.toNat) E.pos hl (by omega) (by rw [E.all_len, hn])
    rw [this.1, E.all_at _ hj]
    exact ⟨rfl, this.2⟩
  | isl row o n cap l hl hn hc =>
    refine .inr ⟨o + j.toNat * E.sz, row, fun off => rfl, ?_⟩
    have := take_at (j := j.toNat) E.pos hl (by omega) (by rw [E.all_len, hn])
    rw [this.1, E.all_at _ hj]
    exact ⟨rfl, this.2⟩
theorem Sl.ld [Inhabited α] (o : Sl E h i a l) {j : Int} {off t : Nat} {v : AV} (h0 : 0 ≤ j) (h1 : j < l.length) (hv : (E.f (l[j.toNat]!))[off]? = some v) (ho : off < E.sz) (h2 : okT T t = true) (h3 : (T t).desc.isAgg = false) : loadA T h t (a.at E.sz off j) = some v := by
  rcases o.cellsAt h0 h1 with ⟨b, q, all, e, hb, hc, hq⟩ | ⟨q, row, e, hc, hq⟩
  · rw [e, ld_1 h2 h3, hb, rd1_some, get_of_take hc ho, hv]
  · rw [e, ldi_1 h2 h3, get_of_take hc ho, hv]
theorem Sl.ldn [Inhabited α] (o : Sl E h i a l) {j : Int} {t : Nat} (h0 : 0 ≤ j) (h1 : j < l.length) (h2 : okT T t = true) (h3 : (T t).desc.isAgg = true) (h4 : (T t).size = E.sz) : loadA T h t (a.at E.sz 0 j) = some (.agg (E.f (l[j.toNat]!))) := by
  rcases o.cellsAt h0 h1 with ⟨b, q, all, e, hb, hc, hq⟩ | ⟨q, row, e, hc, hq⟩
  · rw [e, ld_n h2 h3 h4, hb, rdN_some, Nat.add_zero, cut_eq hq hc]; rfl
  · rw [e, ldi_n h2 h3 h4, Nat.add_zero, cut_eq hq hc]; rfl
/-! Parts -/
def AV.part (lo hi : Int) : AV → AV
  | .slice none _ _ z _ => .slice none 0 0 z true
  | .slice (some (i, o)) _ cap z ex => .slice (some (i, o + lo.toNat * z)) (hi.toNat - lo.toNat) (cap - lo.toNat) z (ex || false)
  | .islice row o _ cap z => .islice row (o + lo.toNat * z) (hi.toNat - lo.toNat) (cap - lo.toNat) z
  | a => a
theorem Sl.slc (o : Sl E h i a l) {t e : TypeId} {lo hi : Option Int} (h0 : 0 ≤ lo.getD 0) (h1 : lo.getD 0 ≤ hi.getD (l.length : Int)) (h2 : hi.getD (l.length : Int) ≤ l.length) (ht : (T t).desc = .slice e) (he : okT T e = true) (hsz : (T e).size = E.sz) :
    sliceA T t a lo hi none = some (a.part (lo.getD 0) (hi.getD (l.length : Int))) := by
  cases o with
  | nil0 ex z =>
    simp only [sliceA, ht, he]
    simp at h1 h2 ⊢
    simp [h0, h1, h2, AV.part]
  | blk k cap n ex all l hi' hs hl hn hc =>
    subst hn
    simp only [sliceA, ht, he, AV.part]
    simp only [Option.isSome_none, Bool.false_eq_true, false_and, if_false, Bool.not_true, Option.getD_none]
    rw [if_pos (by omega), if_pos hsz.symm]
    simp
  | isl row o n cap l hl hn hc =>
    subst hn
    simp only [sliceA, ht, he, AV.part]
    simp only [Option.isSome_none, Bool.false_eq_true, false_and, if_false, Bool.not_true, Option.getD_none]
    rw [if_pos (by omega)]
    simp
theorem Sl.part (o : Sl E h i a l) {lo hi : Int} (h0 : 0 ≤ lo) (h1 : lo ≤ hi) (h2 : hi ≤ l.length) : Sl E h i (a.part lo hi) ((l.drop lo.toNat).take (hi.toNat - lo.toNat)) := by
  have hlen : ((l.drop lo.toNat).take (hi.toNat - lo.toNat)).length = hi.toNat - lo.toNat := by rw [List.length_take, List.length_drop]; omega
  have hle : lo.toNat * E.sz + (hi.toNat - lo.toNat) * E.sz ≤ l.length * E.sz := by rw [← Nat.add_mul]; exact Nat.mul_le_mul_right _ (by omega)
  cases o with
  | nil0 ex z =>
    have := Sl.nil0 (E := E) (h := h) (i := i) true z
    simpa [AV.part] using this
  | blk k cap n ex all l hi' hs hl hn hc =>
    have := Sl.blk (E := E) (h := h) (i := i) (k + lo.toNat) (cap - lo.toNat) (hi.toNat - lo.toNat) (ex || false) all ((l.drop lo.toNat).take (hi.toNat - lo.toNat)) hi' hs ?_ hlen (by omega)
    · rw [Nat.add_mul] at this
      exact this
    · rw [← E.all_take, ← E.all_drop, ← hl, List.drop_take, List.take_take, Nat.add_mul, List.drop_drop]
      congr 1
      subst hn; omega
  | isl row o n cap l hl hn hc =>
    refine Sl.isl (E := E) (h := h) (i := i) row (o + lo.toNat * E.sz) (hi.toNat - lo.toNat) (cap - lo.toNat) _ ?_ hlen (by omega)
    rw [← E.all_take, ← E.all_drop, ← hl, List.drop_take, List.take_take, List.drop_drop]
    congr 1
    subst hn; omega
/-! Appending -/
/-- What an append leaves alone. -/
def Apart (i : Nat) (h h' : AH) : Prop := h.size ≤ h'.size ∧ ∀ j, j < h.size → ¬ j = i → h'.get j = h.get j
theorem Ow.append (o : Ow E h i a l) {t xt e : TypeId} {x : AV} {new : List α} (ht : (T t).desc = .slice e) (hxt : (∃ e', (T xt).desc = .slice e') ∨ (T xt).desc = .string) (hok : okT T e = true) (hsz : (T e).size = E.sz) (hzl : (T e).zero.length = E.sz) (hby : 0 < (T e).bytes)
    (hlen : Abs.lenA x = some new.length) (hel : Abs.elems h E.sz new.length x = some (E.all new)) (hroom : (l.length + new.length) * (T e).bytes ≤ 140737488355328) :
    ∃ z h' i', appendA T h t xt a x = some (z, h') ∧ Ow E h' i' z (l ++ new) ∧ (i' = i ∨ h.size ≤ i') ∧ Apart i h h' := by
  have hmx : l.length + new.length ≤ 9223372036854775807 := by
    have : l.length + new.length ≤ (l.length + new.length) * (T e).bytes := Nat.le_mul_of_pos_right _ hby
    omega
  have hel2 := o.sl.elems
  rcases hxt with ⟨e', hxt⟩ | hxt
  all_goals
    unfold appendA
    simp only [ht, hxt, hok, hlen, hsz, hel, Bool.not_true, Bool.false_eq_true, if_false]
    cases o with
    | nil0 ex z =>
      by_cases hn : new = []
      · subst hn
        exact ⟨_, h, i, rfl, .nil0 _ _, .inl rfl, Nat.le_refl _, fun _ _ _ => rfl⟩
      · have hpos : 0 < new.length := List.length_pos_iff.2 hn
        dsimp only
        simp only [List.length_nil] at hroom hmx
        rw [if_neg (by omega), if_pos ⟨hroom, hby, hzl, hmx⟩, Abs.elems, if_pos rfl]
        refine ⟨_, _, h.size, rfl, ?_, .inr (Nat.le_refl _), by simp, fun j hj _ => by rw [AH.get_push, if_neg (by omega)]⟩
        rw [Nat.zero_add]
        exact .full _ _ _ (by rw [AH.get_push, if_pos rfl]; rfl) (by simp) rfl
    | blk n cap ex l junk hi hs hn hc hj =>
      subst hn
      by_cases hn : new = []
      · subst hn
        have : E.all ([] : List α) = [] := rfl
        simp only [List.length_nil, Nat.add_zero, if_pos hc, if_true, this, List.append_nil]
        exact ⟨_, h, i, rfl, .blk _ _ _ _ _ hi hs rfl hc hj, .inl rfl, Nat.le_refl _, fun _ _ _ => rfl⟩
      · have hpos : 0 < new.length := List.length_pos_iff.2 hn
        have hne : ¬ E.all new = [] := by
          intro e
          have := E.all_len new
          rw [e] at this
          have := Nat.mul_pos hpos E.pos
          simp at *; omega
        dsimp only
        by_cases hfit : l.length + new.length ≤ cap
        · rw [if_pos hfit, if_neg hne, if_pos rfl]
          have hle : new.length * E.sz ≤ junk.length := by rw [hj]; exact Nat.mul_le_mul_right _ (by omega)
          have hov : over (E.all l ++ junk) (0 + l.length * E.sz) (E.all new) = E.all (l ++ new) ++ junk.drop (new.length * E.sz) := by
            unfold over
            rw [Nat.zero_add, ← E.all_len l, List.take_left, E.all_app, E.all_len new, ← List.drop_drop, List.drop_left]
          have hw : h.write i (0 + l.length * E.sz) (E.all new) = some (h.set i (.cells (E.all (l ++ new) ++ junk.drop (new.length * E.sz)))) := by
            rw [write_eq, hi, wrO_some (by rw [List.length_append, E.all_len, E.all_len]; omega), hov]
          rw [hw]
          refine ⟨_, _, i, rfl, ?_, .inl rfl, by simp, fun j hj hne => by rw [AH.get_set, if_neg hne]⟩
          refine .blk _ _ _ _ _ (by rw [AH.get_set, if_pos rfl]) (by simpa using hs) (by simp) hfit ?_
          rw [List.length_drop, hj, ← Nat.sub_mul]
          congr 1; omega
        · rw [if_neg hfit, if_pos ⟨hroom, hby, hzl, hmx⟩, hel2]
          cases ex with
          | true =>
            simp only [if_true]
            refine ⟨_, _, h.size, rfl, ?_, .inr (Nat.le_refl _), by simp, fun j hj _ => by rw [AH.get_push, if_neg (by omega)]⟩
            exact .full _ _ _ (by rw [AH.get_push, if_pos rfl, E.all_app]) (by simp) (by simp)
          | false =>
            simp only [Bool.false_eq_true, if_false, hi, if_true]
            refine ⟨_, _, h.size, rfl, ?_, .inr (Nat.le_refl _), by simp, fun j hj hne => by rw [AH.get_push, if_neg (by simp; omega), AH.get_set, if_neg hne]⟩
            exact .full _ _ _ (by rw [AH.get_push, if_pos (by simp), E.all_app]) (by simp) (by simp)
/-! Writing in place -/
theorem Enc.all_set (E : Enc α) : ∀ (l : List α) (j : Nat) (x : α) (r : List AV), j < l.length → over (E.all l ++ r) (j * E.sz) (E.f x) = E.all (l.set j x) ++ r
  | [], j, x, r, h => by simp at h
  | y :: l, 0, x, r, h => by
    unfold over
    simp only [Enc.all, List.flatMap_cons, Nat.zero_mul, List.take_zero, List.nil_append, Nat.zero_add, List.set_cons_zero, List.append_assoc]
    rw [E.len x, ← E.len y, List.drop_left]
  | y :: l, j + 1, x, r, h => by
    have ih := Enc.all_set E l j x r (by simpa using h)
    unfold over at ih ⊢
    simp only [Enc.all, List.flatMap_cons, List.set_cons_succ, List.append_assoc] at ih ⊢
    rw [← ih, show (j + 1) * E.sz = (E.f y).length + j * E.sz by rw [E.len, Nat.add_mul]; omega, List.take_length_add_append, Nat.add_assoc, List.drop_length_add_append]
    simp [List.append_assoc]
/-- An element written. -/
theorem Ow.write (o : Ow E h i a l) {j : Int} {t : Nat} {v : AV} (x : α) (hx : v.cells = E.f x) (h0 : 0 ≤ j) (h1 : j < l.length) (h2 : okT T t = true) (h4 : (T t).size = E.sz) :
    ∃ h', storeA T h t (a.at E.sz 0 j) v = some h' ∧ Ow E h' i a (l.set j.toNat x) ∧ h'.size = h.size ∧ ∀ b, ¬ b = i → h'.get b = h.get b := by
  cases o with
  | nil0 ex z => simp at h1; omega
  | blk n cap ex l junk hi hs hn hc hj =>
    refine ⟨h.set i (.cells (E.all (l.set j.toNat x) ++ junk)), ?_, .blk n cap ex _ junk (by rw [AH.get_set, if_pos rfl]) (by simpa using hs) (by simpa using hn) hc hj, rfl, fun b hb => by rw [AH.get_set, if_neg hb]⟩
    show storeA T h t (.ptr (some (i, 0 + j.toNat * E.sz + 0))) v = _
    rw [st_n h2 h4, stC_ok (by rw [hx, E.len]) (by rw [hx, E.one]), hi, Nat.zero_add, Nat.add_zero, hx]
    have hle : (j.toNat + 1) * E.sz ≤ l.length * E.sz := Nat.mul_le_mul_right _ (by omega)
    rw [Nat.add_mul, Nat.one_mul] at hle
    rw [wrO_some (by rw [List.length_append, E.all_len, E.len]; omega), E.all_set l j.toNat x junk (by omega)]
theorem over_sub {cs new : List AV} {p off : Nat} {v : AV} {n : Nat} (hn : (cs.drop p).take n = new) (ho : off < n) (hp : p + n ≤ cs.length) : over cs (p + off) [v] = over cs p (new.set off v) := by
  have hl : new.length = n := by rw [← hn, List.length_take, List.length_drop]; omega
  have hcs : cs = cs.take p ++ (new ++ cs.drop (p + n)) := by
    rw [← hn, ← List.drop_drop, List.take_append_drop, List.take_append_drop]
  have hA : (cs.take p).length = p := by rw [List.length_take]; omega
  have e1 : over cs (p + off) [v] = cs.set (p + off) v := by
    unfold over
    rw [List.set_eq_take_append_cons_drop, if_pos (by omega)]
    simp
  rw [e1]
  unfold over
  rw [List.length_set, hl, List.append_assoc]
  generalize cs.take p = A at *
  generalize cs.drop (p + n) = B at *
  rw [hcs, List.set_append, if_neg (by omega), List.set_append, if_pos (by omega), hA, Nat.add_sub_cancel_left]
/-- One cell of an element written. -/
theorem Ow.write1 [Inhabited α] (o : Ow E h i a l) {j : Int} {off t : Nat} {v : AV} (x : α) (hx : E.f x = (E.f (l[j.toNat]!)).set off v) (hv : v.cells = [v]) (hv1 : v.one = true) (ho : off < E.sz) (h0 : 0 ≤ j) (h1 : j < l.length) (h2 : okT T t = true) (h4 : (T t).size = 1) :
    ∃ h', storeA T h t (a.at E.sz off j) v = some h' ∧ Ow E h' i a (l.set j.toNat x) ∧ h'.size = h.size ∧ ∀ b, ¬ b = i → h'.get b = h.get b := by
  have hj : j.toNat < l.length := by omega
  rw [getElem!_pos l j.toNat hj] at hx
  cases o with
  | nil0 ex z => simp at h1; omega
  | blk n cap ex l junk hi hs hn hc hj' =>
    refine ⟨h.set i (.cells (E.all (l.set j.toNat x) ++ junk)), ?_, .blk n cap ex _ junk (by rw [AH.get_set, if_pos rfl]) (by simpa using hs) (by simpa using hn) hc hj', rfl, fun b hb => by rw [AH.get_set, if_neg hb]⟩
    show storeA T h t (.ptr (some (i, 0 + j.toNat * E.sz + off))) v = _
    have hle : (j.toNat + 1) * E.sz ≤ l.length * E.sz := Nat.mul_le_mul_right _ (by omega)
    rw [Nat.add_mul, Nat.one_mul] at hle
    have hel : ((E.all l ++ junk).drop (j.toNat * E.sz)).take E.sz = E.f l[j.toNat] := by
      rw [List.drop_append_of_le_length (by rw [E.all_len]; omega), List.take_append_of_le_length (by rw [List.length_drop, E.all_len]; omega)]
      exact E.all_at l hj
    rw [st_n h2 h4, hv, stC_1 (Seen.of hv1), hi, Nat.zero_add, wrO_some (by rw [List.length_append, E.all_len]; simp; omega), over_sub hel ho (by rw [List.length_append, E.all_len]; omega), ← hx, E.all_set l j.toNat x junk hj]
/-- A new slice of zeros. -/
theorem rep_all {z : α} {zero : List AV} (hz : zero = E.f z) : ∀ n, rep zero n = E.all (List.replicate n z)
  | 0 => rfl
  | n + 1 => by rw [rep, rep_all hz n, hz, List.replicate_succ]; simp [Enc.all]
theorem make_ow {T : Tys} {t e : TypeId} {k k' : IntKind} {n m : Int} (z : α) (ht : (T t).desc = .slice e) (hok : okT T e = true) (hsz : (T e).size = E.sz) (hz : (T e).zero = E.f z) (h0 : 0 ≤ n) (h1 : n ≤ m) (h2 : (T e).bytes * m ≤ 281474976710656) (h3 : m ≤ 9223372036854775807) :
    ∃ v h', msR T h t (some (.int k n)) (some (.int k' m)) = some (.val v h') ∧ Ow E h' h.size v (List.replicate n.toNat z) ∧ h'.size = h.size + 1 ∧ ∀ b, b < h.size → h'.get b = h.get b := by
  have hl : (T e).zero.length = (T e).size := by rw [hz, E.len, hsz]
  refine ⟨.slice (some (h.size, 0)) n.toNat m.toNat E.sz true, h.push (.cells (rep (T e).zero m.toNat)), ?_, ?_, rfl, fun b hb => by rw [AH.get_push, if_neg (by omega)]⟩
  · simp only [msR, ht]
    rw [if_pos ⟨hok, h0, h1, h3, h2, hl⟩, hsz]
  · refine .blk n.toNat m.toNat true _ (E.all (List.replicate (m.toNat - n.toNat) z)) ?_ (by simp) (by simp) (by omega) (by rw [E.all_len]; simp)
    rw [AH.get_push, if_pos rfl, rep_all hz, ← E.all_app, List.replicate_append_replicate]
    congr 4; omega
section step
variable {P : Program} {ops : Array Oper} {L : List Oper} {K : Tm → AH → Prop} {d : Option Nat} {tm : Tm}
/-- The step of an append: of a slice. -/
theorem ans_app {ix : Nat} (o : Ow E h i a l) {t xt e : TypeId} {x : AV} {new : List α} (hx : Sl E h ix x new) (ht : (T t).desc = .slice e) (hxt : ∃ e', (T xt).desc = .slice e') (hok : okT T e = true) (hsz : (T e).size = E.sz) (hzl : (T e).zero.length = E.sz) (hby : 0 < (T e).bytes)
    (hroom : (l.length + new.length) * (T e).bytes ≤ 140737488355328) (hk : ∀ z h' i', Ow E h' i' z (l ++ new) → (i' = i ∨ h.size ≤ i') → h.size ≤ h'.size → (∀ j, j < h.size → ¬ j = i → h'.get j = h.get j) → putM P T ops L K d tm z h') :
    ansM P T ops L K d tm h (pairR (appendA T h t xt a x)) := by
  obtain ⟨z, h', i', e1, e2, e3, e4, e5⟩ := o.append ht (.inl hxt) hok hsz hzl hby hx.lenA hx.elems hroom
  rw [e1]
  exact hk _ _ _ e2 e3 e4 e5
/-- An element written. -/
theorem ans_wr (o : Ow E h i a l) {j : Int} {t : Nat} {v : AV} (x : α) (hx : v.cells = E.f x) (h0 : 0 ≤ j) (h1 : j < l.length) (h2 : okT T t = true) (h4 : (T t).size = E.sz)
    (hk : ∀ h', Ow E h' i a (l.set j.toNat x) → h'.size = h.size → (∀ b, ¬ b = i → h'.get b = h.get b) → putM P T ops L K d tm undefA h') :
    ansM P T ops L K d tm h ((storeA T h t (a.at E.sz 0 j) v).map fun h' => .val undefA h') := by
  obtain ⟨h', e1, e2, e3, e4⟩ := o.write x hx h0 h1 h2 h4
  rw [e1]
  exact hk _ e2 e3 e4
theorem ans_wr1 [Inhabited α] (o : Ow E h i a l) {j : Int} {off t : Nat} {v : AV} (x : α) (hx : E.f x = (E.f (l[j.toNat]!)).set off v) (hv : v.cells = [v]) (hv1 : v.one = true) (ho : off < E.sz) (h0 : 0 ≤ j) (h1 : j < l.length) (h2 : okT T t = true) (h4 : (T t).size = 1)
    (hk : ∀ h', Ow E h' i a (l.set j.toNat x) → h'.size = h.size → (∀ b, ¬ b = i → h'.get b = h.get b) → putM P T ops L K d tm undefA h') :
    ansM P T ops L K d tm h ((storeA T h t (a.at E.sz off j) v).map fun h' => .val undefA h') := by
  obtain ⟨h', e1, e2, e3, e4⟩ := o.write1 x hx hv hv1 ho h0 h1 h2 h4
  rw [e1]
  exact hk _ e2 e3 e4
/-- Of one element that was written out. -/
theorem ans_app1 (o : Ow E h i a l) {t e : TypeId} {cs : List AV} {sz : Nat} (x : α) (hx : cs = E.f x) (hs : sz = E.sz) (ht : (T t).desc = .slice e) (hok : okT T e = true) (hsz : (T e).size = E.sz) (hzl : (T e).zero.length = E.sz) (hby : 0 < (T e).bytes)
    (hroom : (l.length + 1) * (T e).bytes ≤ 140737488355328) (hk : ∀ z h' i', Ow E h' i' z (l ++ [x]) → (i' = i ∨ h.size ≤ i') → h.size ≤ h'.size → (∀ j, j < h.size → ¬ j = i → h'.get j = h.get j) → putM P T ops L K d tm z h') :
    ansM P T ops L K d tm (h.push (.cells cs)) (pairR (appendA T (h.push (.cells cs)) t t a (.slice (some (h.size, 0)) 1 1 sz true))) := by
  subst hx; subst hs
  have ha : E.all [x] = E.f x := by simp [Enc.all]
  have k1 : Sl E (h.push (.cells (E.f x))) h.size (.slice (some (h.size, 0)) 1 1 E.sz true) [x] := by
    have := Ow.full (E := E) (h := h.push (.cells (E.f x))) (i := h.size) 1 true [x] (by rw [AH.get_push, if_pos rfl, ha]) (by simp) rfl
    exact this.sl
  have k2 : Ow E (h.push (.cells (E.f x))) i a l := o.frame (fun hi => by rw [AH.get_push, if_neg (by omega)]) (by simp)
  obtain ⟨z, h', i', e1, e2, e3, e4, e5⟩ := k2.append ht (.inl ⟨e, ht⟩) hok hsz hzl hby k1.lenA k1.elems hroom
  rw [e1]
  simp only [AH.size_push] at e3 e4 e5
  show putM P T ops L K d tm z h'
  refine hk _ _ _ e2 (by omega) (by omega) fun j hj hne => ?_
  rw [e5 j (by omega) hne, AH.get_push, if_neg (by omega)]
end step

theorem drop_bang [Inhabited α] {l : List α} {j : Nat} (h : j < l.length) : l.drop j = l[j]! :: l.drop (j + 1) := by rw [getElem!_pos l j h]; exact List.drop_eq_getElem_cons h
theorem drop_cons {l r : List α} {k : Nat} {x : α} (h : l.drop k = x :: r) : l[k]? = some x ∧ l.drop (k + 1) = r := by
  have h1 := congrArg (·[0]?) h
  have h2 := congrArg (List.drop 1) h
  simp [List.getElem?_drop, List.drop_drop] at h1 h2
  exact ⟨h1, h2⟩
theorem drop_nil {l : List α} {k : Nat} (h : l.drop k = []) (hk : k ≤ l.length) : k = l.length := by
  have := congrArg List.length h
  simp at this; omega
/-- A value that fills one cell. -/
structure AV1 where
  v : AV
  h : v.one = true
theorem AV1.cells (x : AV1) : x.v.cells = [x.v] := by
  obtain ⟨v, h⟩ := x
  cases v <;> first | rfl | simp [AV.one] at h
instance : Inhabited AV1 := ⟨⟨.bool false, rfl⟩⟩
/-! ### Bytes, numbers, texts -/
def E8 : Enc UInt8 := ⟨1, fun b => [.int .u8 (b.toNat : Int)], by decide, fun _ => rfl, fun _ => rfl⟩
def EI : Enc Int := ⟨1, fun n => [.int .i64 n], by decide, fun _ => rfl, fun _ => rfl⟩
def ES : Enc (List UInt8) := ⟨1, fun s => [.str s], by decide, fun _ => rfl, fun _ => rfl⟩
theorem E8_all (l : List UInt8) : E8.all l = ofBytes l := by
  simp only [Enc.all, ofBytes, E8]
  induction l with
  | nil => rfl
  | cons x r ih => simp [List.flatMap_cons, ih]
theorem bytesOf_ofBytes : ∀ l : List UInt8, bytesOf (ofBytes l) = some l
  | [] => rfl
  | x :: l => by
    have := bytesOf_ofBytes l
    simp only [ofBytes, List.map_cons, bytesOf] at this ⊢
    rw [this]
    simp
theorem Sl.ld8 {l : List UInt8} (o : Sl E8 h i a l) {j : Int} {t : Nat} (h0 : 0 ≤ j) (h1 : j < l.length) (h2 : okT T t = true) (h3 : (T t).desc.isAgg = false) : loadA T h t (a.at E8.sz 0 j) = some (.int .u8 ((l[j.toNat]!).toNat : Int)) := o.ld h0 h1 rfl (by decide) h2 h3
theorem Sl.ldI {l : List Int} (o : Sl EI h i a l) {j : Int} {t : Nat} (h0 : 0 ≤ j) (h1 : j < l.length) (h2 : okT T t = true) (h3 : (T t).desc.isAgg = false) : loadA T h t (a.at EI.sz 0 j) = some (.int .i64 (l[j.toNat]!)) := o.ld h0 h1 rfl (by decide) h2 h3
theorem Sl.conv {l : List UInt8} (o : Sl E8 h i a l) {t u e : Nat} (ht : (T t).desc = .slice e) (he : (T e).desc = .int .u8) (hu : (T u).desc = .string) : convA T h t u a = some (.str l, h) := by
  have h1 := o.lenA
  have h2 : Abs.elems h 1 l.length a = some (E8.all l) := o.elems
  rw [E8_all] at h2
  have h3 := bytesOf_ofBytes l
  cases o <;> (simp only [Abs.lenA, Option.some.injEq] at h1; rw [← h1] at h2; simp only [convA, ht, hu, he, Abs.lenA, h2, h3, Option.map_some])
theorem conv_bytes {t u e : Nat} {s : List UInt8} (ht : (T t).desc = .slice e) (he : (T e).desc = .int .u8) (hu : (T u).desc = .string) (hl : s.length ≤ 9223372036854775807) : convA T h u t (.str s) = some (.slice (some (h.size, 0)) s.length s.length 1 false, h.push (.cells (ofBytes s))) := by
  simp only [convA, hu, ht, he, if_pos hl]
theorem elems_str {s : List UInt8} : Abs.elems h E8.sz s.length (.str s) = some (E8.all s) := by
  rw [E8_all]; simp [Abs.elems, E8]
theorem ans_appS {P : Program} {ops : Array Oper} {L : List Oper} {K : Tm → AH → Prop} {d : Option Nat} {tm : Tm} {l : List UInt8} (o : Ow E8 h i a l) {t xt e : TypeId} {s : List UInt8} (ht : (T t).desc = .slice e) (hxt : (T xt).desc = .string) (hok : okT T e = true) (hsz : (T e).size = 1) (hzl : (T e).zero.length = 1) (hby : 0 < (T e).bytes)
    (hroom : (l.length + s.length) * (T e).bytes ≤ 140737488355328) (hk : ∀ z h' i', Ow E8 h' i' z (l ++ s) → (i' = i ∨ h.size ≤ i') → h.size ≤ h'.size → (∀ j, j < h.size → ¬ j = i → h'.get j = h.get j) → putM P T ops L K d tm z h') :
    ansM P T ops L K d tm h (pairR (appendA T h t xt a (.str s))) := by
  obtain ⟨z, h', i', e1, e2, e3, e4, e5⟩ := o.append ht (.inr hxt) hok hsz hzl hby (x := .str s) rfl elems_str hroom
  rw [e1]
  exact hk _ _ _ e2 e3 e4 e5
end seq
attribute [go_sem ↓] op_alloc op_box op_build op_nilCheck op_makeFunc op_makeSlice op_field op_fieldAddr op_index
attribute [go_sem] alR_ok boxR_some bcR_t stC_sl stC_ow Sl.cells Sl.one Ow.cells Ow.one nc_ptr nc_iptr nc_func nc_yield mfR_some rd1_some rdN_some cut_same stC_1 stC_eq stB_t wr_all wr1_some List.length_cons List.length_nil List.set_cons_zero List.set_cons_succ cells_int cells_bool cells_str cells_ptr cells_iptr cells_slice cells_islice cells_func cells_yield cells_nilFunc cells_agg one_int one_bool one_str one_ptr one_iptr one_slice one_islice one_func one_yield one_nilFunc
  hp_get hp_eq hp_ne hs_eq hs_ne AH.size_push AH.size_set
end Go.Abs
