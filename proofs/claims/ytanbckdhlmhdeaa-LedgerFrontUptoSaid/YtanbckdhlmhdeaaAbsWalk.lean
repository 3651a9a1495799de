/- A walk that 'simp' takes: what a run of code must do, as equations. -/
import Derived.Test.YtanbckdhlmhdeaaAbsWp
set_option linter.unusedSimpArgs false
set_option linter.unusedVariables false
namespace Go.Abs

/-! ### Gates: simp looks at the first part alone -/
def bindv {α : Type} (x : Option α) (K : α → Prop) : Prop := ∃ v, x = some v ∧ K v
@[congr] theorem bindv_congr {α : Type} {x x' : Option α} {K : α → Prop} (h : x = x') : bindv x K = bindv x' K := by rw [h]
theorem bindv_some {α : Type} {v : α} {K : α → Prop} : bindv (some v) K = K v := by simp [bindv]
def ifb (c : Bool) (A B : Prop) : Prop := if c then A else B
@[congr] theorem ifb_congr {c c' : Bool} {A B : Prop} (h : c = c') : ifb c A B = ifb c' A B := by rw [h]
theorem ifb_true {A B : Prop} : ifb true A B = A := by simp [ifb]
theorem ifb_false {A B : Prop} : ifb false A B = B := by simp [ifb]
theorem ifb_of {c : Bool} {A B : Prop} (ha : c = true → A) (hb : c = false → B) : ifb c A B := by
  cases c
  · exact hb rfl
  · exact ha rfl
def ifp (c : Prop) [Decidable c] (A B : Prop) : Prop := if c then A else B
theorem ifp_of {c : Prop} [Decidable c] {A B : Prop} (ha : c → A) (hb : ¬ c → B) : ifp c A B := by
  unfold ifp; split <;> rename_i h
  · exact ha h
  · exact hb h
theorem ifp_pos {c : Prop} [Decidable c] {A B : Prop} (h : c) : ifp c A B = A := by simp [ifp, h]
theorem ifp_neg {c : Prop} [Decidable c] {A B : Prop} (h : ¬ c) : ifp c A B = B := by simp [ifp, h]

section walk
variable (P : Program) (T : Tys)
def callW (f : FuncId) (args : List AV) (h : AH) (K : AV → AH → Prop) : Prop := ∃ v h', CallA P T f args h v h' ∧ K v h'
@[congr] theorem callW_congr {f : FuncId} {args args' : List AV} {h h' : AH} {K : AV → AH → Prop} (e : args = args') (e2 : h = h') : callW P T f args h K = callW P T f args' h' K := by rw [e, e2]
def yieldW (l : Nat) (args : List AV) (h : AH) (K : AV → AH → Prop) : Prop := ∃ v h', YieldA P T l args h v h' ∧ K v h'
@[congr] theorem yieldW_congr {l : Nat} {args args' : List AV} {h h' : AH} {K : AV → AH → Prop} (e : args = args') (e2 : h = h') : yieldW P T l args h K = yieldW P T l args' h' K := by rw [e, e2]
def putW (tm : Tm) (d : Option Nat) (v : AV) (K : Tm → Prop) : Prop := ∃ t, tm.put d v = some t ∧ K t
@[congr] theorem putW_congr {tm tm' : Tm} {d : Option Nat} {v v' : AV} {K : Tm → Prop} (e : tm = tm') (e2 : v = v') : putW tm d v K = putW tm' d v' K := by rw [e, e2]
theorem putW_none {tm : Tm} {v : AV} {K : Tm → Prop} : putW tm none v K = K tm := by simp [putW, Tm.put]
theorem putW_some {tm : Tm} {d : Nat} {v : AV} {K : Tm → Prop} (h : d < tm.size) : putW tm (some d) v K = K (tm.set d v) := by simp [putW, Tm.put, h]
/-- What an operation's answer asks. -/
def ansW (r : Option OpR) (h : AH) (K : AV → AH → Prop) : Prop :=
  match r with
  | some (.val v h') => K v h'
  | some (.enter f args) => callW P T f args h K
  | some (.round l args) => yieldW P T l args h K
  | none => False
@[congr] theorem ansW_congr {r r' : Option OpR} {h : AH} {K : AV → AH → Prop} (e : r = r') : ansW P T r h K = ansW P T r' h K := by rw [e]
theorem ansW_val {v : AV} {h h' : AH} {K : AV → AH → Prop} : ansW P T (some (.val v h')) h K = K v h' := rfl
theorem ansW_enter {f : FuncId} {args : List AV} {h : AH} {K : AV → AH → Prop} : ansW P T (some (.enter f args)) h K = callW P T f args h K := rfl
theorem ansW_round {l : Nat} {args : List AV} {h : AH} {K : AV → AH → Prop} : ansW P T (some (.round l args)) h K = yieldW P T l args h K := rfl
/-- The operations of a region, one after another. -/
def opsW (ops : Array Oper) : List Oper → (Tm → AH → Prop) → Tm → AH → Prop
  | [], K, tm, h => K tm h
  | o :: l, K, tm, h => ifb (wantedA ops o tm) (ansW P T (evalOp T tm.get o h) h fun v h' => putW tm o.dst v fun tm' => opsW ops l K tm' h') (putW tm o.dst undefA fun tm' => opsW ops l K tm' h)
@[congr] theorem opsW_congr {ops : Array Oper} {l : List Oper} {K : Tm → AH → Prop} {tm tm' : Tm} {h h' : AH} (e : tm = tm') (e2 : h = h') : opsW P T ops l K tm h = opsW P T ops l K tm' h' := by rw [e, e2]
variable {P T}
theorem opsW_sound {ops : Array Oper} {K : Tm → AH → Prop} : ∀ {l : List Oper} {tm : Tm} {h : AH}, opsW P T ops l K tm h → wpo P T ops l K tm h
  | [], tm, h, hk => wpo_nil hk
  | o :: l, tm, h, hk => by
    unfold opsW at hk
    cases hw : wantedA ops o tm with
    | true =>
      rw [hw, ifb_true] at hk
      unfold ansW at hk
      split at hk
      · rename_i v h' hv
        obtain ⟨t, hp, hk⟩ := hk
        exact wpo_val hw hv hp (opsW_sound hk)
      · rename_i f args hv
        obtain ⟨v, h', hc, t, hp, hk⟩ := hk
        exact wpo_call hw hv hc hp (opsW_sound hk)
      · rename_i f args hv
        obtain ⟨v, h', hc, t, hp, hk⟩ := hk
        exact wpo_round hw hv hc hp (opsW_sound hk)
      · exact hk.elim
    | false =>
      rw [hw, ifb_false] at hk
      obtain ⟨t, hp, hk⟩ := hk
      exact wpo_skip hw hp (opsW_sound hk)

variable (P T)
/-- The code, as equations. A loop and a range over a function stay. -/
def codeW (rd : Option Nat) : Code → (Ex → St → Prop) → St → Prop
  | .skip, Q, s | .label _, Q, s => Q .normal s
  | .ret, Q, s => Q .ret s
  | .exit i, Q, s => Q (.exit i) s
  | .goto i, Q, s => Q (.goto i) s
  | .refuse _, _, _ => False
  | .seq a b, Q, s => codeW rd a (onNormal (codeW rd b Q) Q) s
  | .cond c a b, Q, s => bindv (match ev s.tm.get c with | some (.bool t) => some t | _ => none) fun t => ifb t (codeW rd a Q s) (codeW rd b Q s)
  | .block i b, Q, s => codeW rd b (onExit i Q) s
  | .scope b, Q, s => codeW rd b (noGoto Q) s
  | .region id ops d, Q, s => ((d = true → tight T ops.toList = true) ∧ opsW P T ops ops.toList (fun tm h => Q .normal { tm := tm, marks := s.marks, h := h }) s.tm s.h) ∨ wp P T rd (.region id ops d) Q s
  | .loop b, Q, s => wp P T rd (.loop b) Q s
  | .rangeFunc f ps as b, Q, s => wp P T rd (.rangeFunc f ps as b) Q s
@[congr] theorem codeW_congr {rd : Option Nat} {c : Code} {Q : Ex → St → Prop} {s s' : St} (e : s = s') : codeW P T rd c Q s = codeW P T rd c Q s' := by rw [e]
variable {P T}
theorem codeW_sound {rd : Option Nat} : ∀ {c : Code} {Q : Ex → St → Prop} {s : St}, codeW P T rd c Q s → wp P T rd c Q s := by
  intro c
  induction c with
  | skip => intro Q s h; exact wp_skip h
  | label l => intro Q s h; exact wp_label h
  | ret => intro Q s h; exact wp_ret h
  | exit i => intro Q s h; exact wp_exit h
  | goto i => intro Q s h; exact wp_goto h
  | refuse w => intro Q s h; exact h.elim
  | seq a b iha ihb =>
    intro Q s h
    refine wp_seq (wp_mono (iha h) ?_)
    intro e s hq
    cases e with
    | normal => exact ihb hq
    | _ => exact hq
  | cond c a b iha ihb =>
    intro Q s h
    obtain ⟨t, ht, h⟩ := h
    have hc : ev s.tm.get c = some (.bool t) := by
      split at ht
      · rename_i b hb; simp at ht; subst ht; exact hb
      · simp at ht
    refine wp_cond hc (fun e => ?_) (fun e => ?_)
    · subst e; exact iha (by simpa [ifb] using h)
    · subst e; exact ihb (by simpa [ifb] using h)
  | block i b ih => intro Q s h; exact wp_block (ih h)
  | scope b ih => intro Q s h; exact wp_scope (ih h)
  | region id ops d =>
    intro Q s h
    rcases h with h | h
    · cases d with
      | false => exact wp_region (opsW_sound h.2)
      | true => exact wp_draw (h.1 rfl) (opsW_sound h.2)
    · exact h
  | loop b ih => intro Q s h; exact h
  | rangeFunc f ps as b iha ihb => intro Q s h; exact h

/-! ### The equations -/
variable {rd : Option Nat} {Q : Ex → St → Prop} {s : St}
theorem codeW_skip : codeW P T rd .skip Q s = Q .normal s := rfl
theorem codeW_label {l : Nat} : codeW P T rd (.label l) Q s = Q .normal s := rfl
theorem codeW_ret : codeW P T rd .ret Q s = Q .ret s := rfl
theorem codeW_exit {i : Nat} : codeW P T rd (.exit i) Q s = Q (.exit i) s := rfl
theorem codeW_goto {i : Nat} : codeW P T rd (.goto i) Q s = Q (.goto i) s := rfl
theorem codeW_seq {a b : Code} : codeW P T rd (.seq a b) Q s = codeW P T rd a (onNormal (codeW P T rd b Q) Q) s := rfl
def boolOf : Option AV → Option Bool
  | some (.bool t) => some t
  | _ => none
theorem codeW_cond {c : Operand} {a b : Code} : codeW P T rd (.cond c a b) Q s = bindv (boolOf (ev s.tm.get c)) fun t => ifb t (codeW P T rd a Q s) (codeW P T rd b Q s) := rfl
theorem boolOf_some {t : Bool} : boolOf (some (.bool t)) = some t := rfl
theorem codeW_block {i : Nat} {b : Code} : codeW P T rd (.block i b) Q s = codeW P T rd b (onExit i Q) s := rfl
theorem codeW_scope {b : Code} : codeW P T rd (.scope b) Q s = codeW P T rd b (noGoto Q) s := rfl
theorem opsW_nil {ops : Array Oper} {K : Tm → AH → Prop} {tm : Tm} {h : AH} : opsW P T ops [] K tm h = K tm h := rfl
theorem opsW_cons {ops : Array Oper} {d : Option Nat} {op : Op} {ty : TypeId} {pos : String} {aft : Array Edge} {l : List Oper} {K : Tm → AH → Prop} {tm : Tm} {h : AH} :
    opsW P T ops (⟨d, op, ty, pos, aft, none⟩ :: l) K tm h = ansW P T (evalOp T tm.get ⟨d, op, ty, pos, aft, none⟩ h) h fun v h' => putW tm d v fun tm' => opsW P T ops l K tm' h' := by
  simp [opsW, wantedA, ifb]
def guardOf (ops : Array Oper) (j : Nat) : Option Nat := (ops[j]?).bind (·.dst)
def isB (v : AV) (want : Bool) : Bool := match v with | .bool b => b == want | _ => false
theorem isB_bool {b w : Bool} : isB (.bool b) w = (b == w) := rfl
theorem isB_undef {w : Bool} : isB undefA w = false := rfl
theorem opsW_guard {ops : Array Oper} {d : Option Nat} {op : Op} {ty : TypeId} {pos : String} {aft : Array Edge} {j g : Nat} {w : Bool} {l : List Oper} {K : Tm → AH → Prop} {tm : Tm} {h : AH} (hg : guardOf ops j = some g) :
    opsW P T ops (⟨d, op, ty, pos, aft, some (j, w)⟩ :: l) K tm h = ifb (isB (tm.get g) w) (ansW P T (evalOp T tm.get ⟨d, op, ty, pos, aft, some (j, w)⟩ h) h fun v h' => putW tm d v fun tm' => opsW P T ops l K tm' h') (putW tm d undefA fun tm' => opsW P T ops l K tm' h) := by
  unfold guardOf at hg
  simp only [opsW, wantedA, hg]
  rfl
theorem onNormal_normal {K : St → Prop} : onNormal K Q .normal s = K s := rfl
theorem onNormal_ret {K : St → Prop} : onNormal K Q .ret s = Q .ret s := rfl
theorem onNormal_exit {K : St → Prop} {i : Nat} : onNormal K Q (.exit i) s = Q (.exit i) s := rfl
theorem onNormal_goto {K : St → Prop} {i : Nat} : onNormal K Q (.goto i) s = Q (.goto i) s := rfl
theorem onExit_normal {i : Nat} : onExit i Q .normal s = Q .normal s := rfl
theorem onExit_ret {i : Nat} : onExit i Q .ret s = Q .ret s := rfl
theorem onExit_goto {i j : Nat} : onExit i Q (.goto j) s = Q (.goto j) s := rfl
theorem onExit_same {i : Nat} : onExit i Q (.exit i) s = Q .normal s := by simp [onExit]
theorem onExit_other {i j : Nat} (h : j ≠ i) : onExit i Q (.exit j) s = Q (.exit j) s := by simp [onExit, h]
theorem noGoto_normal : noGoto Q .normal s = Q .normal s := rfl
theorem noGoto_ret : noGoto Q .ret s = Q .ret s := rfl
theorem noGoto_exit {i : Nat} : noGoto Q (.exit i) s = Q (.exit i) s := rfl
@[congr] theorem onNormal_congr {K : St → Prop} {e : Ex} {s s' : St} (h : s = s') : onNormal K Q e s = onNormal K Q e s' := by rw [h]
@[congr] theorem onExit_congr {i : Nat} {e : Ex} {s s' : St} (h : s = s') : onExit i Q e s = onExit i Q e s' := by rw [h]
@[congr] theorem noGoto_congr {e : Ex} {s s' : St} (h : s = s') : noGoto Q e s = noGoto Q e s' := by rw [h]

/-! ### The operations, as equations -/
def andI (k : IntKind) (x y : Int) : Int := k.wrap (BitVec.ofInt k.bits x &&& BitVec.ofInt k.bits y).toNat
def orI (k : IntKind) (x y : Int) : Int := k.wrap (BitVec.ofInt k.bits x ||| BitVec.ofInt k.bits y).toNat
def xorI (k : IntKind) (x y : Int) : Int := k.wrap (BitVec.ofInt k.bits x ^^^ BitVec.ofInt k.bits y).toNat
def andNotI (k : IntKind) (x y : Int) : Int := k.wrap (BitVec.ofInt k.bits x &&& ~~~(BitVec.ofInt k.bits y)).toNat
def shlI (k : IntKind) (x y : Int) : Int := k.wrap (x * 2 ^ min y.toNat k.bits)
def shrI (k : IntKind) (x y : Int) : Int := x.fdiv (2 ^ min y.toNat k.bits)
section ops
variable {ρ : Env} {d : Option Nat} {ty : TypeId} {pos : String} {aft : Array Edge} {g : Option (Nat × Bool)} {h : AH}
def valR (h : AH) (x : Option AV) : Option OpR := x.map fun a => .val a h
theorem valR_some {a : AV} : valR h (some a) = some (.val a h) := rfl
theorem ev_tmp {t : Nat} : ev ρ (.tmp t) = some (ρ t) := rfl
theorem ev_int {k : IntKind} {n : Int} : ev ρ (.const (.int k n)) = some (.int k n) := rfl
theorem ev_bool {b : Bool} : ev ρ (.const (.bool b)) = some (.bool b) := rfl
theorem ev_slice : ev ρ (.const (.slice none 0 0)) = some (.slice none 0 0 0 true) := rfl
theorem ev_ptr : ev ρ (.const (.pointer none)) = some (.ptr none) := rfl
theorem ev_nilFunc : ev ρ (.const .nilFunc) = some .nilFunc := rfl
theorem ev_str {b : ByteArray} : ev ρ (.const (.string b)) = some (.str b.data.toList) := rfl
theorem ev_func {f : FuncId} : ev ρ (.func f) = some (.func f []) := rfl
theorem evs_nil : evs ρ [] = some [] := rfl
def consO (x : Option AV) (l : Option (List AV)) : Option (List AV) := match x, l with | some a, some l => some (a :: l) | _, _ => none
theorem evs_cons {x : Operand} {r : List Operand} : evs ρ (x :: r) = consO (ev ρ x) (evs ρ r) := rfl
theorem consO_some {a : AV} {l : List AV} : consO (some a) (some l) = some (a :: l) := rfl
theorem op_move {x : Operand} : evalOp T ρ ⟨d, .move x, ty, pos, aft, g⟩ h = valR h (ev ρ x) := rfl
theorem op_assign {x : Operand} : evalOp T ρ ⟨d, .assign x, ty, pos, aft, g⟩ h = valR h (ev ρ x) := rfl
def pickR (c a b : Option AV) : Option AV := match c with | some (.bool t) => if t then a else b | _ => none
theorem pickR_true {a b : Option AV} : pickR (some (.bool true)) a b = a := rfl
theorem pickR_false {a b : Option AV} : pickR (some (.bool false)) a b = b := rfl
theorem op_pick {c a b : Operand} : evalOp T ρ ⟨d, .pick c a b, ty, pos, aft, g⟩ h = valR h (pickR (ev ρ c) (ev ρ a) (ev ρ b)) := by
  simp only [evalOp, pickR, valR]
  cases ev ρ c with
  | none => rfl
  | some v => cases v <;> rfl
def binR (T : Tys) (op : BinOp) (t : TypeId) (x y : Option AV) : Option AV := match x, y with | some a, some b => binA T op t a b | _, _ => none
theorem binR_some {op : BinOp} {t : TypeId} {a b : AV} : binR T op t (some a) (some b) = binA T op t a b := rfl
theorem op_bin {op : BinOp} {t u : TypeId} {x y : Operand} : evalOp T ρ ⟨d, .binOp op t x y u, ty, pos, aft, g⟩ h = valR h (binR T op t (ev ρ x) (ev ρ y)) := by
  simp only [evalOp, binR, valR]
  cases ev ρ x <;> cases ev ρ y <;> rfl
theorem op_un {op : UnOp} {t : TypeId} {x : Operand} : evalOp T ρ ⟨d, .unOp op t x, ty, pos, aft, g⟩ h = valR h ((ev ρ x).bind (unA op)) := by
  simp only [evalOp, valR]
  cases ev ρ x <;> rfl
def pairR (x : Option (AV × AH)) : Option OpR := x.map fun p => .val p.1 p.2
theorem pairR_some {a : AV} {h : AH} : pairR (some (a, h)) = some (.val a h) := rfl
theorem op_conv {a b : TypeId} {x : Operand} : evalOp T ρ ⟨d, .convert a b x, ty, pos, aft, g⟩ h = pairR ((ev ρ x).bind (convA T h a b)) := by
  simp only [evalOp, pairR]
  cases ev ρ x <;> rfl
theorem op_load {t : TypeId} {x : Operand} : evalOp T ρ ⟨d, .load t x, ty, pos, aft, g⟩ h = valR h ((ev ρ x).bind (loadA T h t)) := by
  simp only [evalOp, valR]
  cases ev ρ x <;> rfl
def storeR (T : Tys) (h : AH) (t : TypeId) (x y : Option AV) : Option OpR := match x, y with | some p, some y => (storeA T h t p y).map fun h' => .val undefA h' | _, _ => none
theorem storeR_some {t : TypeId} {x y : AV} : storeR T h t (some x) (some y) = (storeA T h t x y).map fun h' => .val undefA h' := rfl
theorem op_store {t : TypeId} {x y : Operand} : evalOp T ρ ⟨d, .store t x y, ty, pos, aft, g⟩ h = storeR T h t (ev ρ x) (ev ρ y) := by
  simp only [evalOp, storeR]
  cases ev ρ x <;> cases ev ρ y <;> rfl
theorem op_extract {t : Operand} {i : Nat} : evalOp T ρ ⟨d, .extract t i, ty, pos, aft, g⟩ h = valR h (match ev ρ t with | some (.tuple vs) => vs[i]? | _ => none) := by
  simp only [evalOp, valR]
  cases ev ρ t with
  | none => rfl
  | some v => cases v <;> rfl
def tupR (x : Option AV) (i : Nat) : Option AV := match x with | some (.tuple vs) => vs[i]? | _ => none
theorem op_extract' {t : Operand} {i : Nat} : evalOp T ρ ⟨d, .extract t i, ty, pos, aft, g⟩ h = valR h (tupR (ev ρ t) i) := op_extract
theorem tupR_some {vs : List AV} {i : Nat} : tupR (some (.tuple vs)) i = vs[i]? := rfl
def builtR (T : Tys) (h : AH) (b : Builtin) (ts : List TypeId) (l : Option (List AV)) : Option OpR := match l with | some args => pairR (builtinA T h b ts args) | none => none
theorem builtR_some {b : Builtin} {ts : List TypeId} {args : List AV} : builtR T h b ts (some args) = pairR (builtinA T h b ts args) := rfl
theorem op_builtin {b : Builtin} {as : List Operand} {ts : List TypeId} : evalOp T ρ ⟨d, .call ⟨.builtin b, as.toArray, ts.toArray⟩, ty, pos, aft, g⟩ h = builtR T h b ts (evs ρ as) := by
  simp only [evalOp, builtR, pairR]
  cases evs ρ as <;> rfl
def enterR (f : Option AV) (l : Option (List AV)) : Option OpR := match l with
  | some args => (match f with
    | some (.func g cap) => some (.enter g (args ++ cap))
    | some (.yield l) => some (.round l args)
    | _ => none)
  | none => none
theorem enterR_func {f : FuncId} {cap args : List AV} : enterR (some (.func f cap)) (some args) = some (.enter f (args ++ cap)) := rfl
theorem enterR_yield {l : Nat} {args : List AV} : enterR (some (.yield l)) (some args) = some (.round l args) := rfl
theorem op_call {f : Operand} {as : List Operand} {ts : Array TypeId} : evalOp T ρ ⟨d, .call ⟨.value f, as.toArray, ts⟩, ty, pos, aft, g⟩ h = enterR (ev ρ f) (evs ρ as) := by
  simp only [evalOp, enterR]
  cases evs ρ as with
  | none => rfl
  | some l =>
    dsimp only
    cases ev ρ f with
    | none => rfl
    | some v => cases v <;> rfl
theorem bin_int {op : BinOp} {t : TypeId} {k : IntKind} {a b : Int} : binA T op t (.int k a) (.int k b) = intBin op k a b := by simp [binA]
theorem bin_shl {t : TypeId} {k k' : IntKind} {a b : Int} : binA T .shl t (.int k a) (.int k' b) = intBin .shl k a b := by simp [binA]
theorem bin_shr {t : TypeId} {k k' : IntKind} {a b : Int} : binA T .shr t (.int k a) (.int k' b) = intBin .shr k a b := by simp [binA]
theorem bin_str {op : BinOp} {t : TypeId} {a b : List UInt8} : binA T op t (.str a) (.str b) = strBin op a b := rfl
variable {k : IntKind} {x y : Int}
theorem i_add : intBin .add k x y = some (.int k (k.wrap (x + y))) := rfl
theorem i_sub : intBin .sub k x y = some (.int k (k.wrap (x - y))) := rfl
theorem i_mul : intBin .mul k x y = some (.int k (k.wrap (x * y))) := rfl
theorem i_quo (h : y ≠ 0) : intBin .quo k x y = some (.int k (k.wrap (x.tdiv y))) := by simp [intBin, h]
theorem i_rem (h : y ≠ 0) : intBin .rem k x y = some (.int k (x.tmod y)) := by simp [intBin, h]
theorem i_and : intBin .and k x y = some (.int k (andI k x y)) := rfl
theorem i_or : intBin .or k x y = some (.int k (orI k x y)) := rfl
theorem i_xor : intBin .xor k x y = some (.int k (xorI k x y)) := rfl
theorem i_andNot : intBin .andNot k x y = some (.int k (andNotI k x y)) := rfl
theorem i_shl (h : 0 ≤ y) : intBin .shl k x y = some (.int k (shlI k x y)) := by simp [intBin, Int.not_lt.2 h, shlI]
theorem i_shr (h : 0 ≤ y) : intBin .shr k x y = some (.int k (shrI k x y)) := by simp [intBin, Int.not_lt.2 h, shrI]
theorem i_eql : intBin .eql k x y = some (.bool (x == y)) := rfl
theorem i_neq : intBin .neq k x y = some (.bool (x != y)) := rfl
theorem i_lss : intBin .lss k x y = some (.bool (decide (x < y))) := rfl
theorem i_leq : intBin .leq k x y = some (.bool (decide (x ≤ y))) := rfl
theorem i_gtr : intBin .gtr k x y = some (.bool (decide (x > y))) := rfl
theorem i_geq : intBin .geq k x y = some (.bool (decide (x ≥ y))) := rfl
theorem s_eql {x y : List UInt8} : strBin .eql x y = some (.bool (x == y)) := rfl
theorem s_neq {x y : List UInt8} : strBin .neq x y = some (.bool (!(x == y))) := rfl
theorem bool_eql {t : TypeId} {x y : Bool} (h1 : (T t).desc = .bool) : binA T .eql t (.bool x) (.bool y) = some (.bool (x == y)) := by simp [binA, eqA, h1]
theorem bool_neq {t : TypeId} {x y : Bool} (h1 : (T t).desc = .bool) : binA T .neq t (.bool x) (.bool y) = some (.bool (!(x == y))) := by simp [binA, eqA, h1]
theorem u_not {b : Bool} : unA .not (.bool b) = some (.bool !b) := rfl
theorem conv_int {a b : TypeId} {k k' : IntKind} (h1 : (T a).desc = .int k') (h2 : (T b).desc = .int k) : convA T h a b (.int k' x) = some (.int k (k.wrap x), h) := by simp [convA, h1, h2]
end ops

/-! ### A call's end -/
def endW (T : Tys) (rs : List ResultVar) (K : AV → AH → Prop) : Ex → St → Prop
  | .normal, s | .ret, s => bindv (leave T rs s) fun p => K p.1 p.2
  | _, _ => False
theorem endW_ret {rs : List ResultVar} {K : AV → AH → Prop} : endW T rs K .ret s = bindv (leave T rs s) fun p => K p.1 p.2 := rfl
theorem endW_normal {rs : List ResultVar} {K : AV → AH → Prop} : endW T rs K .normal s = bindv (leave T rs s) fun p => K p.1 p.2 := rfl
@[congr] theorem endW_congr {rs : List ResultVar} {K : AV → AH → Prop} {e : Ex} {s s' : St} (h : s = s') : endW T rs K e s = endW T rs K e s' := by rw [h]
theorem callW_of {f : FuncId} {fn : Func} {c : Code} {args : List AV} {h : AH} {K : AV → AH → Prop} {n : Nat} {rs : List ResultVar} (hf : P.funcs[f]? = some fn) (hb : fn.body = some c) (hn : fn.ntmps = n) (hr : fn.results.toList = rs)
    (hw : codeW P T none c (endW T rs K) ⟨Tm.enter args n, [], h⟩) : callW P T f args h K := by
  subst hn; subst hr
  obtain ⟨e, s, hr, hq⟩ := codeW_sound hw
  cases e with
  | normal =>
    obtain ⟨⟨v, h'⟩, hl, hk⟩ := hq
    exact ⟨v, h', callA_of_wp hf hb ⟨_, s, hr, .inl rfl, hl⟩, hk⟩
  | ret =>
    obtain ⟨⟨v, h'⟩, hl, hk⟩ := hq
    exact ⟨v, h', callA_of_wp hf hb ⟨_, s, hr, .inr rfl, hl⟩, hk⟩
  | exit i => exact hq.elim
  | goto i => exact hq.elim
theorem callW_mono {f : FuncId} {args : List AV} {h : AH} {K K' : AV → AH → Prop} (hc : callW P T f args h K) (hk : ∀ v h', K v h' → K' v h') : callW P T f args h K' := by
  obtain ⟨v, h', hc, h1⟩ := hc
  exact ⟨v, h', hc, hk _ _ h1⟩
theorem enter_size (args : List AV) (n : Nat) : (Tm.enter args n).size = max args.length n := by simp [Tm.enter, fillFrom_size]
theorem leave_nil {rs : List ResultVar} {tm : Tm} {h : AH} : leave T rs ⟨tm, [], h⟩ = (resultsOf T tm h rs).map fun vs => (packed vs, h) := rfl
theorem res_nil {tm : Tm} {h : AH} : resultsOf T tm h [] = some [] := rfl
theorem res_tmp {tm : Tm} {h : AH} {t : Nat} {r : List ResultVar} : resultsOf T tm h (.tmp t :: r) = consO (some (tm.get t)) (resultsOf T tm h r) := rfl
theorem res_cell {tm : Tm} {h : AH} {a : Nat} {t : TypeId} {r : List ResultVar} : resultsOf T tm h (.cell a t :: r) = consO (loadA T h t (tm.get a)) (resultsOf T tm h r) := rfl

/-! ### The steps of the code, one by one -/
theorem c_skip (h : Q .normal s) : codeW P T rd .skip Q s := h
theorem c_label {l : Nat} (h : Q .normal s) : codeW P T rd (.label l) Q s := h
theorem c_ret (h : Q .ret s) : codeW P T rd .ret Q s := h
theorem c_exit {i : Nat} (h : Q (.exit i) s) : codeW P T rd (.exit i) Q s := h
theorem c_seq {a b : Code} (h : codeW P T rd a (onNormal (codeW P T rd b Q) Q) s) : codeW P T rd (.seq a b) Q s := h
theorem c_block {i : Nat} {b : Code} (h : codeW P T rd b (onExit i Q) s) : codeW P T rd (.block i b) Q s := h
theorem c_scope {b : Code} (h : codeW P T rd b (noGoto Q) s) : codeW P T rd (.scope b) Q s := h
theorem c_region {id : Nat} {ops : List Oper} {tm : Tm} {mk : List Nat} {h : AH} (hw : opsW P T ops.toArray ops (fun tm h => Q .normal ⟨tm, mk, h⟩) tm h) : codeW P T rd (.region id ops.toArray false) Q ⟨tm, mk, h⟩ := .inl ⟨fun h => by simp at h, hw⟩
theorem c_draw {id : Nat} {ops : List Oper} {tm : Tm} {mk : List Nat} {h : AH} (ht : tight T ops = true) (hw : opsW P T ops.toArray ops (fun tm h => Q .normal ⟨tm, mk, h⟩) tm h) : codeW P T rd (.region id ops.toArray true) Q ⟨tm, mk, h⟩ := .inl ⟨fun _ => ht, hw⟩
theorem c_cond {c : Operand} {a b : Code} {tm : Tm} {mk : List Nat} {h : AH} (hw : bindv (boolOf (ev tm.get c)) fun t => ifb t (codeW P T rd a Q ⟨tm, mk, h⟩) (codeW P T rd b Q ⟨tm, mk, h⟩)) : codeW P T rd (.cond c a b) Q ⟨tm, mk, h⟩ := hw
theorem q_nn {K : St → Prop} (h : K s) : onNormal K Q .normal s := h
theorem q_nr {K : St → Prop} (h : Q .ret s) : onNormal K Q .ret s := h
theorem q_ne {K : St → Prop} {i : Nat} (h : Q (.exit i) s) : onNormal K Q (.exit i) s := h
theorem q_en {i : Nat} (h : Q .normal s) : onExit i Q .normal s := h
theorem q_er {i : Nat} (h : Q .ret s) : onExit i Q .ret s := h
theorem q_es {i : Nat} (h : Q .normal s) : onExit i Q (.exit i) s := by rw [onExit_same]; exact h
theorem q_eo {i j : Nat} (hne : (j == i) = false) (h : Q (.exit j) s) : onExit i Q (.exit j) s := by rw [onExit_other (by simpa using hne)]; exact h
theorem q_gn (h : Q .normal s) : noGoto Q .normal s := h
theorem q_gr (h : Q .ret s) : noGoto Q .ret s := h
theorem q_ge {i : Nat} (h : Q (.exit i) s) : noGoto Q (.exit i) s := h

def guardB (g : Option Nat) (tm : Tm) (w : Bool) : Bool := match g with | some g => isB (tm.get g) w | none => false
theorem guardB_some {g : Nat} {tm : Tm} {w : Bool} : guardB (some g) tm w = isB (tm.get g) w := rfl
theorem opsW_if {ops : Array Oper} {d : Option Nat} {op : Op} {ty : TypeId} {pos : String} {aft : Array Edge} {j : Nat} {w : Bool} {l : List Oper} {K : Tm → AH → Prop} {tm : Tm} {h : AH} :
    opsW P T ops (⟨d, op, ty, pos, aft, some (j, w)⟩ :: l) K tm h = ifb (guardB (guardOf ops j) tm w) (ansW P T (evalOp T tm.get ⟨d, op, ty, pos, aft, some (j, w)⟩ h) h fun v h' => putW tm d v fun tm' => opsW P T ops l K tm' h') (putW tm d undefA fun tm' => opsW P T ops l K tm' h) := by
  unfold guardB guardOf
  simp only [opsW, wantedA]
  cases (ops[j]?).bind (·.dst) <;> rfl
theorem guardOf_zero {o : Oper} {l : List Oper} : guardOf (o :: l).toArray 0 = o.dst := by simp [guardOf]
theorem guardOf_succ {o : Oper} {l : List Oper} {n : Nat} : guardOf (o :: l).toArray (n + 1) = guardOf l.toArray n := by simp [guardOf]

/-! ### The same without a function in a term: what simp rewrites -/
def putM (P : Program) (T : Tys) (ops : Array Oper) (l : List Oper) (K : Tm → AH → Prop) (d : Option Nat) (tm : Tm) (v : AV) (h : AH) : Prop := putW tm d v fun tm' => opsW P T ops l K tm' h
theorem putM_some {ops : Array Oper} {l : List Oper} {K : Tm → AH → Prop} {d : Nat} {tm : Tm} {v : AV} {h : AH} (hd : d < tm.size) : putM P T ops l K (some d) tm v h = opsW P T ops l K (tm.set d v) h := by
  unfold putM; rw [putW_some hd]
theorem putM_none {ops : Array Oper} {l : List Oper} {K : Tm → AH → Prop} {tm : Tm} {v : AV} {h : AH} : putM P T ops l K none tm v h = opsW P T ops l K tm h := by
  unfold putM; rw [putW_none]
def callM (P : Program) (T : Tys) (f : FuncId) (args : List AV) (h : AH) (ops : Array Oper) (l : List Oper) (K : Tm → AH → Prop) (d : Option Nat) (tm : Tm) : Prop := callW P T f args h fun v h' => putM P T ops l K d tm v h'
def yieldM (P : Program) (T : Tys) (f : Nat) (args : List AV) (h : AH) (ops : Array Oper) (l : List Oper) (K : Tm → AH → Prop) (d : Option Nat) (tm : Tm) : Prop := yieldW P T f args h fun v h' => putM P T ops l K d tm v h'
def ansM (P : Program) (T : Tys) (ops : Array Oper) (l : List Oper) (K : Tm → AH → Prop) (d : Option Nat) (tm : Tm) (h : AH) (r : Option OpR) : Prop := ansW P T r h fun v h' => putM P T ops l K d tm v h'
theorem ansM_val {ops : Array Oper} {l : List Oper} {K : Tm → AH → Prop} {d : Option Nat} {tm : Tm} {v : AV} {h h' : AH} : ansM P T ops l K d tm h (some (.val v h')) = putM P T ops l K d tm v h' := rfl
theorem ansM_enter {ops : Array Oper} {l : List Oper} {K : Tm → AH → Prop} {d : Option Nat} {tm : Tm} {f : FuncId} {args : List AV} {h : AH} : ansM P T ops l K d tm h (some (.enter f args)) = callM P T f args h ops l K d tm := rfl
theorem ansM_round {ops : Array Oper} {l : List Oper} {K : Tm → AH → Prop} {d : Option Nat} {tm : Tm} {f : Nat} {args : List AV} {h : AH} : ansM P T ops l K d tm h (some (.round f args)) = yieldM P T f args h ops l K d tm := rfl
def iteM (P : Program) (T : Tys) (ops : Array Oper) (l : List Oper) (K : Tm → AH → Prop) (d : Option Nat) (tm : Tm) (h : AH) (c : Bool) (r : Option OpR) : Prop := ifb c (ansM P T ops l K d tm h r) (putM P T ops l K d tm undefA h)
theorem iteM_true {ops : Array Oper} {l : List Oper} {K : Tm → AH → Prop} {d : Option Nat} {tm : Tm} {r : Option OpR} {h : AH} : iteM P T ops l K d tm h true r = ansM P T ops l K d tm h r := by simp [iteM, ifb]
theorem iteM_false {ops : Array Oper} {l : List Oper} {K : Tm → AH → Prop} {d : Option Nat} {tm : Tm} {r : Option OpR} {h : AH} : iteM P T ops l K d tm h false r = putM P T ops l K d tm undefA h := by simp [iteM, ifb]
theorem o_nil {ops : Array Oper} {K : Tm → AH → Prop} {tm : Tm} {h : AH} : opsW P T ops [] K tm h = K tm h := rfl
theorem o_cons {ops : Array Oper} {d : Option Nat} {op : Op} {ty : TypeId} {pos : String} {aft : Array Edge} {l : List Oper} {K : Tm → AH → Prop} {tm : Tm} {h : AH} :
    opsW P T ops (⟨d, op, ty, pos, aft, none⟩ :: l) K tm h = ansM P T ops l K d tm h (evalOp T tm.get ⟨d, op, ty, pos, aft, none⟩ h) := opsW_cons
theorem o_if {ops : Array Oper} {d : Option Nat} {op : Op} {ty : TypeId} {pos : String} {aft : Array Edge} {j : Nat} {w : Bool} {l : List Oper} {K : Tm → AH → Prop} {tm : Tm} {h : AH} :
    opsW P T ops (⟨d, op, ty, pos, aft, some (j, w)⟩ :: l) K tm h = iteM P T ops l K d tm h (guardB (guardOf ops j) tm w) (evalOp T tm.get ⟨d, op, ty, pos, aft, some (j, w)⟩ h) := opsW_if
theorem iteM_of {ops : Array Oper} {l : List Oper} {K : Tm → AH → Prop} {d : Option Nat} {tm : Tm} {r : Option OpR} {h : AH} {c : Bool} (ht : c = true → ansM P T ops l K d tm h r) (hf : c = false → putM P T ops l K d tm undefA h) : iteM P T ops l K d tm h c r := ifb_of ht hf
/-- The region, what follows hidden behind a name. -/
theorem c_reg {id : Nat} {ops : List Oper} {tm : Tm} {mk : List Nat} {h : AH} (hw : ∀ K : Tm → AH → Prop, (∀ tm h, Q .normal ⟨tm, mk, h⟩ → K tm h) → opsW P T ops.toArray ops K tm h) : codeW P T rd (.region id ops.toArray false) Q ⟨tm, mk, h⟩ :=
  c_region (hw _ fun _ _ h => h)
theorem c_drw {id : Nat} {ops : List Oper} {tm : Tm} {mk : List Nat} {h : AH} (ht : tight T ops = true) (hw : ∀ K : Tm → AH → Prop, (∀ tm h, Q .normal ⟨tm, mk, h⟩ → K tm h) → opsW P T ops.toArray ops K tm h) : codeW P T rd (.region id ops.toArray true) Q ⟨tm, mk, h⟩ :=
  c_draw ht (hw _ fun _ _ h => h)

theorem packed_one {v : AV} : packed [v] = v := rfl
theorem packed_two {v u : AV} {l : List AV} : packed (v :: u :: l) = .tuple (v :: u :: l) := rfl
section ops2
variable {ρ : Env} {d : Option Nat} {ty : TypeId} {pos : String} {aft : Array Edge} {g : Option (Nat × Bool)} {h : AH}
theorem evParts_nil : evParts ρ [] = some [] := rfl
def consP (i : Nat) (x : Option AV) (l : Option (List (Nat × AV))) : Option (List (Nat × AV)) := match x, l with | some a, some l => some ((i, a) :: l) | _, _ => none
theorem evParts_cons {i : Nat} {x : Operand} {r : List (Nat × Operand)} : evParts ρ ((i, x) :: r) = consP i (ev ρ x) (evParts ρ r) := rfl
theorem consP_some {i : Nat} {a : AV} {l : List (Nat × AV)} : consP i (some a) (some l) = some ((i, a) :: l) := rfl
def bsR (T : Tys) (h : AH) (t n : Nat) (l : Option (List (Nat × AV))) : Option OpR :=
  match (T t).desc, l with
  | .slice e, some l =>
    if okT T e = true ∧ n * (T e).size ≤ 16777216 ∧ (T e).zero.length = (T e).size then
      (match fillA (fun i => some (i * (T e).size, (T e).size)) (rep (T e).zero n) l with
      | some cs => some (.val (.slice (some (h.size, 0)) n n (T e).size true) (h.push (.cells cs)))
      | none => none)
    else none
  | _, _ => none
theorem op_bs {t n : Nat} {ps : List (Nat × Operand)} : evalOp T ρ ⟨d, .buildSlice t n ps.toArray, ty, pos, aft, g⟩ h = bsR T h t n (evParts ρ ps) := by
  simp only [evalOp, bsR]
  rfl
theorem bsR_some {t n e : Nat} {l : List (Nat × AV)} {cs : List AV} (h1 : (T t).desc = .slice e) (h2 : okT T e = true ∧ n * (T e).size ≤ 16777216 ∧ (T e).zero.length = (T e).size) (h3 : fillA (fun i => some (i * (T e).size, (T e).size)) (rep (T e).zero n) l = some cs) :
    bsR T h t n (some l) = some (.val (.slice (some (h.size, 0)) n n (T e).size true) (h.push (.cells cs))) := by
  unfold bsR; rw [h1]; simp only; rw [if_pos h2, h3]
theorem bsR_one {t e : Nat} {v : AV} (h1 : (T t).desc = .slice e) (hok : okT T e = true) (hs : (T e).size = 1) (hz : (T e).zero.length = 1) (hv : v.cells = [v]) (ho : v.one = true) :
    bsR T h t 1 (some [(0, v)]) = some (.val (.slice (some (h.size, 0)) 1 1 1 true) (h.push (.cells [v]))) := by
  have h3 : fillA (fun i => some (i * (T e).size, (T e).size)) (rep (T e).zero 1) [(0, v)] = some [v] := by
    have hl : (rep (T e).zero 1).length = 1 := by simp [rep, hz]
    simp only [fillA, hs, hv, List.length_cons, List.length_nil, hl, List.all_cons, List.all_nil, ho, Nat.zero_mul, Nat.zero_add, over]
    simp [rep, hz]
    exact List.eq_nil_of_length_eq_zero (by simp [hz])
  rw [bsR_some h1 ⟨hok, by rw [hs]; omega, by rw [hs]; exact hz⟩ h3, hs]
def idxA (T : Tys) (t : TypeId) (x ix : AV) : Option AV :=
  match (T t).desc, x, ix with
  | .slice e, .slice (some (i, o)) len _ sz _, .int _ n => if okT T e = true ∧ 0 ≤ n ∧ n < len ∧ sz = (T e).size then some (.ptr (some (i, o + n.toNat * sz))) else none
  | .slice e, .islice row off len cap sz, .int _ n => if okT T e = true ∧ 0 ≤ n ∧ n < len ∧ len ≤ cap ∧ sz = (T e).size then some (.iptr row (off + n.toNat * sz)) else none
  | .array len e, .ptr (some (i, o)), .int _ n => if okT T e = true ∧ 0 ≤ n ∧ n < len then some (.ptr (some (i, o + n.toNat * (T e).size))) else none
  | _, _, _ => none
def idxR (T : Tys) (t : TypeId) (x ix : Option AV) : Option AV := match x, ix with | some x, some y => idxA T t x y | _, _ => none
theorem idxR_some {t : TypeId} {x y : AV} : idxR T t (some x) (some y) = idxA T t x y := rfl
theorem op_indexAddr {t : TypeId} {x ix : Operand} : evalOp T ρ ⟨d, .indexAddr t x ix, ty, pos, aft, g⟩ h = valR h (idxR T t (ev ρ x) (ev ρ ix)) := by
  simp only [evalOp, idxR, valR]
  cases ev ρ x with
  | none => split <;> simp_all
  | some a => cases ev ρ ix with
    | none => split <;> simp_all
    | some b =>
      simp only [idxA]
      cases (T t).desc <;> cases a <;> try rfl
      · rename_i e p len cap sz ex
        rcases p with _ | ⟨i, o⟩ <;> cases b <;> first | rfl | (dsimp only; split <;> rfl)
      · cases b <;> first | rfl | (dsimp only; split <;> rfl)
      · rename_i n e p
        rcases p with _ | ⟨i, o⟩ <;> cases b <;> first | rfl | (dsimp only; split <;> rfl)
def slcR (T : Tys) (t : TypeId) (x : Option AV) (lo hi mx : Option (Option AV)) : Option AV :=
  match x, lo, hi, mx with
  | some a, some l, some h', some m => (match asI l, asI h', asI m with
    | some l, some h', some m => sliceA T t a l h' m
    | _, _, _ => none)
  | _, _, _, _ => none
theorem slcR_some {t : TypeId} {a : AV} {l u m : Option AV} {l' u' m' : Option Int} (h1 : asI l = some l') (h2 : asI u = some u') (h3 : asI m = some m') : slcR T t (some a) (some l) (some u) (some m) = sliceA T t a l' u' m' := by
  simp only [slcR, h1, h2, h3]
theorem slcR_nnn {t : TypeId} {a : AV} : slcR T t (some a) (some none) (some none) (some none) = sliceA T t a none none none := rfl
theorem slcR_inn {t : TypeId} {a : AV} {k : IntKind} {x : Int} : slcR T t (some a) (some (some (.int k x))) (some none) (some none) = sliceA T t a (some x) none none := rfl
theorem slcR_nin {t : TypeId} {a : AV} {k : IntKind} {x : Int} : slcR T t (some a) (some none) (some (some (.int k x))) (some none) = sliceA T t a none (some x) none := rfl
theorem slcR_iin {t : TypeId} {a : AV} {k k' : IntKind} {x y : Int} : slcR T t (some a) (some (some (.int k x))) (some (some (.int k' y))) (some none) = sliceA T t a (some x) (some y) none := rfl
theorem slcR_iii {t : TypeId} {a : AV} {k k' k2 : IntKind} {x y z : Int} : slcR T t (some a) (some (some (.int k x))) (some (some (.int k' y))) (some (some (.int k2 z))) = sliceA T t a (some x) (some y) (some z) := rfl
theorem slcR_nii {t : TypeId} {a : AV} {k' k2 : IntKind} {y z : Int} : slcR T t (some a) (some none) (some (some (.int k' y))) (some (some (.int k2 z))) = sliceA T t a none (some y) (some z) := rfl
theorem evO_none : evO ρ none = some none := rfl
theorem evO_some {x : Operand} : evO ρ (some x) = (ev ρ x).map some := rfl
theorem op_slice {t : TypeId} {x : Operand} {lo hi mx : Option Operand} : evalOp T ρ ⟨d, .slice t x lo hi mx, ty, pos, aft, g⟩ h = valR h (slcR T t (ev ρ x) (evO ρ lo) (evO ρ hi) (evO ρ mx)) := by
  simp only [evalOp, slcR, valR]
  cases ev ρ x <;> cases evO ρ lo <;> cases evO ρ hi <;> cases evO ρ mx <;> try rfl
  rename_i a l u m
  dsimp only
  cases asI l <;> cases asI u <;> cases asI m <;> rfl
theorem builtin_append {t xt : TypeId} {x y : AV} : builtinA T h .append [t, xt] [x, y] = appendA T h t xt x y := rfl
end ops2
attribute [go_sem ↓] o_nil o_cons o_if op_move op_assign op_bin op_pick op_conv op_un op_load op_store op_extract' op_builtin op_call op_bs op_indexAddr op_slice
attribute [go_sem] guardOf_zero guardOf_succ guardB_some isB_bool isB_undef iteM_true iteM_false pickR_true pickR_false ev_tmp ev_int ev_bool ev_slice ev_ptr ev_nilFunc ev_str ev_func evs_nil evs_cons consO_some idxR_some slcR_nnn slcR_inn slcR_nin slcR_iin slcR_iii slcR_nii evO_none evO_some evParts_nil evParts_cons consP_some
  valR_some pairR_some ansM_val ansM_enter ansM_round putM_some putM_none Tm.get_set Tm.size_set binR_some bin_int bin_shl bin_shr bin_str i_add i_sub i_mul i_quo i_rem i_and i_or i_xor i_andNot i_shl i_shr i_eql i_neq i_lss i_leq i_gtr i_geq u_not s_eql s_neq storeR_some tupR_some builtR_some enterR_func enterR_yield
  builtin_append bindv_some boolOf_some ifb_true ifb_false packed_one packed_two res_nil res_tmp res_cell leave_nil endW_ret endW_normal

/-- A loop by an invariant and a measure. -/
theorem c_loop {b : Code} (I : Nat → St → Prop) (m : Nat) (h0 : I m s) (hb : ∀ m s, I m s → codeW P T rd b (onNormal (fun s' => ∃ m', m' < m ∧ I m' s') Q) s) : codeW P T rd (.loop b) Q s :=
  wp_loop_inv I m (fun m s h => codeW_sound (hb m s h)) h0
theorem callM_of {f : FuncId} {args : List AV} {h : AH} {ops : Array Oper} {l : List Oper} {K : Tm → AH → Prop} {d : Option Nat} {tm : Tm} {R : AV → AH → Prop} (hc : callW P T f args h R) (hk : ∀ v h', R v h' → putM P T ops l K d tm v h') : callM P T f args h ops l K d tm :=
  callW_mono hc hk
theorem wrap_i64 {x : Int} (h1 : -9223372036854775808 ≤ x) (h2 : x ≤ 9223372036854775807) : IntKind.i64.wrap x = x := by
  simp only [IntKind.wrap, IntKind.signed, IntKind.bits]
  simp
  omega
theorem wrap_u8 {x : Int} : IntKind.u8.wrap x = x % 256 := by
  simp [IntKind.wrap, IntKind.signed, IntKind.bits]
theorem callW_run {f : FuncId} {args : List AV} {h : AH} {v : AV} (hc : callW P T f args h fun u _ => u = v) : ∃ n h', callA P T n f args h = some (v, h') := by
  obtain ⟨u, h', ⟨N, hN⟩, rfl⟩ := hc
  exact ⟨N, h', hN N (Nat.le_refl _)⟩
end walk
end Go.Abs
