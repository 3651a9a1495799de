/- The abstract machine, and that it is sound. -/
import Derived.CallsIn
import Derived.KernelRfl
import Derived.Lib.Bytealg
import Derived.Laws.World
import Derived.Laws.Sem
import Derived.Below
import Derived.RangeFuncRecord
import Derived.Laws.Append
import Derived.Laws.Cells
import Derived.Laws.StructEq
import Derived.Laws.BytesString
import Derived.Laws.BitsLemmas
import Derived.RangeFuncIn
import Derived.RangeFuncLeaves
import Derived.RangeFuncCalls
import Derived.OrdersIn
import Derived.Carry
import Derived.ChangeSame
import Derived.JoinedOf
import Derived.JoinedCond
section
/- An abstract machine for single-goroutine Go code: values, heap, and an evaluator of the model's code. Definitions only. -/
namespace Go.Abs

/-! ### A finite map on numbers, quick in the kernel -/
inductive Tr (α : Type) where
  | leaf
  | node (v : Option α) (l r : Tr α)

def Tr.get {α : Type} : Tr α → Nat → Option α
  | .leaf, _ => none
  | .node v l r, k => match k with
    | 0 => v
    | k + 1 => if k % 2 = 0 then l.get (k / 2) else r.get (k / 2)

/-- 'node v c r', c looked at first. -/
def Tr.mkL {α : Type} (v : Option α) (c r : Tr α) : Tr α := match c with | .leaf => .node v .leaf r | .node a b d => .node v (.node a b d) r
def Tr.mkR {α : Type} (v : Option α) (l c : Tr α) : Tr α := match c with | .leaf => .node v l .leaf | .node a b d => .node v l (.node a b d)

def Tr.setF {α : Type} : Nat → Tr α → Nat → α → Tr α
  | 0, t, _, _ => t
  | f + 1, .leaf, k, x => match k with
    | 0 => .node (some x) .leaf .leaf
    | k + 1 => if k % 2 = 0 then .mkL none (setF f .leaf (k / 2) x) .leaf else .mkR none .leaf (setF f .leaf (k / 2) x)
  | f + 1, .node v l r, k, x => match k with
    | 0 => .node (some x) l r
    | k + 1 => if k % 2 = 0 then .mkL v (setF f l (k / 2) x) r else .mkR v l (setF f r (k / 2) x)
def Tr.set {α : Type} (t : Tr α) (k : Nat) (x : α) : Tr α := t.setF (k + 1) k x

/-! ### Values -/
inductive AV where
  | int (k : IntKind) (n : Int)
  | bool (b : Bool)
  | str (s : List UInt8)
  | ptr (a : Option (Nat × Nat))
  | iptr (row : List AV) (off : Nat)
  | slice (a : Option (Nat × Nat)) (len cap sz : Nat) (ex : Bool)
  | islice (row : List AV) (off len cap sz : Nat)
  | func (f : FuncId) (cap : List AV)
  | yield (l : Nat)
  | nilFunc
  | agg (cs : List AV)
  | tuple (vs : List AV)
  deriving Inhabited

def undefA : AV := .tuple []

def AV.cells : AV → List AV
  | .agg cs => cs
  | v => [v]
def AV.one : AV → Bool
  | .agg _ | .tuple _ => false
  | _ => true

/-- A constant of the code. -/
def AV.ofVal1 : Value → Option AV
  | .int k n => some (.int k n)
  | .bool b => some (.bool b)
  | .string s => some (.str s.data.toList)
  | .pointer none => some (.ptr none)
  | .slice none 0 0 => some (.slice none 0 0 0 true)
  | .nilFunc => some .nilFunc
  | _ => none
def AV.ofVals : List Value → Option (List AV)
  | [] => some []
  | v :: r => match AV.ofVal1 v, AV.ofVals r with
    | some a, some l => some (a :: l)
    | _, _ => none
def AV.ofVal : Value → Option AV
  | .agg cs => (AV.ofVals cs.toList).map .agg
  | .tuple cs => (AV.ofVals cs.toList).map .tuple
  | v => AV.ofVal1 v

/-! ### Temporaries -/
structure Tm where
  size : Nat
  tr : Tr AV
def Tm.get (t : Tm) (i : Nat) : AV := (t.tr.get i).getD undefA
def Tm.set (t : Tm) (i : Nat) (v : AV) : Tm := { t with tr := t.tr.set i v }
def Tm.put (t : Tm) (d : Option Nat) (v : AV) : Option Tm :=
  match d with
  | none => some t
  | some d => if d < t.size then some (t.set d v) else none
def Tm.fillFrom (t : Tm) : Nat → List AV → Tm
  | _, [] => t
  | i, v :: r => (t.set i v).fillFrom (i + 1) r
def Tm.enter (args : List AV) (n : Nat) : Tm := Tm.fillFrom { size := max args.length n, tr := .leaf } 0 args

/-! ### Heap -/
inductive AO where
  | cells (cs : List AV)
  | loop (st : LoopState) (pending : Option Code) (tm : Tm) (ps : List Nat) (assign body : Code)
  | defs (taken : Bool)
  | dead
structure AH where
  size : Nat
  tr : Tr AO
def AH.get (h : AH) (i : Nat) : Option AO := h.tr.get i
def AH.set (h : AH) (i : Nat) (o : AO) : AH := { h with tr := h.tr.set i o }
def AH.push (h : AH) (o : AO) : AH := { size := h.size + 1, tr := h.tr.set h.size o }
def AH.empty : AH := { size := 0, tr := .leaf }

/-- n cells from offset o of a list. -/
def cut (cs : List AV) (o n : Nat) : Option (List AV) := if o + n ≤ cs.length then some ((cs.drop o).take n) else none
/-- The list with new cells laid over it from offset o on. -/
def over (cs : List AV) (o : Nat) (new : List AV) : List AV := cs.take o ++ new ++ cs.drop (o + new.length)
def AH.read (h : AH) (i o n : Nat) : Option (List AV) :=
  match h.get i with
  | some (.cells cs) => cut cs o n
  | _ => none
def AH.write (h : AH) (i o : Nat) (new : List AV) : Option AH :=
  match h.get i with
  | some (.cells cs) => if o + new.length ≤ cs.length then some (h.set i (.cells (over cs o new))) else none
  | _ => none

/-! ### Types -/
inductive TD where
  | bad | int (k : IntKind) | bool | string | pointer (e : Nat) | slice (e : Nat) | array (n e : Nat)
  | struct (fs : List (Nat × Nat × Bool)) | func | tuple
  deriving Inhabited, DecidableEq
structure TI where
  desc : TD
  size : Nat
  bytes : Nat
  zero : List AV
  eqOk : Bool := false
  deriving Inhabited
abbrev Tys := Nat → TI
def TD.isAgg : TD → Bool
  | .array .. | .struct _ => true
  | _ => false

def okT (T : Tys) (t : TypeId) : Bool := match (T t).desc with | .bad => false | _ => true

/-! ### Operations -/
inductive OpR where
  | val (v : AV) (h : AH)
  | enter (f : FuncId) (args : List AV)
  | round (l : Nat) (args : List AV)

abbrev Env := Nat → AV
def ev (ρ : Env) : Operand → Option AV
  | .tmp t => some (ρ t)
  | .const v => AV.ofVal v
  | .global _ => none
  | .func f => some (.func f [])
def evs (ρ : Env) : List Operand → Option (List AV)
  | [] => some []
  | x :: r => match ev ρ x, evs ρ r with
    | some a, some l => some (a :: l)
    | _, _ => none

def intBin (op : BinOp) (k : IntKind) (x y : Int) : Option AV :=
  match op with
  | .add => some (.int k (k.wrap (x + y)))
  | .sub => some (.int k (k.wrap (x - y)))
  | .mul => some (.int k (k.wrap (x * y)))
  | .quo => if y = 0 then none else some (.int k (k.wrap (x.tdiv y)))
  | .rem => if y = 0 then none else some (.int k (x.tmod y))
  | .and => some (.int k (k.wrap (BitVec.ofInt k.bits x &&& BitVec.ofInt k.bits y).toNat))
  | .or => some (.int k (k.wrap (BitVec.ofInt k.bits x ||| BitVec.ofInt k.bits y).toNat))
  | .xor => some (.int k (k.wrap (BitVec.ofInt k.bits x ^^^ BitVec.ofInt k.bits y).toNat))
  | .andNot => some (.int k (k.wrap (BitVec.ofInt k.bits x &&& ~~~(BitVec.ofInt k.bits y)).toNat))
  | .shl => if y < 0 then none else some (.int k (k.wrap (x * 2 ^ min y.toNat k.bits)))
  | .shr => if y < 0 then none else some (.int k (x.fdiv (2 ^ min y.toNat k.bits)))
  | .eql => some (.bool (x == y))
  | .neq => some (.bool (x != y))
  | .lss => some (.bool (decide (x < y)))
  | .leq => some (.bool (decide (x ≤ y)))
  | .gtr => some (.bool (decide (x > y)))
  | .geq => some (.bool (decide (x ≥ y)))
def strBin (op : BinOp) (x y : List UInt8) : Option AV :=
  match op with
  | .add => if ((x.length + y.length : Nat) : Int) > 9223372036854775807 then none else some (.str (x ++ y))
  | .eql => some (.bool (x == y))
  | .neq => some (.bool (!(x == y)))
  | .lss => some (.bool (Op.bytesLess x y))
  | .leq => some (.bool (Op.bytesLess x y || x == y))
  | .gtr => some (.bool (!(Op.bytesLess x y || x == y)))
  | .geq => some (.bool (!Op.bytesLess x y))
  | _ => none
/-- '==' of two values that are no numbers and no texts, at a type. -/
def eqA (d : TD) (x y : AV) : Option Bool :=
  match d, x, y with
  | .bool, .bool a, .bool b => some (a == b)
  | .pointer _, .ptr none, .ptr b => some b.isNone
  | .pointer _, .ptr none, .iptr _ _ => some false
  | .pointer _, .ptr (some _), .ptr none => some false
  | .pointer _, .iptr _ _, .ptr none => some false
  | .slice _, .slice none _ _ _ _, .slice b _ _ _ _ => some b.isNone
  | .slice _, .slice none _ _ _ _, .islice .. => some false
  | .slice _, .slice (some _) _ _ _ _, .slice none _ _ _ _ => some false
  | .slice _, .islice .., .slice none _ _ _ _ => some false
  | .func, .nilFunc, .nilFunc => some true
  | .func, .nilFunc, .func _ _ => some false
  | .func, .func _ _, .nilFunc => some false
  | .func, .nilFunc, .yield _ => some false
  | .func, .yield _, .nilFunc => some false
  | _, _, _ => none
/-- '==' of one cell of a struct. -/
def eqCell (d : TD) (x y : AV) : Option Bool :=
  match d, x, y with
  | .int _, .int k a, .int k' b => if k = k' then some (a == b) else none
  | .string, .str a, .str b => some (a == b)
  | .bool, .bool a, .bool b => some (a == b)
  | _, _, _ => none
/-- '==' of two structs, all of whose fields are numbers, texts and bools: field by field, as long as they are the same. -/
def eqFields (T : Tys) (xs ys : List AV) : List (Nat × Nat × Bool) → Option Bool
  | [] => some true
  | (t, off, counted) :: r =>
    if !counted then eqFields T xs ys r else
    match xs[off]?, ys[off]? with
    | some x, some y => match eqCell (T t).desc x y with
      | some true => eqFields T xs ys r
      | some false => some false
      | none => none
    | _, _ => none
def binA (T : Tys) (op : BinOp) (t : TypeId) (x y : AV) : Option AV :=
  match x, y with
  | .int k a, .int k' b => if k = k' ∨ op = .shl ∨ op = .shr then intBin op k a b else none
  | .str a, .str b => strBin op a b
  | .agg xs, .agg ys =>
    match (T t).desc with
    | .struct fs =>
      if !(T t).eqOk then none else
      match op with
      | .eql => (eqFields T xs ys fs).map .bool
      | .neq => (eqFields T xs ys fs).map fun b => .bool (!b)
      | _ => none
    | _ => none
  | x, y => match op with
    | .eql => (eqA (T t).desc x y).map .bool
    | .neq => (eqA (T t).desc x y).map fun b => .bool (!b)
    | _ => none
def unA (op : UnOp) (x : AV) : Option AV :=
  match op, x with
  | .not, .bool b => some (.bool !b)
  | .neg, .int k n => some (.int k (k.wrap (0 - n)))
  | .xor, .int k n => some (.int k (k.wrap (BitVec.ofInt k.bits (if k.signed then -1 else k.max) ^^^ BitVec.ofInt k.bits n).toNat))
  | _, _ => none

def bytesOf : List AV → Option (List UInt8)
  | [] => some []
  | .int .u8 n :: r => (bytesOf r).map (UInt8.ofNat n.toNat :: ·)
  | _ :: _ => none
def ofBytes (s : List UInt8) : List AV := s.map fun b => .int .u8 b.toNat

/-- The first n elements of a slice, or of a text, as cells of which an element has sz. -/
def elems (h : AH) (sz n : Nat) : AV → Option (List AV)
  | .slice none _ _ _ _ => if n = 0 then some [] else none
  | .slice (some (i, o)) len cap s _ => if n = 0 ∨ sz = 0 then some [] else if n ≤ len ∧ s = sz ∧ len ≤ cap then h.read i o (n * sz) else none
  | .islice row off len cap s => if n = 0 ∨ sz = 0 then some [] else if n ≤ len ∧ s = sz ∧ len ≤ cap then (match cut row off (n * sz) with | some cs => if cs.all AV.one then some cs else none | none => none) else none
  | .str s => if sz = 1 ∧ n ≤ s.length then some (ofBytes (s.take n)) else none
  | _ => none
def lenA : AV → Option Nat
  | .slice _ n _ _ _ => some n
  | .islice _ _ n _ _ => some n
  | .str s => some s.length
  | _ => none

/-- A struct's or an array's cells, some parts laid over them. -/
def fillA (place : Nat → Option (Nat × Nat)) (cells : List AV) : List (Nat × AV) → Option (List AV)
  | [] => some cells
  | (i, v) :: rest =>
    match place i with
    | none => none
    | some (off, size) => if v.cells.length = size ∧ off + size ≤ cells.length ∧ v.cells.all AV.one then fillA place (over cells off v.cells) rest else none
def evParts (ρ : Env) : List (Nat × Operand) → Option (List (Nat × AV))
  | [] => some []
  | (i, x) :: r => match ev ρ x, evParts ρ r with
    | some a, some l => some ((i, a) :: l)
    | _, _ => none
def rep (zero : List AV) : Nat → List AV
  | 0 => []
  | n + 1 => zero ++ rep zero n

def loadA (T : Tys) (h : AH) (t : TypeId) (x : AV) : Option AV :=
  let d := (T t).desc
  match d with
  | .bad => none
  | _ =>
    if d.isAgg then
      match x with
      | .ptr (some (i, o)) => (h.read i o (T t).size).map .agg
      | .iptr row off => (cut row off (T t).size).map .agg
      | _ => none
    else
      match x with
      | .ptr (some (i, o)) => match h.read i o 1 with | some [v] => some v | _ => none
      | .iptr row off => row[off]?
      | _ => none
def storeA (T : Tys) (h : AH) (t : TypeId) (x v : AV) : Option AH :=
  match x with
  | .ptr (some (i, o)) =>
    match (T t).desc with
    | .bad => none
    | _ => if v.cells.length = (T t).size ∧ v.cells.all AV.one then h.write i o v.cells else none
  | _ => none

def asI : Option AV → Option (Option Int)
  | none => some none
  | some (.int _ n) => some (some n)
  | some _ => none
/-- A slice expression's operands: none: not written. -/
def evO (ρ : Env) : Option Operand → Option (Option AV)
  | none => some none
  | some x => (ev ρ x).map some

def sliceA (T : Tys) (t : TypeId) (x : AV) (lo hi mx : Option Int) : Option AV :=
  match (T t).desc, x with
  | .string, .str s =>
    if mx.isSome then none else
    let h := hi.getD s.length
    let l := lo.getD 0
    if 0 ≤ l ∧ l ≤ h ∧ h ≤ s.length then some (.str ((s.drop l.toNat).take (h.toNat - l.toNat))) else none
  | .slice e, .slice a len cap sz ex =>
    let h := hi.getD len
    let l := lo.getD 0
    let m := mx.getD cap
    if !okT T e then none else
    if mx.isSome ∧ hi.isNone then none else
    if 0 ≤ l ∧ l ≤ h ∧ h ≤ m ∧ m ≤ cap ∧ len ≤ cap then
      match a with
      | none => some (.slice none 0 0 sz true)
      | some (i, o) => if sz = (T e).size then some (.slice (some (i, o + l.toNat * sz)) (h.toNat - l.toNat) (m.toNat - l.toNat) sz (ex || mx.isSome)) else none
    else none
  | .slice e, .islice row off len cap sz =>
    let h := hi.getD len
    let l := lo.getD 0
    let m := mx.getD cap
    if !okT T e then none else
    if mx.isSome ∧ hi.isNone then none else
    if 0 ≤ l ∧ l ≤ h ∧ h ≤ m ∧ m ≤ cap ∧ len ≤ cap ∧ sz = (T e).size then
      some (.islice row (off + l.toNat * sz) (h.toNat - l.toNat) (m.toNat - l.toNat) sz)
    else none
  | _, _ => none

def convA (T : Tys) (h : AH) (src dst : TypeId) (x : AV) : Option (AV × AH) :=
  match (T src).desc, (T dst).desc, x with
  | .bad, _, _ => none
  | _, .int k, .int _ n => some (.int k (k.wrap n), h)
  | _, .string, .str s => some (.str s, h)
  | .slice e, .string, x =>
    match (T e).desc with
    | .int .u8 =>
      match lenA x, x with
      | _, .str _ => none
      | some n, x => match elems h 1 n x with
        | some cs => (bytesOf cs).map fun s => (.str s, h)
        | none => none
      | none, _ => none
    | _ => none
  | .slice _, .slice e, .slice (some (i, o)) len cap sz ex =>
    match (T e).desc, h.get i with
    | .int .u8, some (.cells _) => if src = dst ∧ 0 < cap then some (.slice (some (i, o)) len cap sz ex, h) else none
    | _, _ => none
  | _, .slice e, .str s =>
    match (T e).desc with
    | .int .u8 => if s.length ≤ 9223372036854775807 then some (.slice (some (h.size, 0)) s.length s.length 1 false, h.push (.cells (ofBytes s))) else none
    | _ => none
  | _, _, _ => none

/-- Where is a new array made for certain, or may there be room that the abstract machine does not know of? -/
def appendA (T : Tys) (h : AH) (t xt : TypeId) (s x : AV) : Option (AV × AH) :=
  match (T t).desc, (T xt).desc with
  | .slice e, .slice _ | .slice e, .string =>
    let sz := (T e).size
    if !okT T e then none else
    match lenA x with
    | none => none
    | some n =>
      match elems h sz n x with
      | none => none
      | some new =>
        match s with
        | .slice a len cap s0 ex =>
          let need := len + n
          if need ≤ cap then
            match a with
            | none => some (.slice none need cap s0 true, h)
            | some (i, o) =>
              if new = [] then some (.slice (some (i, o)) need cap s0 ex, h)
              else if s0 = sz then match h.write i (o + len * sz) new with
                | some h' => some (.slice (some (i, o)) need cap sz ex, h')
                | none => none
              else none
          else if need * (T e).bytes ≤ 140737488355328 ∧ 0 < (T e).bytes ∧ (T e).zero.length = sz ∧ need ≤ 9223372036854775807 then
            match elems h sz len s with
            | none => none
            | some old =>
              let h1 := match a with
                | some (i, _) => if ex then some h else match h.get i with
                  | some (.cells _) => if s0 = sz then some (h.set i .dead) else none
                  | _ => none
                | none => some h
              match h1 with
              | none => none
              | some h1 => some (.slice (some (h.size, 0)) need need sz false, h1.push (.cells (old ++ new)))
          else none
        | .islice row off len cap s0 =>
          let need := len + n
          if need ≤ cap then (if new = [] then some (.islice row off need cap s0, h) else none)
          else if need * (T e).bytes ≤ 140737488355328 ∧ 0 < (T e).bytes ∧ (T e).zero.length = sz ∧ need ≤ 9223372036854775807 then
            match elems h sz len s with
            | none => none
            | some old => some (.slice (some (h.size, 0)) need need sz false, h.push (.cells (old ++ new)))
          else none
        | _ => none
  | _, _ => none

def copyA (T : Tys) (h : AH) (t : TypeId) (d x : AV) : Option (AV × AH) :=
  match (T t).desc with
  | .slice e =>
    let sz := (T e).size
    if !okT T e then none else
    match d, lenA d, lenA x with
    | .slice a _ _ s0 _, some m, some k =>
      let n := min k m
      match elems h sz n x with
      | none => none
      | some new =>
        match a with
        | none => some (.int .i64 n, h)
        | some (i, o) => if new = [] then some (.int .i64 n, h) else if s0 = sz then (h.write i o new).map fun h' => (.int .i64 n, h') else none
    | _, _, _ => none
  | _ => none
def clearA (T : Tys) (h : AH) (t : TypeId) (x : AV) : Option (AV × AH) :=
  match (T t).desc with
  | .slice e =>
    if !okT T e then none else
    match x with
    | .slice none _ _ _ _ => some (.tuple [], h)
    | .slice (some (i, o)) n _ s0 _ =>
      if n = 0 then some (.tuple [], h) else
      if s0 = (T e).size ∧ (T e).zero.length = s0 then (h.write i o (rep (T e).zero n)).map fun h' => (.tuple [], h') else none
    | .islice _ _ n _ _ => if n = 0 then some (.tuple [], h) else none
    | _ => none
  | _ => none

def builtinA (T : Tys) (h : AH) (b : Builtin) (ts : List TypeId) (args : List AV) : Option (AV × AH) :=
  match b, ts, args with
  | .append, [t, xt], [s, x] => appendA T h t xt s x
  | .len, [t], [x] =>
    match (T t).desc, x with
    | .string, .str s => some (.int .i64 s.length, h)
    | .slice _, .slice _ n _ _ _ => some (.int .i64 n, h)
    | .slice _, .islice _ _ n _ _ => some (.int .i64 n, h)
    | _, _ => none
  | .copy, [t, _], [d, x] => copyA T h t d x
  | .clear, [t], [x] => clearA T h t x
  | .min, _, [.int k x, .int _ y] => some (.int k (if y < x then y else x), h)
  | .max, _, [.int k x, .int _ y] => some (.int k (if y > x then y else x), h)
  | _, _, _ => none

def partA (T : Tys) (t : TypeId) (cs : List AV) (off : Nat) : Option AV :=
  match (T t).desc with
  | .bad => none
  | d => if d.isAgg then (cut cs off (T t).size).map .agg else cs[off]?

def evalOp (T : Tys) (ρ : Env) (o : Oper) (h : AH) : Option OpR :=
  let v (x : Option AV) : Option OpR := x.map fun a => .val a h
  let vh (x : Option (AV × AH)) : Option OpR := x.map fun p => .val p.1 p.2
  match o.op with
  | .move x | .assign x => v (ev ρ x)
  | .pick c a b => match ev ρ c with
    | some (.bool t) => v (if t then ev ρ a else ev ρ b)
    | _ => none
  | .alloc e => match (T e).desc with
    | .bad => none
    | _ => some (.val (.ptr (some (h.size, 0))) (h.push (.cells (T e).zero)))
  | .box _ x => match ev ρ x with
    | some a => if a.cells.all AV.one then some (.val (.ptr (some (h.size, 0))) (h.push (.cells a.cells))) else none
    | none => none
  | .build t ps => match (T t).desc, evParts ρ ps.toList with
    | .struct fs, some l => if !(fs.all fun f => okT T f.1) then none else v ((fillA (fun i => (fs[i]?).map fun f => (f.2.1, (T f.1).size)) (T t).zero l).map .agg)
    | _, _ => none
  | .buildSlice t n ps => match (T t).desc, evParts ρ ps.toList with
    | .slice e, some l =>
      let sz := (T e).size
      if okT T e = true ∧ n * sz ≤ 16777216 ∧ (T e).zero.length = sz then
        match fillA (fun i => some (i * sz, sz)) (rep (T e).zero n) l with
        | some cs => some (.val (.slice (some (h.size, 0)) n n sz true) (h.push (.cells cs)))
        | none => none
      else none
    | _, _ => none
  | .load t a => match ev ρ a with
    | some x => v (loadA T h t x)
    | none => none
  | .store t a x => match ev ρ a, ev ρ x with
    | some p, some y => (storeA T h t p y).map fun h' => .val undefA h'
    | _, _ => none
  | .nilCheck x => match ev ρ x with
    | some (.ptr (some a)) => some (.val (.ptr (some a)) h)
    | some (.iptr r o) => some (.val (.iptr r o) h)
    | some (.func f c) => some (.val (.func f c) h)
    | some (.yield l) => some (.val (.yield l) h)
    | _ => none
  | .binOp op t x y _ => match ev ρ x, ev ρ y with
    | some a, some b => v (binA T op t a b)
    | _, _ => none
  | .unOp op _ x => match ev ρ x with
    | some a => v (unA op a)
    | none => none
  | .convert src dst x => match ev ρ x with
    | some a => vh (convA T h src dst a)
    | none => none
  | .makeFunc (.func f) first cap => if first.size = 0 then v ((evs ρ cap.toList).map (.func f)) else none
  | .makeSlice t l c => match (T t).desc, ev ρ l, ev ρ c with
    | .slice e, some (.int _ n), some (.int _ m) =>
      if okT T e = true ∧ 0 ≤ n ∧ n ≤ m ∧ m ≤ 9223372036854775807 ∧ (T e).bytes * m ≤ 281474976710656 ∧ (T e).zero.length = (T e).size then
        some (.val (.slice (some (h.size, 0)) n.toNat m.toNat (T e).size true) (h.push (.cells (rep (T e).zero m.toNat))))
      else none
    | _, _, _ => none
  | .slice t x lo hi mx => match ev ρ x, evO ρ lo, evO ρ hi, evO ρ mx with
    | some a, some l, some h', some m => match asI l, asI h', asI m with
      | some l, some h', some m => v (sliceA T t a l h' m)
      | _, _, _ => none
    | _, _, _, _ => none
  | .fieldAddr s x f => match (T s).desc, ev ρ x with
    | .struct fs, some p => match fs[f]? with
      | some (ft, off, _) =>
        if (T ft).size = 0 then none else
        match (T ft).desc with
        | .bad => none
        | _ => match p with
          | .ptr (some (i, o)) => some (.val (.ptr (some (i, o + off))) h)
          | .iptr row o => some (.val (.iptr row (o + off)) h)
          | _ => none
      | none => none
    | _, _ => none
  | .field t x f => match (T t).desc, ev ρ x with
    | .struct fs, some (.agg cs) => match fs[f]? with
      | some (ft, off, _) => v (partA T ft cs off)
      | none => none
    | _, _ => none
  | .indexAddr t x ix => match (T t).desc, ev ρ x, ev ρ ix with
    | .slice e, some (.slice (some (i, o)) len _ sz _), some (.int _ n) =>
      if okT T e = true ∧ 0 ≤ n ∧ n < len ∧ sz = (T e).size then some (.val (.ptr (some (i, o + n.toNat * sz))) h) else none
    | .slice e, some (.islice row off len cap sz), some (.int _ n) =>
      if okT T e = true ∧ 0 ≤ n ∧ n < len ∧ len ≤ cap ∧ sz = (T e).size then some (.val (.iptr row (off + n.toNat * sz)) h) else none
    | .array len e, some (.ptr (some (i, o))), some (.int _ n) =>
      if okT T e = true ∧ 0 ≤ n ∧ n < len then some (.val (.ptr (some (i, o + n.toNat * (T e).size))) h) else none
    | _, _, _ => none
  | .index t x ix => match (T t).desc, ev ρ x, ev ρ ix with
    | .string, some (.str s), some (.int _ n) =>
      if 0 ≤ n then match s[n.toNat]? with
        | some b => some (.val (.int .u8 b.toNat) h)
        | none => none
      else none
    | .array len e, some (.agg cs), some (.int _ n) => if okT T e = true ∧ 0 ≤ n ∧ n < len then v (partA T e cs (n.toNat * (T e).size)) else none
    | _, _, _ => none
  | .extract t ix => match ev ρ t with
    | some (.tuple vs) => v (vs[ix]?)
    | _ => none
  | .call c => match c.callee, evs ρ c.args.toList with
    | .builtin b, some args => vh (builtinA T h b c.argTypes.toList args)
    | .value f, some args => match ev ρ f with
      | some (.func g cap) => some (.enter g (args ++ cap))
      | some (.yield l) => some (.round l args)
      | _ => none
    | _, _ => none
  | _ => none

/-! ### Regions -/
abbrev Calls' := FuncId → List AV → AH → Option (AV × AH)
abbrev Yields' := Nat → List AV → AH → Option (AV × AH)
structure Sys where
  call : Calls'
  yield : Yields'

def stepOp (T : Tys) (S : Sys) (ρ : Env) (o : Oper) (h : AH) : Option (AV × AH) :=
  match evalOp T ρ o h with
  | some (.val v h') => some (v, h')
  | some (.enter f args) => S.call f args h
  | some (.round l args) => S.yield l args h
  | none => none

def wantedA (ops : Array Oper) (o : Oper) (tm : Tm) : Bool :=
  match o.guard with
  | none => true
  | some (j, want) =>
    match (ops[j]?).bind (·.dst) with
    | none => false
    | some d => match tm.get d with
      | .bool b => b == want
      | _ => false

def regStep (T : Tys) (S : Sys) (ops : Array Oper) (i : Nat) (tm : Tm) (h : AH) : Option (Tm × AH) :=
  match ops[i]? with
  | none => none
  | some o =>
    if wantedA ops o tm then
      match stepOp T S tm.get o h with
      | none => none
      | some (v, h') => (tm.put o.dst v).map fun t => (t, h')
    else (tm.put o.dst undefA).map fun t => (t, h)
def regRun (T : Tys) (S : Sys) (ops : Array Oper) : List Nat → Tm → AH → Option (Tm × AH)
  | [], tm, h => some (tm, h)
  | i :: l, tm, h => match regStep T S ops i tm h with
    | none => none
    | some (tm', h') => regRun T S ops l tm' h'

end Go.Abs
end

section
/- The abstract machine, second part: regions that draw their order, control, calls, rounds of a range over a function. Definitions, and the soundness of the equality test. -/
namespace Go.Abs

mutual
def AV.same : AV → AV → Bool
  | .int k n, .int k' n' => decide (k = k') && decide (n = n')
  | .bool a, .bool b => a == b
  | .str a, .str b => decide (a = b)
  | .ptr a, .ptr b => decide (a = b)
  | .iptr r o, .iptr r' o' => decide (o = o') && AV.sames r r'
  | .slice a b c d e, .slice a' b' c' d' e' => decide (a = a') && decide (b = b') && decide (c = c') && decide (d = d') && (e == e')
  | .islice r o b c d, .islice r' o' b' c' d' => decide (o = o') && decide (b = b') && decide (c = c') && decide (d = d') && AV.sames r r'
  | .func f c, .func f' c' => decide (f = f') && AV.sames c c'
  | .yield l, .yield l' => decide (l = l')
  | .nilFunc, .nilFunc => true
  | .agg c, .agg c' => AV.sames c c'
  | .tuple c, .tuple c' => AV.sames c c'
  | _, _ => false
def AV.sames : List AV → List AV → Bool
  | [], [] => true
  | a :: r, b :: s => AV.same a b && AV.sames r s
  | _, _ => false
end
mutual
theorem AV.same_eq : ∀ (a b : AV), AV.same a b = true → a = b := by
  intro a b h
  cases a <;> cases b <;> simp [AV.same] at h ⊢ <;> first | exact h | skip
  case iptr => exact ⟨AV.sames_eq _ _ h.2, h.1⟩
  case slice => exact ⟨h.1.1.1.1, h.1.1.1.2, h.1.1.2, h.1.2, h.2⟩
  case islice => exact ⟨AV.sames_eq _ _ h.2, h.1.1.1.1, h.1.1.1.2, h.1.1.2, h.1.2⟩
  case func => exact ⟨h.1, AV.sames_eq _ _ h.2⟩
  case agg => exact AV.sames_eq _ _ h
  case tuple => exact AV.sames_eq _ _ h
theorem AV.sames_eq : ∀ (a b : List AV), AV.sames a b = true → a = b := by
  intro a b h
  cases a with
  | nil => cases b with
    | nil => rfl
    | cons => simp [AV.sames] at h
  | cons x r => cases b with
    | nil => simp [AV.sames] at h
    | cons y s =>
      simp [AV.sames] at h
      rw [AV.same_eq _ _ h.1, AV.sames_eq _ _ h.2]
end
mutual
theorem AV.same_self : ∀ (a : AV), AV.same a a = true := by
  intro a
  cases a <;> simp [AV.same, AV.sames_self]
theorem AV.sames_self : ∀ (a : List AV), AV.sames a a = true := by
  intro a
  cases a with
  | nil => rfl
  | cons x r => simp [AV.sames, AV.same_self x, AV.sames_self r]
end

/-! ### A region that draws its order -/
/-- 0: the answer hangs on the operands alone; 1: on memory too; 2: it changes memory, or calls; 3: not known. -/
def kindOf (T : Tys) : Op → Nat
  | .move _ | .assign _ | .pick .. | .build .. | .nilCheck _ | .binOp .. | .unOp .. | .makeFunc .. | .slice .. | .fieldAddr .. | .field .. | .indexAddr .. | .index .. | .extract .. => 0
  | .load .. => 1
  | .convert src dst _ => match (T src).desc, (T dst).desc with
    | .slice _, .string => 1
    | _, .slice _ => 2
    | _, _ => 0
  | .alloc _ | .box .. | .buildSlice .. | .store .. | .makeSlice .. => 2
  | .call c => match c.callee with
    | .builtin .len | .builtin .min | .builtin .max => 0
    | .builtin .append | .builtin .copy | .builtin .clear => 2
    | .value _ => 2
    | _ => 3
  | _ => 3

def preds (o : Oper) : List Nat := o.after.toList.filterMap fun e => if Region.binds .any e then some e.on else none
def maskAt (acc : List Nat) (o : Oper) : Nat := (preds o).foldl (fun s e => s ||| (1 <<< e) ||| acc.getD e 0) 0
def masks : List Oper → List Nat → List Nat
  | [], acc => acc
  | o :: r, acc => masks r (acc ++ [maskAt acc o])
def ordered (m : List Nat) (i j : Nat) : Bool := (m.getD i 0).testBit j      -- j comes before i, for certain
def looks (ops : List Oper) (o : Oper) : List Nat :=
  (o.op.operands.toList.filterMap fun | .tmp t => some t | _ => none) ++
  (match o.guard with
   | some (g, _) => ((ops[g]?).bind (·.dst)).toList
   | none => [])
def share (ops : List Oper) (x y : Oper) : Bool :=
  (match x.dst with
   | some d => (looks ops y).contains d || y.dst == some d
   | none => false) ||
  (match y.dst with
   | some d => (looks ops x).contains d
   | none => false)
def drawAt (T : Tys) (ops : List Oper) (m : List Nat) (i : Nat) (o : Oper) : Bool :=
  (preds o).all (fun e => decide (e < i)) &&
  (List.range ops.length).all (fun j => !ordered m i j || (preds o).any (fun e => e == j || ordered m e j)) &&
  decide (kindOf T o.op ≤ 2) &&
  (List.range i).all fun j => match ops[j]? with
    | none => false
    | some p => (!(decide (kindOf T o.op = 2) && decide (kindOf T p.op = 2)) || ordered m i j) && (!share ops o p || ordered m i j)
def drawsOk (T : Tys) (ops : List Oper) (m : List Nat) : List Nat → Bool
  | [] => true
  | i :: r => (match ops[i]? with | none => false | some o => drawAt T ops m i o) && drawsOk T ops m r
def drawOk (T : Tys) (ops : List Oper) : Bool := drawsOk T ops (masks ops []) (List.range ops.length)

/-- The states ahead of each operation, in the text's order, and the last one. -/
def regTrace (T : Tys) (S : Sys) (ops : Array Oper) : List Nat → Tm → AH → Option (List (Tm × AH))
  | [], tm, h => some [(tm, h)]
  | i :: l, tm, h => match regStep T S ops i tm h with
    | none => none
    | some (tm', h') => (regTrace T S ops l tm' h').map ((tm, h) :: ·)
/-- May operation i see memory as it is ahead of place p? -/
def mayAt (T : Tys) (ops : List Oper) (m : List Nat) (i p : Nat) : Bool :=
  (List.range ops.length).all fun e => match ops[e]? with
    | none => true
    | some x => if kindOf T x.op = 2 then (!(decide (e < i) && ordered m i e) || decide (e < p)) && (!(decide (i < e) && ordered m e i) || decide (p ≤ e)) else true
def placesOf (T : Tys) (ops : List Oper) : List Nat :=
  0 :: (List.range ops.length).filterMap fun e => match ops[e]? with
    | none => none
    | some x => if kindOf T x.op = 2 then some (e + 1) else none
/-- The answer of a look at memory is the same wherever it may come. -/
def seesSame (T : Tys) (ρ : Env) (o : Oper) (h0 h1 : AH) : Bool :=
  match evalOp T ρ o h0, evalOp T ρ o h1 with
  | some (.val v _), some (.val u _) => AV.same v u
  | _, _ => false
def looseAt (T : Tys) (ops : Array Oper) (m : List Nat) (tr : List (Tm × AH)) (i : Nat) : Bool :=
  match ops[i]?, tr[i]? with
  | some o, some (tm, h) =>
    if kindOf T o.op = 1 ∧ wantedA ops o tm = true then
      (placesOf T ops.toList).all fun p => if mayAt T ops.toList m i p then (match tr[p]? with | some (_, h') => seesSame T tm.get o h h' | none => false) else true
    else true
  | _, _ => false
def looseOk (T : Tys) (ops : Array Oper) (m : List Nat) (tr : List (Tm × AH)) : Bool := (List.range ops.size).all (looseAt T ops m tr)
def regDraw (T : Tys) (S : Sys) (ops : Array Oper) (tm : Tm) (h : AH) : Option (Tm × AH) :=
  if drawOk T ops.toList then
    match regTrace T S ops (List.range ops.size) tm h with
    | none => none
    | some tr => if looseOk T ops (masks ops.toList []) tr then tr[ops.size]? else none
  else none

/-! ### Control -/
inductive Ex where
  | normal
  | exit (id : Nat)
  | goto (l : Nat)
  | ret
def Ex.jump : Ex → Option Code
  | .normal => none
  | .exit id => some (.exit id)
  | .goto l => some (.goto l)
  | .ret => some .ret
structure St where
  tm : Tm
  marks : List Nat
  h : AH

def loopA : Nat → (St → Option (Ex × St)) → St → Option (Ex × St)
  | 0, _, _ => none
  | n + 1, b, s => match b s with
    | some (.normal, s') => loopA n b s'
    | r => r

/-- Whatever is called or ranged over lies in S; 'rd': the loop's record, in a round. -/
def runCode (T : Tys) (S : Sys) (rd : Option Nat) (n : Nat) : Code → St → Option (Ex × St)
  | .skip, s | .label _, s => some (.normal, s)
  | .ret, s => some (.ret, s)
  | .exit id, s => some (.exit id, s)
  | .goto l, s => some (.goto l, s)
  | .refuse _, _ => none
  | .seq a b, s => match runCode T S rd n a s with
    | some (.normal, s') => runCode T S rd n b s'
    | r => r
  | .cond c a b, s => match ev s.tm.get c with
    | some (.bool t) => if t then runCode T S rd n a s else runCode T S rd n b s
    | _ => none
  | .block id b, s => match runCode T S rd n b s with
    | some (.exit id', s') => if id' = id then some (.normal, s') else some (.exit id', s')
    | r => r
  | .scope b, s => match runCode T S rd n b s with
    | some (.goto _, _) => none
    | r => r
  | .loop b, s => loopA n (runCode T S rd n b) s
  | .region _ ops draw, s =>
    match (if draw then regDraw T S ops s.tm s.h else regRun T S ops (List.range ops.size) s.tm s.h) with
    | some (tm, h) => some (.normal, { s with tm, h })
    | none => none
  | .rangeFunc f ps assign body, s =>
    match ev s.tm.get f with
    | some (.func g cap) =>
      match (match rd with
        | none => some ([s.h.size], s.h.push (.defs false))
        | some l0 => match s.h.get l0 with
          | some (.loop ..) => some ([], s.h)
          | _ => none) with
      | none => none
      | some (mk, h0) =>
        match S.call g (.yield h0.size :: cap) (h0.push (.loop .ready none s.tm ps.toList assign body)) with
        | none => none
        | some (_, h2) =>
          match h2.get h0.size with
          | some (.loop st pending _ _ _ _) =>
            if st = .busy then none else
            match pending with
            | none => some (.normal, { tm := s.tm, marks := mk ++ s.marks, h := h2.set h0.size .dead })
            | some .ret => some (.ret, { tm := s.tm, marks := mk ++ s.marks, h := h2.set h0.size .dead })
            | some (.exit id) => some (.exit id, { tm := s.tm, marks := mk ++ s.marks, h := h2.set h0.size .dead })
            | some (.goto t) => some (.goto t, { tm := s.tm, marks := mk ++ s.marks, h := h2.set h0.size .dead })
            | _ => none
          | _ => none
    | _ => none

def takeMarks (h : AH) : List Nat → Option AH
  | [] => some h
  | i :: r => match h.get i with
    | some (.defs false) => takeMarks (h.set i .dead) r
    | _ => none
def resultOf (T : Tys) (tm : Tm) (h : AH) : ResultVar → Option AV
  | .tmp t => some (tm.get t)
  | .cell a t => loadA T h t (tm.get a)
def resultsOf (T : Tys) (tm : Tm) (h : AH) : List ResultVar → Option (List AV)
  | [] => some []
  | r :: l => match resultOf T tm h r, resultsOf T tm h l with
    | some v, some vs => some (v :: vs)
    | _, _ => none
def packed : List AV → AV
  | [v] => v
  | vs => .tuple vs

def leave (T : Tys) (rs : List ResultVar) (s : St) : Option (AV × AH) :=
  match takeMarks s.h s.marks with
  | none => none
  | some h => (resultsOf T s.tm h rs).map fun vs => (packed vs, h)

def setAll (tm : Tm) : List Nat → List AV → Option Tm
  | [], [] => some tm
  | p :: ps, v :: vs => if p < tm.size then setAll (tm.set p v) ps vs else none
  | _, _ => none

/-- A function without a text: only the search for a byte in a string. -/
def extA (fn : Func) (args : List AV) (h : AH) : Option (AV × AH) :=
  if (fn.name == "internal/bytealg.IndexByteString") = true ∧ (Extern.findNext fn).isNone = true then
    match args with
    | [.str s, .int .u8 c] => some (.int .i64 (Lib.indexByte s c.toNat.toUInt8), h)
    | _ => none
  else none
mutual
def callA (P : Program) (T : Tys) : Nat → Calls'
  | 0, _, _, _ => none
  | n + 1, f, args, h =>
    match P.funcs[f]? with
    | none => none
    | some fn =>
      match fn.body with
      | none => extA fn args h
      | some c =>
        match runCode T ⟨callA P T n, yieldA P T n⟩ none n c ⟨Tm.enter args fn.ntmps, [], h⟩ with
        | some (.normal, s) | some (.ret, s) => leave T fn.results.toList s
        | _ => none
def yieldA (P : Program) (T : Tys) : Nat → Yields'
  | 0, _, _, _ => none
  | n + 1, l, args, h =>
    match h.get l with
    | some (.loop .ready none tm ps assign body) =>
      match setAll tm ps args with
      | none => none
      | some tm1 =>
        match runCode T ⟨callA P T n, yieldA P T n⟩ (some l) n assign ⟨tm1, [], h⟩ with
        | some (.normal, s1) =>
          match s1.h.get l with
          | some (.loop .ready none tmx psx asx box) =>
            match runCode T ⟨callA P T n, yieldA P T n⟩ (some l) n body { s1 with h := s1.h.set l (.loop .busy none tmx psx asx box) } with
            | some (e, s2) =>
              match s2.h.get l with
              | some (.loop .busy none tmy psy asy boy) =>
                some (.bool e.jump.isNone, s2.h.set l (.loop (if e.jump.isNone then .ready else .done) e.jump tmy psy asy boy))
              | _ => none
            | none => none
          | _ => none
        | _ => none
    | _ => none
end

end Go.Abs
end

section
/- How the abstract machine's values and heap stand to the model's. -/
namespace Go.Abs
open Go.RowKit

/-! ### The map -/
section tr
variable {α : Type}
theorem Tr.get_mkL (v : Option α) (c r : Tr α) : Tr.mkL v c r = .node v c r := by cases c <;> rfl
theorem Tr.get_mkR (v : Option α) (l c : Tr α) : Tr.mkR v l c = .node v l c := by cases c <;> rfl
theorem Tr.get_setF_same : ∀ (f : Nat) (t : Tr α) (k : Nat) (x : α), k < f → (t.setF f k x).get k = some x := by
  intro f
  induction f with
  | zero => intro t k x h; omega
  | succ f ih =>
    intro t k x h
    cases t with
    | leaf =>
      cases k with
      | zero => rfl
      | succ k =>
        simp only [Tr.setF, Tr.get_mkL, Tr.get_mkR]
        split <;> simp only [Tr.get, *, if_true, if_false] <;> exact ih _ _ _ (by omega)
    | node v l r =>
      cases k with
      | zero => rfl
      | succ k =>
        simp only [Tr.setF, Tr.get_mkL, Tr.get_mkR]
        split <;> simp only [Tr.get, *, if_true, if_false] <;> exact ih _ _ _ (by omega)
theorem Tr.get_setF_ne : ∀ (f : Nat) (t : Tr α) (k j : Nat) (x : α), j ≠ k → (t.setF f k x).get j = t.get j := by
  intro f
  induction f with
  | zero => intro t k j x _; rfl
  | succ f ih =>
    intro t k j x h
    cases t with
    | leaf =>
      cases k with
      | zero =>
        cases j with
        | zero => exact absurd rfl h
        | succ j => simp only [Tr.setF, Tr.get]; split <;> rfl
      | succ k =>
        simp only [Tr.setF, Tr.get_mkL, Tr.get_mkR]
        cases j with
        | zero => split <;> rfl
        | succ j =>
          split <;> rename_i hk <;> simp only [Tr.get]
          · split
            · rename_i hj; rw [ih _ _ _ _ (by omega)]; rfl
            · rfl
          · split
            · rfl
            · rename_i hj; rw [ih _ _ _ _ (by omega)]; rfl
    | node v l r =>
      cases k with
      | zero =>
        cases j with
        | zero => exact absurd rfl h
        | succ j => simp only [Tr.setF, Tr.get]
      | succ k =>
        simp only [Tr.setF, Tr.get_mkL, Tr.get_mkR]
        cases j with
        | zero => split <;> rfl
        | succ j =>
          split <;> rename_i hk <;> simp only [Tr.get]
          · split
            · rename_i hj; exact ih _ _ _ _ (by omega)
            · rfl
          · split
            · rfl
            · rename_i hj; exact ih _ _ _ _ (by omega)
theorem Tr.get_set (t : Tr α) (k j : Nat) (x : α) : (t.set k x).get j = if j = k then some x else t.get j := by
  unfold Tr.set
  split
  · rename_i h; subst h; exact Tr.get_setF_same _ _ _ _ (Nat.lt_succ_self _)
  · rename_i h; exact Tr.get_setF_ne _ _ _ _ _ h
end tr

theorem Tm.get_set (t : Tm) (k j : Nat) (v : AV) : (t.set k v).get j = if j = k then v else t.get j := by
  unfold Tm.get Tm.set; simp only [Tr.get_set]; split <;> rfl
@[simp] theorem Tm.size_set (t : Tm) (k : Nat) (v : AV) : (t.set k v).size = t.size := rfl
theorem AH.get_set (h : AH) (k j : Nat) (o : AO) : (h.set k o).get j = if j = k then some o else h.get j := by
  unfold AH.get AH.set; simp only [Tr.get_set]
theorem AH.get_push (h : AH) (j : Nat) (o : AO) : (h.push o).get j = if j = h.size then some o else h.get j := by
  unfold AH.get AH.push; simp only [Tr.get_set]
@[simp] theorem AH.size_set (h : AH) (k : Nat) (o : AO) : (h.set k o).size = h.size := rfl
@[simp] theorem AH.size_push (h : AH) (o : AO) : (h.push o).size = h.size + 1 := rfl

/-! ### Values -/
/-- Where an abstract block lies: in the block r, from cell s on; the block has R cells. -/
structure Pl where
  r : Nat
  s : Nat
  R : Nat
abbrev Rho := Nat → Option Pl
def Ext (ρ ρ' : Rho) : Prop := ∀ i p, ρ i = some p → ρ' i = some p
theorem Ext.refl (ρ : Rho) : Ext ρ ρ := fun _ _ h => h
theorem Ext.trans {a b c : Rho} (h : Ext a b) (k : Ext b c) : Ext a c := fun i p hi => k i p (h i p hi)

mutual
inductive VR (w0 : World) (ρ : Rho) : AV → Value → Prop
  | int (k : IntKind) (n : Int) : VR w0 ρ (.int k n) (.int k n)
  | bool (b : Bool) : VR w0 ρ (.bool b) (.bool b)
  | str (s : List UInt8) : VR w0 ρ (.str s) (.string ⟨s.toArray⟩)
  | ptr0 : VR w0 ρ (.ptr none) (.pointer none)
  | ptr (i o : Nat) (p : Pl) (h : ρ i = some p) : VR w0 ρ (.ptr (some (i, o))) (.pointer (some ⟨p.r, p.s + o, none⟩))
  | iptr (row : List AV) (off b s : Nat) (vs : List Value) (h : VRs w0 ρ row vs) (hc : ∀ j v, vs[j]? = some v → w0.cell? ⟨b, s + j, none⟩ = some v) :
      VR w0 ρ (.iptr row off) (.pointer (some ⟨b, s + off, none⟩))
  | slice0 (sz : Nat) (ex : Bool) : VR w0 ρ (.slice none 0 0 sz ex) (.slice none 0 0)
  | sliceE (a : Nat × Nat) (sz : Nat) (ex : Bool) (b : Addr) : VR w0 ρ (.slice (some a) 0 0 sz ex) (.slice (some b) 0 0)
  | slice (i o len cap sz : Nat) (ex : Bool) (p : Pl) (cap' : Nat) (h : ρ i = some p) (h1 : len ≤ cap) (h2 : cap ≤ cap') (h3 : ex = true → cap' = cap) (h4 : p.s + o + cap' * sz ≤ p.R) :
      VR w0 ρ (.slice (some (i, o)) len cap sz ex) (.slice (some ⟨p.r, p.s + o, none⟩) len cap')
  | islice (row : List AV) (off len cap sz b s : Nat) (vs : List Value) (h : VRs w0 ρ row vs) (hc : ∀ j v, vs[j]? = some v → w0.cell? ⟨b, s + j, none⟩ = some v) (h1 : len ≤ cap) :
      VR w0 ρ (.islice row off len cap sz) (.slice (some ⟨b, s + off, none⟩) len cap)
  | isliceE (row : List AV) (off sz : Nat) (b : Addr) : VR w0 ρ (.islice row off 0 0 sz) (.slice (some b) 0 0)
  | func (f : FuncId) (cs : List AV) (vs : List Value) (h : VRs w0 ρ cs vs) : VR w0 ρ (.func f cs) (.func (.func f) #[] vs.toArray)
  | yield (l : Nat) (p : Pl) (h : ρ l = some p) : VR w0 ρ (.yield l) (.func (.yield p.r) #[] #[])
  | nilFunc : VR w0 ρ .nilFunc .nilFunc
  | agg (cs : List AV) (vs : List Value) (h : VRs w0 ρ cs vs) : VR w0 ρ (.agg cs) (.agg vs.toArray)
  | tuple (cs : List AV) (vs : List Value) (h : VRs w0 ρ cs vs) : VR w0 ρ (.tuple cs) (.tuple vs.toArray)
inductive VRs (w0 : World) (ρ : Rho) : List AV → List Value → Prop
  | nil : VRs w0 ρ [] []
  | cons (a : AV) (v : Value) (l : List AV) (vs : List Value) (h : VR w0 ρ a v) (hs : VRs w0 ρ l vs) : VRs w0 ρ (a :: l) (v :: vs)
end

mutual
theorem VR.ext {w0 : World} {ρ ρ' : Rho} (he : Ext ρ ρ') : ∀ {a : AV} {v : Value}, VR w0 ρ a v → VR w0 ρ' a v
  | _, _, .int k n => .int k n
  | _, _, .bool b => .bool b
  | _, _, .str s => .str s
  | _, _, .ptr0 => .ptr0
  | _, _, .ptr i o p h => .ptr i o p (he _ _ h)
  | _, _, .iptr row off b s vs h hc => .iptr row off b s vs (h.ext he) hc
  | _, _, .slice0 sz ex => .slice0 sz ex
  | _, _, .sliceE a sz ex b => .sliceE a sz ex b
  | _, _, .slice i o len cap sz ex p cap' h h1 h2 h3 h4 => .slice i o len cap sz ex p cap' (he _ _ h) h1 h2 h3 h4
  | _, _, .islice row off len cap sz b s vs h hc h1 => .islice row off len cap sz b s vs (h.ext he) hc h1
  | _, _, .isliceE row off sz b => .isliceE row off sz b
  | _, _, .func f cs vs h => .func f cs vs (h.ext he)
  | _, _, .yield l p h => .yield l p (he _ _ h)
  | _, _, .nilFunc => .nilFunc
  | _, _, .agg cs vs h => .agg cs vs (h.ext he)
  | _, _, .tuple cs vs h => .tuple cs vs (h.ext he)
theorem VRs.ext {w0 : World} {ρ ρ' : Rho} (he : Ext ρ ρ') : ∀ {a : List AV} {v : List Value}, VRs w0 ρ a v → VRs w0 ρ' a v
  | _, _, .nil => .nil
  | _, _, .cons a v l vs h hs => .cons a v l vs (h.ext he) (hs.ext he)
end

section vrs
variable {w0 : World} {ρ : Rho}
theorem VRs.length : ∀ {a : List AV} {v : List Value}, VRs w0 ρ a v → a.length = v.length
  | _, _, .nil => rfl
  | _, _, .cons _ _ _ _ _ hs => by simp [hs.length]
theorem VRs.get : ∀ {a : List AV} {v : List Value}, VRs w0 ρ a v → ∀ {j : Nat} {x : AV}, a[j]? = some x → ∃ u, v[j]? = some u ∧ VR w0 ρ x u
  | _, _, .nil, j, x, h => by simp at h
  | _, _, .cons a v l vs h hs, 0, x, hx => by simp at hx; subst hx; exact ⟨v, rfl, h⟩
  | _, _, .cons a v l vs h hs, j + 1, x, hx => by simp at hx; obtain ⟨u, h1, h2⟩ := hs.get hx; exact ⟨u, by simpa using h1, h2⟩
theorem VRs.of_get {a : List AV} {v : List Value} (hl : a.length = v.length) (h : ∀ (j : Nat) (x : AV) (u : Value), a[j]? = some x → v[j]? = some u → VR w0 ρ x u) : VRs w0 ρ a v := by
  induction a generalizing v with
  | nil => cases v with
    | nil => exact .nil
    | cons => simp at hl
  | cons x l ih => cases v with
    | nil => simp at hl
    | cons u vs => exact .cons _ _ _ _ (h 0 x u rfl rfl) (ih (by simpa using hl) fun j y z hy hz => h (j + 1) y z (by simpa using hy) (by simpa using hz))
theorem VRs.append {a b : List AV} {v u : List Value} (h : VRs w0 ρ a v) (k : VRs w0 ρ b u) : VRs w0 ρ (a ++ b) (v ++ u) := by
  induction a generalizing v with
  | nil => cases h; exact k
  | cons x l ih => cases h with | cons _ v _ vs h hs => exact .cons _ _ _ _ h (ih hs)
theorem VRs.take {a : List AV} {v : List Value} (h : VRs w0 ρ a v) (n : Nat) : VRs w0 ρ (a.take n) (v.take n) := by
  induction n generalizing a v with
  | zero => simp; exact .nil
  | succ n ih => cases h with
    | nil => simp; exact .nil
    | cons x u l vs h hs => simp; exact .cons _ _ _ _ h (ih hs)
theorem VRs.drop {a : List AV} {v : List Value} (h : VRs w0 ρ a v) (n : Nat) : VRs w0 ρ (a.drop n) (v.drop n) := by
  induction n generalizing a v with
  | zero => exact h
  | succ n ih => cases h with
    | nil => simp; exact .nil
    | cons x u l vs h hs => simp; exact ih hs
theorem VRs.cut {a : List AV} {v : List Value} (h : VRs w0 ρ a v) {o n : Nat} {c : List AV} (hc : cut a o n = some c) : VRs w0 ρ c ((v.drop o).take n) := by
  unfold Abs.cut at hc
  split at hc
  · simp at hc; subst hc; exact (h.drop o).take n
  · simp at hc
theorem VR.cells {a : AV} {v : Value} (h : VR w0 ρ a v) : VRs w0 ρ a.cells v.cells.toList := by
  cases h <;> simp only [AV.cells, Value.cells] <;> first | assumption | (exact .cons _ _ _ _ (by constructor <;> assumption) .nil)
theorem VR.one {a : AV} {v : Value} (h : VR w0 ρ a v) (ho : a.one = true) : v.oneCell' = true := by
  cases h <;> simp [AV.one] at ho <;> rfl
theorem VRs.one {a : List AV} {v : List Value} (h : VRs w0 ρ a v) (ho : a.all AV.one = true) : ∀ u ∈ v, u.oneCell' = true := by
  induction a generalizing v with
  | nil => cases h; simp
  | cons x l ih => cases h with
    | cons _ u _ vs h hs =>
      simp at ho
      intro y hy
      simp at hy
      rcases hy with rfl | hy
      · exact h.one ho.1
      · exact ih hs (by simpa using ho.2) y hy
end vrs

theorem VR.ofVal1 {w0 : World} {ρ : Rho} {v : Value} {a : AV} (h : AV.ofVal1 v = some a) : VR w0 ρ a v := by
  unfold AV.ofVal1 at h
  split at h <;> simp at h <;> subst h
  · exact .int _ _
  · exact .bool _
  · rename_i s; exact .str s.data.toList
  · exact .ptr0
  · exact .slice0 _ _
  · exact .nilFunc
theorem VRs.ofVals {w0 : World} {ρ : Rho} : ∀ {v : List Value} {a : List AV}, AV.ofVals v = some a → VRs w0 ρ a v
  | [], a, h => by simp [AV.ofVals] at h; subst h; exact .nil
  | v :: r, a, h => by
    simp only [AV.ofVals] at h
    split at h
    · rename_i x l hx hl; simp at h; subst h; exact .cons _ _ _ _ (.ofVal1 hx) (VRs.ofVals hl)
    · simp at h
theorem VR.ofVal {w0 : World} {ρ : Rho} {v : Value} {a : AV} (h : AV.ofVal v = some a) : VR w0 ρ a v := by
  unfold AV.ofVal at h
  split at h
  · rename_i cs; simp at h; obtain ⟨l, hl, rfl⟩ := h; exact (VR.agg _ _ (VRs.ofVals hl))
  · rename_i cs; simp at h; obtain ⟨l, hl, rfl⟩ := h; exact (VR.tuple _ _ (VRs.ofVals hl))
  · exact .ofVal1 h

/-! ### Temporaries -/
def TmR (w0 : World) (ρ : Rho) (tm : Tm) (ts : Array Value) : Prop := tm.size = ts.size ∧ ∀ i, VR w0 ρ (tm.get i) (ts.getD i undef)
def EnvR (w0 : World) (ρ : Rho) (e : Env) (ts : Array Value) : Prop := ∀ i, VR w0 ρ (e i) (ts.getD i undef)
theorem TmR.ext {w0 : World} {ρ ρ' : Rho} {tm : Tm} {ts : Array Value} (h : TmR w0 ρ tm ts) (he : Ext ρ ρ') : TmR w0 ρ' tm ts := ⟨h.1, fun i => (h.2 i).ext he⟩
theorem TmR.set {w0 : World} {ρ : Rho} {tm : Tm} {ts : Array Value} (h : TmR w0 ρ tm ts) {d : Nat} {a : AV} {v : Value} (hd : d < tm.size) (hv : VR w0 ρ a v) : TmR w0 ρ (tm.set d a) (ts.setIfInBounds d v) := by
  refine ⟨by simp [h.1], fun i => ?_⟩
  rw [Tm.get_set]
  have hs := h.1
  by_cases e : i = d
  · subst e
    rw [if_pos rfl]
    simp [Array.getD, hs ▸ hd, hv]
  · rw [if_neg e]
    have := h.2 i
    simp only [Array.getD_eq_getD_getElem?] at this ⊢
    rw [Array.getElem?_setIfInBounds_ne (Ne.symm e)]
    exact this
theorem TmR.put {w0 : World} {ρ : Rho} {tm tm' : Tm} {A : Act} (h : TmR w0 ρ tm A.tmps) {d : Option Nat} {a : AV} {v : Value} (hp : tm.put d a = some tm') (hv : VR w0 ρ a v) : TmR w0 ρ tm' (A.put d v).tmps := by
  cases d with
  | none => simp [Tm.put] at hp; subst hp; exact h
  | some d =>
    simp only [Tm.put] at hp
    split at hp
    · rename_i hd; simp at hp; subst hp; exact h.set hd hv
    · simp at hp
theorem undef_VR {w0 : World} {ρ : Rho} : VR w0 ρ undefA undef := .tuple [] [] .nil

/-! ### Operands -/
theorem ev_VR {w0 : World} {ρ : Rho} {e : Env} {A : Act} (h : EnvR w0 ρ e A.tmps) {x : Operand} {a : AV} (hx : ev e x = some a) : VR w0 ρ a (A.eval x) := by
  cases x with
  | tmp t => simp [ev] at hx; subst hx; exact h t
  | const v => simp [ev] at hx; exact .ofVal hx
  | global g => simp [ev] at hx
  | func f => simp [ev] at hx; subst hx; exact .func f [] [] .nil
theorem evs_VR {w0 : World} {ρ : Rho} {e : Env} {A : Act} (h : EnvR w0 ρ e A.tmps) : ∀ {xs : List Operand} {as : List AV}, evs e xs = some as → VRs w0 ρ as (xs.map A.eval)
  | [], as, hx => by simp [evs] at hx; subst hx; exact .nil
  | x :: r, as, hx => by
    simp only [evs] at hx
    split at hx
    · rename_i a l ha hl; simp at hx; subst hx; exact .cons _ _ _ _ (ev_VR h ha) (evs_VR h hl)
    · simp at hx

/-! ### The heap -/
def noFreeze (fz : Nat × Nat) (R : Nat) : Prop := fz.1 ≤ fz.2 ∧ ∀ off, off < R → ¬(fz.1 ≤ off ∧ off < fz.2)
inductive OR (w0 : World) (ρ : Rho) (w : World) : AO → Option Pl → Prop
  | cells (cs : List AV) (p : Pl) (hB : w0.heap.size ≤ p.r) (c : Array Value) (T : TypeId) (fz : Nat × Nat) (hb : w.heap[p.r]? = some (.cells c T fz)) (hR : c.size = p.R) (hs : p.s + cs.length ≤ p.R)
      (hf : noFreeze fz p.R) (hv : VRs w0 ρ cs ((c.toList.drop p.s).take cs.length)) (h1 : cs.all AV.one = true) : OR w0 ρ w (.cells cs) (some p)
  | loop (st : LoopState) (pending : Option Code) (tm : Tm) (ps : List Nat) (assign body : Code) (p : Pl) (hB : w0.heap.size ≤ p.r) (L : Loop) (hb : w.heap[p.r]? = some (.loop L))
      (h1 : L.state = st) (h2 : L.pending = pending) (h3 : TmR w0 ρ tm L.tmps) (h4 : L.params = ps.toArray) (h5 : L.assign = assign) (h6 : L.body = body) : OR w0 ρ w (.loop st pending tm ps assign body) (some p)
  | defs (t : Bool) (p : Pl) (hB : w0.heap.size ≤ p.r) (hb : w.heap[p.r]? = some (.deferred (if t then none else some []))) : OR w0 ρ w (.defs t) (some p)
  | dead (x : Option Pl) : OR w0 ρ w .dead x
def AO.live : AO → Bool
  | .dead => false
  | _ => true
structure WR (w0 : World) (ρ : Rho) (h : AH) (w : World) : Prop where
  below : Below w0.heap.size w0 w
  fresh : ∀ i, h.size ≤ i → ρ i = none ∧ h.get i = none
  obj : ∀ i o, h.get i = some o → OR w0 ρ w o (ρ i)
  inj : ∀ i j o o' p q, h.get i = some o → h.get j = some o' → o.live = true → o'.live = true → ρ i = some p → ρ j = some q → p.r = q.r → i = j

theorem OR.ext {w0 : World} {ρ ρ' : Rho} {w : World} {o : AO} {p : Option Pl} (h : OR w0 ρ w o p) (he : Ext ρ ρ') : OR w0 ρ' w o p := by
  cases h with
  | cells cs p hB c T fz hb hR hs hf hv h1 => exact .cells cs p hB c T fz hb hR hs hf (hv.ext he) h1
  | loop st pe tm ps as bo p hB L hb h1 h2 h3 h4 h5 h6 => exact .loop st pe tm ps as bo p hB L hb h1 h2 (h3.ext he) h4 h5 h6
  | defs t p hB hb => exact .defs t p hB hb
  | dead => exact .dead _
/-- What lies in another block stays. -/
theorem OR.world {w0 : World} {ρ : Rho} {w w' : World} {o : AO} {p : Option Pl} (h : OR w0 ρ w o p) (hw : ∀ q, p = some q → o.live = true → w'.heap[q.r]? = w.heap[q.r]?) : OR w0 ρ w' o p := by
  cases h with
  | cells cs p hB c T fz hb hR hs hf hv h1 => exact .cells cs p hB c T fz ((hw p rfl rfl).trans hb) hR hs hf hv h1
  | loop st pe tm ps as bo p hB L hb h1 h2 h3 h4 h5 h6 => exact .loop st pe tm ps as bo p hB L ((hw p rfl rfl).trans hb) h1 h2 h3 h4 h5 h6
  | defs t p hB hb => exact .defs t p hB ((hw p rfl rfl).trans hb)
  | dead => exact .dead _
theorem OR.lt {w0 : World} {ρ : Rho} {w : World} {o : AO} {p : Pl} (h : OR w0 ρ w o (some p)) (hl : o.live = true) : p.r < w.heap.size ∧ w0.heap.size ≤ p.r := by
  cases h with
  | cells cs p hB c T fz hb hR hs hf hv h1 => exact ⟨(Array.getElem?_eq_some_iff.1 hb).1, hB⟩
  | loop st pe tm ps as bo p hB L hb h1 h2 h3 h4 h5 h6 => exact ⟨(Array.getElem?_eq_some_iff.1 hb).1, hB⟩
  | defs t p hB hb => exact ⟨(Array.getElem?_eq_some_iff.1 hb).1, hB⟩
  | dead => simp [AO.live] at hl
theorem OR.some {w0 : World} {ρ : Rho} {w : World} {o : AO} {x : Option Pl} (h : OR w0 ρ w o x) (hl : o.live = true) : ∃ p, x = some p := by
  cases h with
  | dead => simp [AO.live] at hl
  | _ => exact ⟨_, rfl⟩

/-- The map with one more place. -/
def Rho.add (ρ : Rho) (i : Nat) (p : Pl) : Rho := fun j => if j = i then some p else ρ j
theorem Rho.ext_add {ρ : Rho} {i : Nat} {p : Pl} (h : ρ i = none) : Ext ρ (ρ.add i p) := fun j q hj => by
  unfold Rho.add
  split
  · rename_i e; subst e; rw [h] at hj; cases hj
  · exact hj
theorem Rho.add_same (ρ : Rho) (i : Nat) (p : Pl) : ρ.add i p i = some p := by simp [Rho.add]

theorem WR.lt {w0 : World} {ρ : Rho} {h : AH} {w : World} (H : WR w0 ρ h w) {i : Nat} {o : AO} (hi : h.get i = some o) : i < h.size := by
  rcases Nat.lt_or_ge i h.size with h1 | h1
  · exact h1
  · rw [(H.fresh i h1).2] at hi; cases hi

/-- **A NEW BLOCK.** -/
theorem WR.push {w0 : World} {ρ : Rho} {h : AH} {w : World} (H : WR w0 ρ h w) (o : AO) (b : Obj) (R : Nat)
    (ho : OR w0 (ρ.add h.size ⟨w.heap.size, 0, R⟩) (w.alloc b) o (some ⟨w.heap.size, 0, R⟩)) :
    WR w0 (ρ.add h.size ⟨w.heap.size, 0, R⟩) (h.push o) (w.alloc b) ∧ Ext ρ (ρ.add h.size ⟨w.heap.size, 0, R⟩) := by
  have hx : Ext ρ (ρ.add h.size ⟨w.heap.size, 0, R⟩) := Rho.ext_add (H.fresh _ (Nat.le_refl _)).1
  refine ⟨⟨H.below.alloc H.below.size b, ?_, ?_, ?_⟩, hx⟩
  · intro i hi
    simp at hi
    have := H.fresh i (by omega)
    rw [AH.get_push, if_neg (by omega)]
    exact ⟨by unfold Rho.add; rw [if_neg (by omega)]; exact this.1, this.2⟩
  · intro i o' hi
    rw [AH.get_push] at hi
    split at hi
    · rename_i e
      cases hi
      subst e
      rw [Rho.add_same]
      exact ho
    · rename_i e
      have := H.obj i o' hi
      have e2 : ρ.add h.size ⟨w.heap.size, 0, R⟩ i = ρ i := by unfold Rho.add; rw [if_neg e]
      rw [e2]
      refine (this.ext hx).world fun q hq hl => ?_
      rw [hq] at this
      exact Below.heap_alloc _ _ _ (this.lt hl).1
  · intro i j o1 o2 p q hi hj l1 l2 hp hq e
    rw [AH.get_push] at hi hj
    have key : ∀ i o p, h.get i = some o → o.live = true → i ≠ h.size → ρ.add h.size ⟨w.heap.size, 0, R⟩ i = some p → ρ i = some p ∧ p.r < w.heap.size := by
      intro i o p hi hl hne hp
      unfold Rho.add at hp
      rw [if_neg hne] at hp
      have := H.obj i o hi
      rw [hp] at this
      exact ⟨hp, (this.lt hl).1⟩
    split at hi <;> split at hj
    · omega
    · rename_i e1 e2
      have := key j o2 q hj l2 e2 hq
      rw [e1, Rho.add_same] at hp
      cases hp
      simp at e
      omega
    · rename_i e1 e2
      have := key i o1 p hi l1 e1 hp
      rw [e2, Rho.add_same] at hq
      cases hq
      simp at e
      omega
    · rename_i e1 e2
      exact H.inj i j o1 o2 p q hi hj l1 l2 (key i o1 p hi l1 e1 hp).1 (key j o2 q hj l2 e2 hq).1 e

/-- **A LIVE BLOCK IS WRITTEN**: the world turns in its block alone. -/
theorem WR.set {w0 : World} {ρ : Rho} {h : AH} {w w' : World} (H : WR w0 ρ h w) {i : Nat} {o o' : AO} {p : Pl} (hi : h.get i = some o) (hl : o.live = true) (hp : ρ i = some p) (hb : Below p.r w w')
    (hw : ∀ k, k ≠ p.r → w'.heap[k]? = w.heap[k]?) (ho : OR w0 ρ w' o' (some p)) : WR w0 ρ (h.set i o') w' := by
  have hlt := (hp ▸ H.obj i o hi).lt hl
  refine ⟨H.below.trans (hb.mono hlt.2), ?_, ?_, ?_⟩
  · intro j hj
    have hi' := H.lt hi
    have := H.fresh j (by simpa using hj)
    simp at hj
    rw [AH.get_set, if_neg (by omega)]
    exact this
  · intro j o2 hj
    rw [AH.get_set] at hj
    split at hj
    · rename_i e; cases hj; subst e; rw [hp]; exact ho
    · rename_i e
      refine (H.obj j o2 hj).world fun q hq hl2 => hw _ fun er => e (H.inj j i o2 o q p hj hi hl2 hl hq hp er)
  · intro j k o1 o2 q1 q2 hj hk l1 l2 hq1 hq2 e
    rw [AH.get_set] at hj hk
    split at hj <;> split at hk
    · omega
    · rename_i e1 e2; subst e1; exact H.inj _ _ o o2 q1 q2 hi hk hl l2 hq1 hq2 e
    · rename_i e1 e2; subst e2; exact H.inj _ _ o1 o q1 q2 hj hi l1 hl hq1 hq2 e
    · exact H.inj _ _ o1 o2 q1 q2 hj hk l1 l2 hq1 hq2 e
/-- A block is looked at no more. -/
theorem WR.kill {w0 : World} {ρ : Rho} {h : AH} {w : World} (H : WR w0 ρ h w) {i : Nat} (hi : i < h.size) : WR w0 ρ (h.set i .dead) w := by
  refine ⟨H.below, ?_, ?_, ?_⟩
  · intro j hj
    have := H.fresh j (by simpa using hj)
    simp at hj
    rw [AH.get_set, if_neg (by omega)]
    exact this
  · intro j o2 hj
    rw [AH.get_set] at hj
    split at hj
    · cases hj; exact .dead _
    · exact H.obj j o2 hj
  · intro j k o1 o2 q1 q2 hj hk l1 l2 hq1 hq2 e
    rw [AH.get_set] at hj hk
    split at hj
    · cases hj; simp [AO.live] at l1
    · split at hk
      · cases hk; simp [AO.live] at l2
      · exact H.inj _ _ o1 o2 q1 q2 hj hk l1 l2 hq1 hq2 e
theorem WR.drew {w0 : World} {ρ : Rho} {h : AH} {w : World} (H : WR w0 ρ h w) : WR w0 ρ h w.drew :=
  ⟨H.below.drew, H.fresh, fun i o hi => (H.obj i o hi).world fun _ _ _ => rfl, H.inj⟩

end Go.Abs
end

section
/- What the model's small operations come to, in the words of the abstract machine: types, reads and writes of a row of cells. -/
namespace Go.Abs
open Go.RowKit

def tdOf : TypeDesc → TD
  | .int k => .int k
  | .bool => .bool
  | .string => .string
  | .pointer e => .pointer e
  | .slice e => .slice e
  | .array n e => .array n e
  | .struct fs => .struct (fs.toList.map fun f => (f.type, f.offset, f.name != "_"))
  | .func _ _ _ => .func
  | .tuple _ => .tuple
  | _ => .bad
def TOk1 (P : Program) (t : TypeId) (ti : TI) : Prop :=
  ∃ i d z, P.info? t = some i ∧ P.underlying t = some d ∧ tdOf d = ti.desc ∧ i.size = ti.size ∧ i.bytes = ti.bytes ∧ i.zero = some z ∧ AV.ofVals z.cells.toList = some ti.zero ∧ ti.zero.all AV.one = true ∧
    (ti.eqOk = true → P.eqGuardType P.depth t = false ∧ P.stoodInHeld t = false)
def TOk (P : Program) (T : Tys) : Prop := ∀ t, (T t).desc ≠ .bad → TOk1 P t (T t)
def FOk (P : Program) : Prop := ∀ (f : FuncId) (fn : Func), P.funcs[f]? = some fn → (fn.name == "runtime.NumGoroutine") = false

section runs
variable {P : Program} {T : Tys} {w : World}
theorem run_und {t : TypeId} {d : TypeDesc} (h : P.underlying t = some d) : (underlying t).run P w = .ok d w := by
  simp [underlying, h]
theorem run_ti {t : TypeId} {i : TypeInfo} (h : P.info? t = some i) : (typeInfo t).run P w = .ok i w := by
  simp [typeInfo, h]
theorem run_size {t : TypeId} {i : TypeInfo} (h : P.info? t = some i) : (sizeOf t).run P w = .ok i.size w := by
  simp [sizeOf, run_ti h]
theorem run_zero {t : TypeId} {i : TypeInfo} {z : Value} (h : P.info? t = some i) (hz : i.zero = some z) : (zeroValue t).run P w = .ok z w := by
  simp [zeroValue, run_ti h, hz]
theorem isAgg_of {d : TypeDesc} {x : TD} (h : tdOf d = x) (hb : x ≠ .bad) : (match d with | .struct _ => true | .array _ _ => true | _ => false) = x.isAgg := by
  subst h
  cases d <;> simp [tdOf, TD.isAgg] at hb ⊢
theorem run_isAgg {t : TypeId} {d : TypeDesc} (h : P.underlying t = some d) (hb : tdOf d ≠ .bad) : (isAgg t).run P w = .ok (tdOf d).isAgg w := by
  have := isAgg_of (d := d) rfl hb
  simp only [isAgg, Sem.run_bind, run_und h, Result.andThen_ok]
  rw [← this]
  cases d <;> rfl
end runs

/-! ### A row of cells, read and written -/
theorem run_loadCells_row {P : Program} {w : World} {b o : Nat} {vs : List Value} (h : ∀ j v, vs[j]? = some v → w.cell? ⟨b, o + j, none⟩ = some v) :
    (loadCells ⟨b, o, none⟩ vs.length).run P w = .ok vs.toArray w := by
  have := run_loadCells_list (P := P) (w := w) ⟨b, o, none⟩ vs fun j v hj => by
    have := h j v hj
    unfold Addr.add
    split
    · rename_i e; subst e; simpa using this
    · exact this
  exact this
theorem add_none (b o n : Nat) : (⟨b, o, none⟩ : Addr).add n = ⟨b, o + n, none⟩ := by
  unfold Addr.add
  split
  · rename_i e; subst e; rfl
  · rfl
/-- A list with new values laid over it from place o on. -/
def overV (c : List Value) (o : Nat) (new : List Value) : List Value := c.take o ++ new ++ c.drop (o + new.length)
theorem overV_length {c : List Value} {o : Nat} {new : List Value} (h : o + new.length ≤ c.length) : (overV c o new).length = c.length := by
  simp [overV]; omega
theorem putObj_setCell {w : World} {r : Nat} {c : Array Value} {T : TypeId} {fz : Nat × Nat} (hb : w.heap[r]? = some (.cells c T fz)) (o : Nat) (v : Value) :
    w.setCell ⟨r, o, none⟩ v = w.putObj r (.cells (c.setIfInBounds o v) T fz) := by
  unfold World.setCell World.putObj
  congr 1
  apply Array.ext_getElem?
  intro i
  obtain ⟨hlt, hget⟩ := Array.getElem?_eq_some_iff.1 hb
  rw [Array.getElem?_modify]
  by_cases e : r = i
  · subst e
    simp [hlt, hget]
  · rw [if_neg e, Array.getElem?_setIfInBounds_ne e]
theorem putObj_putObj {w : World} {r : Nat} (o o' : Obj) : (w.putObj r o).putObj r o' = w.putObj r o' := by
  unfold World.putObj
  congr 1
  simp
theorem cell_row {w : World} {r : Nat} {c : Array Value} {T : TypeId} {fz : Nat × Nat} (hb : w.heap[r]? = some (.cells c T fz)) (o : Nat) : w.cell? ⟨r, o, none⟩ = c[o]? := by
  simp [World.cell?, hb]
theorem frozen_row {w : World} {r : Nat} {c : Array Value} {T : TypeId} {fz : Nat × Nat} (hb : w.heap[r]? = some (.cells c T fz)) (o : Nat) : w.frozen? ⟨r, o, none⟩ = (fz.1 ≤ o && o < fz.2) := by
  simp [World.frozen?, hb]
theorem run_storeCells_row {P : Program} {r o : Nat} {T : TypeId} {fz : Nat × Nat} : ∀ (vs : List Value) (i : Nat) (c : Array Value) (w : World), w.heap[r]? = some (.cells c T fz) → o + i + vs.length ≤ c.size → noFreeze fz c.size →
    (∀ v ∈ vs, v.oneCell' = true) → (storeCells ⟨r, o, none⟩ vs i).run P w = .ok () (w.putObj r (.cells (overV c.toList (o + i) vs).toArray T fz)) := by
  intro vs
  induction vs with
  | nil =>
    intro i c w hb _ _ _
    have e : (overV c.toList (o + i) []).toArray = c := by simp [overV]
    rw [e]
    simp only [storeCells, Sem.run_pure]
    congr 1
    unfold World.putObj
    cases w
    congr 1
    apply Array.ext_getElem?
    intro k
    by_cases ek : r = k
    · subst ek
      simp only at hb
      rw [hb, Array.getElem?_setIfInBounds_self, if_pos (Array.getElem?_eq_some_iff.1 hb).1]
    · rw [Array.getElem?_setIfInBounds_ne ek]
  | cons v vs ih =>
    intro i c w hb hlen hf h1
    simp at hlen
    have hlt : o + i < c.size := by omega
    have hcell : w.cell? ⟨r, o + i, none⟩ = some c[o + i] := by rw [cell_row hb]; simp [hlt]
    have hfro : w.frozen? ⟨r, o + i, none⟩ = false := by
      rw [frozen_row hb]
      have := hf.2 (o + i) hlt
      simp only [Bool.and_eq_false_iff, decide_eq_false_iff_not]
      omega
    have hst : (store ((⟨r, o, none⟩ : Addr).add i) v).run P w = .ok () (w.putObj r (.cells (c.setIfInBounds (o + i) v) T fz)) := by
      rw [add_none, run_store P w _ v _ (h1 v (by simp)), hcell]
      simp [hfro, putObj_setCell hb]
    have hr : r < w.heap.size := (Array.getElem?_eq_some_iff.1 hb).1
    have h2 := ih (i + 1) (c.setIfInBounds (o + i) v) (w.putObj r (.cells (c.setIfInBounds (o + i) v) T fz)) (World.putObj_heap_same hr) (by simp; omega) (by simpa using hf) (fun x hx => h1 x (by simp [hx]))
    simp only [storeCells, Sem.run_bind, hst, Result.andThen_ok, h2, putObj_putObj]
    congr 3
    have e : overV (c.toList.set (o + i) v) (o + (i + 1)) vs = overV c.toList (o + i) (v :: vs) := by
      unfold overV
      rw [show o + (i + 1) = o + i + 1 by omega, List.take_set, List.drop_set, if_pos (by omega)]
      have hl : o + i < c.toList.length := by simpa using hlt
      rw [List.take_succ_eq_append_getElem hl, List.set_append_right _ _ (by simp; omega), show o + i + 1 + vs.length = o + i + (vs.length + 1) by omega]
      simp [Nat.min_eq_left (Nat.le_of_lt hlt)]
    simpa using e
end Go.Abs
namespace Go.Abs
open Go.RowKit
section heap
variable {P : Program} {T : Tys} {w0 w : World} {ρ : Rho} {h h' : AH}

theorem noFreeze_00 (R : Nat) : noFreeze (0, 0) R := ⟨Nat.le_refl _, fun off _ hh => by simp at hh⟩
theorem WR.cellsAt (H : WR w0 ρ h w) {i : Nat} {cs : List AV} (hi : h.get i = some (.cells cs)) : ∃ p c T fz, ρ i = some p ∧ w0.heap.size ≤ p.r ∧ w.heap[p.r]? = some (.cells c T fz) ∧ c.size = p.R ∧ p.s + cs.length ≤ p.R ∧ noFreeze fz p.R ∧
    VRs w0 ρ cs ((c.toList.drop p.s).take cs.length) ∧ cs.all AV.one = true := by
  have := H.obj i _ hi
  generalize hx : ρ i = x at this
  cases this with
  | cells cs p hB c T fz hb hR hs hf hv h1 => exact ⟨p, c, T, fz, rfl, hB, hb, hR, hs, hf, hv, h1⟩
theorem WR.read (H : WR w0 ρ h w) {i o n : Nat} {cs : List AV} (hr : h.read i o n = some cs) {p : Pl} (hp : ρ i = some p) :
    ∃ us, VRs w0 ρ cs us ∧ us.length = n ∧ (∀ j v, us[j]? = some v → w.cell? ⟨p.r, p.s + o + j, none⟩ = some v) ∧ cs.all AV.one = true := by
  unfold AH.read at hr
  split at hr
  · rename_i all hi
    obtain ⟨p', c, T, fz, hp', hB, hb, hR, hs, hf, hv, h1⟩ := H.cellsAt hi
    rw [hp] at hp'; cases hp'
    have hc := hr
    unfold cut at hc
    split at hc
    · rename_i hle
      simp at hc
      refine ⟨_, hv.cut hr, ?_, ?_, ?_⟩
      · simp; omega
      · intro j v hj
        rw [cell_row hb]
        simp only [List.getElem?_take, List.getElem?_drop] at hj
        split at hj
        · rename_i hjn
          split at hj
          · rw [← hj]; simp [Nat.add_assoc]
          · simp at hj
        · simp at hj
      · subst hc
        rw [List.all_eq_true] at h1 ⊢
        intro x hx
        exact h1 x (List.mem_of_mem_drop (List.mem_of_mem_take hx))
    · simp at hc
  · simp at hr
theorem over_length {cs new : List AV} {o : Nat} (h : o + new.length ≤ cs.length) : (over cs o new).length = cs.length := by
  simp [over]; omega
theorem VRs.over {cs new : List AV} {vs us : List Value} (h : VRs w0 ρ cs vs) (k : VRs w0 ρ new us) (o : Nat) : VRs w0 ρ (Abs.over cs o new) (overV vs o us) := by
  unfold Abs.over overV
  rw [k.length]
  exact ((h.take o).append k).append (h.drop _)
theorem overV_get {c us : List Value} {o : Nat} (h : o + us.length ≤ c.length) (k : Nat) : (overV c o us)[k]? = if k < o then c[k]? else if k < o + us.length then us[k - o]? else c[k]? := by
  unfold overV
  have ho : (List.take o c).length = o := by simp; omega
  rw [List.append_assoc]
  by_cases h1 : k < o
  · rw [if_pos h1, List.getElem?_append_left (by omega), List.getElem?_take, if_pos h1]
  · rw [if_neg h1, List.getElem?_append_right (by omega), ho]
    by_cases h2 : k < o + us.length
    · rw [if_pos h2, List.getElem?_append_left (by omega)]
    · rw [if_neg h2, List.getElem?_append_right (by omega), List.getElem?_drop]
      congr 1; omega
theorem overV_mid {c us : List Value} {s o n : Nat} (hn : o + us.length ≤ n) (hc : s + n ≤ c.length) : ((overV c (s + o) us).drop s).take n = overV ((c.drop s).take n) o us := by
  apply List.ext_getElem?
  intro k
  rw [List.getElem?_take, List.getElem?_drop, overV_get (by omega), overV_get (by simp; omega)]
  by_cases hk : k < n
  · rw [if_pos hk]
    by_cases h1 : k < o
    · rw [if_pos (by omega), if_pos h1, List.getElem?_take, if_pos hk, List.getElem?_drop]
    · rw [if_neg (by omega), if_neg h1]
      by_cases h2 : k < o + us.length
      · rw [if_pos (by omega), if_pos h2]; congr 1; omega
      · rw [if_neg (by omega), if_neg h2, List.getElem?_take, if_pos hk, List.getElem?_drop]
  · rw [if_neg hk, if_neg (by omega), if_neg (by omega), List.getElem?_take, if_neg hk]
theorem all_over {cs new : List AV} {o : Nat} (h : cs.all AV.one = true) (k : new.all AV.one = true) : (over cs o new).all AV.one = true := by
  rw [List.all_eq_true] at *
  intro x hx
  simp [over] at hx
  rcases hx with hx | hx | hx
  · exact h x (List.mem_of_mem_take hx)
  · exact k x hx
  · exact h x (List.mem_of_mem_drop hx)
theorem putObj_below {w : World} {r : Nat} (o : Obj) : Below r w (w.putObj r o) :=
  ⟨rfl, rfl, rfl, by simp, fun k hk => World.putObj_heap_other (by omega)⟩
/-- A block that is marked behind its end. -/
theorem WR.refreeze (H : WR w0 ρ h w) {i : Nat} {cs : List AV} (hi : h.get i = some (.cells cs)) {p : Pl} {c : Array Value} {T : TypeId} {fz fz' : Nat × Nat} (hp : ρ i = some p) (hB : w0.heap.size ≤ p.r) (hb : w.heap[p.r]? = some (.cells c T fz)) (hR : c.size = p.R) (hs : p.s + cs.length ≤ p.R)
    (hv : VRs w0 ρ cs ((c.toList.drop p.s).take cs.length)) (h1 : cs.all AV.one = true) (hf : noFreeze fz' p.R) : WR w0 ρ h (w.putObj p.r (.cells c T fz')) := by
  refine ⟨H.below.trans ((putObj_below _).mono hB), H.fresh, ?_, H.inj⟩
  intro j o hj
  by_cases e : j = i
  · subst e
    rw [hi] at hj
    cases hj
    rw [hp]
    exact .cells cs p hB c T fz' (World.putObj_heap_same (Array.getElem?_eq_some_iff.1 hb).1) hR hs hf hv h1
  · exact (H.obj j o hj).world fun q hq hl => World.putObj_heap_other fun er => e (H.inj j i _ _ q p hj hi hl rfl hq hp er)
theorem WR.write (H : WR w0 ρ h w) {i o : Nat} {new : List AV} (hw : h.write i o new = some h') {p : Pl} (hp : ρ i = some p) {us : List Value} (hv : VRs w0 ρ new us) (h1 : new.all AV.one = true) :
    ∃ w', (storeCells ⟨p.r, p.s + o, none⟩ us).run P w = .ok () w' ∧ WR w0 ρ h' w' := by
  unfold AH.write at hw
  split at hw
  · rename_i cs hi
    split at hw
    · rename_i hle
      simp at hw
      obtain ⟨p', c, T, fz, hp', hB, hb, hR, hs, hf, hvs, hone⟩ := H.cellsAt hi
      rw [hp] at hp'; cases hp'
      have hl := hv.length
      have hrun := run_storeCells_row (P := P) (r := p.r) (o := p.s + o) (T := T) (fz := fz) us 0 c w hb (by omega) (by rw [hR]; exact hf) (hv.one h1)
      refine ⟨_, hrun, ?_⟩
      subst hw
      have hlt : p.r < w.heap.size := (Array.getElem?_eq_some_iff.1 hb).1
      refine H.set hi rfl hp (putObj_below _) (fun k hk => World.putObj_heap_other hk) ?_
      refine .cells _ _ hB _ T fz (World.putObj_heap_same hlt) ?_ ?_ hf ?_ (all_over hone h1)
      · simp only [List.size_toArray]
        rw [overV_length (by simp; omega)]
        simpa using hR
      · rw [over_length hle]; exact hs
      · rw [over_length hle]
        simp only [Nat.add_zero]
        rw [overV_mid (by omega) (by simp; omega)]
        exact hvs.over hv o
    · simp at hw
  · simp at hw
theorem WR.pushCells (H : WR w0 ρ h w) {cs : List AV} {vs : List Value} (hv : VRs w0 ρ cs vs) (h1 : cs.all AV.one = true) (more : List Value) (e : TypeId) (fz : Nat × Nat) (hf : noFreeze fz (vs.length + more.length)) :
    ∃ ρ', Ext ρ ρ' ∧ ρ' h.size = some ⟨w.heap.size, 0, vs.length + more.length⟩ ∧ WR w0 ρ' (h.push (.cells cs)) (w.alloc (.cells (vs ++ more).toArray e fz)) := by
  refine ⟨_, Rho.ext_add (H.fresh _ (Nat.le_refl _)).1, Rho.add_same _ _ _, (H.push _ _ (vs.length + more.length) ?_).1⟩
  have hl := hv.length
  refine .cells _ _ H.below.size _ e fz (World.alloc_heap_new _ _) (by simp) (by simp; omega) hf ?_ h1
  simp only [List.drop_zero, hl, List.take_left]
  exact hv.ext (Rho.ext_add (H.fresh _ (Nat.le_refl _)).1)
/-- Memory that came in reads as it did. -/
theorem WR.old (H : WR w0 ρ h w) {a : Addr} {v : Value} (hc : w0.cell? a = some v) : w.cell? a = some v :=
  (H.below.cell (World.block_lt_of_cell? w0 a hc)).trans hc
theorem WR.oldRow (H : WR w0 ρ h w) {b s o n : Nat} {row cs : List AV} {vs : List Value} (hv : VRs w0 ρ row vs) (hc : ∀ j v, vs[j]? = some v → w0.cell? ⟨b, s + j, none⟩ = some v) (hcut : cut row o n = some cs) :
    ∃ us, VRs w0 ρ cs us ∧ us.length = n ∧ ∀ j v, us[j]? = some v → w.cell? ⟨b, s + o + j, none⟩ = some v := by
  have hk := hcut
  unfold cut at hk
  split at hk
  · rename_i hle
    have hl := hv.length
    refine ⟨_, hv.cut hcut, by simp; omega, ?_⟩
    intro j v hj
    simp only [List.getElem?_take, List.getElem?_drop] at hj
    split at hj
    · exact H.old (by have := hc (o + j) v hj; rwa [Nat.add_assoc])
    · simp at hj
  · simp at hk
end heap
end Go.Abs
end

section
/- Each operation of the abstract machine is the model's. First part: operations whose answer hangs on their operands alone. -/
set_option linter.unusedSimpArgs false
set_option linter.unusedVariables false
namespace Go.Abs
open Go.RowKit
section ops
variable {P : Program} {T : Tys} {w0 w : World} {ρ : Rho} {h h' : AH}

def Res (P : Program) (w0 : World) (ρ : Rho) (s : Sem Next) (w : World) (v : AV) (h' : AH) : Prop :=
  ∃ ρ' u w' nx, s.run P w = .ok nx w' ∧ (nx = .value u ∨ (nx = .skip ∧ u = undef)) ∧ Ext ρ ρ' ∧ WR w0 ρ' h' w' ∧ VR w0 ρ' v u
theorem Res.val {s : Sem Value} {v : AV} {u : Value} (hs : s.run P w = .ok u w) (H : WR w0 ρ h w) (hv : VR w0 ρ v u) : Res P w0 ρ (do pure (.value (← s))) w v h :=
  ⟨ρ, u, w, .value u, by simp [hs], .inl rfl, Ext.refl _, H, hv⟩

theorem toList_mk (l : List UInt8) : (⟨l.toArray⟩ : ByteArray).toList = l := by
  have key : ∀ (n i : Nat) (r : List UInt8), n = l.length - i → ByteArray.toList.loop ⟨l.toArray⟩ i r = r.reverse ++ l.drop i := by
    intro n
    induction n with
    | zero =>
      intro i r hn
      rw [ByteArray.toList.loop]
      have : ¬ i < (⟨l.toArray⟩ : ByteArray).size := by simp [ByteArray.size]; omega
      rw [if_neg this, List.drop_of_length_le (by omega), List.append_nil]
    | succ n ih =>
      intro i r hn
      rw [ByteArray.toList.loop]
      have hi : i < l.length := by omega
      have : i < (⟨l.toArray⟩ : ByteArray).size := by simpa [ByteArray.size] using hi
      rw [if_pos this, ih (i + 1) _ (by omega)]
      have e : (⟨l.toArray⟩ : ByteArray).get! i = l[i] := by simp [ByteArray.get!, hi]
      rw [e, List.reverse_cons, List.append_assoc, List.singleton_append, List.getElem_cons_drop]
  have := key l.length 0 [] (by simp)
  simpa [ByteArray.toList] using this

theorem intBin_run {op : BinOp} {k k' : IntKind} {a b : Int} {z : AV} {t : TypeId} {xo yo : Operand} (hk : k = k' ∨ op = .shl ∨ op = .shr) (hr : intBin op k a b = some z) :
    ∃ r, (do eqGuard op t xo yo (.int k a) (.int k' b); binOp op t (.int k a) (.int k' b) : Sem Value).run P w = .ok r w ∧ VR w0 ρ z r := by
  have hg : (eqGuard op t xo yo (.int k a) (.int k' b)).run P w = .ok () w := by
    cases op <;> simp [eqGuard]
  simp only [Sem.run_bind, hg, Result.andThen_ok]
  cases op <;> simp only [intBin] at hr
  case shl => split at hr <;> simp at hr; subst hr; rename_i hn; exact ⟨_, by simp [binOp, Op.shift, hn], .int _ _⟩
  case shr => split at hr <;> simp at hr; subst hr; rename_i hn; exact ⟨_, by simp [binOp, Op.shift, hn], .int _ _⟩
  all_goals (obtain rfl : k = k' := by simpa using hk)
  case quo => split at hr <;> simp at hr; subst hr; rename_i hn; exact ⟨_, by simp [binOp, Op.intDiv, hn], .int _ _⟩
  case rem => split at hr <;> simp at hr; subst hr; rename_i hn; exact ⟨_, by simp [binOp, Op.intDiv, hn], .int _ _⟩
  all_goals (simp only [Option.some.injEq] at hr; subst hr)
  all_goals first
    | exact ⟨_, by simp [binOp, Op.intArith, Op.intBits, Op.intCmp], .int _ _⟩
    | exact ⟨_, by simp [binOp, Op.intArith, Op.intBits, Op.intCmp], .bool _⟩

theorem strBin_run {op : BinOp} {a b : List UInt8} {z : AV} {t : TypeId} {xo yo : Operand} (hr : strBin op a b = some z) :
    ∃ r, (do eqGuard op t xo yo (.string ⟨a.toArray⟩) (.string ⟨b.toArray⟩); binOp op t (.string ⟨a.toArray⟩) (.string ⟨b.toArray⟩) : Sem Value).run P w = .ok r w ∧ VR w0 ρ z r := by
  have hg : (eqGuard op t xo yo (.string ⟨a.toArray⟩) (.string ⟨b.toArray⟩)).run P w = .ok () w := by
    cases op <;> simp [eqGuard]
  simp only [Sem.run_bind, hg, Result.andThen_ok]
  cases op <;> simp only [strBin] at hr <;> first | (simp at hr; done) | skip
  case add =>
    split at hr
    · simp at hr
    · rename_i hn
      simp only [Option.some.injEq] at hr; subst hr
      have e : IntKind.max .i64 = 9223372036854775807 := by decide
      refine ⟨.string ⟨(a ++ b).toArray⟩, ?_, .str _⟩
      have hs : ¬ (((⟨a.toArray⟩ : ByteArray).size + (⟨b.toArray⟩ : ByteArray).size : Nat) : Int) > IntKind.max .i64 := by rw [e]; simpa [ByteArray.size] using hn
      have hb : (⟨a.toArray⟩ : ByteArray) ++ ⟨b.toArray⟩ = ⟨(a ++ b).toArray⟩ := by
        apply ByteArray.ext; simp [ByteArray.data_append]
      simp only [binOp, Op.stringOp, if_neg hs, hb, Sem.run_pure]
  all_goals (simp only [Option.some.injEq] at hr; subst hr; exact ⟨_, by simp [binOp, Op.stringOp, toList_mk], .bool _⟩)

theorem TOk.get (hT : TOk P T) {t : TypeId} (h : (T t).desc ≠ .bad) : ∃ i d z, P.info? t = some i ∧ P.underlying t = some d ∧ tdOf d = (T t).desc ∧ i.size = (T t).size ∧ i.bytes = (T t).bytes ∧ i.zero = some z ∧
    AV.ofVals z.cells.toList = some (T t).zero ∧ (T t).zero.all AV.one = true ∧ ((T t).eqOk = true → P.eqGuardType P.depth t = false ∧ P.stoodInHeld t = false) := hT t h
theorem tdOf_int {d : TypeDesc} {k : IntKind} (h : tdOf d = .int k) : d = .int k := by cases d <;> simp [tdOf] at h; rw [h]
theorem tdOf_bool {d : TypeDesc} (h : tdOf d = .bool) : d = .bool := by cases d <;> simp [tdOf] at h; rfl
theorem tdOf_string {d : TypeDesc} (h : tdOf d = .string) : d = .string := by cases d <;> simp [tdOf] at h; rfl
theorem tdOf_pointer {d : TypeDesc} {e : Nat} (h : tdOf d = .pointer e) : d = .pointer e := by cases d <;> simp [tdOf] at h; rw [h]
theorem tdOf_slice {d : TypeDesc} {e : Nat} (h : tdOf d = .slice e) : d = .slice e := by cases d <;> simp [tdOf] at h; rw [h]
theorem tdOf_array {d : TypeDesc} {n e : Nat} (h : tdOf d = .array n e) : d = .array n e := by cases d <;> simp [tdOf] at h; rw [h.1, h.2]
theorem tdOf_func {d : TypeDesc} (h : tdOf d = .func) : ∃ a b c, d = .func a b c := by cases d <;> simp [tdOf] at h; exact ⟨_, _, _, rfl⟩
theorem tdOf_struct {d : TypeDesc} {fs : List (Nat × Nat × Bool)} (h : tdOf d = .struct fs) : ∃ f, d = .struct f ∧ fs = f.toList.map fun f => (f.type, f.offset, f.name != "_") := by
  cases d <;> simp [tdOf] at h; exact ⟨_, rfl, h.symm⟩

theorem eqCell_run {d : Nat} {t : TypeId} {x y : AV} {u v : Value} {b : Bool} (hT : TOk P T) (hr : eqCell (T t).desc x y = some b) (hx : VR w0 ρ x u) (hy : VR w0 ρ y v) :
    (Op.equalIn (d + 1) t u v).run P w = .ok b w := by
  have hbad : (T t).desc ≠ .bad := by intro e; simp [eqCell, e] at hr
  obtain ⟨i, D, z, _, hu, hd, _⟩ := hT.get hbad
  unfold eqCell at hr
  split at hr
  · rename_i k0 k a k' b' hdd
    split at hr
    · rename_i hk
      simp at hr
      cases hx; cases hy
      subst hk
      rw [← hr]
      exact run_equalIn_int (P := P) w d t k k0 a b' (by rw [hu, tdOf_int (hd.trans hdd)])
    · simp at hr
  · rename_i a b' hdd
    simp at hr
    cases hx; cases hy
    rw [← hr, run_equalIn_string (P := P) w d t _ _ (by rw [hu, tdOf_string (hd.trans hdd)]), toList_mk, toList_mk]
  · rename_i a b' hdd
    simp at hr
    cases hx; cases hy
    rw [← hr]
    exact run_equalIn_bool' (P := P) w d t a b' (by rw [hu, tdOf_bool (hd.trans hdd)])
  · simp at hr
theorem eqCell_plain {d : TD} {x y : AV} {b : Bool} (hr : eqCell d x y = some b) : d.isAgg = false ∧ d ≠ .bad := by
  unfold eqCell at hr
  split at hr <;> first | (simp at hr; done) | exact ⟨rfl, by simp⟩
theorem part_run (hT : TOk P T) {t : TypeId} {cs : List AV} {vs : List Value} {off : Nat} {x : AV} (hv : VRs w0 ρ cs vs) (h1 : (T t).desc.isAgg = false) (h2 : (T t).desc ≠ .bad) (hx : cs[off]? = some x) :
    ∃ u, (part t vs.toArray off).run P w = .ok u w ∧ VR w0 ρ x u := by
  obtain ⟨i, D, z, _, hu, hd, _⟩ := hT.get h2
  obtain ⟨u, hg, hvr⟩ := hv.get hx
  refine ⟨u, ?_, hvr⟩
  have := run_isAgg (P := P) (w := w) hu (by rw [hd]; exact h2)
  rw [hd, h1] at this
  simp [part, this, hg]
theorem eqFields_run {d : Nat} (hT : TOk P T) {xs ys : List AV} {us vs : List Value} (hx : VRs w0 ρ xs us) (hy : VRs w0 ρ ys vs) : ∀ (fs : List Field) {b : Bool}, eqFields T xs ys (fs.map fun f => (f.type, f.offset, f.name != "_")) = some b →
    (Op.eqFields (d + 1) us.toArray vs.toArray fs).run P w = .ok b w := by
  intro fs
  induction fs with
  | nil => intro b hr; simp [eqFields] at hr; subst hr; simp [Op.eqFields]
  | cons f fs ih =>
    intro b hr
    simp only [List.map_cons, eqFields] at hr
    by_cases hn : f.name = "_"
    · rw [Op.eqFields, if_neg (by simpa using hn)]
      simp [hn] at hr
      exact ih hr
    · have hn' : (!(f.name != "_")) = false := by simpa using hn
      rw [hn'] at hr
      simp only [Bool.false_eq_true, if_false] at hr
      split at hr
      · rename_i x y hgx hgy
        split at hr
        · rename_i heq
          obtain ⟨p1, p2⟩ := eqCell_plain heq
          obtain ⟨u, hru, hvu⟩ := part_run (P := P) (w := w) hT hx p1 p2 hgx
          obtain ⟨v, hrv, hvv⟩ := part_run (P := P) (w := w) hT hy p1 p2 hgy
          rw [Op.eqFields, if_pos hn]
          simp only [Sem.run_bind, hru, hrv, Result.andThen_ok, eqCell_run (P := P) (w := w) hT heq hvu hvv]
          simpa using ih hr
        · rename_i heq
          simp at hr
          subst hr
          obtain ⟨p1, p2⟩ := eqCell_plain heq
          obtain ⟨u, hru, hvu⟩ := part_run (P := P) (w := w) hT hx p1 p2 hgx
          obtain ⟨v, hrv, hvv⟩ := part_run (P := P) (w := w) hT hy p1 p2 hgy
          rw [Op.eqFields, if_pos hn]
          simp only [Sem.run_bind, hru, hrv, Result.andThen_ok, eqCell_run (P := P) (w := w) hT heq hvu hvv]
          simp
        · simp at hr
      · simp at hr

theorem eqA_run {t : TypeId} {x y : AV} {u v : Value} {b : Bool} (hT : TOk P T) (hr : eqA (T t).desc x y = some b) (hx : VR w0 ρ x u) (hy : VR w0 ρ y v) : (Op.equal t u v).run P w = .ok b w := by
  have hbad : (T t).desc ≠ .bad := by intro e; simp [eqA, e] at hr
  obtain ⟨i, D, z, _, hu, hd, _⟩ := hT.get hbad
  unfold Op.equal
  rw [show Op.maxDepth = 9999 + 1 from rfl]
  generalize 9999 = dp
  unfold Op.equalIn
  rw [Sem.run_bind, run_und hu, Result.andThen_ok]
  unfold eqA at hr
  split at hr <;> rename_i hdd <;> simp only [Option.some.injEq, reduceCtorEq] at hr <;> subst hr
  · have e := tdOf_bool (hd.trans hdd); subst e; cases hx; cases hy; rfl
  · have e := tdOf_pointer (hd.trans hdd); subst e; cases hx; cases hy <;> rfl
  · have e := tdOf_pointer (hd.trans hdd); subst e; cases hx; cases hy <;> rfl
  · have e := tdOf_pointer (hd.trans hdd); subst e; cases hx; cases hy <;> rfl
  · have e := tdOf_pointer (hd.trans hdd); subst e; cases hx; cases hy <;> rfl
  · have e := tdOf_slice (hd.trans hdd); subst e; cases hx; cases hy <;> rfl
  · have e := tdOf_slice (hd.trans hdd); subst e; cases hx; cases hy <;> rfl
  · have e := tdOf_slice (hd.trans hdd); subst e; cases hx <;> cases hy <;> rfl
  · have e := tdOf_slice (hd.trans hdd); subst e; cases hx <;> cases hy <;> rfl
  · obtain ⟨_, _, _, e⟩ := tdOf_func (hd.trans hdd); subst e; cases hx; cases hy; rfl
  · obtain ⟨_, _, _, e⟩ := tdOf_func (hd.trans hdd); subst e; cases hx; cases hy; rfl
  · obtain ⟨_, _, _, e⟩ := tdOf_func (hd.trans hdd); subst e; cases hx; cases hy; rfl
  · obtain ⟨_, _, _, e⟩ := tdOf_func (hd.trans hdd); subst e; cases hx; cases hy; rfl
  · obtain ⟨_, _, _, e⟩ := tdOf_func (hd.trans hdd); subst e; cases hx; cases hy; rfl
/-- What is looked at besides, ahead of an '==': nothing, at the values that this machine knows. -/
theorem eqGuard_run {op : BinOp} {t : TypeId} {xo yo : Operand} {x y : AV} {u v : Value} (hx : VR w0 ρ x u) (hy : VR w0 ρ y v) (hg : (∀ cs, x ≠ .agg cs) ∨ P.eqGuardType P.depth t = false) :
    (eqGuard op t xo yo u v).run P w = .ok () w := by
  cases hx <;> cases hy <;> first
    | (cases op <;> simp [eqGuard]; done)
    | (have hg' := hg.resolve_left (fun k => k _ rfl)
       cases op <;> simp [eqGuard, hg'])
theorem eqA_noAgg {d : TD} {x y : AV} {b : Bool} (hr : eqA d x y = some b) : ∀ cs, x ≠ .agg cs := by
  intro cs e
  subst e
  simp [eqA] at hr
theorem binA_run {op : BinOp} {t : TypeId} {xo yo : Operand} {x y z : AV} {u v : Value} (hT : TOk P T) (hr : binA T op t x y = some z) (hx : VR w0 ρ x u) (hy : VR w0 ρ y v) :
    ∃ r, (do eqGuard op t xo yo u v; binOp op t u v : Sem Value).run P w = .ok r w ∧ VR w0 ρ z r := by
  unfold binA at hr
  split at hr
  · rename_i k a k' b
    split at hr
    · rename_i hk; cases hx; cases hy; exact intBin_run hk hr
    · simp at hr
  · cases hx; cases hy; exact strBin_run hr
  · rename_i xs ys
    split at hr
    · rename_i fs hdd
      split at hr
      · simp at hr
      · rename_i heq
        have hok : (T t).eqOk = true := by simpa using heq
        have hbad : (T t).desc ≠ .bad := by rw [hdd]; simp
        obtain ⟨i, D, z', _, hu, hd, _, _, _, _, _, he⟩ := hT.get hbad
        obtain ⟨f, hD, hfs⟩ := tdOf_struct (hd.trans hdd)
        obtain ⟨g1, g2⟩ := he hok
        have hg := eqGuard_run (P := P) (w := w) (op := op) (xo := xo) (yo := yo) hx hy (.inr g1)
        simp only [Sem.run_bind, hg, Result.andThen_ok]
        cases hx with
        | agg _ us hus =>
        cases hy with
        | agg _ vs hvs =>
        have key : ∀ b, eqFields T xs ys fs = some b → (Op.equal t (.agg us.toArray) (.agg vs.toArray)).run P w = .ok b w := by
          intro b hb
          have hf : P.fieldsOf t = f := by simp [Program.fieldsOf, hu, hD]
          unfold Op.equal
          rw [show Op.maxDepth = 9999 + 1 from rfl, run_equalIn_struct (P := P) w 9999 t _ _ (by rw [hf, hu, hD]) g2, hf]
          rw [hfs] at hb
          exact eqFields_run (d := 9998) hT hus hvs f.toList hb
        cases op <;> simp only [reduceCtorEq] at hr
        · obtain ⟨b, hb, rfl⟩ := Option.map_eq_some_iff.1 hr; exact ⟨_, by simp [binOp, key b hb], .bool _⟩
        · obtain ⟨b, hb, rfl⟩ := Option.map_eq_some_iff.1 hr; exact ⟨_, by simp [binOp, key b hb], .bool _⟩
    · simp at hr
  · rename_i hni hns hna
    have key : ∀ b, eqA (T t).desc x y = some b → (eqGuard op t xo yo u v).run P w = .ok () w ∧ (Op.equal t u v).run P w = .ok b w := fun b hb =>
      ⟨eqGuard_run hx hy (.inl (eqA_noAgg hb)), eqA_run hT hb hx hy⟩
    split at hr
    · obtain ⟨b, hb, rfl⟩ := Option.map_eq_some_iff.1 hr
      obtain ⟨k1, k2⟩ := key b hb
      simp only [Sem.run_bind, k1, Result.andThen_ok]
      refine ⟨_, ?_, .bool _⟩
      have : binOp .eql t u v = (do pure (.bool (← Op.equal t u v))) := by
        cases hx <;> cases hy <;> first | rfl | exact absurd rfl (hni _ _ _ _ rfl) | exact absurd rfl (hns _ _ rfl) | (exfalso; exact hni _ _ _ _ rfl rfl) | (exfalso; exact hns _ _ rfl rfl)
      rw [this]
      simp [k2]
    · obtain ⟨b, hb, rfl⟩ := Option.map_eq_some_iff.1 hr
      obtain ⟨k1, k2⟩ := key b hb
      simp only [Sem.run_bind, k1, Result.andThen_ok]
      refine ⟨_, ?_, .bool _⟩
      have : binOp .neq t u v = (do pure (.bool (!(← Op.equal t u v)))) := by
        cases hx <;> cases hy <;> first | rfl | (exfalso; exact hni _ _ _ _ rfl rfl) | (exfalso; exact hns _ _ rfl rfl)
      rw [this]
      simp [k2]
    · simp at hr
theorem unA_run {op : UnOp} {x z : AV} {u : Value} (hr : unA op x = some z) (hx : VR w0 ρ x u) : ∃ r, (Op.unary op u).run P w = .ok r w ∧ VR w0 ρ z r := by
  unfold unA at hr
  split at hr <;> simp only [Option.some.injEq, reduceCtorEq] at hr <;> subst hr <;> cases hx
  · exact ⟨_, by simp [Op.unary], .bool _⟩
  · exact ⟨_, by simp [Op.unary, Op.intArith], .int _ _⟩
  · exact ⟨_, by simp [Op.unary, Op.intBits], .int _ _⟩
end ops
end Go.Abs
end

section
/- Each operation of the abstract machine is the model's. Second part: operations on memory. -/
set_option linter.unusedSimpArgs false
set_option linter.unusedVariables false
namespace Go.Abs
open Go.RowKit
section ops
variable {P : Program} {T : Tys} {w0 w : World} {ρ : Rho} {h h' : AH}

theorem cut_length {cs c : List AV} {o n : Nat} (hc : cut cs o n = some c) : c.length = n := by
  unfold cut at hc
  split at hc
  · simp at hc; subst hc; simp; omega
  · simp at hc
theorem run_load_one {a : Addr} {v : Value} (hc : w.cell? a = some v) : (load a).run P w = .ok v w := by
  simp [load, Sem.run, hc]
theorem VRs.single {a : AV} {us : List Value} (hv : VRs w0 ρ [a] us) : ∃ u, us = [u] ∧ VR w0 ρ a u := by
  cases hv with | cons _ u _ vs h hs => cases hs; exact ⟨u, rfl, h⟩

theorem loadA_run {t : TypeId} {x z : AV} {u : Value} (hT : TOk P T) (H : WR w0 ρ h w) (hr : loadA T h t x = some z) (hx : VR w0 ρ x u) :
    ∃ r, (Instr.loadAt t u).run P w = .ok r w ∧ VR w0 ρ z r := by
  unfold loadA at hr
  simp only at hr
  split at hr
  · simp at hr
  · rename_i hne
    have hbad : (T t).desc ≠ .bad := fun e => hne e
    obtain ⟨i, D, zz, hi, hu, hd, hsz, _⟩ := hT.get hbad
    have hag := run_isAgg (P := P) (w := w) hu (by rw [hd]; exact hbad)
    rw [hd] at hag
    split at hr
    · rename_i hagg
      rw [hagg] at hag
      have key : ∀ (b o : Nat) (cs : List AV) (us : List Value), VRs w0 ρ cs us → us.length = (T t).size → (∀ j v, us[j]? = some v → w.cell? ⟨b, o + j, none⟩ = some v) →
          ∃ r, (Instr.loadAt t (.pointer (some ⟨b, o, none⟩))).run P w = .ok r w ∧ VR w0 ρ (.agg cs) r := by
        intro b o cs us hv hl hc
        refine ⟨_, ?_, .agg _ _ hv⟩
        have := run_loadCells_row (P := P) hc
        simp [Instr.loadAt, Instr.sureAddr, loadVar, hag, run_size hi, hsz, ← hl, this]
      split at hr
      · rename_i i' o'
        obtain ⟨cs, hcs, rfl⟩ := Option.map_eq_some_iff.1 hr
        cases hx with
        | ptr _ _ p hp =>
          obtain ⟨us, hv, hl, hc, _⟩ := H.read hcs hp
          exact key _ _ _ _ hv hl hc
      · rename_i row off
        obtain ⟨cs, hcs, rfl⟩ := Option.map_eq_some_iff.1 hr
        cases hx with
        | iptr _ _ b s vs hvs hc =>
          obtain ⟨us, hv, hl, hcu⟩ := H.oldRow hvs hc hcs
          exact key _ _ _ _ hv hl hcu
      · simp at hr
    · rename_i hagg
      have hagg' : (T t).desc.isAgg = false := by simpa using hagg
      rw [hagg'] at hag
      split at hr
      · rename_i i' o'
        split at hr
        · rename_i v hcs
          simp at hr; subst hr
          cases hx with
          | ptr _ _ p hp =>
            obtain ⟨us, hv, hl, hc, _⟩ := H.read hcs hp
            obtain ⟨y, rfl, hy⟩ := hv.single
            refine ⟨y, ?_, hy⟩
            have := hc 0 y rfl
            simp only [Nat.add_zero] at this
            simp [Instr.loadAt, Instr.sureAddr, loadVar, hag, this]
        · simp at hr
      · rename_i row off
        cases hx with
        | iptr _ _ b s vs hvs hc =>
          obtain ⟨y, hy, hvy⟩ := hvs.get hr
          refine ⟨y, ?_, hvy⟩
          have := H.old (hc off y hy)
          simp [Instr.loadAt, Instr.sureAddr, loadVar, hag, this]
      · simp at hr

theorem storeA_run {t : TypeId} {x v : AV} {u y : Value} (hT : TOk P T) (H : WR w0 ρ h w) (hr : storeA T h t x v = some h') (hx : VR w0 ρ x u) (hy : VR w0 ρ v y) :
    ∃ w', (Instr.storeAt t u y).run P w = .ok () w' ∧ WR w0 ρ h' w' := by
  unfold storeA at hr
  split at hr
  · rename_i i o
    split at hr
    · simp at hr
    · rename_i hne
      have hbad : (T t).desc ≠ .bad := fun e => hne e
      obtain ⟨ti, D, zz, hi, hu, hd, hsz, _⟩ := hT.get hbad
      split at hr
      · rename_i hc
        cases hx with
        | ptr _ _ p hp =>
          obtain ⟨w', hrun, H'⟩ := H.write (P := P) hr hp hy.cells hc.2
          refine ⟨w', ?_, H'⟩
          have hl := hy.cells.length
          have e : y.cells.size = ti.size := by rw [hsz, ← hc.1, hl]; simp
          simp [Instr.storeAt, Instr.sureAddr, storeVar, run_size hi, e, hrun]
      · simp at hr
  · simp at hr

theorem zero_VRs {t : TypeId} (hT : TOk P T) (hb : (T t).desc ≠ .bad) : ∃ i z, P.info? t = some i ∧ i.zero = some z ∧ VRs w0 ρ (T t).zero z.cells.toList ∧ (T t).zero.all AV.one = true ∧ i.size = (T t).size ∧ i.bytes = (T t).bytes := by
  obtain ⟨i, D, z, hi, hu, hd, hsz, hby, hz, hv, h1, _⟩ := hT.get hb
  exact ⟨i, z, hi, hz, VRs.ofVals hv, h1, hsz, hby⟩
theorem newVar_run (H : WR w0 ρ h w) {cs : List AV} {y : Value} (hv : VRs w0 ρ cs y.cells.toList) (h1 : cs.all AV.one = true) (e : TypeId) :
    ∃ ρ' u w', (do let a ← newVar e y; pure (.pointer (some a)) : Sem Value).run P w = .ok u w' ∧ Ext ρ ρ' ∧ WR w0 ρ' (h.push (.cells cs)) w' ∧ VR w0 ρ' (.ptr (some (h.size, 0))) u := by
  obtain ⟨ρ', he, hp, H'⟩ := H.pushCells hv h1 [] e (0, 0) (noFreeze_00 _)
  refine ⟨ρ', _, _, ?_, he, H', .ptr _ _ _ hp⟩
  simp [newVar, newRow]

/-! ### Texts and bytes -/
def byteVs (s : List UInt8) : List Value := s.map fun b => .int .u8 b.toNat
theorem byteVs_length (s : List UInt8) : (byteVs s).length = s.length := by simp [byteVs]
theorem ofBytes_VRs (s : List UInt8) : VRs w0 ρ (ofBytes s) (byteVs s) := by
  induction s with
  | nil => exact .nil
  | cons b r ih => exact .cons _ _ _ _ (.int _ _) ih
theorem ofBytes_one (s : List UInt8) : (ofBytes s).all AV.one = true := by
  simp [ofBytes, AV.one]
theorem bytesOf_VRs : ∀ {cs : List AV} {s : List UInt8} {us : List Value}, bytesOf cs = some s → VRs w0 ρ cs us → ∃ ns : List Int, us = ns.map (.int .u8) ∧ s = ns.map fun n => UInt8.ofNat n.toNat
  | [], s, us, hr, hv => by simp [bytesOf] at hr; subst hr; cases hv; exact ⟨[], rfl, rfl⟩
  | a :: r, s, us, hr, hv => by
    cases hv with
    | cons _ u _ vs hu hvs =>
      cases a with
      | int k n =>
        cases k with
        | u8 =>
          simp only [bytesOf] at hr
          obtain ⟨s', hs', rfl⟩ := Option.map_eq_some_iff.1 hr
          obtain ⟨ns, rfl, rfl⟩ := bytesOf_VRs hs' hvs
          cases hu
          exact ⟨n :: ns, rfl, rfl⟩
        | _ => simp [bytesOf] at hr
      | _ => simp [bytesOf] at hr
theorem foldl_push (ns : List Int) : ∀ (s : List UInt8), ns.foldl (fun (r : ByteArray) n => r.push (UInt8.ofNat n.toNat)) ⟨s.toArray⟩ = ⟨(s ++ ns.map fun n => UInt8.ofNat n.toNat).toArray⟩ := by
  induction ns with
  | nil => intro s; simp
  | cons n ns ih =>
    intro s
    have e : (⟨s.toArray⟩ : ByteArray).push (UInt8.ofNat n.toNat) = ⟨(s ++ [UInt8.ofNat n.toNat]).toArray⟩ := by
      apply ByteArray.ext; simp [ByteArray.push]
    rw [List.foldl_cons, e, ih]
    simp
theorem elems_run {sz n : Nat} {x : AV} {u : Value} {cs : List AV} (H : WR w0 ρ h w) (hr : elems h sz n x = some cs) (hx : VR w0 ρ x u) :
    ∃ us, (Builtin.firstCells sz n u).run P w = .ok us.toArray w ∧ VRs w0 ρ cs us ∧ cs.length = n * sz ∧ cs.all AV.one = true := by
  unfold elems at hr
  split at hr
  · split at hr
    · rename_i h0; simp at hr; subst hr; cases hx; exact ⟨[], by simp [Builtin.firstCells], .nil, by simp [h0], rfl⟩
    · simp at hr
  · rename_i i o len cap s ex
    split at hr
    · rename_i h0
      simp at hr; subst hr
      have e : n * sz = 0 := by rcases h0 with rfl | rfl <;> simp
      cases hx <;> exact ⟨[], by simp [Builtin.firstCells, e, loadCells, loadCellsFrom], .nil, by simp [e], rfl⟩
    · rename_i h0
      split at hr
      · rename_i hc
        cases hx with
        | sliceE => omega
        | slice _ _ _ _ _ _ p cap' hp h1 h2 h3 h4 =>
          obtain ⟨us, hv, hl, hcell, h1⟩ := H.read hr hp
          refine ⟨us, ?_, hv, by rw [hv.length, hl], h1⟩
          have := run_loadCells_row (P := P) hcell
          simp [Builtin.firstCells, ← hl, this]
      · simp at hr
  · rename_i row off len cap s
    split at hr
    · rename_i h0
      simp at hr; subst hr
      have e : n * sz = 0 := by rcases h0 with rfl | rfl <;> simp
      cases hx <;> exact ⟨[], by simp [Builtin.firstCells, e, loadCells, loadCellsFrom], .nil, by simp [e], rfl⟩
    · rename_i h0
      split at hr
      · rename_i hc
        split at hr
        · rename_i cs' hcut
          split at hr
          · rename_i hone
            simp at hr; subst hr
            cases hx with
            | isliceE => omega
            | islice _ _ _ _ _ b s' vs hvs hcell h1 =>
              obtain ⟨us, hv, hl, hcu⟩ := H.oldRow hvs hcell hcut
              refine ⟨us, ?_, hv, by rw [hv.length, hl], hone⟩
              have := run_loadCells_row (P := P) hcu
              simp [Builtin.firstCells, ← hl, this]
          · simp at hr
        · simp at hr
      · simp at hr
  · rename_i s
    split at hr
    · rename_i hc
      simp at hr; subst hr
      cases hx
      refine ⟨byteVs (s.take n), ?_, ofBytes_VRs _, by rw [hc.1]; simp [ofBytes]; omega, ofBytes_one _⟩
      have e : ((⟨s.toArray⟩ : ByteArray).extract 0 n).data = (s.take n).toArray := by
        simp [ByteArray.data_extract]
      simp [Builtin.firstCells, e, byteVs]
    · simp at hr
  · simp at hr
theorem cut_mem {cs c : List AV} {o n : Nat} (hc : cut cs o n = some c) {x : AV} (hx : x ∈ c) : x ∈ cs := by
  unfold cut at hc
  split at hc
  · simp at hc; subst hc; exact List.mem_of_mem_drop (List.mem_of_mem_take hx)
  · simp at hc

theorem und_of (hT : TOk P T) {t : TypeId} (hb : (T t).desc ≠ .bad) : ∃ d, P.underlying t = some d ∧ tdOf d = (T t).desc := by
  obtain ⟨i, d, z, _, hu, hd, _⟩ := hT.get hb
  exact ⟨d, hu, hd⟩
theorem und_slice (hT : TOk P T) {t e : TypeId} (hb : (T t).desc = .slice e) : P.underlying t = some (.slice e) := by
  obtain ⟨d, hu, hd⟩ := und_of hT (t := t) (by rw [hb]; simp)
  rw [hu, tdOf_slice (hd.trans hb)]
theorem und_int (hT : TOk P T) {t : TypeId} {k : IntKind} (hb : (T t).desc = .int k) : P.underlying t = some (.int k) := by
  obtain ⟨d, hu, hd⟩ := und_of hT (t := t) (by rw [hb]; simp)
  rw [hu, tdOf_int (hd.trans hb)]
theorem und_string (hT : TOk P T) {t : TypeId} (hb : (T t).desc = .string) : P.underlying t = some .string := by
  obtain ⟨d, hu, hd⟩ := und_of hT (t := t) (by rw [hb]; simp)
  rw [hu, tdOf_string (hd.trans hb)]
theorem freeze_alloc (w : World) (c : Array Value) (e : TypeId) : (w.alloc (.cells c e)).freeze ⟨w.heap.size, c.size, none⟩ 1 = w.alloc (.cells c e (c.size, c.size + 1)) := by
  unfold World.freeze World.alloc
  simp only [Nat.one_ne_zero, if_false]
  congr 1
  apply Array.ext_getElem?
  intro k
  rw [Array.getElem?_modify, Array.getElem?_push, Array.getElem?_push]
  by_cases ek : w.heap.size = k
  · subst ek; simp
  · rw [if_neg ek, if_neg (Ne.symm ek), if_neg (Ne.symm ek)]
theorem run_stringToBytes (e : TypeId) (s : List UInt8) (hs : s.length ≤ 9223372036854775807) : ∃ cap, s.length ≤ cap ∧ (Conv.stringToBytes e ⟨s.toArray⟩).run P w =
    .ok (.slice (some ⟨w.heap.size, 0, none⟩) s.length cap) (w.drew.alloc (.cells (byteVs s ++ List.replicate (cap - s.length) (Value.int .u8 0)).toArray e (cap, cap + 1))) := by
  refine ⟨Question.cut (.appendCap s.length 0 e) (w.tape w.drawn (.appendCap s.length 0 e)), by simp [Question.cut], ?_⟩
  generalize hq : Question.cut (.appendCap s.length 0 e) (w.tape w.drawn (.appendCap s.length 0 e)) = cap
  have hcap : s.length ≤ cap := by rw [← hq]; simp [Question.cut]
  have hsz : (⟨s.toArray⟩ : ByteArray).size = s.length := by simp [ByteArray.size]
  have hm : (Array.map (fun b : UInt8 => Value.int IntKind.u8 ↑b.toNat) s.toArray ++ Array.replicate (cap - s.length) (Value.int IntKind.u8 0)) = (byteVs s ++ List.replicate (cap - s.length) (Value.int .u8 0)).toArray := by
    simp [byteVs]
  have hl : ((byteVs s ++ List.replicate (cap - s.length) (Value.int .u8 0)).toArray).size = cap := by simp [byteVs]; omega
  unfold Conv.stringToBytes
  simp only [hsz, Sem.run_bind, run_choose, Question.forced, Bool.false_eq_true, if_false, hq, Result.andThen_ok, newRow, run_newObj, Sem.run_pure, World.drew_eq, World.alloc_eq, hm, World.size_drew]
  have hsh : ∀ c : Array Value, (w.drew.alloc (.cells c e)).shape? w.heap.size = some (e, c.size) := by
    intro c
    have := World.alloc_heap_new w.drew (.cells c e)
    simp only [World.size_drew] at this
    unfold World.shape?
    rw [this]
  simp only [markStringish, Sem.run_bind, run_shape, hsh, Result.andThen_ok, run_freeze, Sem.run_pure]
  have := freeze_alloc w.drew ((byteVs s ++ List.replicate (cap - s.length) (Value.int .u8 0)).toArray) e
  rw [hl] at this
  simp only [World.size_drew] at this
  rw [hl, this]
theorem convA_run {src dst : TypeId} {x : AV} {u : Value} {z : AV} (hT : TOk P T) (H : WR w0 ρ h w) (hr : convA T h src dst x = some (z, h')) (hx : VR w0 ρ x u) :
    ∃ ρ' r w', (convert src dst u).run P w = .ok r w' ∧ Ext ρ ρ' ∧ WR w0 ρ' h' w' ∧ VR w0 ρ' z r := by
  unfold convA at hr
  split at hr
  · simp at hr
  · rename_i k k0 n hdd hns
    simp at hr; obtain ⟨rfl, rfl⟩ := hr
    obtain ⟨d, hu, hd⟩ := und_of hT (t := src) hns
    cases hx
    exact ⟨ρ, _, w, by simp [convert, run_und hu, run_und (und_int hT hdd), Conv.intToInt], Ext.refl _, H, .int _ _⟩
  · rename_i s hdd hns
    simp at hr; obtain ⟨rfl, rfl⟩ := hr
    obtain ⟨d, hu, hd⟩ := und_of hT (t := src) hns
    cases hx
    exact ⟨ρ, _, w, by simp [convert, run_und hu, run_und (und_string hT hdd)], Ext.refl _, H, .str _⟩
  · split at hr
    · rename_i hde
      have us := und_slice hT (by assumption : (T src).desc = .slice _)
      have ud := und_string hT (by assumption : (T dst).desc = .string)
      have ue := und_int hT hde
      have key : ∀ (a : Option Addr) (l c : Nat) (x : AV), VR w0 ρ x (.slice a l c) → (match elems h 1 l x with | some cs => Option.map (fun s => (AV.str s, h)) (bytesOf cs) | none => none) = some (z, h') →
          ∃ ρ' r w', (convert src dst (.slice a l c)).run P w = .ok r w' ∧ Ext ρ ρ' ∧ WR w0 ρ' h' w' ∧ VR w0 ρ' z r := by
        intro a l c x hx hr
        split at hr
        · rename_i cs hel
          obtain ⟨s, hs, hz⟩ := Option.map_eq_some_iff.1 hr
          simp at hz
          obtain ⟨rfl, rfl⟩ := hz
          obtain ⟨vs, hrun, hv, _⟩ := elems_run (P := P) H hel hx
          obtain ⟨ns, rfl, rfl⟩ := bytesOf_VRs hs hv
          refine ⟨ρ, _, w, ?_, Ext.refl _, H, .str _⟩
          rw [run_convert_bytes_string (P := P) w src dst _ a l c us ue ud]
          cases a with
          | none =>
            simp [Builtin.firstCells] at hrun
            subst hrun
            simp [Conv.bytesToString]
            rfl
          | some a =>
            simp only [Builtin.firstCells, Nat.mul_one] at hrun
            rw [run_bytesToString (P := P) w a l c ns hrun]
            have := foldl_push ns []
            simp only [List.nil_append] at this
            rw [show ByteArray.empty = (⟨([] : List UInt8).toArray⟩ : ByteArray) from rfl, this]
        · simp at hr
      have hx0 := hx
      cases hx <;> simp only [lenA] at hr <;> first | (simp at hr; done) | exact key _ _ _ _ hx0 hr
    · simp at hr
  · split at hr
    · rename_i hde hcs
      split at hr
      · rename_i hc
        simp only [Option.some.injEq, Prod.mk.injEq] at hr
        obtain ⟨rfl, rfl⟩ := hr
        obtain ⟨rfl, hpos⟩ := hc
        have us := und_slice hT (by assumption : (T src).desc = .slice _)
        have ud := und_slice hT (by assumption : (T src).desc = .slice _)
        have ue := und_int hT hde
        obtain ⟨p, c, tt, fz, hp, hB, hb, hR, hs, hf, hv, h1⟩ := H.cellsAt hcs
        have hx0 := hx
        cases hx with
        | sliceE => omega
        | slice i o len cap sz ex p' cap' hp' h1' h2' h3' h4' =>
          obtain rfl : p' = p := Option.some.inj (hp'.symm.trans hp)
          have hsh : w.shape? p'.r = some (tt, c.size) := by unfold World.shape?; rw [hb]
          have hfz : ∃ fz', noFreeze fz' p'.R ∧ w.freeze ⟨p'.r, c.size, none⟩ 1 = w.putObj p'.r (.cells c tt fz') := by
            obtain ⟨lo, hi⟩ := fz
            refine ⟨if lo == hi then (c.size, c.size + 1) else (min lo c.size, max hi (c.size + 1)), ?_, ?_⟩
            · obtain ⟨f1, f2⟩ := hf
              simp only at f1 f2
              by_cases e : lo = hi
              · subst e
                simp only [beq_self_eq_true, if_true]
                exact ⟨by simp, fun off ho => by simp only; omega⟩
              · have : (lo == hi) = false := by simpa using e
                rw [this]
                have hlo : p'.R ≤ lo := by
                  rcases Nat.lt_or_ge lo p'.R with h | h
                  · exact absurd ⟨Nat.le_refl _, by omega⟩ (f2 lo h)
                  · exact h
                simp only [Bool.false_eq_true, if_false]
                exact ⟨by simp only; omega, fun off ho => by simp only; omega⟩
            · unfold World.freeze World.putObj
              simp only [Nat.one_ne_zero, if_false]
              congr 1
              apply Array.ext_getElem?
              intro k
              rw [Array.getElem?_modify]
              by_cases ek : p'.r = k
              · subst ek
                rw [if_pos rfl, hb, Array.getElem?_setIfInBounds_self, if_pos (Array.getElem?_eq_some_iff.1 hb).1]
                rfl
              · rw [if_neg ek, Array.getElem?_setIfInBounds_ne ek]
          obtain ⟨fz', hf', hfr⟩ := hfz
          refine ⟨ρ, _, w.putObj p'.r (.cells c tt fz'), ?_, Ext.refl _, H.refreeze hcs hp hB hb hR hs hv h1 hf', hx0⟩
          simp only [convert, Sem.run_bind, run_und us, run_und ue, Result.andThen_ok, beq_self_eq_true, markStringish, run_shape, hsh, run_freeze, Sem.run_pure, hfr]
      · simp at hr
    · simp at hr
  · split at hr
    · rename_i hde
      split at hr
      · rename_i hlen
        simp at hr; obtain ⟨rfl, rfl⟩ := hr
        obtain ⟨d, hu, hd⟩ := und_of hT (t := src) (by assumption)
        have ud := und_slice hT (by assumption : (T dst).desc = .slice _)
        have ue := und_int hT hde
        cases hx
        rename_i e s _ _ _
        obtain ⟨cap, hcap, hrun⟩ := run_stringToBytes (P := P) (w := w) e s hlen
        have hm : ∀ m : Nat, (byteVs s).length + (List.replicate (cap - s.length) (Value.int .u8 0)).length = cap := by intro _; simp [byteVs]; omega
        obtain ⟨ρ', he, hp, H'⟩ := H.drew.pushCells (ofBytes_VRs s) (ofBytes_one s) (List.replicate (cap - s.length) (Value.int .u8 0)) e (cap, cap + 1) (by rw [hm 0]; exact ⟨by simp, fun off ho => by simp; omega⟩)
        refine ⟨ρ', .slice (some ⟨w.heap.size, 0, none⟩) s.length cap, _, ?_, he, H', ?_⟩
        · have : (convert src dst (.string ⟨s.toArray⟩)).run P w = (Conv.stringToBytes e ⟨s.toArray⟩).run P w := by
            simp only [convert, Sem.run_bind, run_und hu, run_und ud, run_und ue, Result.andThen_ok]
          rw [this, hrun]
        · refine VR.slice h.size 0 s.length s.length 1 false _ cap hp (Nat.le_refl _) hcap (by simp) ?_
          rw [hm 0]
          simp
      · simp at hr
    · simp at hr
  · simp at hr
end ops
end Go.Abs
end

section
/- Each operation of the abstract machine is the model's. Third part: slice expressions, append, copy, clear. -/
set_option linter.unusedSimpArgs false
set_option linter.unusedVariables false
namespace Go.Abs
open Go.RowKit
section ops
variable {P : Program} {T : Tys} {w0 w : World} {ρ : Rho} {h h' : AH}

/-- A bound of a slice expression, written or not. -/
inductive OI : Option Int → Option Value → Prop
  | none : OI none none
  | some (k : IntKind) (n : Int) : OI (some n) (some (.int k n))
theorem run_sliceBound {k : IntKind} {n : Int} {y : Nat} {code : BoundsCode} (h0 : 0 ≤ n) (h1 : n ≤ y) : (Instr.sliceBound (.int k n) y code).run P w = .ok n.toNat w := by
  simp [Instr.sliceBound, asIntOf, h0, h1]
theorem run_sliceBounds {b : Bool} {len cap : Nat} {lo hi mx : Option Int} {vl vh vm : Option Value} (hl : OI lo vl) (hh : OI hi vh) (hm : OI mx vm) (hx : mx.isSome = true → hi.isSome = true)
    (h1 : 0 ≤ lo.getD 0) (h2 : lo.getD 0 ≤ hi.getD len) (h3 : hi.getD len ≤ mx.getD cap) (h4 : mx.getD cap ≤ cap) :
    (Instr.sliceBounds b len cap vl vh vm).run P w = .ok ((lo.getD 0).toNat, (hi.getD len).toNat, (mx.getD cap).toNat) w := by
  have hcap : (cap : Int).toNat = cap := by simp
  have hlen : (len : Int).toNat = len := by simp
  cases hm with
  | none =>
    cases hh with
    | none =>
      cases hl with
      | none => simp [Instr.sliceBounds]
      | some k n =>
        simp at h1 h2 h3
        have := run_sliceBound (P := P) (w := w) (k := k) (n := n) (y := len) (code := if b then .sliceB else .sliceB) h1 h2
        simp at this
        simp [Instr.sliceBounds, this]
    | some k' m =>
      simp at h1 h2 h3
      have e1 := run_sliceBound (P := P) (w := w) (k := k') (n := m) (y := cap) (code := if b then .sliceAcap else .sliceAlen) (by omega) h3
      cases hl with
      | none => simp [Instr.sliceBounds, e1]
      | some k n =>
        simp at h1 h2
        have := run_sliceBound (P := P) (w := w) (k := k) (n := n) (y := m.toNat) (code := .sliceB) h1 (by omega)
        simp [Instr.sliceBounds, e1, this]
  | some k3 m3 =>
    cases hh with
    | none => simp at hx
    | some k' m =>
      simp at h1 h2 h3 h4
      have e0 := run_sliceBound (P := P) (w := w) (k := k3) (n := m3) (y := cap) (code := if b then .slice3Acap else .slice3Alen) (by omega) h4
      have e1 := run_sliceBound (P := P) (w := w) (k := k') (n := m) (y := m3.toNat) (code := .slice3B) (by omega) (by omega)
      cases hl with
      | none => simp [Instr.sliceBounds, e0, e1]
      | some k n =>
        simp at h1 h2
        have := run_sliceBound (P := P) (w := w) (k := k) (n := n) (y := m.toNat) (code := .slice3C) h1 (by omega)
        simp [Instr.sliceBounds, e0, e1, this]
theorem okT_ne {t : TypeId} (h : okT T t = true) : (T t).desc ≠ .bad := by
  intro e; simp [okT, e] at h
theorem extract_list (s : List UInt8) (a b : Nat) : (⟨s.toArray⟩ : ByteArray).extract a b = ⟨((s.drop a).take (b - a)).toArray⟩ := by
  apply ByteArray.ext
  rw [ByteArray.data_extract]
  apply Array.ext'
  simp
theorem sliceA_run {t : TypeId} {x z : AV} {u : Value} {lo hi mx : Option Int} {vl vh vm : Option Value} (hT : TOk P T) (hr : sliceA T t x lo hi mx = some z) (hx : VR w0 ρ x u)
    (hl : OI lo vl) (hh : OI hi vh) (hm : OI mx vm) : ∃ r, (Instr.sliceAt t u vl vh vm).run P w = .ok r w ∧ VR w0 ρ z r := by
  unfold sliceA at hr
  split at hr
  · rename_i s hdd
    split at hr
    · simp at hr
    · rename_i hmx
      simp only at hr
      split at hr
      · rename_i hc
        simp at hr; subst hr
        cases hx
        obtain rfl : mx = none := by simpa using hmx
        cases hm
        have hu := und_string hT hdd
        have hsz : (⟨s.toArray⟩ : ByteArray).size = s.length := by simp [ByteArray.size]
        have := run_sliceBounds (P := P) (w := w) (b := false) (len := s.length) (cap := s.length) hl hh OI.none (by simp) hc.1 hc.2.1 (by simpa using hc.2.2) (by simp)
        refine ⟨_, ?_, .str _⟩
        simp [Instr.sliceAt, run_und hu, Instr.slice, hsz, this, extract_list]
      · simp at hr
  · rename_i e a len cap sz ex hdd
    simp only at hr
    split at hr
    · simp at hr
    · rename_i hokT
      have hok : (T e).desc ≠ .bad := okT_ne (by simpa using hokT)
      obtain ⟨ti, _, _, hti, _, _, hsize, _⟩ := hT.get hok
      split at hr
      · simp at hr
      · rename_i hmx
        split at hr
        · rename_i hc
          obtain ⟨c1, c2, c3, c4, c5⟩ := hc
          have hmx' : mx.isSome = true → hi.isSome = true := fun hs => by cases hi <;> simp_all
          have hu := und_slice hT hdd
          have hAt : ∀ (A : Option Addr) (cap' : Nat), cap ≤ cap' → (Instr.sliceAt t (.slice A len cap') vl vh vm).run P w =
              .ok (.slice (if (mx.getD cap').toNat = (lo.getD 0).toNat then A else A.map (·.add ((lo.getD 0).toNat * (T e).size))) ((hi.getD len).toNat - (lo.getD 0).toNat) ((mx.getD cap').toNat - (lo.getD 0).toNat)) w := by
            intro A cap' hcc
            have h3 : hi.getD len ≤ mx.getD cap' := by cases mx <;> simp_all; omega
            have h4 : mx.getD cap' ≤ (cap' : Int) := by cases mx <;> simp_all; omega
            have := run_sliceBounds (P := P) (w := w) (b := true) (len := len) (cap := cap') hl hh hm hmx' c1 c2 h3 h4
            simp [Instr.sliceAt, run_und hu, Instr.slice, this, run_size hti, hsize]
          split at hr
          · simp at hr; subst hr
            cases hx
            refine ⟨_, (hAt none 0 (Nat.le_refl _)).trans ?_, .slice0 _ _⟩
            have e1 : (hi.getD (0 : Nat)).toNat - (lo.getD 0).toNat = 0 := by omega
            have e2 : (mx.getD (0 : Nat)).toNat - (lo.getD 0).toNat = 0 := by omega
            rw [e1, e2]
            congr 2
            split <;> rfl
          · rename_i i o
            split at hr
            · rename_i hsz
              simp at hr; subst hr
              cases hx with
              | sliceE _ _ _ b =>
                refine ⟨_, hAt (some b) 0 (Nat.le_refl _), ?_⟩
                have e1 : (hi.getD (0 : Nat)).toNat - (lo.getD 0).toNat = 0 := by omega
                have e2 : (mx.getD (0 : Nat)).toNat - (lo.getD 0).toNat = 0 := by omega
                have e3 : (mx.getD (0 : Nat)).toNat = (lo.getD 0).toNat := by omega
                rw [e1, e2, if_pos e3]
                exact .sliceE _ _ _ _
              | slice _ _ _ _ _ _ p cap' hp h1 h2 h3 h4 =>
                refine ⟨_, hAt _ cap' h2, ?_⟩
                have hmm : mx.getD (cap : Int) ≤ mx.getD (cap' : Int) := by cases mx <;> simp_all
                have hm4 : mx.getD (cap' : Int) ≤ (cap' : Int) := by cases mx <;> simp_all; omega
                by_cases e3 : (mx.getD (cap' : Int)).toNat = (lo.getD 0).toNat
                · rw [if_pos e3, show (hi.getD (len : Int)).toNat - (lo.getD 0).toNat = 0 by omega, show (mx.getD (cap' : Int)).toNat - (lo.getD 0).toNat = 0 by omega, show (mx.getD (cap : Int)).toNat - (lo.getD 0).toNat = 0 by omega]
                  exact .sliceE _ _ _ _
                · rw [if_neg e3]
                  simp only [Option.map_some, add_none]
                  rw [Nat.add_assoc, ← hsz]
                  refine .slice _ _ _ _ _ _ p _ hp (by omega) (by omega) ?_ ?_
                  · intro hex
                    simp at hex
                    rcases hex with hex | hex
                    · have := h3 hex; rw [this]
                    · cases mx with
                      | none => simp at hex
                      | some m => rfl
                  · have k1 : ((mx.getD (cap' : Int)).toNat - (lo.getD 0).toNat) + (lo.getD 0).toNat ≤ cap' := by omega
                    have k2 := Nat.mul_le_mul_right sz k1
                    rw [Nat.add_mul] at k2
                    omega
            · simp at hr
        · simp at hr
  · rename_i e row off len cap sz hdd
    simp only at hr
    split at hr
    · simp at hr
    · rename_i hokT
      have hok : (T e).desc ≠ .bad := okT_ne (by simpa using hokT)
      obtain ⟨ti, _, _, hti, _, _, hsize, _⟩ := hT.get hok
      split at hr
      · simp at hr
      · rename_i hmx
        split at hr
        · rename_i hc
          obtain ⟨c1, c2, c3, c4, c5, hsz⟩ := hc
          simp at hr; subst hr
          have hmx' : mx.isSome = true → hi.isSome = true := fun hs => by cases hi <;> simp_all
          have hu := und_slice hT hdd
          have hb := run_sliceBounds (P := P) (w := w) (b := true) (len := len) (cap := cap) hl hh hm hmx' c1 c2 c3 c4
          have hAt : ∀ (A : Option Addr), (Instr.sliceAt t (.slice A len cap) vl vh vm).run P w =
              .ok (.slice (if (mx.getD cap).toNat = (lo.getD 0).toNat then A else A.map (·.add ((lo.getD 0).toNat * (T e).size))) ((hi.getD len).toNat - (lo.getD 0).toNat) ((mx.getD cap).toNat - (lo.getD 0).toNat)) w := by
            intro A
            simp [Instr.sliceAt, run_und hu, Instr.slice, hb, run_size hti, hsize]
          cases hx with
          | isliceE _ _ _ b =>
            refine ⟨_, hAt (some b), ?_⟩
            have e1 : (hi.getD (0 : Nat)).toNat - (lo.getD 0).toNat = 0 := by omega
            have e2 : (mx.getD (0 : Nat)).toNat - (lo.getD 0).toNat = 0 := by omega
            have e3 : (mx.getD (0 : Nat)).toNat = (lo.getD 0).toNat := by omega
            rw [e1, e2, if_pos e3]
            exact .isliceE _ _ _ _
          | islice _ _ _ _ _ b s vs hvs hcell h1 =>
            refine ⟨_, hAt _, ?_⟩
            by_cases e3 : (mx.getD (cap : Int)).toNat = (lo.getD 0).toNat
            · rw [if_pos e3, show (hi.getD (len : Int)).toNat - (lo.getD 0).toNat = 0 by omega, show (mx.getD (cap : Int)).toNat - (lo.getD 0).toNat = 0 by omega]
              exact .isliceE _ _ _ _
            · rw [if_neg e3]
              simp only [Option.map_some, add_none]
              rw [Nat.add_assoc, ← hsz]
              exact .islice _ _ _ _ _ b s vs hvs hcell (by omega)
        · simp at hr
  · simp at hr
end ops
end Go.Abs
end

section
/- Each operation of the abstract machine is the model's. Fourth part: append, copy, clear. -/
set_option linter.unusedSimpArgs false
set_option linter.unusedVariables false
namespace Go.Abs
open Go.RowKit
section ops
variable {P : Program} {T : Tys} {w0 w : World} {ρ : Rho} {h h' : AH}

/-- **A BLOCK THAT THE ABSTRACT MACHINE COPIES, AND THE MODEL WRITES ON**: its cells lie under a new number from now on; the elder number is dead. -/
theorem WR.move (H : WR w0 ρ h w) {i : Nat} {cs cs2 : List AV} (hi : h.get i = some (.cells cs)) {p : Pl} (hp : ρ i = some p) {s2 : Nat} {c2 : Array Value} {T : TypeId} {fz : Nat × Nat} (hR : c2.size = p.R) (hf : noFreeze fz p.R)
    (hs : s2 + cs2.length ≤ p.R) (hv : VRs w0 ρ cs2 ((c2.toList.drop s2).take cs2.length)) (h1 : cs2.all AV.one = true) :
    WR w0 (ρ.add h.size ⟨p.r, s2, p.R⟩) ((h.set i .dead).push (.cells cs2)) (w.putObj p.r (.cells c2 T fz)) ∧ Ext ρ (ρ.add h.size ⟨p.r, s2, p.R⟩) := by
  have hx : Ext ρ (ρ.add h.size ⟨p.r, s2, p.R⟩) := Rho.ext_add (H.fresh _ (Nat.le_refl _)).1
  have hilt := H.lt hi
  obtain ⟨hlt, hB⟩ := (hp ▸ H.obj i _ hi).lt rfl
  refine ⟨⟨H.below.trans ((putObj_below _).mono hB), ?_, ?_, ?_⟩, hx⟩
  · intro j hj
    simp at hj
    have := H.fresh j (by omega)
    rw [AH.get_push, if_neg (by simp; omega), AH.get_set, if_neg (by omega)]
    exact ⟨by unfold Rho.add; rw [if_neg (by omega)]; exact this.1, this.2⟩
  · intro j o hj
    rw [AH.get_push] at hj
    split at hj
    · rename_i e
      simp at e
      cases hj
      subst e
      rw [Rho.add_same]
      exact .cells _ ⟨p.r, s2, p.R⟩ hB _ T fz (World.putObj_heap_same hlt) hR hs hf (hv.ext hx) h1
    · rename_i e
      simp at e
      have e2 : ρ.add h.size ⟨p.r, s2, p.R⟩ j = ρ j := by unfold Rho.add; rw [if_neg e]
      rw [e2]
      rw [AH.get_set] at hj
      split at hj
      · cases hj; exact .dead _
      · rename_i e3
        refine ((H.obj j o hj).ext hx).world fun q hq hl => World.putObj_heap_other fun er => e3 (H.inj j i _ _ q p hj hi hl rfl hq hp er)
  · have key : ∀ j o q, (h.set i .dead).get j = some o → o.live = true → j ≠ h.size → ρ.add h.size ⟨p.r, s2, p.R⟩ j = some q → h.get j = some o ∧ ρ j = some q ∧ q.r ≠ p.r := by
      intro j o q hj hl hne hq
      unfold Rho.add at hq
      rw [if_neg hne] at hq
      rw [AH.get_set] at hj
      split at hj
      · cases hj; simp [AO.live] at hl
      · rename_i e3
        exact ⟨hj, hq, fun er => e3 (H.inj j i _ _ q p hj hi hl rfl hq hp er)⟩
    intro j k o1 o2 q1 q2 hj hk l1 l2 hq1 hq2 e
    rw [AH.get_push] at hj hk
    by_cases e1 : j = h.size <;> by_cases e2 : k = h.size
    · omega
    · rw [if_neg (show ¬ k = (h.set i AO.dead).size from e2)] at hk
      have := key k o2 q2 hk l2 e2 hq2
      rw [e1, Rho.add_same] at hq1
      cases hq1
      exact absurd e.symm this.2.2
    · rw [if_neg (show ¬ j = (h.set i AO.dead).size from e1)] at hj
      have := key j o1 q1 hj l1 e1 hq1
      rw [e2, Rho.add_same] at hq2
      cases hq2
      exact absurd e this.2.2
    · rw [if_neg (show ¬ j = (h.set i AO.dead).size from e1)] at hj
      rw [if_neg (show ¬ k = (h.set i AO.dead).size from e2)] at hk
      have a := key j o1 q1 hj l1 e1 hq1
      have b := key k o2 q2 hk l2 e2 hq2
      exact H.inj j k o1 o2 q1 q2 a.1 b.1 l1 l2 a.2.1 b.2.1 e

theorem zeroCells_size (zero : Array Value) (n : Nat) : (Builtin.zeroCells zero n).size = n * zero.size := by simp [Builtin.zeroCells]

/-- append, as the model carries it out where there is room. -/
theorem run_append_fits {t xt ty e : TypeId} {base : Option Addr} {len cap n : Nat} {v : Value} {new : List Value} {i : TypeInfo} (ht : P.underlying t = some (.slice e)) (hxt : (∃ e', P.underlying xt = some (.slice e')) ∨ P.underlying xt = some .string)
    (hi : P.info? e = some i) (hl : (Builtin.lenOf v).run P w = .ok n w) (hn : (Builtin.firstCells i.size n v).run P w = .ok new.toArray w) (hfit : len + n ≤ cap) {w' : World}
    (hst : ∀ a, base = some a → (storeCells (a.add (len * i.size)) new).run P w = .ok () w') (hno : base = none → w' = w) :
    (Builtin.append_ #[t, xt] ty #[.slice base len cap, v]).run P w = .ok (.slice base (len + n) cap) w' := by
  rcases hxt with ⟨e', hxt⟩ | hxt <;> cases base with
  | none =>
    rw [hno rfl]
    simp [Builtin.append_, run_und ht, run_und hxt, run_size hi, hl, hn, hfit]
  | some a =>
    have := hst a rfl
    simp [Builtin.append_, run_und ht, run_und hxt, run_size hi, hl, hn, hfit, this]
/-- append, as the model carries it out where a new array is made. -/
theorem run_append_grow {t xt ty e : TypeId} {base : Option Addr} {len cap n : Nat} {v : Value} {old new : List Value} {i : TypeInfo} {z : Value} (ht : P.underlying t = some (.slice e))
    (hxt : (∃ e', P.underlying xt = some (.slice e')) ∨ P.underlying xt = some .string) (hi : P.info? e = some i) (hz : i.zero = some z) (hl : (Builtin.lenOf v).run P w = .ok n w)
    (ho : (Builtin.firstCells i.size len (.slice base len cap)).run P w.drew = .ok old.toArray w.drew) (hn : (Builtin.firstCells i.size n v).run P w.drew = .ok new.toArray w.drew) (hgrow : cap < len + n)
    (hb : 0 < i.bytes) (hroom : (len + n) * i.bytes ≤ 140737488355328) :
    ∃ cap', len + n ≤ cap' ∧ (Builtin.append_ #[t, xt] ty #[.slice base len cap, v]).run P w =
      .ok (.slice (some ⟨w.heap.size, 0, none⟩) (len + n) cap') (w.drew.alloc (.cells ((old ++ new) ++ (Builtin.zeroCells z.cells (cap' - (len + n))).toList).toArray e)) := by
  refine ⟨Question.cut (.appendCap (len + n) cap e) (w.tape w.drawn (.appendCap (len + n) cap e)), by simp [Question.cut], ?_⟩
  generalize hq : Question.cut (.appendCap (len + n) cap e) (w.tape w.drawn (.appendCap (len + n) cap e)) = cap'
  have h1 : ¬ len + n ≤ cap := by omega
  have h2 : ¬ i.bytes = 0 := by omega
  have h3 : ¬ 2 ^ 48 < Builtin.nextslicecap (len + n) cap * i.bytes := by
    have := nextslicecap_le hgrow
    have k := Nat.mul_le_mul_right i.bytes this
    rw [Nat.mul_assoc] at k
    omega
  have hf : Question.forced (.appendCap (len + n) cap e) = false := rfl
  have hdrew : ({ w with drawn := w.drawn + 1 } : World) = w.drew := rfl
  rcases hxt with ⟨e', hxt⟩ | hxt
  all_goals
    simp [Builtin.append_, run_und ht, run_und hxt, run_size hi, run_ti hi, run_zero hi hz, hl, ho, hn, h1, run_choose, hf, h2, h3, hq, newRow]
    congr 2
    apply Array.ext'
    simp

theorem lenA_run {x : AV} {u : Value} {n : Nat} (hx : VR w0 ρ x u) (hr : lenA x = some n) : (Builtin.lenOf u).run P w = .ok n w := by
  cases hx <;> simp [lenA] at hr <;> subst hr <;> simp [Builtin.lenOf, ByteArray.size]

theorem appendA_run {t xt ty : TypeId} {s x z : AV} {u v : Value} (hT : TOk P T) (H : WR w0 ρ h w) (hr0 : appendA T h t xt s x = some (z, h')) (hs : VR w0 ρ s u) (hx : VR w0 ρ x v) :
    ∃ ρ' r w', (Builtin.append_ #[t, xt] ty #[u, v]).run P w = .ok r w' ∧ Ext ρ ρ' ∧ WR w0 ρ' h' w' ∧ VR w0 ρ' z r := by
  have main : ∀ e, (T t).desc = .slice e → ((∃ e', P.underlying xt = some (.slice e')) ∨ P.underlying xt = some .string) →
      (if !okT T e then none else
        match lenA x with
        | none => none
        | some n =>
          match elems h (T e).size n x with
          | none => none
          | some new =>
            match s with
            | .slice a len cap s0 ex =>
              if len + n ≤ cap then
                match a with
                | none => some (AV.slice none (len + n) cap s0 true, h)
                | some (i, o) =>
                  if new = [] then some (.slice (some (i, o)) (len + n) cap s0 ex, h)
                  else if s0 = (T e).size then match h.write i (o + len * (T e).size) new with
                    | some h' => some (.slice (some (i, o)) (len + n) cap (T e).size ex, h')
                    | none => none
                  else none
              else if (len + n) * (T e).bytes ≤ 140737488355328 ∧ 0 < (T e).bytes ∧ (T e).zero.length = (T e).size ∧ len + n ≤ 9223372036854775807 then
                match elems h (T e).size len s with
                | none => none
                | some old =>
                  match (match a with
                    | some (i, _) => if ex then some h else match h.get i with
                      | some (.cells _) => if s0 = (T e).size then some (h.set i .dead) else none
                      | _ => none
                    | none => some h) with
                  | none => none
                  | some h1 => some (.slice (some (h.size, 0)) (len + n) (len + n) (T e).size false, h1.push (.cells (old ++ new)))
              else none
            | .islice row off len cap s0 =>
              if len + n ≤ cap then (if new = [] then some (.islice row off (len + n) cap s0, h) else none)
              else if (len + n) * (T e).bytes ≤ 140737488355328 ∧ 0 < (T e).bytes ∧ (T e).zero.length = (T e).size ∧ len + n ≤ 9223372036854775807 then
                match elems h (T e).size len s with
                | none => none
                | some old => some (.slice (some (h.size, 0)) (len + n) (len + n) (T e).size false, h.push (.cells (old ++ new)))
              else none
            | _ => none) = some (z, h') →
      ∃ ρ' r w', (Builtin.append_ #[t, xt] ty #[u, v]).run P w = .ok r w' ∧ Ext ρ ρ' ∧ WR w0 ρ' h' w' ∧ VR w0 ρ' z r := by
    intro e hd hxt hr
    split at hr
    · simp at hr
    · rename_i hok
      have hbad : (T e).desc ≠ .bad := okT_ne (by simpa using hok)
      obtain ⟨i, zz, hi, hz, hzv, hz1, hsz, hby⟩ := zero_VRs (P := P) (w0 := w0) (ρ := ρ) hT hbad
      have ht := und_slice hT hd
      split at hr
      · simp at hr
      · rename_i n hn
        have hlen := lenA_run (P := P) (w := w) hx hn
        split at hr
        · simp at hr
        · rename_i new hnew
          obtain ⟨us, hrun, hus, hul, hu1⟩ := elems_run (P := P) H hnew hx
          obtain ⟨us', hrun', hus', _, _⟩ := elems_run (P := P) H.drew hnew hx
          rw [← hsz] at hrun hrun'
          have hul2 := hus.length
          -- a new array is made for certain
          have grow : ∀ (base : Option Addr) (len cap cap0 : Nat) (s : AV) (old : List AV) (hk : AH), VR w0 ρ s (.slice base len cap) → elems h (T e).size len s = some old → cap < len + n → (len + n) * (T e).bytes ≤ 140737488355328 → 0 < (T e).bytes →
              (T e).zero.length = (T e).size → WR w0 ρ hk w → hk.size = h.size → z = .slice (some (h.size, 0)) (len + n) (len + n) (T e).size false → h' = hk.push (.cells (old ++ new)) → u = .slice base len cap →
              ∃ ρ' r w', (Builtin.append_ #[t, xt] ty #[u, v]).run P w = .ok r w' ∧ Ext ρ ρ' ∧ WR w0 ρ' h' w' ∧ VR w0 ρ' z r := by
            intro base len cap cap0 s old hk hvs hold hlt hroom hb0 hzl Hk hks hz' hh' hu'
            obtain ⟨os, horun, hos, hol, ho1⟩ := elems_run (P := P) H.drew hold hvs
            rw [← hsz] at horun
            subst hu'
            obtain ⟨cap', hcap', hrunA⟩ := run_append_grow (P := P) (w := w) (ty := ty) (base := base) (len := len) (cap := cap) (n := n) (v := v) ht hxt hi hz hlen horun hrun' hlt (by rw [hby]; exact hb0) (by rw [hby]; exact hroom)
            have hvv := hos.append hus'
            have hone : (old ++ new).all AV.one = true := by rw [List.all_append, ho1, hu1]; rfl
            obtain ⟨ρ', he, hp, H'⟩ := Hk.drew.pushCells hvv hone (Builtin.zeroCells zz.cells (cap' - (len + n))).toList e (0, 0) (noFreeze_00 _)
            refine ⟨ρ', _, _, hrunA, he, by rw [hh']; exact H', ?_⟩
            rw [hz']
            rw [hks] at hp
            refine VR.slice h.size 0 (len + n) (len + n) (T e).size false _ cap' hp (Nat.le_refl _) hcap' (by simp) ?_
            have hzc : zz.cells.size = (T e).size := by rw [← hzl, hzv.length]; simp
            have l1 := hos.length
            have l2 := hus'.length
            simp only [Nat.zero_add, List.length_append, Array.length_toList, zeroCells_size, hzc]
            rw [← l1, ← l2, hol, hul, ← Nat.add_mul, ← Nat.add_mul]
            exact Nat.mul_le_mul_right _ (by omega)
          split at hr
          · rename_i a len cap s0 ex
            split at hr
            · rename_i hfit
              split at hr
              · simp at hr; obtain ⟨rfl, rfl⟩ := hr
                cases hs
                have hn0 : n = 0 := by omega
                subst hn0
                refine ⟨ρ, _, w, run_append_fits (P := P) (w := w) (ty := ty) ht hxt hi hlen hrun hfit (by simp) (fun _ => rfl), Ext.refl _, H, .slice0 _ _⟩
              · rename_i i' o
                split at hr
                · rename_i hnil
                  simp at hr; obtain ⟨rfl, rfl⟩ := hr
                  subst hnil
                  cases hus
                  cases hs with
                  | sliceE _ _ _ b =>
                    have hn0 : n = 0 := by omega
                    subst hn0
                    refine ⟨ρ, _, w, run_append_fits (P := P) (w := w) (ty := ty) ht hxt hi hlen hrun hfit (fun a ha => by simp [storeCells]) (by simp), Ext.refl _, H, ?_⟩
                    exact .sliceE _ _ _ _
                  | slice _ _ _ _ _ _ p cap' hp h1 h2 h3 h4 =>
                    refine ⟨ρ, _, w, run_append_fits (P := P) (w := w) (ty := ty) ht hxt hi hlen hrun (by omega) (fun a ha => by simp [storeCells]) (by simp), Ext.refl _, H, ?_⟩
                    exact .slice _ _ _ _ _ _ p cap' hp (by omega) h2 h3 h4
                · rename_i hne
                  split at hr
                  · rename_i hs0
                    split at hr
                    · rename_i hw' hwr
                      simp at hr; obtain ⟨rfl, rfl⟩ := hr
                      cases hs with
                      | sliceE _ _ _ b =>
                        exfalso
                        have hn0 : n = 0 := by omega
                        subst hn0
                        exact hne (List.eq_nil_of_length_eq_zero (by simpa using hul))
                      | slice _ _ _ _ _ _ p cap' hp h1 h2 h3 h4 =>
                        obtain ⟨w', hst, H'⟩ := H.write (P := P) hwr hp hus hu1
                        refine ⟨ρ, _, w', run_append_fits (P := P) (w := w) (ty := ty) ht hxt hi hlen hrun (by omega) (fun a ha => ?_) (by simp), Ext.refl _, H', ?_⟩
                        · cases ha
                          rw [add_none, hsz, Nat.add_assoc]
                          exact hst
                        · subst hs0
                          exact .slice _ _ _ _ _ _ p cap' hp (by omega) h2 h3 h4
                    · simp at hr
                  · simp at hr
            · rename_i hfit
              split at hr
              · rename_i hc
                obtain ⟨hroom, hb0, hzl, hmx⟩ := hc
                split at hr
                · simp at hr
                · rename_i old hold
                  cases hs with
                  | slice0 =>
                    simp at hr
                    exact grow none 0 0 0 _ old h (.slice0 _ _) hold (by omega) hroom hb0 hzl H rfl (by simpa using hr.1.symm) hr.2.symm rfl
                  | sliceE a' _ _ b =>
                    obtain ⟨ai, ao⟩ := a'
                    simp only at hr
                    split at hr
                    · simp at hr
                    · rename_i h1 hh1
                      simp at hr
                      split at hh1
                      · simp at hh1; subst hh1
                        exact grow _ 0 0 0 _ old h (.sliceE _ _ _ b) hold (by omega) hroom hb0 hzl H rfl (by simpa using hr.1.symm) hr.2.symm rfl
                      · split at hh1
                        · rename_i cs hcs
                          simp at hh1; obtain ⟨hs0, rfl⟩ := hh1
                          exact grow _ 0 0 0 _ old _ (.sliceE _ _ _ b) hold (by omega) hroom hb0 hzl (H.kill (H.lt hcs)) rfl (by simpa using hr.1.symm) hr.2.symm rfl
                        · simp at hh1
                  | slice i' o len cap s0 ex p cap' hp k1 k2 k3 k4 =>
                    simp only at hr
                    split at hr
                    · simp at hr
                    · rename_i h1 hh1
                      simp at hr
                      have hvs : VR w0 ρ (.slice (some (i', o)) len cap s0 ex) (.slice (some ⟨p.r, p.s + o, none⟩) len cap') := .slice _ _ _ _ _ _ p cap' hp k1 k2 k3 k4
                      split at hh1
                      · rename_i hex
                        simp at hh1; subst hh1
                        have : cap' = cap := k3 hex
                        exact grow _ len cap' 0 _ old h hvs hold (by omega) hroom hb0 hzl H rfl (by simpa using hr.1.symm) hr.2.symm rfl
                      · split at hh1
                        · rename_i cs hcs
                          simp at hh1; obtain ⟨hs0, rfl⟩ := hh1
                          rcases Nat.lt_or_ge cap' (len + n) with hlt | hge
                          · exact grow _ len cap' 0 _ old _ hvs hold hlt hroom hb0 hzl (H.kill (H.lt hcs)) rfl (by simpa using hr.1.symm) hr.2.symm rfl
                          · -- the model writes on in the elder array
                            obtain ⟨pl, c, TT, fz, hp', hB, hb, hR, hs', hf, hcv, hc1⟩ := H.cellsAt hcs
                            rw [hp] at hp'; cases hp'
                            have hmul : (len + n) * (T e).size ≤ cap' * s0 := by rw [hs0]; exact Nat.mul_le_mul_right _ hge
                            rw [Nat.add_mul] at hmul
                            have hcl : c.toList.length = p.R := by simpa using hR
                            have hol : old.length = len * (T e).size ∧ VRs w0 ρ old ((c.toList.drop (p.s + o)).take (len * (T e).size)) ∧ old.all AV.one = true := by
                              simp only [elems] at hold
                              split at hold
                              · rename_i h00
                                simp at hold; subst hold
                                have hz0 : len * (T e).size = 0 := by rcases h00 with h00 | h00 <;> simp [h00]
                                rw [hz0]
                                exact ⟨rfl, by simpa using VRs.nil, rfl⟩
                              · split at hold
                                · unfold AH.read at hold
                                  rw [hcs] at hold
                                  have hcut := hold
                                  simp only at hcut
                                  have hk := hcut
                                  unfold cut at hk
                                  split at hk
                                  · rename_i hle
                                    simp at hk
                                    refine ⟨by rw [← hk]; simp; omega, ?_, ?_⟩
                                    · have := hcv.cut hcut
                                      have e1 : (((c.toList.drop p.s).take cs.length).drop o).take (len * (T e).size) = (c.toList.drop (p.s + o)).take (len * (T e).size) := by
                                        rw [List.drop_take, List.take_take, List.drop_drop, Nat.min_eq_left (by omega)]
                                      rw [e1] at this
                                      exact this
                                    · subst hk
                                      rw [List.all_eq_true] at hc1 ⊢
                                      intro x hx
                                      exact hc1 x (List.mem_of_mem_drop (List.mem_of_mem_take hx))
                                  · simp at hk
                                · simp at hold
                            obtain ⟨hol1, hol2, hol3⟩ := hol
                            have hrunS := run_storeCells_row (P := P) (r := p.r) (o := p.s + o + len * (T e).size) (T := TT) (fz := fz) us 0 c w hb (by simp at hcl; omega) (by rw [hR]; exact hf) (hus.one hu1)
                            have hc2l : (overV c.toList (p.s + o + len * (T e).size) us).length = p.R := by rw [overV_length (by omega)]; exact hcl
                            have hmid : ((overV c.toList (p.s + o + len * (T e).size) us).drop (p.s + o)).take (old ++ new).length = (c.toList.drop (p.s + o)).take (len * (T e).size) ++ us := by
                              rw [overV_mid (n := (old ++ new).length) (by simp; omega) (by simp; omega)]
                              unfold overV
                              have l1 : (((c.toList.drop (p.s + o)).take (old ++ new).length)).length = len * (T e).size + us.length := by simp; omega
                              have e2 : ((c.toList.drop (p.s + o)).take (old ++ new).length).drop (len * (T e).size + us.length) = [] := List.drop_eq_nil_of_le (by rw [l1]; exact Nat.le_refl _)
                              rw [e2, List.append_nil, List.take_take, Nat.min_eq_left (by simp; omega)]
                            obtain ⟨H', hx⟩ := H.move (cs2 := old ++ new) hcs hp (s2 := p.s + o) (c2 := (overV c.toList (p.s + o + len * (T e).size) us).toArray) (T := TT) (fz := fz) (by simpa using hc2l) hf
                              (by simp; omega) (by simp only []; rw [hmid]; exact hol2.append hus) (by rw [List.all_append, hol3, hu1]; rfl)
                            refine ⟨_, _, _, run_append_fits (P := P) (w := w) (ty := ty) ht hxt hi hlen hrun hge (fun a ha => ?_) (by simp), hx, by rw [← hr.2]; exact H', ?_⟩
                            · cases ha
                              rw [add_none, hsz]
                              exact hrunS
                            · rw [← hr.1]
                              have := VR.slice (w0 := w0) h.size 0 (len + n) (len + n) (T e).size false ⟨p.r, p.s + o, p.R⟩ cap' (Rho.add_same ρ h.size ⟨p.r, p.s + o, p.R⟩) (Nat.le_refl _) hge (by simp) (by subst hs0; simpa using k4)
                              simpa using this
                        · simp at hh1
              · simp at hr
          · rename_i row off len cap s0
            split at hr
            · rename_i hfit
              split at hr
              · rename_i hnil
                simp at hr; obtain ⟨rfl, rfl⟩ := hr
                subst hnil
                cases hus
                cases hs with
                | islice _ _ _ _ _ b s vs hvs hcell h1 =>
                  refine ⟨ρ, _, w, run_append_fits (P := P) (w := w) (ty := ty) ht hxt hi hlen hrun hfit (fun a ha => by simp [storeCells]) (by simp), Ext.refl _, H, ?_⟩
                  exact .islice _ _ _ _ _ b s vs hvs hcell hfit
                | isliceE _ _ _ b =>
                  have hn0 : n = 0 := by omega
                  subst hn0
                  refine ⟨ρ, _, w, run_append_fits (P := P) (w := w) (ty := ty) ht hxt hi hlen hrun hfit (fun a ha => by simp [storeCells]) (by simp), Ext.refl _, H, ?_⟩
                  exact .isliceE _ _ _ _
              · simp at hr
            · rename_i hfit
              split at hr
              · rename_i hc
                obtain ⟨hroom, hb0, hzl, hmx⟩ := hc
                split at hr
                · simp at hr
                · rename_i old hold
                  simp at hr
                  cases hs with
                  | islice row off len cap s0 b s vs hvs hcell h1 =>
                    exact grow _ len cap 0 _ old h (.islice _ _ _ _ _ b s vs hvs hcell h1) hold (by omega) hroom hb0 hzl H rfl (by simpa using hr.1.symm) hr.2.symm rfl
                  | isliceE _ _ _ b =>
                    exact grow _ 0 0 0 _ old h (.isliceE _ _ _ b) hold (by omega) hroom hb0 hzl H rfl (by simpa using hr.1.symm) hr.2.symm rfl
              · simp at hr
          · simp at hr
  unfold appendA at hr0
  split at hr0
  · rename_i e e' hd hd'
    exact main e hd (.inl ⟨e', und_slice hT hd'⟩) hr0
  · rename_i e hd hd'
    exact main e hd (.inr (und_string hT hd')) hr0
  · simp at hr0
end ops
end Go.Abs
end

section
/- Each operation of the abstract machine is the model's. Fifth part: copy, clear, what is built; the sum. -/
set_option linter.unusedSimpArgs false
set_option linter.unusedVariables false
namespace Go.Abs
open Go.RowKit
section ops
variable {P : Program} {T : Tys} {w0 w : World} {ρ : Rho} {h h' : AH}

theorem copyA_run {t xt ty : TypeId} {d x z : AV} {u v : Value} (hT : TOk P T) (H : WR w0 ρ h w) (hr : copyA T h t d x = some (z, h')) (hd : VR w0 ρ d u) (hx : VR w0 ρ x v) :
    ∃ ρ' r w', (Builtin.copy_ #[t, xt] ty #[u, v]).run P w = .ok r w' ∧ Ext ρ ρ' ∧ WR w0 ρ' h' w' ∧ VR w0 ρ' z r := by
  unfold copyA at hr
  split at hr
  · rename_i e hdd
    simp only at hr
    split at hr
    · simp at hr
    · rename_i hok
      have hbad : (T e).desc ≠ .bad := okT_ne (by simpa using hok)
      obtain ⟨i, zz, hi, hz, hzv, hz1, hsz, hby⟩ := zero_VRs (P := P) (w0 := w0) (ρ := ρ) hT hbad
      have ht := und_slice hT hdd
      split at hr
      · rename_i a len cap s0 ex m k hk hm
        have hlen := lenA_run (P := P) (w := w) hx hk
        simp [lenA] at hm; subst hm
        split at hr
        · simp at hr
        · rename_i new hnew
          obtain ⟨us, hrun, hus, hul, hu1⟩ := elems_run (P := P) H hnew hx
          rw [← hsz] at hrun
          have go : ∀ (base : Option Addr) (c : Nat) (w' : World), u = .slice base len c → (∀ a, base = some a → (storeCells a us).run P w = .ok () w') → (base = none → w' = w) → (Builtin.copy_ #[t, xt] ty #[u, v]).run P w = .ok (.int .i64 (min k len : Nat)) w' := by
            intro base c w' hu hst hno
            subst hu
            have e1 : Nat.min k len = min k len := rfl
            cases base with
            | none =>
              rw [hno rfl]
              simp [Builtin.copy_, run_und ht, hlen, run_size hi, e1, hrun, goInt]
            | some a =>
              have := hst a rfl
              simp [Builtin.copy_, run_und ht, hlen, run_size hi, e1, hrun, goInt, this]
          split at hr
          · simp at hr; obtain ⟨rfl, rfl⟩ := hr
            cases hd
            exact ⟨ρ, _, w, go none 0 w rfl (by simp) (fun _ => rfl), Ext.refl _, H, .int _ _⟩
          · rename_i i' o
            split at hr
            · rename_i hnil
              simp at hr; obtain ⟨rfl, rfl⟩ := hr
              subst hnil
              cases hus
              cases hd with
              | sliceE _ _ _ b => exact ⟨ρ, _, w, go _ 0 w rfl (fun a ha => by simp [storeCells]) (by simp), Ext.refl _, H, .int _ _⟩
              | slice _ _ _ _ _ _ p cap' hp h1 h2 h3 h4 => exact ⟨ρ, _, w, go _ cap' w rfl (fun a ha => by simp [storeCells]) (by simp), Ext.refl _, H, .int _ _⟩
            · rename_i hne
              split at hr
              · rename_i hs0
                obtain ⟨hw', hwr, hz'⟩ := Option.map_eq_some_iff.1 hr
                simp at hz'; obtain ⟨rfl, rfl⟩ := hz'
                cases hd with
                | sliceE _ _ _ b =>
                  exfalso
                  exact hne (List.eq_nil_of_length_eq_zero (by simpa using hul))
                | slice _ _ _ _ _ _ p cap' hp h1 h2 h3 h4 =>
                  obtain ⟨w', hst, H'⟩ := H.write (P := P) hwr hp hus hu1
                  refine ⟨ρ, _, w', go _ cap' w' rfl (fun a ha => ?_) (by simp), Ext.refl _, H', .int _ _⟩
                  cases ha
                  exact hst
              · simp at hr
      · simp at hr
  · simp at hr

theorem rep_length (z : List AV) (n : Nat) : (rep z n).length = n * z.length := by
  induction n with
  | zero => simp [rep]
  | succ n ih => simp [rep, ih, Nat.add_mul]; omega
theorem rep_get (z : List AV) (n j : Nat) (hj : j < n * z.length) : (rep z n)[j]? = z[j % z.length]? := by
  induction n generalizing j with
  | zero => simp at hj
  | succ n ih =>
    simp only [rep]
    by_cases h : j < z.length
    · rw [List.getElem?_append_left h, Nat.mod_eq_of_lt h]
    · have e : j % z.length = (j - z.length) % z.length := Nat.mod_eq_sub_mod (by omega)
      rw [Nat.succ_mul] at hj
      rw [List.getElem?_append_right (by omega), ih (j - z.length) (by omega), e]
theorem rep_one {z : List AV} (h : z.all AV.one = true) (n : Nat) : (rep z n).all AV.one = true := by
  induction n with
  | zero => rfl
  | succ n ih => simp only [rep, List.all_append, h, ih]; rfl
/-- So many zero values, as the model makes them. -/
theorem rep_VRs {z : List AV} {zs : Array Value} (h : VRs w0 ρ z zs.toList) (n m : Nat) (hm : m = n * zs.size) : VRs w0 ρ (rep z n) ((Array.range m).map (zs[· % zs.size]!)).toList := by
  have hl : z.length = zs.size := by rw [h.length]; simp
  subst hm
  refine .of_get (by rw [rep_length, hl]; simp) ?_
  intro j x u hx hu
  have hj : j < n * zs.size := by
    have := (List.getElem?_eq_some_iff.1 hx).1
    rw [rep_length, hl] at this
    exact this
  rw [rep_get z n j (by rw [hl]; exact hj)] at hx
  obtain ⟨y, hy, hv⟩ := h.get hx
  simp [hj] at hu
  have hpos : 0 < zs.size := by
    rcases Nat.eq_zero_or_pos zs.size with h0 | h0
    · rw [h0] at hj; simp at hj
    · exact h0
  have hmod : j % zs.size < zs.size := Nat.mod_lt _ hpos
  rw [hl] at hy
  simp at hy
  rw [← hu]
  have e : zs[j % zs.size]'hmod = y := by simpa [hmod] using hy
  simp only [getElem!_pos, hmod]
  rw [e]
  exact hv
theorem rep_VRs' {z : List AV} {zs : Array Value} (h : VRs w0 ρ z zs.toList) (n : Nat) : VRs w0 ρ (rep z n) (Builtin.zeroCells zs n).toList := by
  have := rep_VRs h n _ rfl
  unfold Builtin.zeroCells
  exact this
theorem clearA_run {t ty : TypeId} {x z : AV} {v : Value} (hT : TOk P T) (H : WR w0 ρ h w) (hr : clearA T h t x = some (z, h')) (hx : VR w0 ρ x v) :
    ∃ ρ' r w', (Builtin.clear_ #[t] ty #[v]).run P w = .ok r w' ∧ Ext ρ ρ' ∧ WR w0 ρ' h' w' ∧ VR w0 ρ' z r := by
  unfold clearA at hr
  split at hr
  · rename_i e hdd
    split at hr
    · simp at hr
    · rename_i hok
      have hbad : (T e).desc ≠ .bad := okT_ne (by simpa using hok)
      obtain ⟨i, zz, hi, hz, hzv, hz1, hsz, hby⟩ := zero_VRs (P := P) (w0 := w0) (ρ := ρ) hT hbad
      have ht := und_slice hT hdd
      split at hr
      · simp at hr; obtain ⟨rfl, rfl⟩ := hr
        cases hx
        exact ⟨ρ, _, w, by simp [Builtin.clear_, run_und ht], Ext.refl _, H, .tuple [] [] .nil⟩
      · rename_i i' o n cap s0 ex
        split at hr
        · rename_i h0
          simp at hr; obtain ⟨rfl, rfl⟩ := hr
          subst h0
          cases hx <;> exact ⟨ρ, _, w, by simp [Builtin.clear_, run_und ht], Ext.refl _, H, .tuple [] [] .nil⟩
        · rename_i h0
          split at hr
          · rename_i hc
            obtain ⟨hw', hwr, hz'⟩ := Option.map_eq_some_iff.1 hr
            simp at hz'; obtain ⟨rfl, rfl⟩ := hz'
            cases hx with
            | sliceE => exact absurd rfl h0
            | slice _ _ _ _ _ _ p cap' hp h1 h2 h3 h4 =>
              obtain ⟨w', hst, H'⟩ := H.write (P := P) hwr hp (rep_VRs' hzv n) (rep_one hz1 n)
              refine ⟨ρ, .tuple #[], w', ?_, Ext.refl _, H', .tuple [] [] .nil⟩
              cases n with
              | zero => exact absurd rfl h0
              | succ n => simp [Builtin.clear_, run_und ht, run_zero hi hz, hst]
          · simp at hr
      · rename_i row off n cap s0
        split at hr
        · rename_i h0
          simp at hr; obtain ⟨rfl, rfl⟩ := hr
          subst h0
          cases hx <;> exact ⟨ρ, _, w, by simp [Builtin.clear_, run_und ht], Ext.refl _, H, .tuple [] [] .nil⟩
        · simp at hr
      · simp at hr
  · simp at hr

theorem VRs.two {a b : AV} {us : List Value} (hv : VRs w0 ρ [a, b] us) : ∃ u v, us = [u, v] ∧ VR w0 ρ a u ∧ VR w0 ρ b v := by
  cases hv with | cons _ u _ vs h hs => obtain ⟨v, rfl, hv⟩ := hs.single; exact ⟨u, v, rfl, h, hv⟩
theorem builtinA_run {b : Builtin} {ty : TypeId} {ts : List TypeId} {args : List AV} {us : List Value} {z : AV} (hT : TOk P T) (H : WR w0 ρ h w) (hr : builtinA T h b ts args = some (z, h')) (hxs : VRs w0 ρ args us) :
    ∃ ρ' r w', (∀ consts : Array Bool, (builtin b ts.toArray ty consts us.toArray).run P w = .ok (.value r) w') ∧ Ext ρ ρ' ∧ WR w0 ρ' h' w' ∧ VR w0 ρ' z r := by
  unfold builtinA at hr
  split at hr
  · rename_i t xt s x
    obtain ⟨u, v, rfl, hs, hx⟩ := hxs.two
    obtain ⟨ρ', r, w', h1, h2, h3, h4⟩ := appendA_run (P := P) (ty := ty) hT H hr hs hx
    exact ⟨ρ', r, w', fun _ => by simp [builtin, h1], h2, h3, h4⟩
  · rename_i t x
    obtain ⟨u, rfl, hx⟩ := hxs.single
    split at hr
    · rename_i s hdd
      simp at hr; obtain ⟨rfl, rfl⟩ := hr
      cases hx
      have hsz : (⟨s.toArray⟩ : ByteArray).size = s.length := by simp [ByteArray.size]
      exact ⟨ρ, _, w, fun _ => by simp [builtin, Builtin.len_, run_und (und_string hT hdd), hsz, goInt], Ext.refl _, H, .int _ _⟩
    · rename_i e _ n _ _ _ hdd
      simp at hr; obtain ⟨rfl, rfl⟩ := hr
      cases hx <;> exact ⟨ρ, _, w, fun _ => by simp [builtin, Builtin.len_, run_und (und_slice hT hdd), goInt], Ext.refl _, H, .int _ _⟩
    · rename_i e _ _ n _ _ hdd
      simp at hr; obtain ⟨rfl, rfl⟩ := hr
      cases hx <;> exact ⟨ρ, _, w, fun _ => by simp [builtin, Builtin.len_, run_und (und_slice hT hdd), goInt], Ext.refl _, H, .int _ _⟩
    · simp at hr
  · rename_i t xt d x
    obtain ⟨u, v, rfl, hd, hx⟩ := hxs.two
    obtain ⟨ρ', r, w', h1, h2, h3, h4⟩ := copyA_run (P := P) (xt := xt) (ty := ty) hT H hr hd hx
    exact ⟨ρ', r, w', fun _ => by simp [builtin, h1], h2, h3, h4⟩
  · rename_i t x
    obtain ⟨v, rfl, hx⟩ := hxs.single
    obtain ⟨ρ', r, w', h1, h2, h3, h4⟩ := clearA_run (P := P) (ty := ty) hT H hr hx
    exact ⟨ρ', r, w', fun _ => by simp [builtin, h1], h2, h3, h4⟩
  · rename_i k x k' y
    obtain ⟨u, v, rfl, hd, hx⟩ := hxs.two
    simp at hr; obtain ⟨rfl, rfl⟩ := hr
    cases hd; cases hx
    exact ⟨ρ, _, w, fun _ => by simp [builtin, Builtin.min_, Builtin.min2], Ext.refl _, H, .int _ _⟩
  · rename_i k x k' y
    obtain ⟨u, v, rfl, hd, hx⟩ := hxs.two
    simp at hr; obtain ⟨rfl, rfl⟩ := hr
    cases hd; cases hx
    exact ⟨ρ, _, w, fun _ => by simp [builtin, Builtin.max_, Builtin.max2], Ext.refl _, H, .int _ _⟩
  · simp at hr

/-! ### What is built -/
theorem foldl_set (new : List Value) (cells : Array Value) (off k : Nat) (h : off + k + new.length ≤ cells.size) :
    (new.zipIdx k).foldl (fun (cs : Array Value) (p : Value × Nat) => cs.setIfInBounds (off + p.2) p.1) cells = (overV cells.toList (off + k) new).toArray := by
  induction new generalizing cells k with
  | nil => simp [overV]
  | cons v r ih =>
    simp only [List.zipIdx_cons, List.foldl_cons]
    simp at h
    rw [ih _ _ (by simp; omega)]
    congr 1
    unfold overV
    have hl : off + k < cells.toList.length := by simp; omega
    rw [show off + (k + 1) = off + k + 1 by omega, Array.toList_setIfInBounds, List.take_set, List.drop_set, if_pos (by omega), List.take_succ_eq_append_getElem hl, List.set_append_right _ _ (by simp; omega), show off + k + 1 + r.length = off + k + (r.length + 1) by omega]
    have : off + k ≤ cells.size := by omega
    simp [Nat.min_eq_left this]
theorem fillA_run {place : Nat → Option (Nat × Nat)} : ∀ {l : List (Nat × AV)} {lv : List (Nat × Value)} {cells : List AV} {cv : Array Value} {out : List AV}, fillA place cells l = some out → VRs w0 ρ cells cv.toList →
    l.map (·.1) = lv.map (·.1) → VRs w0 ρ (l.map (·.2)) (lv.map (·.2)) → cells.all AV.one = true → ∃ ov : Array Value, Instr.fill place cv lv = some ov ∧ VRs w0 ρ out ov.toList ∧ out.all AV.one = true
  | [], lv, cells, cv, out, hr, hc, h1, h2, h3 => by
    simp [fillA] at hr; subst hr
    cases lv with
    | nil => exact ⟨cv, rfl, hc, h3⟩
    | cons => simp at h1
  | (i, a) :: l, lv, cells, cv, out, hr, hc, h1, h2, h3 => by
    cases lv with
    | nil => simp at h1
    | cons p lv =>
      obtain ⟨i', v⟩ := p
      simp at h1
      obtain ⟨rfl, h1⟩ := h1
      simp only [List.map_cons] at h2
      cases h2 with
      | cons _ _ _ _ hv h2 =>
      simp only [fillA] at hr
      split at hr
      · simp at hr
      · rename_i off size hpl
        split at hr
        · rename_i hcnd
          obtain ⟨c1, c2, c3⟩ := hcnd
          have hl := hv.cells.length
          have hcl := hc.length
          simp at hl hcl
          have hnew : VRs w0 ρ (Abs.over cells off a.cells) (overV cv.toList (off + 0) v.cells.toList).toArray.toList := by
            simp only [Nat.add_zero]
            exact hc.over hv.cells off
          obtain ⟨ov, ho1, ho2, ho3⟩ := fillA_run hr hnew h1 h2 (all_over h3 c3)
          refine ⟨ov, ?_, ho2, ho3⟩
          rw [← ho1]
          have hfold := foldl_set v.cells.toList cv off 0 (by simp; omega)
          rw [← hfold]
          have n1 : ¬ (v.cells.size ≠ size ∨ off + v.cells.size > cv.size) := by omega
          simp [Instr.fill, hpl]
          rw [if_neg (by simpa using n1)]
          congr 1
          generalize v.cells = vc
          obtain ⟨L⟩ := vc
          simp
        · simp at hr
end ops
end Go.Abs
end

section
/- Each operation of the abstract machine is the model's: all together. -/
set_option linter.unusedSimpArgs false
set_option linter.unusedVariables false
namespace Go.Abs
open Go.RowKit
section ops
variable {P : Program} {T : Tys} {w0 w : World} {ρ : Rho} {h h' : AH}

theorem evParts_VR {e : Env} {A : Act} (he : EnvR w0 ρ e A.tmps) : ∀ {ps : List (Nat × Operand)} {l : List (Nat × AV)}, evParts e ps = some l →
    l.map (·.1) = (ps.map fun p => (p.1, A.eval p.2)).map (·.1) ∧ VRs w0 ρ (l.map (·.2)) ((ps.map fun p => (p.1, A.eval p.2)).map (·.2))
  | [], l, hr => by simp [evParts] at hr; subst hr; exact ⟨rfl, .nil⟩
  | (i, x) :: r, l, hr => by
    simp only [evParts] at hr
    split at hr
    · rename_i a l' ha hl'
      simp at hr; subst hr
      obtain ⟨k1, k2⟩ := evParts_VR he hl'
      exact ⟨by simp only [List.map_cons, k1], .cons _ _ _ _ (ev_VR he ha) k2⟩
    · simp at hr
theorem run_mapM_list {α β : Type} (f : α → Sem β) (g : α → β) (xs : List α) (hf : ∀ x ∈ xs, (f x).run P w = .ok (g x) w) : (xs.mapM f).run P w = .ok (xs.map g) w := by
  induction xs with
  | nil => simp [List.mapM_nil]
  | cons x xs ih =>
    rw [List.mapM_cons]
    simp [hf x (by simp), ih fun y hy => hf y (by simp [hy])]
theorem run_mapM {α β : Type} (f : α → Sem β) (g : α → β) (xs : Array α) (hf : ∀ x ∈ xs.toList, (f x).run P w = .ok (g x) w) : (xs.mapM f).run P w = .ok (xs.map g) w := by
  have e : xs.mapM f = (do let l ← xs.toList.mapM f; pure l.toArray : Sem (Array β)) := by
    rw [Array.mapM_eq_mapM_toList]
    rfl
  rw [e]
  simp [run_mapM_list f g xs.toList hf]
  apply Array.ext'
  simp
theorem partA_run {t : TypeId} {cs : List AV} {vs : List Value} {off : Nat} {x : AV} (hT : TOk P T) (hr : partA T t cs off = some x) (hv : VRs w0 ρ cs vs) : ∃ u, (part t vs.toArray off).run P w = .ok u w ∧ VR w0 ρ x u := by
  unfold partA at hr
  split at hr
  · simp at hr
  · rename_i hne
    have hbad : (T t).desc ≠ .bad := fun e => hne e
    split at hr
    · rename_i hag
      obtain ⟨c, hc, rfl⟩ := Option.map_eq_some_iff.1 hr
      obtain ⟨i, D, z, hi, hu, hd, hsz, _⟩ := hT.get hbad
      have hagg := run_isAgg (P := P) (w := w) hu (by rw [hd]; exact hbad)
      rw [hd, hag] at hagg
      refine ⟨_, ?_, .agg _ _ (hv.cut hc)⟩
      have e : vs.toArray.extract off (off + (T t).size) = ((vs.drop off).take (T t).size).toArray := by
        apply Array.ext'
        simp
      simp [part, hagg, run_size hi, hsz, e]
    · rename_i hag
      exact part_run hT hv (by simpa using hag) hbad hr

theorem wrap64_of {n : Int} (h1 : -9223372036854775808 ≤ n) (h2 : n ≤ 9223372036854775807) : IntKind.i64.wrap n = n := by
  rw [IntKind.wrap_i64]; omega
/-- What the model does at an operation, in the abstract machine's words. -/
def Sound (P : Program) (w0 : World) (ρ : Rho) (s : Sem Next) (w : World) : OpR → Prop
  | .val v h' => Res P w0 ρ s w v h'
  | .enter f args => ∃ us : List Value, VRs w0 ρ args us ∧ s.run P w = (callFunc f us.toArray).run P w
  | .round l args => ∃ (us : List Value) (p : Pl), ρ l = some p ∧ VRs w0 ρ args us ∧ s.run P w = (Instr.yield p.r us.toArray).run P w

theorem oi_of {e : Env} {A : Act} (he : EnvR w0 ρ e A.tmps) {x : Option Operand} {a : Option AV} {n : Option Int} (h1 : evO e x = some a) (h2 : asI a = some n) : OI n (x.map A.eval) := by
  cases x with
  | none => simp [evO] at h1; subst h1; simp [asI] at h2; subst h2; exact OI.none
  | some x =>
    simp only [evO, Option.map_eq_some_iff] at h1
    obtain ⟨b, hb, rfl⟩ := h1
    have := ev_VR he hb
    cases b <;> simp [asI] at h2
    subst h2
    simp only [Option.map_some]
    generalize A.eval x = u at this
    cases this
    exact OI.some _ _

theorem evalOp_sound {e : Env} {A : Act} {o : Oper} {r : OpR} (hT : TOk P T) (hF : FOk P) (H : WR w0 ρ h w) (he : EnvR w0 ρ e A.tmps) (hr : evalOp T e o h = some r) : Sound P w0 ρ (execOp A.eval o) w r := by
  obtain ⟨dst, op, type, pos, after, guard⟩ := o
  have same : ∀ {s : Sem Value} {v : AV} {u : Value}, s.run P w = .ok u w → VR w0 ρ v u → Res P w0 ρ (do pure (.value (← s))) w v h := fun hs hv => Res.val hs H hv
  have mem : ∀ {s : Sem Value} {v : AV} {h' : AH}, (∃ ρ' u w', s.run P w = .ok u w' ∧ Ext ρ ρ' ∧ WR w0 ρ' h' w' ∧ VR w0 ρ' v u) → Res P w0 ρ (do pure (.value (← s))) w v h' := fun ⟨ρ', u, w', hs, hx, H', hv⟩ =>
    ⟨ρ', u, w', .value u, by simp [hs], .inl rfl, hx, H', hv⟩
  have pur : ∀ {v : AV} {u : Value}, VR w0 ρ v u → Res P w0 ρ (pure (.value u)) w v h := fun hv => ⟨ρ, _, w, _, rfl, .inl rfl, Ext.refl _, H, hv⟩
  cases op <;> simp only [evalOp] at hr <;> try (simp at hr; done)
  case move x =>
    obtain ⟨a, ha, rfl⟩ := Option.map_eq_some_iff.1 hr
    exact pur (ev_VR he ha)
  case assign x =>
    obtain ⟨a, ha, rfl⟩ := Option.map_eq_some_iff.1 hr
    exact pur (ev_VR he ha)
  case pick c a b =>
    split at hr
    · rename_i t ht
      obtain ⟨z, hz, rfl⟩ := Option.map_eq_some_iff.1 hr
      have := ev_VR he ht
      simp only [Sound, execOp]
      generalize A.eval c = u at this
      cases this
      refine ⟨ρ, if t then A.eval a else A.eval b, w, .value _, by simp [asBool], .inl rfl, Ext.refl _, H, ?_⟩
      split at hz <;> simp only [*, if_true, if_false] <;> exact ev_VR he hz
    · simp at hr
  case alloc el =>
    split at hr
    · simp at hr
    · rename_i hne
      simp at hr; subst hr
      obtain ⟨i, z, hi, hz, hv, h1, _⟩ := zero_VRs (P := P) (w0 := w0) (ρ := ρ) hT (fun e => hne e)
      obtain ⟨ρ', u, w', hrun, hx, H', hvr⟩ := newVar_run (P := P) H hv h1 el
      refine mem ⟨ρ', u, w', ?_, hx, H', hvr⟩
      simp [Instr.alloc, run_zero hi hz] at hrun ⊢
      exact hrun
  case box el x =>
    split at hr
    · rename_i a ha
      split at hr
      · rename_i h1
        simp at hr; subst hr
        obtain ⟨ρ', u, w', hrun, hx, H', hvr⟩ := newVar_run (P := P) H (ev_VR he ha).cells h1 el
        refine mem ⟨ρ', u, w', ?_, hx, H', hvr⟩
        simp [Instr.box] at hrun ⊢
        exact hrun
      · simp at hr
    · simp at hr
  case build t ps =>
    split at hr
    · rename_i fs l hdd hl
      split at hr
      · simp at hr
      · rename_i hall
        obtain ⟨z, hz, rfl⟩ := Option.map_eq_some_iff.1 hr
        obtain ⟨out, hout, rfl⟩ := Option.map_eq_some_iff.1 hz
        have hbad : (T t).desc ≠ .bad := by rw [hdd]; simp
        obtain ⟨i, zz, hi, hzz, hv, h1, _⟩ := zero_VRs (P := P) (w0 := w0) (ρ := ρ) hT hbad
        obtain ⟨d, hu, hd⟩ := und_of hT hbad
        obtain ⟨f, rfl, hfs⟩ := tdOf_struct (hd.trans hdd)
        obtain ⟨k1, k2⟩ := evParts_VR he hl
        obtain ⟨ov, ho1, ho2, ho3⟩ := fillA_run hout hv k1 k2 h1
        refine same (s := Instr.build t (ps.map fun (i, x) => (i, A.eval x))) (u := .agg ov) ?_ (by have := VR.agg _ _ ho2; simpa using this)
        have hm := run_mapM (P := P) (w := w) (fun f : Field => do pure (f.offset, ← sizeOf f.type)) (fun f => (f.offset, (T f.type).size)) f (by
          intro x hx
          have hok : okT T x.type = true := by
            have hall' : (fs.all fun f => okT T f.1) = true := by
              cases hq : (fs.all fun f => okT T f.1) with
              | true => rfl
              | false => rw [hq] at hall; simp at hall
            have := List.all_eq_true.1 hall' (x.type, x.offset, x.name != "_") (by rw [hfs]; exact List.mem_map.2 ⟨x, hx, rfl⟩)
            exact this
          obtain ⟨ti, _, _, hti, _, _, hts, _⟩ := hT.get (okT_ne hok)
          simp [run_size hti, hts])
        have hpl : (fun (j : Nat) => (f.map fun f => (f.offset, (T f.type).size))[j]?) = (fun (i : Nat) => (fs[i]?).map fun (f : Nat × Nat × Bool) => (f.2.1, (T f.1).size)) := by
          funext j
          rw [hfs]
          simp
          cases f[j]? <;> rfl
        have hlv : (ps.map fun (i, x) => (i, A.eval x)).toList = ps.toList.map fun p => (p.1, A.eval p.2) := by simp
        simp only [Instr.build, Sem.run_bind, run_zero hi hzz, run_und hu, Result.andThen_ok, hm, hpl, hlv, ho1, Sem.run_pure]
    · simp at hr
  case buildSlice t n ps =>
    split at hr
    · rename_i el l hdd hl
      split at hr
      · rename_i hc
        obtain ⟨hok, hn, hzl⟩ := hc
        split at hr
        · rename_i cs hcs
          simp at hr; subst hr
          obtain ⟨i, zz, hi, hz, hv, h1, hsz, _⟩ := zero_VRs (P := P) (w0 := w0) (ρ := ρ) hT (okT_ne hok)
          obtain ⟨k1, k2⟩ := evParts_VR he hl
          have hzc : zz.cells.size = (T el).size := by rw [← hzl, hv.length]; simp
          have hrep := rep_VRs hv n (n * (T el).size) (by rw [hzc])
          obtain ⟨ov, ho1, ho2, ho3⟩ := fillA_run hcs hrep k1 k2 (rep_one h1 n)
          obtain ⟨ρ', hx, hp, H'⟩ := H.pushCells ho2 ho3 [] el (0, 0) (noFreeze_00 _)
          refine mem ⟨ρ', .slice (some ⟨w.heap.size, 0, none⟩) n n, _, ?_, hx, H', ?_⟩
          · have hlv : (ps.map fun (i, x) => (i, A.eval x)).toList = ps.toList.map fun p => (p.1, A.eval p.2) := by simp
            have n1 : ¬ n * (T el).size > 2 ^ 24 := by omega
            by_cases h0 : n * (T el).size = 0
            · rw [h0] at ho1
              simp only [Instr.buildSlice, Sem.run_bind, run_und (und_slice hT hdd), Result.andThen_ok, run_size hi, hsz, Sem.run_ite, if_neg n1, h0, if_true, Sem.run_pure, hlv]
              have r0 : ∀ f : Nat → Value, (Array.range 0).map f = #[] := fun f => by apply Array.eq_empty_of_size_eq_zero; simp
              rw [r0] at ho1
              simp only [r0, ho1]
              simp [newRow]
            · simp only [Instr.buildSlice, Sem.run_bind, run_und (und_slice hT hdd), Result.andThen_ok, run_size hi, hsz, Sem.run_ite, if_neg n1, h0, if_false, run_zero hi hz, Sem.run_pure, hlv, ho1]
              simp [newRow]
          · refine VR.slice h.size 0 n n (T el).size true _ n hp (Nat.le_refl _) (Nat.le_refl _) (fun _ => rfl) ?_
            have l1 := ho2.length
            have l2 : cs.length = n * (T el).size := by
              have key : ∀ {l : List (Nat × AV)} {c out : List AV}, fillA (fun i => some (i * (T el).size, (T el).size)) c l = some out → out.length = c.length := by
                intro l
                induction l with
                | nil => intro c out hf; simp [fillA] at hf; rw [hf]
                | cons p l ih =>
                  obtain ⟨i, a⟩ := p
                  intro c out hf
                  simp only [fillA] at hf
                  split at hf
                  · rename_i hcc
                    rw [ih hf, over_length (by omega)]
                  · simp at hf
              rw [key hcs, rep_length, hzl]
            simp only [List.length_nil, Nat.add_zero, Nat.zero_add]
            omega
        · simp at hr
      · simp at hr
    · simp at hr
  case load t a =>
    split at hr
    · rename_i x hx
      obtain ⟨z, hz, rfl⟩ := Option.map_eq_some_iff.1 hr
      obtain ⟨u, hrun, hv⟩ := loadA_run (P := P) hT H hz (ev_VR he hx)
      exact same hrun hv
    · simp at hr
  case store t a x =>
    split at hr
    · rename_i p y hp hy
      obtain ⟨h2, hs, rfl⟩ := Option.map_eq_some_iff.1 hr
      obtain ⟨w', hrun, H'⟩ := storeA_run (P := P) hT H hs (ev_VR he hp) (ev_VR he hy)
      exact ⟨ρ, undef, w', .skip, by simp [execOp, hrun], .inr ⟨rfl, rfl⟩, Ext.refl _, H', undef_VR⟩
    · simp at hr
  case nilCheck x =>
    have key : ∀ {v : AV} {u : Value}, A.eval x = u → VR w0 ρ v u → (∀ (s : Sem Next), True) → (match u with
        | .pointer none | .nilIface | .nilFunc => False
        | .func (.method _) _ _ => False
        | _ => True) → Res P w0 ρ (execOp A.eval ⟨dst, .nilCheck x, type, pos, after, guard⟩) w v h := by
      intro v u hu hv _ hm
      refine ⟨ρ, u, w, .value u, ?_, .inl rfl, Ext.refl _, H, hv⟩
      simp only [execOp, hu]
      cases hv <;> first | rfl | exact hm.elim
    split at hr
    · rename_i a ha
      simp at hr; subst hr
      have hv := ev_VR he ha
      refine key rfl hv (fun _ => trivial) ?_
      generalize A.eval x = u at hv
      cases hv; trivial
    · rename_i ro o' ha
      simp at hr; subst hr
      have hv := ev_VR he ha
      refine key rfl hv (fun _ => trivial) ?_
      generalize A.eval x = u at hv
      cases hv; trivial
    · rename_i f c ha
      simp at hr; subst hr
      have hv := ev_VR he ha
      refine key rfl hv (fun _ => trivial) ?_
      generalize A.eval x = u at hv
      cases hv; trivial
    · rename_i l ha
      simp at hr; subst hr
      have hv := ev_VR he ha
      refine key rfl hv (fun _ => trivial) ?_
      generalize A.eval x = u at hv
      cases hv; trivial
    · simp at hr
  case binOp op t x y yt =>
    split at hr
    · rename_i a b ha hb
      obtain ⟨z, hz, rfl⟩ := Option.map_eq_some_iff.1 hr
      obtain ⟨u, hrun, hv⟩ := binA_run (P := P) (w := w) (xo := x) (yo := y) hT hz (ev_VR he ha) (ev_VR he hb)
      exact same hrun hv
    · simp at hr
  case unOp op t x =>
    split at hr
    · rename_i a ha
      obtain ⟨z, hz, rfl⟩ := Option.map_eq_some_iff.1 hr
      obtain ⟨u, hrun, hv⟩ := unA_run (P := P) (w := w) hz (ev_VR he ha)
      exact same hrun hv
    · simp at hr
  case convert src dst' x =>
    split at hr
    · rename_i a ha
      obtain ⟨⟨z, h2⟩, hz, rfl⟩ := Option.map_eq_some_iff.1 hr
      obtain ⟨ρ', u, w', h1, h2, h3, h4⟩ := convA_run (P := P) hT H hz (ev_VR he ha)
      exact mem ⟨ρ', u, w', h1, h2, h3, h4⟩
    · simp at hr
  case makeFunc fn first cap =>
    cases fn <;> simp only at hr <;> try (simp at hr; done)
    case func f =>
      split at hr
      · rename_i h0
        obtain ⟨z, hz, rfl⟩ := Option.map_eq_some_iff.1 hr
        obtain ⟨l, hl, rfl⟩ := Option.map_eq_some_iff.1 hz
        have hv := evs_VR he hl
        refine same (s := Instr.makeFunc (.func f) (first.map A.eval) (cap.map A.eval)) (u := .func (.func f) #[] (cap.toList.map A.eval).toArray) ?_ (.func _ _ _ hv)
        have e1 : first.map A.eval = #[] := by
          have : first = #[] := Array.eq_empty_of_size_eq_zero h0
          rw [this]; simp
        have e2 : cap.map A.eval = (cap.toList.map A.eval).toArray := by apply Array.ext'; simp
        simp only [Instr.makeFunc, e1, e2, Sem.run_pure]
      · simp at hr
  case makeSlice t l c =>
    split at hr
    · rename_i el k n k' m hdd hn hm
      split at hr
      · rename_i hc
        obtain ⟨hok, c1, c2, c3, c4, hzl⟩ := hc
        simp at hr; subst hr
        obtain ⟨i, zz, hi, hz, hv, h1, hsz, hby⟩ := zero_VRs (P := P) (w0 := w0) (ρ := ρ) hT (okT_ne hok)
        have hzc : zz.cells.size = (T el).size := by rw [← hzl, hv.length]; simp
        have hrep := rep_VRs hv m.toNat (m.toNat * (T el).size) (by rw [hzc])
        obtain ⟨ρ', hx, hp, H'⟩ := H.pushCells hrep (rep_one h1 m.toNat) [] el (0, 0) (noFreeze_00 _)
        have vn := ev_VR he hn
        have vm := ev_VR he hm
        refine mem ⟨ρ', .slice (some ⟨w.heap.size, 0, none⟩) n.toNat m.toNat, _, ?_, hx, H', ?_⟩
        · generalize A.eval l = ul at vn
          generalize A.eval c = uc at vm
          cases vn
          cases vm
          have w1 : IntKind.i64.wrap n = n := wrap64_of (by omega) (by omega)
          have w2 : IntKind.i64.wrap m = m := wrap64_of (by omega) (by omega)
          have n1 : ¬ ((m < 0 ∨ 2 ^ 48 < ((T el).bytes : Int) * m) ∨ n < 0) := by omega
          have n2 : ¬ (m < n) := by omega
          by_cases h0 : m.toNat * (T el).size = 0
          · have r0 : ∀ f : Nat → Value, (Array.range 0).map f = #[] := fun f => by apply Array.eq_empty_of_size_eq_zero; simp
            simp [Instr.makeSlice, run_und (und_slice hT hdd), asInt, asIntOf, run_ti hi, run_size hi, hsz, hby, w1, w2, n1, n2, h0, newRow, r0]
            intro hk
            exact absurd hk (by omega)
          · simp [Instr.makeSlice, run_und (und_slice hT hdd), asInt, asIntOf, run_ti hi, run_size hi, run_zero hi hz, hsz, hby, w1, w2, n1, n2, h0, newRow]
            rw [if_neg (by omega)]
            congr 3
            apply Array.ext'
            simp
        · refine VR.slice h.size 0 n.toNat m.toNat (T el).size true _ m.toNat hp (by omega) (Nat.le_refl _) (fun _ => rfl) ?_
          simp
      · simp at hr
    · simp at hr
  case slice t x lo hi mx =>
    split at hr
    · rename_i a l h1 m ha hl hh hm
      split at hr
      · rename_i l' h1' m' hl' hh' hm'
        obtain ⟨z, hz, rfl⟩ := Option.map_eq_some_iff.1 hr
        obtain ⟨u, hrun, hv⟩ := sliceA_run (P := P) (w := w) hT hz (ev_VR he ha) (oi_of he hl hl') (oi_of he hh hh') (oi_of he hm hm')
        exact same hrun hv
      · simp at hr
    · simp at hr
  case fieldAddr s x f =>
    split at hr
    · rename_i fs p hdd hp
      split at hr
      · rename_i ft off c hf
        split at hr
        · simp at hr
        · rename_i hsz0
          split at hr
          · simp at hr
          · rename_i hne
            obtain ⟨d, hu, hd⟩ := und_of hT (t := s) (by rw [hdd]; simp)
            obtain ⟨fa, rfl, hfs⟩ := tdOf_struct (hd.trans hdd)
            obtain ⟨ti, _, _, hti, _, _, hts, _⟩ := hT.get (fun e => hne e)
            have hfa : ∃ fl : Field, fa[f]? = some fl ∧ fl.type = ft ∧ fl.offset = off := by
              rw [hfs] at hf
              simp at hf
              obtain ⟨fl, h1, h2, h3, _⟩ := hf
              exact ⟨fl, h1, h2, h3⟩
            obtain ⟨fl, hfl, rfl, rfl⟩ := hfa
            have hv := ev_VR he hp
            have key : ∀ (b o : Nat), A.eval x = .pointer (some ⟨b, o, none⟩) → (Instr.fieldAt s (A.eval x) f).run P w = .ok (.pointer (some ⟨b, o + fl.offset, none⟩)) w := by
              intro b o hxe
              have n1 : ¬ ti.size = 0 := by rw [hts]; exact hsz0
              simp [Instr.fieldAt, run_und hu, hfl, hxe, Instr.sureAddr, fieldPlace, run_size hti, n1, add_none]
            split at hr
            · simp at hr; subst hr
              generalize hxe : A.eval x = u at hv
              cases hv with
              | ptr _ _ p hpp => exact same (key _ _ hxe) (by rw [Nat.add_assoc]; exact .ptr _ _ p hpp)
            · simp at hr; subst hr
              generalize hxe : A.eval x = u at hv
              cases hv with
              | iptr _ _ b s' vs hvs hc => exact same (key _ _ hxe) (by rw [Nat.add_assoc]; exact .iptr _ _ b s' vs hvs hc)
            · simp at hr
      · simp at hr
    · simp at hr
  case field t x f =>
    split at hr
    · rename_i fs cs hdd hp
      split at hr
      · rename_i ft off c hf
        obtain ⟨z, hz, rfl⟩ := Option.map_eq_some_iff.1 hr
        obtain ⟨d, hu, hd⟩ := und_of hT (t := t) (by rw [hdd]; simp)
        obtain ⟨fa, rfl, hfs⟩ := tdOf_struct (hd.trans hdd)
        have hfa : ∃ fl : Field, fa[f]? = some fl ∧ fl.type = ft ∧ fl.offset = off := by
          rw [hfs] at hf
          simp at hf
          obtain ⟨fl, h1, h2, h3, _⟩ := hf
          exact ⟨fl, h1, h2, h3⟩
        obtain ⟨fl, hfl, rfl, rfl⟩ := hfa
        have hv := ev_VR he hp
        generalize hxe : A.eval x = u at hv
        cases hv with
        | agg _ vs hvs =>
          obtain ⟨u, hrun, hvr⟩ := partA_run (P := P) (w := w) hT hz hvs
          exact same (s := Instr.field t (A.eval x) f) (by simp [Instr.field, run_und hu, hfl, hxe, asAgg, hrun]) hvr
      · simp at hr
    · simp at hr
  case indexAddr t x ix =>
    split at hr
    · rename_i el i o len cap sz ex k n hdd hx hi
      split at hr
      · rename_i hc
        obtain ⟨hok, c1, c2, c3⟩ := hc
        simp at hr; subst hr
        obtain ⟨ti, _, _, hti, _, _, hts, _⟩ := hT.get (okT_ne hok)
        have hv := ev_VR he hx
        have vi := ev_VR he hi
        generalize hxe : A.eval x = u at hv
        generalize hie : A.eval ix = ui at vi
        cases vi
        cases hv with
        | sliceE => omega
        | slice _ _ _ _ _ _ p cap' hp h1 h2 h3 h4 =>
          refine same (s := Instr.indexAt t (A.eval x) (A.eval ix)) (u := .pointer (some ⟨p.r, p.s + o + n.toNat * sz, none⟩)) ?_ (by rw [Nat.add_assoc]; exact .ptr _ _ p hp)
          simp [Instr.indexAt, run_und (und_slice hT hdd), hxe, hie, asIntOf, c1, c2, run_size hti, hts, add_none, c3]
      · simp at hr
    · rename_i el row off len cap sz k n hdd hx hi
      split at hr
      · rename_i hc
        obtain ⟨hok, c1, c2, c3, c4⟩ := hc
        simp at hr; subst hr
        obtain ⟨ti, _, _, hti, _, _, hts, _⟩ := hT.get (okT_ne hok)
        have hv := ev_VR he hx
        have vi := ev_VR he hi
        generalize hxe : A.eval x = u at hv
        generalize hie : A.eval ix = ui at vi
        cases vi
        cases hv with
        | isliceE => omega
        | islice _ _ _ _ _ b s' vs hvs hcell h1 =>
          refine same (s := Instr.indexAt t (A.eval x) (A.eval ix)) (u := .pointer (some ⟨b, s' + off + n.toNat * sz, none⟩)) ?_ (by rw [Nat.add_assoc]; exact .iptr _ _ b s' vs hvs hcell)
          simp [Instr.indexAt, run_und (und_slice hT hdd), hxe, hie, asIntOf, c1, c2, run_size hti, hts, add_none, c4]
      · simp at hr
    · rename_i len el i o k n hdd hx hi
      split at hr
      · rename_i hc
        obtain ⟨hok, c1, c2⟩ := hc
        simp at hr; subst hr
        obtain ⟨ti, _, _, hti, _, _, hts, _⟩ := hT.get (okT_ne hok)
        obtain ⟨d, hu, hd⟩ := und_of hT (t := t) (by rw [hdd]; simp)
        have hda := tdOf_array (hd.trans hdd)
        subst hda
        have hv := ev_VR he hx
        have vi := ev_VR he hi
        generalize hxe : A.eval x = u at hv
        generalize hie : A.eval ix = ui at vi
        cases vi
        cases hv with
        | ptr _ _ p hp =>
          refine same (s := Instr.indexAt t (A.eval x) (A.eval ix)) (u := .pointer (some ⟨p.r, p.s + o + n.toNat * (T el).size, none⟩)) ?_ (by rw [Nat.add_assoc]; exact .ptr _ _ p hp)
          simp [Instr.indexAt, run_und hu, hxe, hie, asIntOf, c1, c2, run_size hti, hts, add_none, Instr.sureAddr]
      · simp at hr
    · simp at hr
  case index t x ix =>
    split at hr
    · rename_i s k n hdd hx hi
      split at hr
      · rename_i c1
        split at hr
        · rename_i b hb
          simp at hr; subst hr
          have hv := ev_VR he hx
          have vi := ev_VR he hi
          generalize hxe : A.eval x = u at hv
          generalize hie : A.eval ix = ui at vi
          cases vi
          cases hv
          have hg : (⟨s.toArray⟩ : ByteArray)[n.toNat]? = some b := by
            have hlt : n.toNat < s.length := (List.getElem?_eq_some_iff.1 hb).1
            have hlt' : n.toNat < (⟨s.toArray⟩ : ByteArray).size := by simpa [ByteArray.size] using hlt
            have h3 := (List.getElem?_eq_some_iff.1 hb).2
            have h4 := getElem?_pos (⟨s.toArray⟩ : ByteArray) n.toNat hlt'
            rw [h4, ← h3]
            rfl
          exact same (s := Instr.index t (A.eval x) (A.eval ix)) (by simp [Instr.index, run_und (und_string hT hdd), hxe, hie, asIntOf, c1, hg]) (.int _ _)
        · simp at hr
      · simp at hr
    · rename_i len el cs k n hdd hx hi
      split at hr
      · rename_i hc
        obtain ⟨hok, c1, c2⟩ := hc
        obtain ⟨z, hz, rfl⟩ := Option.map_eq_some_iff.1 hr
        obtain ⟨ti, _, _, hti, _, _, hts, _⟩ := hT.get (okT_ne hok)
        obtain ⟨d, hu, hd⟩ := und_of hT (t := t) (by rw [hdd]; simp)
        have hda := tdOf_array (hd.trans hdd)
        subst hda
        have hv := ev_VR he hx
        have vi := ev_VR he hi
        generalize hxe : A.eval x = u at hv
        generalize hie : A.eval ix = ui at vi
        cases vi
        cases hv with
        | agg _ vs hvs =>
          obtain ⟨u, hrun, hvr⟩ := partA_run (P := P) (w := w) hT hz hvs
          exact same (s := Instr.index t (A.eval x) (A.eval ix)) (by simp [Instr.index, run_und hu, hxe, hie, asIntOf, c1, c2, run_size hti, hts, hrun]) hvr
      · simp at hr
    · simp at hr
  case extract t ix =>
    split at hr
    · rename_i vs hx
      obtain ⟨z, hz, rfl⟩ := Option.map_eq_some_iff.1 hr
      have hv := ev_VR he hx
      generalize hxe : A.eval t = u at hv
      cases hv with
      | tuple _ us hus =>
        obtain ⟨u, hu, hvr⟩ := hus.get hz
        exact same (s := Instr.extract (A.eval t) ix) (by simp [Instr.extract, hxe, hu]) hvr
    · simp at hr
  case call c =>
    obtain ⟨callee, args, ats⟩ := c
    have e1 : (args.map A.eval) = (args.toList.map A.eval).toArray := by apply Array.ext'; simp
    cases callee with
    | invoke r m => simp at hr
    | builtin b =>
      simp only at hr
      cases has : evs e args.toList with
      | none => simp [has] at hr
      | some as =>
        rw [has] at hr
        have hvs := evs_VR he has
        obtain ⟨⟨z, h2⟩, hz, rfl⟩ := Option.map_eq_some_iff.1 hr
        obtain ⟨ρ', u, w', h1, h2', h3, h4⟩ := builtinA_run (P := P) (ty := type) hT H hz hvs
        refine ⟨ρ', u, w', .value u, ?_, .inl rfl, h2', h3, h4⟩
        simp only [execOp, resolve, Sem.run_bind, Sem.run_pure, Result.andThen_ok, invoke, e1]
        simpa using h1 _
    | value f =>
      simp only at hr
      cases has : evs e args.toList with
      | none => simp [has] at hr
      | some as =>
        rw [has] at hr
        have hvs := evs_VR he has
        simp only at hr
        split at hr
        · rename_i g cap hf
          simp at hr; subst hr
          have hv := ev_VR he hf
          generalize hxe : A.eval f = u at hv
          cases hv with
          | func _ _ cv hcv =>
            refine ⟨args.toList.map A.eval ++ cv, hvs.append hcv, ?_⟩
            simp only [execOp, resolve, hxe, Deferred.ofValue, Sem.run_bind, Sem.run_pure, Result.andThen_ok, invoke, e1]
            simp
        · rename_i l hf
          simp at hr; subst hr
          have hv := ev_VR he hf
          generalize hxe : A.eval f = u at hv
          cases hv with
          | yield _ p hp =>
            refine ⟨args.toList.map A.eval, p, hp, hvs, ?_⟩
            simp only [execOp, resolve, hxe, Deferred.ofValue, Sem.run_bind, Sem.run_pure, Result.andThen_ok, invoke, e1]
            simp
        · simp at hr
end ops
end Go.Abs
end

section
/- Control: the abstract machine's run of code is the model's walk of it (regions that draw are taken as a hypothesis here). -/
set_option linter.unusedSimpArgs false
set_option linter.unusedVariables false
namespace Go.Abs
open Go.RowKit
section ctl
variable {P : Program} {T : Tys} {w0 w : World} {ρ : Rho} {h h' : AH}

/-- The fence that lets all in; in a round of the record rd. -/
def FW (rd : Option Nat) : Fence := { Fence.wide with round := rd }
theorem FW_fn (rd : Option Nat) (f : FuncId) : (FW rd).fn f := trivial
theorem FW_depth (rd : Option Nat) (n : Nat) : (FW rd).depth.isSome = true → 1 ≤ n := fun h => by simp [FW, Fence.wide] at h
theorem FW_room (rd : Option Nat) (n : Nat) : (FW rd).room n := fun _ h => by simp [FW, Fence.wide] at h

/-- A call's end. -/
def Ret (w0 : World) (ρ : Rho) (v : AV) (h' : AH) : Ending → World → Prop := fun e w' => ∃ ρ' u, e = .returned u ∧ Ext ρ ρ' ∧ WR w0 ρ' h' w' ∧ VR w0 ρ' v u
structure SysOk (P : Program) (w0 : World) (S : Sys) : Prop where
  body : ∀ f args h v h', S.call f args h = some (v, h') → (∃ fn c, P.funcs[f]? = some fn ∧ fn.body = some c) ∨ ((∃ s c, args = [.str s, .int .u8 c]) ∧ h' = h ∧ ∀ (us : List Value) (ρ : Rho) (w : World), VRs w0 ρ args us → ∃ u, (callFunc f us.toArray).run P w = .ok (.value u) w ∧ VR w0 ρ v u)
  call : ∀ f args h v h', S.call f args h = some (v, h') → (∃ fn c, P.funcs[f]? = some fn ∧ fn.body = some c) → ∀ ρ w us n, WR w0 ρ h w → VRs w0 ρ args us → CallsIn (FW none) n P f us.toArray w (Ret w0 ρ v h')
  yield : ∀ l args h v h', S.yield l args h = some (v, h') → ∀ ρ w us p n, ρ l = some p → WR w0 ρ h w → VRs w0 ρ args us →
    ∃ fn tmps assign body, (Instr.yield p.r us.toArray).run P w = .ok (.round p.r fn tmps assign body) w ∧ RoundIn (FW none) n P p.r fn tmps assign body w (Ret w0 ρ v h')
theorem calls_rd {rd : Option Nat} {n : Nat} {f : FuncId} {args : Array Value} {R : Ending → World → Prop} (h : CallsIn (FW none) n P f args w R) : CallsIn (FW rd) n P f args w R := h
theorem round_rd {rd : Option Nat} {n l : Nat} {f : FuncId} {tmps : Array Value} {as bo : Code} {R : Ending → World → Prop} (h : RoundIn (FW none) n P l f tmps as bo w R) : RoundIn (FW rd) n P l f tmps as bo w R := h

theorem evalOp_noDefer {e : Env} {o : Oper} {r : OpR} (hr : evalOp T e o h = some r) : ∀ c, o.op ≠ .defer c := by
  intro c hc
  obtain ⟨dst, op, type, pos, after, guard⟩ := o
  simp only at hc
  subst hc
  simp [evalOp] at hr

/-- One operation. -/
theorem op_wp {S : Sys} {rd : Option Nat} {n : Nat} {e : Env} {A : Act} {o : Oper} {v : AV} {Q : Exit → Act → World → Prop} {next : Act → World → Prop} (hT : TOk P T) (hF : FOk P) (hS : SysOk P w0 S)
    (hr : stepOp T S e o h = some (v, h')) (H : WR w0 ρ h w) (he : EnvR w0 ρ e A.tmps)
    (hk : ∀ ρ' u w', Ext ρ ρ' → WR w0 ρ' h' w' → VR w0 ρ' v u → next (A.put o.dst u) w') : o.wpIn (FW rd) n P A w next Q := by
  refine ⟨fun f _ => trivial, ?_⟩
  unfold stepOp at hr
  split at hr
  · rename_i v' h'' hev
    simp at hr; obtain ⟨rfl, rfl⟩ := hr
    rw [Oper.semAt_eq _ _ _ (evalOp_noDefer hev)]
    obtain ⟨ρ', u, w', nx, hrun, hnx, hx, H', hv⟩ := evalOp_sound (P := P) hT hF H he hev
    rw [hrun]
    rcases hnx with rfl | ⟨rfl, rfl⟩
    · exact hk ρ' u w' hx H' hv
    · exact hk ρ' undef w' hx H' hv
  · rename_i f args hev
    rw [Oper.semAt_eq _ _ _ (evalOp_noDefer hev)]
    obtain ⟨us, hus, hrun⟩ := evalOp_sound (P := P) hT hF H he hev
    rcases hS.body _ _ _ _ _ hr with ⟨fn, c, h1, h2⟩ | ⟨_, rfl, hx⟩
    · have hname := hF f fn h1
      have hrun2 : (callFunc f us.toArray).run P w = .ok (.enter f us.toArray) w := by
        simp only [callFunc, Sem.run_bind, run_program, Result.andThen_ok, h1, hname, h2]
        simp
      rw [hrun, hrun2]
      refine ⟨FW_depth rd n, (calls_rd (hS.call _ _ _ _ _ hr ⟨fn, c, h1, h2⟩ ρ w us (n - 1) H hus)).mono ?_⟩
      rintro e w' ⟨ρ', u, rfl, hx, H', hv⟩
      exact hk ρ' u w' hx H' hv
    · obtain ⟨u, hu, hv⟩ := hx us ρ w hus
      rw [hrun, hu]
      exact hk ρ u w (Ext.refl _) H hv
  · rename_i l args hev
    rw [Oper.semAt_eq _ _ _ (evalOp_noDefer hev)]
    obtain ⟨us, p, hp, hus, hrun⟩ := evalOp_sound (P := P) hT hF H he hev
    obtain ⟨fn, tmps, as, bo, hy, hR⟩ := hS.yield _ _ _ _ _ hr ρ w us p (n - 1) hp H hus
    rw [hrun, hy]
    refine ⟨FW_depth rd n, (round_rd hR).mono ?_⟩
    rintro e w' ⟨ρ', u, rfl, hx, H', hv⟩
    exact hk ρ' u w' hx H' hv
  · simp at hr

theorem wanted_eq {ops : Array Oper} {o : Oper} {tm : Tm} {ts : Array Value} (h : TmR w0 ρ tm ts) : Region.wanted o (yielded ops ts) = wantedA ops o tm := by
  unfold Region.wanted wantedA
  cases o.guard with
  | none => rfl
  | some g =>
    obtain ⟨j, want⟩ := g
    simp only [yielded]
    cases hd : (ops[j]?).bind (·.dst) with
    | none => rfl
    | some d =>
      simp only [Option.bind_some]
      have hv := h.2 d
      by_cases hlt : d < ts.size
      · have e1 : ts[d]? = some ts[d] := by simp [hlt]
        have e2 : ts.getD d undef = ts[d] := by simp [Array.getD, hlt]
        rw [e2] at hv
        rw [e1]
        generalize ts[d] = u at hv
        generalize tm.get d = a at hv
        cases hv <;> rfl
      · have e1 : ts[d]? = none := Array.getElem?_eq_none (Nat.le_of_not_lt hlt)
        have e2 : ts.getD d undef = undef := by simp [Array.getD, hlt]
        rw [e2] at hv
        rw [e1]
        generalize tm.get d = a at hv
        unfold undef at hv
        cases hv <;> rfl

theorem regStep_wp {S : Sys} {rd : Option Nat} {n : Nat} {ops : Array Oper} {i : Nat} {tm tm' : Tm} {A : Act} {Q : Exit → Act → World → Prop} {K : Act → World → Prop} (hT : TOk P T) (hF : FOk P) (hS : SysOk P w0 S)
    (hr : regStep T S ops i tm h = some (tm', h')) (H : WR w0 ρ h w) (ht : TmR w0 ρ tm A.tmps)
    (hk : ∀ ρ' A' w', Ext ρ ρ' → WR w0 ρ' h' w' → TmR w0 ρ' tm' A'.tmps → A'.defers = A.defers → K A' w') : wpOpIn (FW rd) n P ops Q i K A w := by
  unfold regStep at hr
  unfold wpOpIn
  cases ho : ops[i]? with
  | none => simp [ho] at hr
  | some o =>
    simp only [ho] at hr ⊢
    rw [wanted_eq ht]
    split at hr
    · rename_i hw
      rw [if_pos hw]
      split at hr
      · simp at hr
      · rename_i v h2 hst
        obtain ⟨tm2, hput, hz⟩ := Option.map_eq_some_iff.1 hr
        simp at hz; obtain ⟨rfl, rfl⟩ := hz
        refine op_wp hT hF hS hst H ht.2 fun ρ' u w' hx H' hv => hk ρ' _ w' hx H' ((ht.ext hx).put (A := A) hput hv) ?_
        cases o.dst <;> rfl
    · rename_i hw
      rw [if_neg hw]
      obtain ⟨tm2, hput, hz⟩ := Option.map_eq_some_iff.1 hr
      simp at hz; obtain ⟨rfl, rfl⟩ := hz
      refine ⟨fun f _ => trivial, hk ρ _ w (Ext.refl _) H (ht.put (A := A) hput undef_VR) ?_⟩
      cases o.dst <;> rfl

theorem regRun_wp {S : Sys} {rd : Option Nat} {n : Nat} {ops : Array Oper} {Q : Exit → Act → World → Prop} (hT : TOk P T) (hF : FOk P) (hS : SysOk P w0 S) : ∀ (l : List Nat) {ρ : Rho} {h : AH} {w : World} {tm tm' : Tm} {A : Act},
    regRun T S ops l tm h = some (tm', h') → WR w0 ρ h w → TmR w0 ρ tm A.tmps → (∀ ρ' A' w', Ext ρ ρ' → WR w0 ρ' h' w' → TmR w0 ρ' tm' A'.tmps → A'.defers = A.defers → Q .normal A' w') → wpOpsIn (FW rd) n P ops Q l A w
  | [], ρ, h, w, tm, tm', A, hr, H, ht, hk => by
    simp [regRun] at hr; obtain ⟨rfl, rfl⟩ := hr
    exact hk ρ A w (Ext.refl _) H ht rfl
  | i :: l, ρ, h, w, tm, tm', A, hr, H, ht, hk => by
    simp only [regRun] at hr
    split at hr
    · simp at hr
    · rename_i tm1 h1 hst
      rw [wpOpsIn_cons]
      refine regStep_wp hT hF hS hst H ht fun ρ' A' w' hx H' ht' hd => ?_
      exact regRun_wp hT hF hS l hr H' ht' fun ρ2 A2 w2 hx2 H2 ht2 hd2 => hk ρ2 A2 w2 (hx.trans hx2) H2 ht2 (hd2.trans hd)

/-- What is owed of a region that draws. -/
def DrawOk (P : Program) (T : Tys) (w0 : World) (S : Sys) : Prop := ∀ (rd : Option Nat) (n : Nat) (id : Nat) (ops : Array Oper) (Q : Exit → Act → World → Prop) (ρ : Rho) (h h' : AH) (w : World) (tm tm' : Tm) (A : Act),
  regDraw T S ops tm h = some (tm', h') → WR w0 ρ h w → TmR w0 ρ tm A.tmps → (∀ ρ' A' w', Ext ρ ρ' → WR w0 ρ' h' w' → TmR w0 ρ' tm' A'.tmps → A'.defers = A.defers → Q .normal A' w') → (Code.region id ops true).wpIn (FW rd) n P Q A w

/-! ### Code -/
def Ex.toExit : Ex → Exit
  | .normal => .normal
  | .exit id => .exit id
  | .goto l => .goto l
  | .ret => .ret
def MarksR (ρ : Rho) : List Nat → List Deferred → Prop
  | [], [] => True
  | i :: m, d :: ds => (∃ p, ρ i = some p ∧ d = { target := .collected p.r, args := #[] }) ∧ MarksR ρ m ds
  | _, _ => False
theorem MarksR.ext {ρ ρ' : Rho} (hx : Ext ρ ρ') : ∀ {m : List Nat} {ds : List Deferred}, MarksR ρ m ds → MarksR ρ' m ds
  | [], [], _ => trivial
  | i :: m, d :: ds, ⟨⟨p, hp, hd⟩, h⟩ => ⟨⟨p, hx _ _ hp, hd⟩, h.ext hx⟩
theorem MarksR.append {ρ : Rho} : ∀ {m m' : List Nat} {ds ds' : List Deferred}, MarksR ρ m ds → MarksR ρ m' ds' → MarksR ρ (m ++ m') (ds ++ ds')
  | [], _, [], _, _, h => h
  | i :: m, _, d :: ds, _, ⟨hd, h⟩, k => ⟨hd, h.append k⟩
structure StR (w0 : World) (ρ : Rho) (s : St) (A : Act) (w : World) : Prop where
  h : WR w0 ρ s.h w
  tm : TmR w0 ρ s.tm A.tmps
  marks : MarksR ρ s.marks A.defers
/-- The real number of the round's record. -/
def RdR (ρ : Rho) : Option Nat → Option Nat → Prop
  | none, none => True
  | some l, some r => ∃ p, ρ l = some p ∧ p.r = r
  | _, _ => False
theorem RdR.ext {ρ ρ' : Rho} (hx : Ext ρ ρ') {a b : Option Nat} (h : RdR ρ a b) : RdR ρ' a b := by
  cases a <;> cases b <;> first | exact h | (obtain ⟨p, hp, hr⟩ := h; exact ⟨p, hx _ _ hp, hr⟩)
def Out (w0 : World) (ρ : Rho) (e : Ex) (s' : St) (Q : Exit → Act → World → Prop) : Prop := ∀ ρ' A' w', Ext ρ ρ' → StR w0 ρ' s' A' w' → Q e.toExit A' w'
theorem Out.ext {w0 : World} {ρ ρ' : Rho} {e : Ex} {s' : St} {Q : Exit → Act → World → Prop} (h : Out w0 ρ e s' Q) (hx : Ext ρ ρ') : Out w0 ρ' e s' Q := fun ρ2 A w hx2 hs => h ρ2 A w (hx.trans hx2) hs

section more
variable {b : Frame} {a : Act} {k : List Item} {cs : List Frame}
theorem stepR_scope {c : Code} : step P (lone (b.atR a (.code (.scope c) :: k)) cs w) = .next (lone (b.atR a (.code c :: .inScope c :: k)) cs w) :=
  step_lone_go (by simp [stepG, stepG.exec, Frame.atR])
theorem stepR_inScope {c : Code} : step P (lone (b.atR a (.inScope c :: k)) cs w) = .next (lone (b.atR a k) cs w) :=
  step_lone_go (by simp [stepG, stepG.exec, Frame.atR])
end more
theorem wpIn_scope {rd : Option Nat} {n : Nat} {c : Code} {Q : Exit → Act → World → Prop} {a : Act} (h : c.wpIn (FW rd) n P (fun e a w => (∀ l, e ≠ .goto l) ∧ Q e a w) a w) : (Code.scope c).wpIn (FW rd) n P Q a w := by
  intro b k cs hro hb hr
  have h0 : (lone (b.atR a (.code (.scope c) :: k)) cs w).fenced P (FW rd) := fenced_calm hb hr rfl
  obtain ⟨e, a₁, w₁, ⟨hg, hq⟩, harr⟩ := h b (.inScope c :: k) cs hro hb hr
  cases e with
  | normal => exact ⟨.normal, a₁, w₁, hq, .head h0 stepR_scope (StepsIn.trans harr (.one (fenced_calm hb hr rfl) stepR_inScope))⟩
  | exit id =>
    have hx : exitTo id (.inScope c :: k) = exitTo id k := by simp [exitTo]
    exact ⟨.exit id, a₁, w₁, hq, fun k' hk => .head h0 stepR_scope (harr.1 k' (by rw [hx]; exact hk)),
      fun hr' hk => let ⟨k₁, h1, h2⟩ := harr.2 hr' (by rw [hx]; exact hk); ⟨k₁, h1, .head h0 stepR_scope h2⟩⟩
  | goto l => exact absurd rfl (hg l)
  | ret => exact ⟨_, a₁, w₁, hq, .of_steps (.one h0 stepR_scope) harr⟩
  | panic ch => exact ⟨_, a₁, w₁, hq, .of_steps (.one h0 stepR_scope) harr⟩
  | outgrown => exact ⟨_, a₁, w₁, hq, .of_steps (.one h0 stepR_scope) harr⟩

/-- A loop, round by round. -/
theorem loop_wp {rd : Option Nat} {n : Nat} {c : Code} {Q : Exit → Act → World → Prop} (B : St → Option (Ex × St)) (ρ0 : Rho) {s' : St} {e : Ex}
    (hB : ∀ s1 e1 s2 ρ A w Q', B s1 = some (e1, s2) → Ext ρ0 ρ → StR w0 ρ s1 A w → Out w0 ρ e1 s2 Q' → c.wpIn (FW rd) n P Q' A w) (hQ : Out w0 ρ0 e s' Q) :
    ∀ (j : Nat) (s : St) (ρ : Rho) (A : Act) (w : World), loopA j B s = some (e, s') → Ext ρ0 ρ → StR w0 ρ s A w →
      ∀ (b : Frame) (k : List Item) (cs : List Frame), b.roundOf = (FW rd).round → (FW rd).fn b.fn → (FW rd).room (cs.length + 1 + n) →
      ∃ E a' w', Q E a' w' ∧ ArrivesIn (Machine.fenced P (FW rd)) P (lone (b.atR A (.code c :: .inLoop c :: k)) cs w) b k cs E a' w' := by
  intro j
  induction j with
  | zero => intro s ρ A w hr; simp [loopA] at hr
  | succ j ih =>
    intro s ρ A w hr hx0 hs b k cs hro hb hroom
    simp only [loopA] at hr
    split at hr
    · rename_i s1 hst
      obtain ⟨E, a₁, w₁, ⟨hE, ρ1, hx1, hs1⟩, harr⟩ := hB s .normal s1 ρ A w (fun E a' w' => E = .normal ∧ ∃ ρ', Ext ρ ρ' ∧ StR w0 ρ' s1 a' w') hst hx0 hs (fun ρ' A' w' hx' hs' => ⟨rfl, ρ', hx', hs'⟩) b (.inLoop c :: k) cs hro hb hroom
      subst hE
      obtain ⟨E2, a₂, w₂, hq, harr2⟩ := ih s1 ρ1 a₁ w₁ hr (hx0.trans hx1) hs1 b k cs hro hb hroom
      exact ⟨E2, a₂, w₂, hq, .of_steps (StepsIn.trans harr (.one (fenced_calm hb hroom rfl) stepR_inLoop)) harr2⟩
    · rename_i hne
      cases hBs : B s with
      | none => rw [hBs] at hr; simp at hr
      | some p =>
        obtain ⟨e1, s1⟩ := p
        rw [hBs] at hr
        simp at hr
        obtain ⟨rfl, rfl⟩ := hr
        obtain ⟨E, a₁, w₁, ⟨hE, hq⟩, harr⟩ := hB s e1 s1 ρ A w (fun E a' w' => E = e1.toExit ∧ Q E a' w') hBs hx0 hs (fun ρ' A' w' hx' hs' => ⟨rfl, hQ ρ' A' w' (hx0.trans hx') hs'⟩) b (.inLoop c :: k) cs hro hb hroom
        refine ⟨E, a₁, w₁, hq, .pass (x := .inLoop c) rfl (fun _ _ => .inl ?_) harr⟩
        rw [hE]
        intro hn
        cases e1 with
        | normal => exact hne s1 hBs
        | _ => simp [Ex.toExit] at hn
end ctl
end Go.Abs
end

section
/- The abstract machine's run of code is the model's walk of it. -/
set_option linter.unusedSimpArgs false
set_option linter.unusedVariables false
namespace Go.Abs
open Go.RowKit
section ctl
variable {P : Program} {T : Tys} {w0 : World}

theorem run_enterLoop_inner {w : World} {fn : FuncId} {tmps : Array Value} {ps : Array Tmp} {assign body : Code} {r0 : Nat} {L : Loop} (h : w.heap[r0]? = some (.loop L)) :
    (Instr.enterLoop fn tmps ps assign body (some r0)).run P w = .ok (w.heap.size, []) (w.alloc (.loop { state := .ready, pending := none, fn, tmps, params := ps, assign, body, defers := L.defers })) := by
  simp [Instr.enterLoop, run_getLoop h]

theorem WR.pushLoop {ρ : Rho} {h : AH} {w : World} (H : WR w0 ρ h w) {tm : Tm} {ps : Array Nat} {assign body : Code} {A : Act} (ht : TmR w0 ρ tm A.tmps) (fn : FuncId) (df : Nat) :
    ∃ ρ', Ext ρ ρ' ∧ ρ' h.size = some ⟨w.heap.size, 0, 0⟩ ∧ WR w0 ρ' (h.push (.loop .ready none tm ps.toList assign body)) (w.alloc (.loop { state := .ready, pending := none, fn, tmps := A.tmps, params := ps, assign, body, defers := df })) := by
  have hx : Ext ρ (ρ.add h.size ⟨w.heap.size, 0, 0⟩) := Rho.ext_add (H.fresh _ (Nat.le_refl _)).1
  refine ⟨_, hx, Rho.add_same _ _ _, (H.push _ _ 0 ?_).1⟩
  exact .loop _ _ _ _ _ _ _ H.below.size _ (World.alloc_heap_new _ _) rfl rfl (ht.ext hx) (by simp) rfl rfl
theorem WR.pushDefs {ρ : Rho} {h : AH} {w : World} (H : WR w0 ρ h w) : ∃ ρ', Ext ρ ρ' ∧ ρ' h.size = some ⟨w.heap.size, 0, 0⟩ ∧ WR w0 ρ' (h.push (.defs false)) (w.alloc (.deferred (some []))) := by
  refine ⟨_, Rho.ext_add (H.fresh _ (Nat.le_refl _)).1, Rho.add_same _ _ _, (H.push _ _ 0 ?_).1⟩
  exact .defs _ _ H.below.size (World.alloc_heap_new _ _)
theorem WR.loopAt {ρ : Rho} {h : AH} {w : World} (H : WR w0 ρ h w) {i : Nat} {st : LoopState} {pe : Option Code} {tm : Tm} {ps : List Nat} {as bo : Code} (hi : h.get i = some (.loop st pe tm ps as bo)) :
    ∃ p L, ρ i = some p ∧ w0.heap.size ≤ p.r ∧ w.heap[p.r]? = some (.loop L) ∧ L.state = st ∧ L.pending = pe ∧ TmR w0 ρ tm L.tmps ∧ L.params = ps.toArray ∧ L.assign = as ∧ L.body = bo := by
  have := H.obj i _ hi
  generalize hx : ρ i = x at this
  cases this with
  | loop _ _ _ _ _ _ p hB L hb h1 h2 h3 h4 h5 h6 => exact ⟨p, L, rfl, hB, hb, h1, h2, h3, h4, h5, h6⟩
/-- A record, or a block for deferred calls, becomes another; or is looked at no more. -/
theorem WR.setObj {ρ : Rho} {h : AH} {w : World} (H : WR w0 ρ h w) {i : Nat} {o : AO} {p : Pl} (hi : h.get i = some o) (hl : o.live = true) (hp : ρ i = some p) (o' : AO) (b : Obj) (ho : OR w0 ρ (w.putObj p.r b) o' (some p)) :
    WR w0 ρ (h.set i o') (w.putObj p.r b) :=
  H.set hi hl hp (putObj_below _) (fun _ hk => World.putObj_heap_other hk) ho

theorem run_sound {S : Sys} (hT : TOk P T) (hF : FOk P) (hS : SysOk P w0 S) (hD : DrawOk P T w0 S) (fuel : Nat) : ∀ (c : Code) (rd rr : Option Nat) (n : Nat) (ρ : Rho) (s : St) (A : Act) (w : World) (e : Ex) (s' : St) (Q : Exit → Act → World → Prop),
    runCode T S rd fuel c s = some (e, s') → RdR ρ rd rr → StR w0 ρ s A w → Out w0 ρ e s' Q → c.wpIn (FW rr) n P Q A w := by
  intro c
  induction c with
  | skip =>
    intro rd rr n ρ s A w e s' Q hr _ hs hQ
    simp [runCode] at hr; obtain ⟨rfl, rfl⟩ := hr
    exact wpIn_skip (hQ ρ A w (Ext.refl _) hs)
  | label l =>
    intro rd rr n ρ s A w e s' Q hr _ hs hQ
    simp [runCode] at hr; obtain ⟨rfl, rfl⟩ := hr
    exact wpIn_label (hQ ρ A w (Ext.refl _) hs)
  | ret =>
    intro rd rr n ρ s A w e s' Q hr _ hs hQ
    simp [runCode] at hr; obtain ⟨rfl, rfl⟩ := hr
    exact wpIn_ret (hQ ρ A w (Ext.refl _) hs)
  | exit id =>
    intro rd rr n ρ s A w e s' Q hr _ hs hQ
    simp [runCode] at hr; obtain ⟨rfl, rfl⟩ := hr
    exact wpIn_exit (hQ ρ A w (Ext.refl _) hs)
  | goto l =>
    intro rd rr n ρ s A w e s' Q hr _ hs hQ
    simp [runCode] at hr; obtain ⟨rfl, rfl⟩ := hr
    exact wpIn_goto (hQ ρ A w (Ext.refl _) hs)
  | refuse why =>
    intro rd rr n ρ s A w e s' Q hr
    simp [runCode] at hr
  | seq a b iha ihb =>
    intro rd rr n ρ s A w e s' Q hr hrd hs hQ
    simp only [runCode] at hr
    refine wpIn_seq ?_
    split at hr
    · rename_i s1 ha
      refine iha rd rr n ρ s A w .normal s1 _ ha hrd hs ?_
      intro ρ1 A1 w1 hx1 hs1
      exact ihb rd rr n ρ1 s1 A1 w1 e s' Q hr (hrd.ext hx1) hs1 (hQ.ext hx1)
    · rename_i hne
      refine iha rd rr n ρ s A w e s' _ hr hrd hs ?_
      intro ρ1 A1 w1 hx1 hs1
      have := hQ ρ1 A1 w1 hx1 hs1
      cases e with
      | normal => exact absurd hr (hne s')
      | _ => exact this
  | cond c a b iha ihb =>
    intro rd rr n ρ s A w e s' Q hr hrd hs hQ
    simp only [runCode] at hr
    split at hr
    · rename_i t ht
      have hv := ev_VR (A := A) hs.tm.2 ht
      generalize hc : A.eval c = u at hv
      cases hv
      refine wpIn_cond hc ?_
      cases t
      · exact ihb rd rr n ρ s A w e s' Q hr hrd hs hQ
      · exact iha rd rr n ρ s A w e s' Q hr hrd hs hQ
    · simp at hr
  | block id b ih =>
    intro rd rr n ρ s A w e s' Q hr hrd hs hQ
    simp only [runCode] at hr
    refine wpIn_block ?_
    split at hr
    · rename_i id' s1 hb
      refine ih rd rr n ρ s A w (.exit id') s1 _ hb hrd hs ?_
      intro ρ1 A1 w1 hx1 hs1
      simp only [Ex.toExit, Exit.inBlock]
      split at hr
      · rename_i hid
        simp at hr; obtain ⟨rfl, rfl⟩ := hr
        rw [if_pos hid]
        exact hQ ρ1 A1 w1 hx1 hs1
      · rename_i hid
        simp at hr; obtain ⟨rfl, rfl⟩ := hr
        rw [if_neg hid]
        exact hQ ρ1 A1 w1 hx1 hs1
    · rename_i hne
      refine ih rd rr n ρ s A w e s' _ hr hrd hs ?_
      intro ρ1 A1 w1 hx1 hs1
      have := hQ ρ1 A1 w1 hx1 hs1
      cases e with
      | exit id' => exact absurd hr (hne id' s')
      | _ => exact this
  | scope b ih =>
    intro rd rr n ρ s A w e s' Q hr hrd hs hQ
    simp only [runCode] at hr
    refine wpIn_scope ?_
    split at hr
    · simp at hr
    · rename_i hne
      refine ih rd rr n ρ s A w e s' _ hr hrd hs ?_
      intro ρ1 A1 w1 hx1 hs1
      refine ⟨?_, hQ ρ1 A1 w1 hx1 hs1⟩
      intro l
      cases e with
      | goto l' => exact absurd hr (hne l' s')
      | _ => simp [Ex.toExit]
  | loop b ih =>
    intro rd rr n ρ s A w e s' Q hr hrd hs hQ
    simp only [runCode] at hr
    intro fb k cs hro hb hroom
    obtain ⟨E, a', w', hq, harr⟩ := loop_wp (P := P) (rd := rr) (n := n) (c := b) (runCode T S rd fuel b) ρ (fun s1 e1 s2 ρ1 A1 w1 Q' h1 hx1 hs1 hQ1 => ih rd rr n ρ1 s1 A1 w1 e1 s2 Q' h1 (hrd.ext hx1) hs1 hQ1) hQ fuel s ρ A w hr (Ext.refl _) hs fb k cs hro hb hroom
    exact ⟨E, a', w', hq, .of_steps (.one (fenced_calm hb hroom rfl) stepR_loop) harr⟩
  | region id ops draw =>
    intro rd rr n ρ s A w e s' Q hr hrd hs hQ
    simp only [runCode] at hr
    have fin : ∀ tm h, e = .normal → s' = { s with tm, h } → ∀ ρ' A' w', Ext ρ ρ' → WR w0 ρ' h w' → TmR w0 ρ' tm A'.tmps → A'.defers = A.defers → Q .normal A' w' := by
      intro tm h he hs2 ρ' A' w' hx H' ht hd
      subst he; subst hs2
      exact hQ ρ' A' w' hx ⟨H', ht, by rw [hd]; exact hs.marks.ext hx⟩
    cases draw with
    | true =>
      simp only [if_true] at hr
      split at hr
      · rename_i tm h hreg
        simp at hr
        exact hD rr n id ops Q ρ s.h h w s.tm tm A hreg hs.h hs.tm (fin tm h hr.1.symm hr.2.symm)
      · simp at hr
    | false =>
      simp only [Bool.false_eq_true, if_false] at hr
      split at hr
      · rename_i tm h hreg
        simp at hr
        exact wpIn_region (regRun_wp hT hF hS _ hreg hs.h hs.tm (fin tm h hr.1.symm hr.2.symm))
      · simp at hr
  | rangeFunc f ps assign body iha ihb =>
    intro rd rr n ρ s A w e s' Q hr hrd hs hQ
    simp only [runCode] at hr
    split at hr
    · rename_i g cap hf
      have hfv := ev_VR (A := A) hs.tm.2 hf
      split at hr
      · simp at hr
      · rename_i mk h0 hpre
        split at hr
        · simp at hr
        · rename_i v2 h2 hcall
          split at hr
          · rename_i st pending tm' ps' as' bo' hl2
            split at hr
            · simp at hr
            · rename_i hbusy
              refine wpIn_rangeFunc ?_
              intro fn _
              -- the record is laid
              have enter : ∃ (l : Nat) (mark : List Deferred) (w1 : World) (ρ1 : Rho), (Instr.enterLoop fn A.tmps ps assign body rr).run P w = .ok (l, mark) w1 ∧ Ext ρ ρ1 ∧ ρ1 h0.size = some ⟨l, 0, 0⟩ ∧
                  WR w0 ρ1 (h0.push (.loop .ready none s.tm ps.toList assign body)) w1 ∧ MarksR ρ1 mk mark := by
                cases rd with
                | none =>
                  simp only [Option.some.injEq, Prod.mk.injEq] at hpre
                  obtain ⟨rfl, rfl⟩ := hpre
                  cases rr with
                  | some r => exact hrd.elim
                  | none =>
                    obtain ⟨ρa, hxa, hpa, Ha⟩ := hs.h.pushDefs
                    obtain ⟨ρb, hxb, hpb, Hb⟩ := Ha.pushLoop (ps := ps) (assign := assign) (body := body) (hs.tm.ext hxa) fn w.heap.size
                    refine ⟨_, _, _, ρb, run_enterLoop_outer _ _ _ _ _, hxa.trans hxb, ?_, Hb, ?_⟩
                    · rw [hpb]; simp
                    · exact ⟨⟨_, hxb _ _ hpa, rfl⟩, trivial⟩
                | some l0 =>
                  simp only at hpre
                  split at hpre
                  · rename_i hl0
                    simp only [Option.some.injEq, Prod.mk.injEq] at hpre
                    obtain ⟨rfl, rfl⟩ := hpre
                    cases rr with
                    | none => exact hrd.elim
                    | some r =>
                      obtain ⟨p, hp, rfl⟩ := hrd
                      obtain ⟨p', L, hp', hB, hb, _⟩ := hs.h.loopAt hl0
                      rw [hp] at hp'; cases hp'
                      obtain ⟨ρb, hxb, hpb, Hb⟩ := hs.h.pushLoop (ps := ps) (assign := assign) (body := body) hs.tm fn L.defers
                      exact ⟨_, _, _, ρb, run_enterLoop_inner hb, hxb, hpb, Hb, trivial⟩
                  · simp at hpre
              obtain ⟨l, mark, w1, ρ1, hent, hx1, hp1, H1, hm1⟩ := enter
              have hbd : ∃ fn c, P.funcs[g]? = some fn ∧ fn.body = some c := by
                rcases hS.body _ _ _ _ _ hcall with h | ⟨⟨_, _, h⟩, _⟩
                · exact h
                · simp at h
              have hbd' := hbd
              obtain ⟨fnd, c', hfn, hbody⟩ := hbd'
              generalize hfe : A.eval f = fv at hfv
              cases hfv with
              | func _ _ cv hcv =>
                have hargs : VRs w0 ρ1 (.yield h0.size :: cap) (.func (.yield l) #[] #[] :: cv) := .cons _ _ _ _ (.yield _ ⟨l, 0, 0⟩ hp1) (hcv.ext hx1)
                refine ⟨l, mark, w1, { target := .fn (.func g) cv.toArray, args := #[.func (.yield l) #[] #[]] }, w1, g, #[.func (.yield l) #[] #[]] ++ cv.toArray, w1, hent, ?_, fun _ _ => trivial, ?_, FW_depth rr n, ?_⟩
                · simp only [resolve, rangeCall, hfe]
                  simp [Deferred.ofValue, Act.eval]
                · have hname := hF g fnd hfn
                  simp only [invoke, callFunc, Sem.run_bind, run_program, Result.andThen_ok, hfn, hname, hbody]
                  simp
                · have hcc := hS.call _ _ _ _ _ hcall hbd ρ1 w1 _ (n - 1) H1 hargs
                  have e1 : (Value.func (.yield l) #[] #[] :: cv).toArray = #[.func (.yield l) #[] #[]] ++ cv.toArray := by simp
                  rw [e1] at hcc
                  refine (calls_rd hcc).mono ?_
                  rintro E w3 ⟨ρ3, u3, rfl, hx3, H3, hv3⟩
                  obtain ⟨p3, L, hp3, hB3, hb3, hst, hpe, _⟩ := H3.loopAt hl2
                  have e3 : p3 = ⟨l, 0, 0⟩ := by have := hx3 _ _ hp1; rw [hp3] at this; cases this; rfl
                  subst e3
                  refine ⟨L.pending, _, run_endLoop hb3 (by rw [hst]; exact hbusy), ?_⟩
                  have H4 := H3.setObj hl2 rfl hp3 .dead (.loop { L with state := .exhausted }) (.dead _)
                  have hres : ∀ ex, s' = { tm := s.tm, marks := mk ++ s.marks, h := h2.set h0.size .dead } → e = ex → Q ex.toExit { A with defers := mark ++ A.defers } (w3.putObj l (.loop { L with state := .exhausted })) := by
                    intro ex hs2 he2
                    subst he2
                    refine hQ ρ3 _ _ (hx1.trans hx3) ?_
                    rw [hs2]
                    exact ⟨H4, hs.tm.ext (hx1.trans hx3), (hm1.ext hx3).append (hs.marks.ext (hx1.trans hx3))⟩
                  generalize w3.putObj l (.loop { L with state := .exhausted }) = w4 at hres H4 ⊢
                  rw [hpe]
                  split at hr
                  · simp at hr
                    exact hres .normal hr.2.symm hr.1.symm
                  · simp at hr
                    exact wpIn_ret (hres .ret hr.2.symm hr.1.symm)
                  · rename_i id
                    simp at hr
                    exact wpIn_exit (hres (.exit id) hr.2.symm hr.1.symm)
                  · rename_i t
                    simp at hr
                    exact wpIn_goto (hres (.goto t) hr.2.symm hr.1.symm)
                  · simp at hr
          · simp at hr
    · simp at hr
end ctl
end Go.Abs
end

section
/- Calls and rounds of the abstract machine are the model's. -/
set_option linter.unusedSimpArgs false
set_option linter.unusedVariables false
namespace Go.Abs
open Go.RowKit
section call
variable {P : Program} {T : Tys} {w0 : World}

theorem fillFrom_size (t : Tm) : ∀ (i : Nat) (l : List AV), (t.fillFrom i l).size = t.size := by
  intro i l
  induction l generalizing t i with
  | nil => rfl
  | cons v r ih => simp [Tm.fillFrom, ih]
theorem fillFrom_get (t : Tm) : ∀ (i : Nat) (l : List AV) (j : Nat), (t.fillFrom i l).get j = if i ≤ j ∧ j < i + l.length then (l[j - i]?).getD undefA else t.get j := by
  intro i l
  induction l generalizing t i with
  | nil => intro j; simp [Tm.fillFrom]; intro h1 h2; omega
  | cons v r ih =>
    intro j
    simp only [Tm.fillFrom]
    rw [ih, Tm.get_set]
    by_cases h : j = i
    · subst h
      rw [if_neg (by omega), if_pos rfl, if_pos (by simp)]
      simp
    · by_cases h2 : i + 1 ≤ j ∧ j < i + 1 + r.length
      · rw [if_pos h2, if_pos (by simp; omega)]
        have e : j - i = (j - (i + 1)) + 1 := by omega
        rw [e, List.getElem?_cons_succ]
      · rw [if_neg h2, if_neg h, if_neg (by simp; omega)]
theorem enter_TmR {ρ : Rho} {args : List AV} {us : List Value} (h : VRs w0 ρ args us) (n : Nat) : TmR w0 ρ (Tm.enter args n) (us.toArray ++ Array.replicate (n - us.toArray.size) undef) := by
  have hl := h.length
  refine ⟨by simp [Tm.enter, fillFrom_size, hl]; omega, fun i => ?_⟩
  unfold Tm.enter
  rw [fillFrom_get]
  by_cases hi : i < args.length
  · rw [if_pos (by omega)]
    obtain ⟨u, hu, hv⟩ := h.get (List.getElem?_eq_getElem hi)
    have e1 : (us.toArray ++ Array.replicate (n - us.toArray.size) undef).getD i undef = u := by
      have hlt : i < us.length := by omega
      have := (List.getElem?_eq_some_iff.1 hu).2
      simp [Array.getD, Array.getElem_append, hlt, this]
      omega
    rw [e1]
    simp [List.getElem?_eq_getElem hi]
    exact hv
  · rw [if_neg (by omega)]
    have e1 : (us.toArray ++ Array.replicate (n - us.toArray.size) undef).getD i undef = undef := by
      simp only [Array.getD_eq_getD_getElem?]
      by_cases h2 : i < us.length + (n - us.length)
      · rw [Array.getElem?_append_right (by simp; omega)]
        simp
        rw [Array.getElem?_replicate]
        split <;> rfl
      · rw [Array.getElem?_eq_none (by simp; omega)]
        rfl
    rw [e1]
    have e2 : Tm.get { size := max args.length n, tr := .leaf } i = undefA := rfl
    rw [e2]
    exact undef_VR

/-- A result variable, read. -/
def resF (ts : Array Value) : ResultVar → Sem Value
  | .tmp t => pure (ts.getD t undef)
  | .cell a t => do loadVar t (← asAddr (ts.getD a undef))
theorem results_eq (fn : Func) (ts : Array Value) : results fn ts = (do let vs ← fn.results.mapM (resF ts); pure (if h : vs.size = 1 then vs[0] else .tuple vs)) := by
  unfold results
  have : (fun r : ResultVar => (match r with | .tmp t => pure (ts.getD t undef) | .cell a t => do loadVar t (← asAddr (ts.getD a undef)) : Sem Value)) = resF ts := by
    funext r; cases r <;> rfl
  rw [← this]
  rfl
theorem resultOf_run {ρ : Rho} {h : AH} {w : World} {tm : Tm} {ts : Array Value} {r : ResultVar} {v : AV} (hT : TOk P T) (H : WR w0 ρ h w) (ht : TmR w0 ρ tm ts) (hr : resultOf T tm h r = some v) :
    ∃ u, (resF ts r).run P w = .ok u w ∧ VR w0 ρ v u := by
  cases r with
  | tmp t => simp [resultOf] at hr; subst hr; exact ⟨_, rfl, ht.2 t⟩
  | cell a t =>
    simp only [resultOf] at hr
    obtain ⟨u, hrun, hv⟩ := loadA_run (P := P) hT H hr (ht.2 a)
    refine ⟨u, ?_, hv⟩
    have hx := ht.2 a
    simp only [resF]
    generalize tm.get a = x at hr hx
    generalize ts.getD a undef = y at hx hrun ⊢
    have : ∃ ad, y = .pointer (some ad) := by
      unfold loadA at hr
      simp only at hr
      split at hr
      · simp at hr
      · split at hr
        · split at hr
          · cases hx; exact ⟨_, rfl⟩
          · cases hx; exact ⟨_, rfl⟩
          · simp at hr
        · split at hr
          · cases hx; exact ⟨_, rfl⟩
          · cases hx; exact ⟨_, rfl⟩
          · simp at hr
    obtain ⟨ad, rfl⟩ := this
    exact hrun
theorem resultsOf_run {ρ : Rho} {h : AH} {w : World} {tm : Tm} {ts : Array Value} (hT : TOk P T) (H : WR w0 ρ h w) (ht : TmR w0 ρ tm ts) : ∀ (rs : List ResultVar) (vs : List AV), resultsOf T tm h rs = some vs →
    ∃ us, (rs.mapM (resF ts)).run P w = .ok us w ∧ VRs w0 ρ vs us
  | [], vs, hr => by simp [resultsOf] at hr; subst hr; exact ⟨[], by simp [List.mapM_nil], .nil⟩
  | r :: rs, vs, hr => by
    simp only [resultsOf] at hr
    split at hr
    · rename_i v l hv hl
      simp at hr; subst hr
      obtain ⟨u, h1, h2⟩ := resultOf_run (P := P) hT H ht hv
      obtain ⟨us, h3, h4⟩ := resultsOf_run hT H ht rs l hl
      refine ⟨u :: us, ?_, .cons _ _ _ _ h2 h4⟩
      rw [List.mapM_cons]
      simp only [Sem.run_bind, h1, Result.andThen_ok, h3, Sem.run_pure]
    · simp at hr
theorem results_run {ρ : Rho} {h : AH} {w : World} {tm : Tm} {ts : Array Value} {fn : Func} {vs : List AV} (hT : TOk P T) (H : WR w0 ρ h w) (ht : TmR w0 ρ tm ts) (hr : resultsOf T tm h fn.results.toList = some vs) :
    ∃ u, (results fn ts).run P w = .ok u w ∧ VR w0 ρ (packed vs) u := by
  obtain ⟨us, h1, h2⟩ := resultsOf_run (P := P) hT H ht _ _ hr
  have e : (results fn ts).run P w = .ok (if h : us.toArray.size = 1 then us.toArray[0] else .tuple us.toArray) w := by
    rw [results_eq, Array.mapM_eq_mapM_toList]
    simp only [Sem.run_bind, Sem.run_map, h1, Result.andThen_ok, Sem.run_pure]
  refine ⟨_, e, ?_⟩
  cases h2 with
  | nil => exact .tuple [] [] .nil
  | cons a v l vs hv hs =>
    cases hs with
    | nil => simpa [packed] using hv
    | cons b u l2 vs2 hu hs2 =>
      have hne : ¬ (v :: u :: vs2).toArray.size = 1 := by simp
      rw [dif_neg hne]
      exact .tuple _ _ (.cons _ _ _ _ hv (.cons _ _ _ _ hu hs2))

theorem leave_run {rs : List ResultVar} {fn : Func} (hrs : rs = fn.results.toList) {n : Nat} (hT : TOk P T) {v : AV} {h' : AH} {ρ0 : Rho} : ∀ (m : List Nat) {ρ : Rho} {h h2 : AH} {w : World} {tm : Tm} {ts : Array Value} {ds : List Deferred} {vs : List AV},
    takeMarks h m = some h2 → resultsOf T tm h2 rs = some vs → v = packed vs → h' = h2 → Ext ρ0 ρ → WR w0 ρ h w → TmR w0 ρ tm ts → MarksR ρ m ds → LeavesInM (FW none) n P fn ts (Ret w0 ρ0 v h') ds .returning w
  | [], ρ, h, h2, w, tm, ts, ds, vs, hm, hr, hv, hh, hx, H, ht, hmr => by
    simp [takeMarks] at hm; subst hm
    cases ds with
    | cons d ds => exact hmr.elim
    | nil =>
      subst hrs
      obtain ⟨u, h1, h2⟩ := results_run (P := P) hT H ht hr
      exact ⟨u, h1, ρ, u, rfl, hx, by rw [hh]; exact H, by rw [hv]; exact h2⟩
  | i :: m, ρ, h, h2, w, tm, ts, ds, vs, hm, hr, hv, hh, hx, H, ht, hmr => by
    cases ds with
    | nil => exact hmr.elim
    | cons d ds =>
      obtain ⟨⟨p, hp, rfl⟩, hmr⟩ := hmr
      simp only [takeMarks] at hm
      split at hm
      · rename_i hi
        have ho := H.obj i _ hi
        rw [hp] at ho
        cases ho with
        | defs _ _ hB hb =>
          simp only [Bool.false_eq_true, if_false] at hb
          refine ⟨by simp, .inl ⟨p.r, _, rfl, run_takeDeferred hb, ?_⟩⟩
          exact leave_run hrs hT m hm hr hv hh hx (H.setObj hi rfl hp .dead _ (.dead _)) ht hmr
      · simp at hm

theorem setAll_TmR {ρ : Rho} : ∀ {ps : List Nat} {vs : List AV} {us : List Value} {tm tm' : Tm} {ts : Array Value}, setAll tm ps vs = some tm' → VRs w0 ρ vs us → TmR w0 ρ tm ts →
    TmR w0 ρ tm' ((ps.zip us).foldl (fun t (p : Nat × Value) => t.setIfInBounds p.1 p.2) ts) ∧ us.length = ps.length
  | [], [], us, tm, tm', ts, hr, hv, ht => by simp [setAll] at hr; subst hr; cases hv; exact ⟨ht, rfl⟩
  | [], v :: vs, us, tm, tm', ts, hr, hv, ht => by simp [setAll] at hr
  | p :: ps, [], us, tm, tm', ts, hr, hv, ht => by simp [setAll] at hr
  | p :: ps, v :: vs, us, tm, tm', ts, hr, hv, ht => by
    simp only [setAll] at hr
    split at hr
    · rename_i hlt
      cases hv with
      | cons _ u _ us hv hvs =>
        obtain ⟨h1, h2⟩ := setAll_TmR hr hvs (ht.set hlt hv)
        exact ⟨by simpa using h1, by simp [h2]⟩
    · simp at hr

theorem find_ibs {fn : Func} (h : fn.name = "internal/bytealg.IndexByteString") : Extern.find fn = some Extern.BytealgIndexByte.indexByte := by
  have g1 : Extern.allGenericRows.lookup "internal/bytealg.IndexByteString" = none := by
    have : (Extern.allGenericRows.lookup "internal/bytealg.IndexByteString").isNone = true := by kernel_rfl
    simpa using this
  have g2 : Extern.allTypedRows.lookup "internal/bytealg.IndexByteString" = none := by
    have : (Extern.allTypedRows.lookup "internal/bytealg.IndexByteString").isNone = true := by kernel_rfl
    simpa using this
  have g3 : Extern.allRows.lookup "internal/bytealg.IndexByteString" = some Extern.BytealgIndexByte.indexByte := by kernel_rfl
  unfold Extern.find
  simp only [h, g1, g2, g3, Option.map_none]
  rfl
/-- A function without a text, as the model calls it. -/
theorem ext_run (hF : FOk P) {f : FuncId} {fn : Func} {args : List AV} {h : AH} {v : AV} {h' : AH} (hfn : P.funcs[f]? = some fn) (hb : fn.body = none) (hr : extA fn args h = some (v, h')) :
    (∃ s c, args = [.str s, .int .u8 c]) ∧ h' = h ∧ ∀ (us : List Value) (ρ : Rho) (w : World), VRs w0 ρ args us → ∃ u, (callFunc f us.toArray).run P w = .ok (.value u) w ∧ VR w0 ρ v u := by
  unfold extA at hr
  split at hr
  · rename_i hc
    split at hr
    · rename_i s c
      simp at hr
      obtain ⟨rfl, rfl⟩ := hr
      refine ⟨⟨s, c, rfl⟩, rfl, fun us ρ w hv => ?_⟩
      cases hv with
      | cons _ u1 _ us1 hv1 hvs1 =>
        cases hvs1 with
        | cons _ u2 _ us2 hv2 hvs2 =>
          cases hvs2
          cases hv1
          cases hv2
          refine ⟨_, ?_, .int _ _⟩
          rw [run_callFunc_extern hfn (hF f fn hfn) (by simp [hb]) (by simpa using hc.2) (find_ibs (by simpa using hc.1))]
          have hx := Lib.run_indexByteString (P := P) ⟨s.toArray⟩ c w
          have e1 : [Value.string ⟨s.toArray⟩, .int .u8 c].toArray = #[.string ⟨s.toArray⟩, .int .u8 c] := rfl
          rw [e1, hx]
          rfl
    · simp at hr
  · simp at hr
/-- **THE ABSTRACT MACHINE's CALLS AND ROUNDS ARE THE MODEL's.** -/
theorem sys_ok (hT : TOk P T) (hF : FOk P) (hD : ∀ S, SysOk P w0 S → DrawOk P T w0 S) : ∀ n, SysOk P w0 ⟨callA P T n, yieldA P T n⟩ := by
  intro n
  induction n with
  | zero => exact ⟨fun f args h v h' hr => by simp [callA] at hr, fun f args h v h' hr => by simp [callA] at hr, fun l args h v h' hr => by simp [yieldA] at hr⟩
  | succ n ih =>
    have hDr := hD _ ih
    refine ⟨?_, ?_, ?_⟩
    · intro f args h v h' hr
      simp only [callA] at hr
      split at hr
      · simp at hr
      · rename_i fn hfn
        split at hr
        · rename_i hb
          exact .inr (ext_run hF hfn hb hr)
        · rename_i c hc
          exact .inl ⟨fn, c, hfn, hc⟩
    · intro f args h v h' hr hbd ρ w us k H hv
      simp only [callA] at hr
      split at hr
      · simp at hr
      · rename_i fn hfn
        split at hr
        · rename_i hb
          obtain ⟨fn', c', h1, h2⟩ := hbd
          rw [hfn] at h1; cases h1
          rw [hb] at h2; cases h2
        · rename_i c hc
          refine callsIn_of_wp_marks (F := FW none) hfn hc trivial ?_ rfl
          have start : StR w0 ρ ⟨Tm.enter args fn.ntmps, [], h⟩ { tmps := us.toArray ++ Array.replicate (fn.ntmps - us.toArray.size) undef, defers := [] } w := ⟨H, enter_TmR hv _, trivial⟩
          have fin : ∀ (s : St), leave T fn.results.toList s = some (v, h') → ∀ ρ' A' w', Ext ρ ρ' → StR w0 ρ' s A' w' → LeavesInM (FW none) k P fn A'.tmps (Ret w0 ρ v h') A'.defers .returning w' := by
            intro s hl ρ' A' w' hx hs
            unfold leave at hl
            split at hl
            · simp at hl
            · rename_i h2 hm
              obtain ⟨vs, hvs, he⟩ := Option.map_eq_some_iff.1 hl
              simp at he
              exact leave_run rfl hT s.marks hm hvs he.1.symm he.2.symm hx hs.h hs.tm hs.marks
          split at hr
          · rename_i s hs
            exact run_sound hT hF ih hDr n c none none k ρ _ _ w _ _ _ hs trivial start fun ρ' A' w' hx hs' => fin s hr ρ' A' w' hx hs'
          · rename_i s hs
            exact run_sound hT hF ih hDr n c none none k ρ _ _ w _ _ _ hs trivial start fun ρ' A' w' hx hs' => fin s hr ρ' A' w' hx hs'
          · simp at hr
    · intro l args h v h' hr ρ w us p k hp H hv
      simp only [yieldA] at hr
      split at hr
      · rename_i tm ps as bo hl
        split at hr
        · simp at hr
        · rename_i tm1 hset
          obtain ⟨p', L, hp', hB, hb, h1, h2, h3, h4, h5, h6⟩ := H.loopAt hl
          rw [hp] at hp'; cases hp'
          obtain ⟨htm1, hlen⟩ := setAll_TmR hset hv h3
          refine ⟨L.fn, _, L.assign, L.body, run_yield hb (by rw [h4]; simp [hlen]), roundIn_of_wpIn (F := FW none) trivial ?_⟩
          have htm1' : TmR w0 ρ tm1 ((L.params.zip us.toArray).foldl (fun tmps (t, a) => tmps.setIfInBounds t a) L.tmps) := by
            rw [h4]
            rw [← Array.foldl_toList]
            simpa using htm1
          have start : StR w0 ρ ⟨tm1, [], h⟩ { tmps := (L.params.zip us.toArray).foldl (fun tmps (t, a) => tmps.setIfInBounds t a) L.tmps, defers := [] } w := ⟨H, htm1', trivial⟩
          split at hr
          · rename_i s1 hs1
            rw [h5]
            refine run_sound hT hF ih hDr n as (some l) (some p.r) k ρ _ _ w _ _ _ hs1 ⟨p, hp, rfl⟩ start ?_
            intro ρ1 A1 w1 hx1 hS1
            split at hr
            · rename_i tmx psx asx box hl1
              obtain ⟨p1, L1, hp1, hB1, hb1, g1, g2, g3, g4, g5, g6⟩ := hS1.h.loopAt hl1
              have e1 : p1 = p := by have := hx1 _ _ hp; rw [hp1] at this; cases this; rfl
              subst e1
              refine ⟨_, run_beginRound hb1 g1, ?_⟩
              have H2 := hS1.h.setObj hl1 rfl hp1 (.loop .busy none tmx psx asx box) (.loop { L1 with state := .busy })
                (.loop _ _ _ _ _ _ _ hB1 _ (World.putObj_heap_same ((Array.getElem?_eq_some_iff.1 hb1).1)) rfl g2 g3 g4 g5 g6)
              rw [h6]
              split at hr
              · rename_i ex s2 hs2
                refine run_sound hT hF ih hDr n bo (some l) (some p1.r) k ρ1 _ _ _ ex s2 _ hs2 ⟨p1, hp1, rfl⟩ ⟨H2, hS1.tm, hS1.marks⟩ ?_
                intro ρ2 A2 w2 hx2 hS2
                split at hr
                · rename_i tmy psy asy boy hl2
                  obtain ⟨p2, L2, hp2, hB2, hb2, k1, k2, k3, k4, k5, k6⟩ := hS2.h.loopAt hl2
                  have e2 : p2 = p1 := by have := hx2 _ _ hp1; rw [hp2] at this; cases this; rfl
                  subst e2
                  simp only [Option.some.injEq, Prod.mk.injEq] at hr
                  obtain ⟨rfl, rfl⟩ := hr
                  have H3 := hS2.h.setObj hl2 rfl hp2 (.loop (if ex.jump.isNone then .ready else .done) ex.jump tmy psy asy boy) (.loop { L2 with state := if ex.jump.isNone then .ready else .done, pending := ex.jump })
                    (.loop _ _ _ _ _ _ _ hB2 _ (World.putObj_heap_same ((Array.getElem?_eq_some_iff.1 hb2).1)) rfl rfl k3 k4 k5 k6)
                  have fin : ∃ v w', (Instr.endRound p2.r ex.jump).run P w2 = .ok v w' ∧ Ret w0 ρ (.bool ex.jump.isNone) (s2.h.set l (.loop (if ex.jump.isNone then .ready else .done) ex.jump tmy psy asy boy)) (.returned v) w' :=
                    ⟨_, _, run_endRound _ hb2, ρ2, _, rfl, hx1.trans hx2, H3, .bool _⟩
                  cases ex <;> exact fin
                · simp at hr
              · simp at hr
            · simp at hr
          · simp at hr
      · simp at hr
end call
end Go.Abs
end

section
/- Regions that draw their order: whatever order is drawn, the abstract machine's one answer holds. -/
set_option linter.unusedSimpArgs false
set_option linter.unusedVariables false
namespace Go.Abs
open Go.RowKit

section pure
variable {T : Tys} {e e' : Env}

theorem ev_congr {x : Operand} (h : ∀ t, x = .tmp t → e t = e' t) : ev e x = ev e' x := by
  cases x <;> simp [ev]
  exact h _ rfl
theorem evs_congr : ∀ {l : List Operand}, (∀ x ∈ l, ev e x = ev e' x) → evs e l = evs e' l
  | [], _ => rfl
  | x :: r, h => by
    simp only [evs, h x List.mem_cons_self, evs_congr fun y hy => h y (List.mem_cons_of_mem _ hy)]
theorem evParts_congr : ∀ {l : List (Nat × Operand)}, (∀ x ∈ l.map (·.2), ev e x = ev e' x) → evParts e l = evParts e' l
  | [], _ => rfl
  | (i, x) :: r, h => by
    simp only [evParts, h x (by simp), evParts_congr (l := r) fun y hy => h y (by simp only [List.map_cons]; exact List.mem_cons_of_mem _ hy)]
theorem evO_congr {x : Option Operand} (h : ∀ y, x = some y → ev e y = ev e' y) : evO e x = evO e' x := by
  cases x <;> simp [evO]
  rw [h _ rfl]
theorem evalOp_congr {o : Oper} {h : AH} (hx0 : ∀ x ∈ o.op.operands, ev e x = ev e' x) (hk : kindOf T o.op ≤ 2) : evalOp T e o h = evalOp T e' o h := by
  obtain ⟨dst, op, type, pos, after, guard⟩ := o
  simp only at hx0 hk
  cases op
  case move x => simp only [evalOp, hx0 x (by simp [Op.operands])]
  case assign x => simp only [evalOp, hx0 x (by simp [Op.operands])]
  case pick a b c => simp only [evalOp, hx0 a (by simp [Op.operands]), hx0 b (by simp [Op.operands]), hx0 c (by simp [Op.operands])]
  case alloc => rfl
  case box t x => simp only [evalOp, hx0 x (by simp [Op.operands])]
  case build t ps =>
    simp only [evalOp]
    rw [evParts_congr (fun x hx => hx0 x (by simpa [Op.operands] using hx))]
  case buildSlice t n ps =>
    simp only [evalOp]
    rw [evParts_congr (fun x hx => hx0 x (by simpa [Op.operands] using hx))]
  case load t x => simp only [evalOp, hx0 x (by simp [Op.operands])]
  case store t a x => simp only [evalOp, hx0 a (by simp [Op.operands]), hx0 x (by simp [Op.operands])]
  case nilCheck x => simp only [evalOp, hx0 x (by simp [Op.operands])]
  case binOp op t x y pos => simp only [evalOp, hx0 x (by simp [Op.operands]), hx0 y (by simp [Op.operands])]
  case unOp op t x => simp only [evalOp, hx0 x (by simp [Op.operands])]
  case convert s d x => simp only [evalOp, hx0 x (by simp [Op.operands])]
  case makeFunc f first cap =>
    cases f with
    | func f =>
      simp only [evalOp]
      rw [evs_congr (fun x hx => hx0 x (by simp [Op.operands]; right; simpa using hx))]
    | _ => rfl
  case makeSlice t l c => simp only [evalOp, hx0 l (by simp [Op.operands]), hx0 c (by simp [Op.operands])]
  case slice t x lo hi mx =>
    simp only [evalOp, hx0 x (by simp [Op.operands])]
    rw [evO_congr (x := lo) (fun y hy => hx0 y (by simp [Op.operands, hy])), evO_congr (x := hi) (fun y hy => hx0 y (by simp [Op.operands, hy])), evO_congr (x := mx) (fun y hy => hx0 y (by simp [Op.operands, hy]))]
  case fieldAddr s x f => simp only [evalOp, hx0 x (by simp [Op.operands])]
  case field s x f => simp only [evalOp, hx0 x (by simp [Op.operands])]
  case indexAddr t x ix => simp only [evalOp, hx0 x (by simp [Op.operands]), hx0 ix (by simp [Op.operands])]
  case index t x ix => simp only [evalOp, hx0 x (by simp [Op.operands]), hx0 ix (by simp [Op.operands])]
  case extract t ix => simp only [evalOp, hx0 t (by simp [Op.operands])]
  case call c =>
    simp only [evalOp]
    have ha : ∀ x ∈ c.args.toList, ev e x = ev e' x := fun x hx => hx0 x (by simp only [Op.operands, Call.operands]; cases c.callee <;> simp <;> first | exact hx | exact .inr (by simpa using hx) | (simpa using hx))
    rw [evs_congr ha]
    cases hc : c.callee with
    | value f =>
      have hf := hx0 f (by simp [Op.operands, Call.operands, hc])
      cases evs e' c.args.toList with
      | none => rfl
      | some args => simp only [hf]
    | _ => cases evs e' c.args.toList <;> rfl
  all_goals simp [kindOf] at hk

theorem map_val {h : AH} {r : OpR} {x : Option AV} (hr : (x.map fun a => OpR.val a h) = some r) : ∃ v, r = .val v h ∧ ∀ h', (x.map fun a => OpR.val a h') = some (.val v h') := by
  cases x with
  | none => simp at hr
  | some a => simp at hr; exact ⟨a, hr.symm, fun _ => rfl⟩
/-- No look at memory, no change of it. -/
theorem kind0 {o : Oper} {h : AH} {r : OpR} (hk : kindOf T o.op = 0) (hr : evalOp T e o h = some r) : ∃ v, r = .val v h ∧ ∀ h', evalOp T e o h' = some (.val v h') := by
  obtain ⟨dst, op, type, pos, after, guard⟩ := o
  simp only at hk
  cases op <;> simp only [evalOp] at hr ⊢
  case convert s d x =>
    split at hr
    · rename_i a ha
      obtain ⟨⟨v, h2⟩, h3, h4⟩ := Option.map_eq_some_iff.1 hr
      refine ⟨v, ?_⟩
      have key : h2 = h ∧ ∀ h', convA T h' s d a = some (v, h') := by
        unfold convA at h3 ⊢
        simp only [kindOf] at hk
        split at h3
        · simp at h3
        · simp only [Option.some.injEq, Prod.mk.injEq] at h3; obtain ⟨rfl, rfl⟩ := h3; exact ⟨rfl, fun _ => rfl⟩
        · simp only [Option.some.injEq, Prod.mk.injEq] at h3; obtain ⟨rfl, rfl⟩ := h3; exact ⟨rfl, fun _ => rfl⟩
        · simp_all
        · simp_all
        · simp_all
        · simp at h3
      refine ⟨by rw [← h4, key.1], fun h' => by rw [key.2 h']; rfl⟩
    · simp at hr
  case call c =>
    simp only [kindOf] at hk
    split at hr
    · rename_i b args hc ha
      rw [hc] at hk
      obtain ⟨⟨v, h2⟩, h3, h4⟩ := Option.map_eq_some_iff.1 hr
      refine ⟨v, ?_⟩
      have key : h2 = h ∧ ∀ h', builtinA T h' b c.argTypes.toList args = some (v, h') := by
        unfold builtinA at h3 ⊢
        split at h3
        · simp at hk
        · split at h3
          · simp only [Option.some.injEq, Prod.mk.injEq] at h3; obtain ⟨rfl, rfl⟩ := h3; exact ⟨rfl, fun _ => rfl⟩
          · simp only [Option.some.injEq, Prod.mk.injEq] at h3; obtain ⟨rfl, rfl⟩ := h3; exact ⟨rfl, fun _ => rfl⟩
          · simp only [Option.some.injEq, Prod.mk.injEq] at h3; obtain ⟨rfl, rfl⟩ := h3; exact ⟨rfl, fun _ => rfl⟩
          · simp at h3
        · simp at hk
        · simp at hk
        · simp only [Option.some.injEq, Prod.mk.injEq] at h3; obtain ⟨rfl, rfl⟩ := h3; exact ⟨rfl, fun _ => rfl⟩
        · simp only [Option.some.injEq, Prod.mk.injEq] at h3; obtain ⟨rfl, rfl⟩ := h3; exact ⟨rfl, fun _ => rfl⟩
        · simp at h3
      refine ⟨by rw [← h4, key.1], fun h' => by rw [key.2 h']; rfl⟩
    · rename_i f args hc ha
      rw [hc] at hk
      simp at hk
    · simp at hr
  all_goals try (simp [kindOf] at hk; done)
  case makeFunc fn first cap =>
    cases fn with
    | func f =>
      simp only at hr ⊢
      split at hr
      · rename_i hz
        simp only [if_pos hz]
        exact map_val hr
      · simp at hr
    | _ => simp at hr
  all_goals try exact map_val hr
  all_goals try (split at hr <;> first | exact map_val hr | (simp at hr; done) | skip)
  all_goals try (split at hr <;> first | exact map_val hr | (simp at hr; done) | skip)
  all_goals try (split at hr <;> first | exact map_val hr | (simp at hr; done) | skip)
  all_goals try (split at hr <;> first | exact map_val hr | (simp at hr; done) | skip)
  all_goals try (split at hr <;> first | exact map_val hr | (simp at hr; done) | skip)
  all_goals try (exact ⟨_, (Option.some.inj hr).symm, fun h' => by simp only [*, if_true, and_self, if_false]⟩)
  all_goals try (exact ⟨_, (Option.some.inj hr).symm, fun h' => by simp [*]⟩)
  all_goals try (simp only [*, if_true, and_self, if_false]; exact map_val hr)
theorem kind1 {o : Oper} {h : AH} {r : OpR} (hk : kindOf T o.op = 1) (hr : evalOp T e o h = some r) : ∃ v, r = .val v h := by
  obtain ⟨dst, op, type, pos, after, guard⟩ := o
  simp only at hk
  cases op <;> simp only [evalOp] at hr
  case load t x =>
    split at hr
    · obtain ⟨v, h1, _⟩ := map_val hr; exact ⟨v, h1⟩
    · simp at hr
  case convert s d x =>
    split at hr
    · rename_i a ha
      obtain ⟨⟨v, h2⟩, h3, h4⟩ := Option.map_eq_some_iff.1 hr
      refine ⟨v, ?_⟩
      have key : h2 = h := by
        simp only [kindOf] at hk
        split at hk
        · rename_i e1 e2
          unfold convA at h3
          simp only [e1, e2] at h3
          split at h3
          all_goals first | (simp_all; done) | skip
          split at h3
          · split at h3
            · simp at h3
            · split at h3
              · obtain ⟨w, _, hw⟩ := Option.map_eq_some_iff.1 h3; simp at hw; exact hw.2.symm
              · simp at h3
            · simp at h3
          · simp at h3
        · simp at hk
        · simp at hk
      rw [← h4, key]
    · simp at hr
  case call c =>
    simp only [kindOf] at hk
    split at hk <;> simp at hk
  all_goals simp [kindOf] at hk

theorem stepOp_congr {S : Sys} {o : Oper} {h : AH} (hx0 : ∀ x ∈ o.op.operands, ev e x = ev e' x) (hk : kindOf T o.op ≤ 2) : stepOp T S e o h = stepOp T S e' o h := by
  unfold stepOp; rw [evalOp_congr hx0 hk]
theorem stepOp_val {S : Sys} {o : Oper} {h h2 : AH} {v : AV} (hr : evalOp T e o h = some (.val v h2)) : stepOp T S e o h = some (v, h2) := by
  unfold stepOp; rw [hr]

/-! ### What 'drawOk' says -/
structure DOk (T : Tys) (ops : List Oper) (m : List Nat) : Prop where
  lt : ∀ (i : Nat) (o : Oper), ops[i]? = some o → ∀ x ∈ preds o, x < i
  step : ∀ (i : Nat) (o : Oper) (j : Nat), ops[i]? = some o → j < ops.length → ordered m i j = true → ∃ x ∈ preds o, x = j ∨ ordered m x j = true
  kind : ∀ (i : Nat) (o : Oper), ops[i]? = some o → kindOf T o.op ≤ 2
  eff : ∀ (i : Nat) (o : Oper) (j : Nat) (p : Oper), ops[i]? = some o → ops[j]? = some p → j < i → kindOf T o.op = 2 → kindOf T p.op = 2 → ordered m i j = true
  shr : ∀ (i : Nat) (o : Oper) (j : Nat) (p : Oper), ops[i]? = some o → ops[j]? = some p → j < i → share ops o p = true → ordered m i j = true
theorem drawsOk_mem {ops : List Oper} {m : List Nat} : ∀ {l : List Nat}, drawsOk T ops m l = true → ∀ i ∈ l, ∃ o, ops[i]? = some o ∧ drawAt T ops m i o = true
  | [], _, i, hi => by simp at hi
  | k :: r, h, i, hi => by
    simp only [drawsOk, Bool.and_eq_true] at h
    rcases List.mem_cons.1 hi with rfl | hi
    · revert h
      cases ho : ops[i]? with
      | none => intro h; simp at h
      | some o => intro h; exact ⟨o, rfl, h.1⟩
    · exact drawsOk_mem h.2 i hi
theorem drawOk_DOk {ops : List Oper} (h : drawOk T ops = true) : DOk T ops (masks ops []) := by
  have key : ∀ i o, ops[i]? = some o → drawAt T ops (masks ops []) i o = true := by
    intro i o ho
    have hlt := (List.getElem?_eq_some_iff.1 ho).1
    obtain ⟨o', ho', hd⟩ := drawsOk_mem h i (List.mem_range.2 hlt)
    rw [ho] at ho'; cases ho'; exact hd
  generalize masks ops [] = m at key
  refine ⟨?_, ?_, ?_, ?_, ?_⟩
  · intro i o ho x hx
    have := key i o ho
    simp only [drawAt, Bool.and_eq_true, List.all_eq_true, decide_eq_true_eq] at this
    exact this.1.1.1 x hx
  · intro i o j ho hj hij
    have := key i o ho
    simp only [drawAt, Bool.and_eq_true, List.all_eq_true, decide_eq_true_eq] at this
    have := this.1.1.2 j (List.mem_range.2 hj)
    rw [hij] at this
    simp at this
    exact this
  · intro i o ho
    have := key i o ho
    simp only [drawAt, Bool.and_eq_true, List.all_eq_true, decide_eq_true_eq] at this
    exact this.1.2
  · intro i o j p ho hp hji h1 h2
    have := key i o ho
    simp only [drawAt, Bool.and_eq_true, List.all_eq_true, decide_eq_true_eq] at this
    have := this.2 j (List.mem_range.2 hji)
    rw [hp] at this
    simp [h1, h2] at this
    exact this.1
  · intro i o j p ho hp hji hs
    have := key i o ho
    simp only [drawAt, Bool.and_eq_true, List.all_eq_true, decide_eq_true_eq] at this
    have := this.2 j (List.mem_range.2 hji)
    rw [hp] at this
    simp [hs] at this
    exact this.2

/-! ### The trace -/
structure TrOk (T : Tys) (S : Sys) (ops : Array Oper) (tr : List (Tm × AH)) (tm : Tm) (h : AH) (X : Nat → Tm × AH) : Prop where
  zero : X 0 = (tm, h)
  step : ∀ i, i < ops.size → regStep T S ops i (X i).1 (X i).2 = some (X (i + 1))
  get : ∀ i, i ≤ ops.size → tr[i]? = some (X i)
theorem regTrace_spec {S : Sys} {ops : Array Oper} : ∀ (l : List Nat) {tm : Tm} {h : AH} {tr : List (Tm × AH)}, regTrace T S ops l tm h = some tr →
    tr.length = l.length + 1 ∧ tr[0]? = some (tm, h) ∧ ∀ k i, l[k]? = some i → ∃ a b c, tr[k]? = some (a, b) ∧ tr[k+1]? = some c ∧ regStep T S ops i a b = some c
  | [], tm, h, tr, hr => by simp [regTrace] at hr; subst hr; simp
  | i :: l, tm, h, tr, hr => by
    simp only [regTrace] at hr
    split at hr
    · simp at hr
    · rename_i tm' h' hst
      obtain ⟨tr', h1, h2⟩ := Option.map_eq_some_iff.1 hr
      subst h2
      obtain ⟨k1, k2, k3⟩ := regTrace_spec l h1
      refine ⟨by simp [k1], rfl, ?_⟩
      intro k j hk
      cases k with
      | zero => simp at hk; subst hk; exact ⟨tm, h, (tm', h'), rfl, by simpa using k2, hst⟩
      | succ k => simpa using k3 k j (by simpa using hk)
theorem regTrace_TrOk {S : Sys} {ops : Array Oper} {tm : Tm} {h : AH} {tr : List (Tm × AH)} (hr : regTrace T S ops (List.range ops.size) tm h = some tr) : TrOk T S ops tr tm h (fun i => tr.getD i (tm, h)) := by
  obtain ⟨k1, k2, k3⟩ := regTrace_spec _ hr
  have hg : ∀ i c, tr[i]? = some c → tr.getD i (tm, h) = c := fun i c hc => by simp [List.getD, hc]
  refine ⟨hg 0 _ k2, ?_, ?_⟩
  · intro i hi
    obtain ⟨a, b, c, h1, h2, h3⟩ := k3 i i (by simp [hi])
    rw [hg i _ h1, hg (i+1) _ h2]
    exact h3
  · intro i hi
    have : i < tr.length := by rw [k1]; simp; omega
    rw [List.getD_eq_getElem?_getD, List.getElem?_eq_getElem this]
    rfl

section tr
variable {S : Sys} {ops : Array Oper} {tr : List (Tm × AH)} {tm : Tm} {h : AH} {X : Nat → Tm × AH}
theorem put_size {t t' : Tm} {d : Option Nat} {v : AV} (hp : t.put d v = some t') : t'.size = t.size := by
  cases d with
  | none => simp [Tm.put] at hp; rw [hp]
  | some d => simp only [Tm.put] at hp; split at hp <;> simp at hp; rw [← hp]; rfl
theorem put_get {t t' : Tm} {d : Option Nat} {v : AV} (hp : t.put d v = some t') (k : Nat) : t'.get k = if d = some k then v else t.get k := by
  cases d with
  | none => simp [Tm.put] at hp; simp [hp]
  | some d =>
    simp only [Tm.put] at hp
    split at hp
    · simp at hp; rw [← hp, Tm.get_set]
      by_cases e : k = d
      · subst e; simp
      · rw [if_neg e, if_neg (by simpa using fun x => e x.symm)]
    · simp at hp
theorem put_some {t s t' : Tm} {d : Option Nat} {v : AV} (hs : s.size = t.size) (hp : t.put d v = some t') (u : AV) : ∃ s', s.put d u = some s' := by
  cases d with
  | none => exact ⟨s, rfl⟩
  | some d => simp only [Tm.put] at hp ⊢; rw [hs]; split at hp <;> simp at hp; rename_i hlt; rw [if_pos hlt]; exact ⟨_, rfl⟩
/-- One step of the trace: what is written, and what memory becomes. -/
theorem TrOk.at (H : TrOk T S ops tr tm h X) {i : Nat} {o : Oper} (ho : ops[i]? = some o) : ∃ v, (X i).1.put o.dst v = some (X (i + 1)).1 ∧
    ((wantedA ops o (X i).1 = true ∧ stepOp T S (X i).1.get o (X i).2 = some (v, (X (i + 1)).2)) ∨ (wantedA ops o (X i).1 = false ∧ v = undefA ∧ (X (i + 1)).2 = (X i).2)) := by
  have := H.step i (Array.getElem?_eq_some_iff.1 ho).1
  unfold regStep at this
  simp only [ho] at this
  split at this
  · rename_i hw
    split at this
    · simp at this
    · rename_i v h' hst
      obtain ⟨t, h1, h2⟩ := Option.map_eq_some_iff.1 this
      rw [← h2]
      exact ⟨v, h1, .inl ⟨hw, hst⟩⟩
  · rename_i hw
    obtain ⟨t, h1, h2⟩ := Option.map_eq_some_iff.1 this
    rw [← h2]
    exact ⟨_, h1, .inr ⟨by simpa using hw, rfl, rfl⟩⟩
theorem stepOp_quiet {o : Oper} {h h' : AH} {v : AV} (hk : kindOf T o.op ≤ 1) (hst : stepOp T S e o h = some (v, h')) : h' = h ∧ evalOp T e o h = some (.val v h) := by
  unfold stepOp at hst
  have hk2 : kindOf T o.op = 0 ∨ kindOf T o.op = 1 := by omega
  cases hev : evalOp T e o h with
  | none => rw [hev] at hst; simp at hst
  | some r =>
    rw [hev] at hst
    have : ∃ v, r = .val v h := by
      rcases hk2 with hk | hk
      · obtain ⟨v, h1, _⟩ := kind0 hk hev; exact ⟨v, h1⟩
      · exact kind1 hk hev
    obtain ⟨u, rfl⟩ := this
    simp at hst
    obtain ⟨rfl, rfl⟩ := hst
    exact ⟨rfl, rfl⟩
theorem TrOk.size (H : TrOk T S ops tr tm h X) : ∀ i, i ≤ ops.size → (X i).1.size = tm.size
  | 0, _ => by rw [H.zero]
  | i + 1, hi => by
    obtain ⟨v, hp, _⟩ := H.at (i := i) (o := ops[i]) (Array.getElem?_eq_getElem _)
    rw [put_size hp, H.size i (by omega)]
theorem TrOk.stayT (H : TrOk T S ops tr tm h X) {a d : Nat} : ∀ b, a ≤ b → b ≤ ops.size → (∀ j o, a ≤ j → j < b → ops[j]? = some o → o.dst ≠ some d) → (X b).1.get d = (X a).1.get d := by
  intro b
  induction b with
  | zero => intro h1 _ _; have : a = 0 := by omega
            rw [this]
  | succ b ih =>
    intro h1 h2 hn
    by_cases e : a = b + 1
    · rw [e]
    · rw [← ih (by omega) (by omega) (fun j o h3 h4 h5 => hn j o h3 (by omega) h5)]
      have ho : ops[b]? = some ops[b] := Array.getElem?_eq_getElem _
      obtain ⟨v, hp, _⟩ := H.at ho
      rw [put_get hp, if_neg (hn b _ (by omega) (by omega) ho)]
theorem TrOk.stayH (H : TrOk T S ops tr tm h X) {a : Nat} : ∀ b, a ≤ b → b ≤ ops.size → (∀ j o, a ≤ j → j < b → ops[j]? = some o → kindOf T o.op ≤ 1) → (X b).2 = (X a).2 := by
  intro b
  induction b with
  | zero => intro h1 _ _; have : a = 0 := by omega
            rw [this]
  | succ b ih =>
    intro h1 h2 hn
    by_cases e : a = b + 1
    · rw [e]
    · rw [← ih (by omega) (by omega) (fun j o h3 h4 h5 => hn j o h3 (by omega) h5)]
      have ho : ops[b]? = some ops[b] := Array.getElem?_eq_getElem _
      obtain ⟨v, hp, h4 | h4⟩ := H.at ho
      · exact (stepOp_quiet (hn b _ (by omega) (by omega) ho) h4.2).1
      · exact h4.2.2
end tr

/-! ### What has been listed -/
section inv
variable {S : Sys} {ops : Array Oper} {tr : List (Tm × AH)} {tm : Tm} {h : AH} {X : Nat → Tm × AH} {m : List Nat}
def Li (L : Array Bool) (i : Nat) : Prop := L.getD i false = true
theorem Li_lt {L : Array Bool} {i : Nat} (h : Li L i) : i < L.size := by
  unfold Li at h
  simp only [Array.getD] at h
  split at h
  · assumption
  · simp at h
theorem Li_set {L : Array Bool} {i j : Nat} (hi : i < L.size) : Li (L.setIfInBounds i true) j ↔ j = i ∨ Li L j := by
  unfold Li
  simp only [Array.getD_eq_getD_getElem?, Array.getElem?_setIfInBounds]
  by_cases e : i = j
  · subst e; simp [hi]
  · rw [if_neg e]
    constructor
    · exact .inr
    · rintro (rfl | h)
      · exact absurd rfl e
      · exact h
structure Inv (T : Tys) (ops : Array Oper) (X : Nat → Tm × AH) (L : Array Bool) (tmc : Tm) (hc : AH) : Prop where
  size : L.size = ops.size
  closed : ∀ (i : Nat) (o : Oper), Li L i → ops[i]? = some o → ∀ x ∈ preds o, Li L x
  tsize : tmc.size = (X 0).1.size
  tmv : ∀ d, ∃ g, g ≤ ops.size ∧ tmc.get d = (X g).1.get d ∧ (∀ (j : Nat) (o : Oper), ops[j]? = some o → o.dst = some d → Li L j → j < g) ∧ (g = 0 ∨ ∃ (k : Nat) (o : Oper), g = k + 1 ∧ Li L k ∧ ops[k]? = some o ∧ o.dst = some d)
  heap : ∃ g, g ≤ ops.size ∧ hc = (X g).2 ∧ (∀ (j : Nat) (o : Oper), ops[j]? = some o → kindOf T o.op = 2 → Li L j → j < g) ∧ (g = 0 ∨ ∃ (k : Nat) (o : Oper), g = k + 1 ∧ Li L k ∧ ops[k]? = some o ∧ kindOf T o.op = 2)

theorem Inv.start (H : TrOk T S ops tr tm h X) : Inv T ops X (Array.replicate ops.size false) tm h := by
  have hn : ∀ i, ¬ Li (Array.replicate ops.size false) i := by
    intro i hi
    unfold Li at hi
    simp only [Array.getD_eq_getD_getElem?, Array.getElem?_replicate] at hi
    split at hi <;> simp at hi
  exact ⟨by simp, fun i o hi => absurd hi (hn i), by rw [H.zero], fun d => ⟨0, Nat.zero_le _, by rw [H.zero], fun j o _ _ hj => absurd hj (hn j), .inl rfl⟩, ⟨0, Nat.zero_le _, by rw [H.zero], fun j o _ _ hj => absurd hj (hn j), .inl rfl⟩⟩

/-- Whatever must come ahead of a listed one is listed. -/
theorem Inv.before (D : DOk T ops.toList m) {L : Array Bool} {tmc : Tm} {hc : AH} (I : Inv T ops X L tmc hc) : ∀ (i : Nat), Li L i → ∀ j, j < ops.size → ordered m i j = true → Li L j := by
  intro i
  induction i using Nat.strongRecOn with
  | _ i ih =>
    intro hi j hj hij
    have hlt : i < ops.size := by have := Li_lt hi; rw [I.size] at this; exact this
    have ho : ops.toList[i]? = some ops[i] := by simp [hlt]
    obtain ⟨x, hx, hxj⟩ := D.step i _ j ho (by simpa using hj) hij
    have hxl := I.closed i ops[i] hi (by simp [hlt]) x hx
    rcases hxj with rfl | hxj
    · exact hxl
    · exact ih x (D.lt i _ ho x hx) hxl j hj hxj
theorem ready_spec {L : Array Bool} {i : Nat} (hi : i ∈ Region.ready .any ops L) (hs : L.size = ops.size) : ∃ o, ops[i]? = some o ∧ ¬ Li L i ∧ ∀ x ∈ preds o, Li L x := by
  unfold Region.ready at hi
  simp only [List.mem_filter, List.mem_range, Bool.and_eq_true] at hi
  obtain ⟨hlt, h1, h2⟩ := hi
  have ho : ops[i]? = some ops[i] := by simp [hlt]
  refine ⟨ops[i], ho, ?_, ?_⟩
  · intro hl
    have hls : i < L.size := by omega
    unfold Li at hl
    simp [Array.getD, hls] at h1 hl
    rw [hl] at h1
    simp at h1
  · intro x hx
    rw [ho] at h2
    simp only [Option.map_some, Option.getD_some] at h2
    unfold preds at hx
    rw [List.mem_filterMap] at hx
    obtain ⟨e, he, hxe⟩ := hx
    rw [Array.all_eq_true] at h2
    obtain ⟨k, hk, rfl⟩ := Array.mem_iff_getElem.1 (by simpa using he)
    have := h2 k hk
    split at hxe
    · rename_i hb
      simp at hxe; subst hxe
      simp [hb] at this
      unfold Li
      simpa [Array.getD_eq_getD_getElem?] using this
    · simp at hxe
theorem ready_nil {L : Array Bool} (D : DOk T ops.toList m) (hr : Region.ready .any ops L = []) (hs : L.size = ops.size) : ∀ i, i < ops.size → Li L i := by
  intro i
  induction i using Nat.strongRecOn with
  | _ i ih =>
    intro hi
    refine Classical.byContradiction fun hn => ?_
    have ho : ops[i]? = some ops[i] := by simp [hi]
    have hmem : i ∈ Region.ready .any ops L := by
      unfold Region.ready
      simp only [List.mem_filter, List.mem_range, Bool.and_eq_true]
      refine ⟨hi, ?_, ?_⟩
      · unfold Li at hn
        have hls : i < L.size := by omega
        simp [Array.getD, hls] at hn ⊢
        exact hn
      · rw [ho]
        simp only [Option.map_some, Option.getD_some]
        rw [Array.all_eq_true]
        intro k hk
        by_cases hb : Region.binds .any (ops[i].after[k]) = true
        · have hp : ops[i].after[k].on ∈ preds ops[i] := by
            unfold preds
            rw [List.mem_filterMap]
            exact ⟨ops[i].after[k], by simp, by rw [if_pos hb]⟩
          have hlt := D.lt i ops[i] (by simp [hi]) _ hp
          have := ih _ hlt (by omega)
          unfold Li at this
          rw [this]; simp
        · simp at hb
          simp [hb]
    rw [hr] at hmem
    simp at hmem

theorem share_dst {l : List Oper} {x y : Oper} {d : Nat} (h1 : x.dst = some d) (h2 : d ∈ looks l y ∨ y.dst = some d) : share l x y = true := by
  unfold share
  rw [h1]
  simp only [Bool.or_eq_true, List.contains_iff_mem, beq_iff_eq]
  rcases h2 with h2 | h2
  · exact .inl (.inl h2)
  · exact .inl (.inr h2)
theorem share_look {l : List Oper} {x y : Oper} {d : Nat} (h1 : y.dst = some d) (h2 : d ∈ looks l x) : share l x y = true := by
  unfold share
  rw [h1]
  simp only [Bool.or_eq_true, List.contains_iff_mem]
  exact .inr h2

theorem toL {i : Nat} {o : Oper} (h : ops[i]? = some o) : ops.toList[i]? = some o := by simpa using h
/-- What a ready operation looks at is what it looks at in the text's order. -/
theorem Inv.look (D : DOk T ops.toList m) (H : TrOk T S ops tr tm h X) {L : Array Bool} {tmc : Tm} {hc : AH} (I : Inv T ops X L tmc hc) {i : Nat} {o : Oper} (ho : ops[i]? = some o) (hn : ¬ Li L i) (hp : ∀ j, j < ops.size → ordered m i j = true → Li L j)
    {d : Nat} (hd : d ∈ looks ops.toList o) : tmc.get d = (X i).1.get d := by
  have hi := (Array.getElem?_eq_some_iff.1 ho).1
  obtain ⟨g, hg, hv, hb, hk⟩ := I.tmv d
  have hgi : g ≤ i := by
    rcases hk with rfl | ⟨k, p, rfl, hLk, hok, hdk⟩
    · exact Nat.zero_le _
    · rcases Nat.lt_trichotomy k i with h1 | h1 | h1
      · omega
      · subst h1; exact absurd hLk hn
      · exact absurd (I.before D k hLk i hi (D.shr k p i o (toL hok) (toL ho) h1 (share_dst hdk (.inl hd)))) hn
  rw [hv]
  refine (H.stayT i hgi (by omega) ?_).symm
  intro j p h1 h2 hoj hdj
  have hLj := hp j (by omega) (D.shr i o j p (toL ho) (toL hoj) h2 (share_look hdj hd))
  have := hb j p hoj hdj hLj
  omega
theorem Inv.heapAt (D : DOk T ops.toList m) (H : TrOk T S ops tr tm h X) {L : Array Bool} {tmc : Tm} {hc : AH} (I : Inv T ops X L tmc hc) {i : Nat} {o : Oper} (ho : ops[i]? = some o) (hn : ¬ Li L i) (hp : ∀ j, j < ops.size → ordered m i j = true → Li L j)
    (h2 : kindOf T o.op = 2) : hc = (X i).2 := by
  have hi := (Array.getElem?_eq_some_iff.1 ho).1
  obtain ⟨g, hg, hv, hb, hk⟩ := I.heap
  have hgi : g ≤ i := by
    rcases hk with rfl | ⟨k, p, rfl, hLk, hok, hdk⟩
    · exact Nat.zero_le _
    · rcases Nat.lt_trichotomy k i with h1 | h1 | h1
      · omega
      · subst h1; exact absurd hLk hn
      · exact absurd (I.before D k hLk i hi (D.eff k p i o (toL hok) (toL ho) h1 hdk h2)) hn
  rw [hv]
  refine (H.stayH i hgi (by omega) ?_).symm
  intro j p h1 h3 hoj
  have hkj := D.kind j p (toL hoj)
  by_cases e : kindOf T p.op = 2
  · have hLj := hp j (by omega) (D.eff i o j p (toL ho) (toL hoj) h3 h2 e)
    have := hb j p hoj e hLj
    omega
  · omega

/-- **ONE STEP, WHENEVER IT IS READY.** -/
theorem Inv.take (D : DOk T ops.toList m) (H : TrOk T S ops tr tm h X) (hloose : looseOk T ops m tr = true) {L : Array Bool} {tmc : Tm} {hc : AH} (I : Inv T ops X L tmc hc) {i : Nat} {o : Oper} (ho : ops[i]? = some o) (hn : ¬ Li L i) (hpr : ∀ x ∈ preds o, Li L x) :
    ∃ tmc' hc', regStep T S ops i tmc hc = some (tmc', hc') ∧ Inv T ops X (L.setIfInBounds i true) tmc' hc' := by
  have hi := (Array.getElem?_eq_some_iff.1 ho).1
  have hiL : i < L.size := by rw [I.size]; exact hi
  have hp : ∀ j, j < ops.size → ordered m i j = true → Li L j := by
    intro j hj hij
    obtain ⟨x, hx, hxj⟩ := D.step i o j (toL ho) (by simpa using hj) hij
    rcases hxj with rfl | hxj
    · exact hpr _ hx
    · exact I.before D x (hpr x hx) j hj hxj
  have hlook : ∀ d, d ∈ looks ops.toList o → tmc.get d = (X i).1.get d := fun d hd => I.look D H ho hn hp hd
  have hw : wantedA ops o tmc = wantedA ops o (X i).1 := by
    unfold wantedA
    cases hgd : o.guard with
    | none => rfl
    | some g =>
      obtain ⟨k, want⟩ := g
      simp only
      cases hd : (ops[k]?).bind (·.dst) with
      | none => rfl
      | some d =>
        simp only
        rw [hlook d (by unfold looks; rw [hgd]; simp [hd])]
  have hev : ∀ x ∈ o.op.operands, ev tmc.get x = ev (X i).1.get x := by
    intro x hx
    refine ev_congr fun t ht => hlook t ?_
    subst ht
    unfold looks
    refine List.mem_append_left _ (List.mem_filterMap.2 ⟨.tmp t, by simpa using hx, rfl⟩)
  have hkd := D.kind i o (toL ho)
  obtain ⟨v, hput, hst⟩ := H.at ho
  obtain ⟨g, hg, hgv, hgb, hgk⟩ := I.heap
  have hts : tmc.size = (X i).1.size := by rw [I.tsize, H.size i (by omega), H.zero]
  obtain ⟨tmc', hput'⟩ := put_some hts hput v
  have heff : kindOf T o.op = 2 → hc = (X i).2 := I.heapAt D H ho hn hp
  -- what the step does
  have hstep : ∃ hc', regStep T S ops i tmc hc = some (tmc', hc') ∧ (kindOf T o.op = 2 → hc' = (X (i + 1)).2) ∧ (kindOf T o.op ≤ 1 → hc' = hc) := by
    unfold regStep
    simp only [ho]
    rw [hw]
    rcases hst with ⟨hwt, hst⟩ | ⟨hwf, hv, hsame⟩
    · rw [if_pos hwt]
      have hcg := stepOp_congr (T := T) (S := S) (h := hc) hev hkd
      rw [hcg]
      by_cases h2 : kindOf T o.op = 2
      · rw [heff h2, hst]
        simp only [hput', Option.map_some]
        exact ⟨_, rfl, fun _ => rfl, fun h1 => by omega⟩
      · obtain ⟨hsame, hevl⟩ := stepOp_quiet (by omega) hst
        have hev2 : evalOp T (X i).1.get o hc = some (.val v hc) := by
          by_cases h0 : kindOf T o.op = 0
          · obtain ⟨u, hu, hall⟩ := kind0 h0 hevl
            cases hu
            exact hall hc
          · have h1 : kindOf T o.op = 1 := by omega
            have hl := hloose
            unfold looseOk at hl
            rw [List.all_eq_true] at hl
            have hli := hl i (List.mem_range.2 hi)
            unfold looseAt at hli
            rw [ho, H.get i (by omega)] at hli
            simp only at hli
            rw [if_pos ⟨h1, hwt⟩, List.all_eq_true] at hli
            have hgm : g ∈ placesOf T ops.toList := by
              unfold placesOf
              rcases hgk with rfl | ⟨k, p, rfl, hLk, hok, hkk⟩
              · simp
              · refine List.mem_cons_of_mem _ (List.mem_filterMap.2 ⟨k, ?_, ?_⟩)
                · have := (Array.getElem?_eq_some_iff.1 hok).1
                  simp [this]
                · rw [toL hok]; simp [hkk]
            have hmay : mayAt T ops.toList m i g = true := by
              unfold mayAt
              rw [List.all_eq_true]
              intro k hk
              have hks : k < ops.size := by simpa using hk
              have hok : ops[k]? = some ops[k] := by simp [hks]
              rw [toL hok]
              simp only
              split
              · rename_i hkk
                simp only [Bool.and_eq_true, Bool.or_eq_true, Bool.not_eq_true', Bool.and_eq_false_iff, decide_eq_true_eq, decide_eq_false_iff_not]
                constructor
                · by_cases hor : ordered m i k = true
                  · exact .inr (hgb k _ hok hkk (hp k hks hor))
                  · exact .inl (.inr (by simpa using hor))
                · by_cases hor : i < k ∧ ordered m k i = true
                  · refine .inr ?_
                    rcases hgk with rfl | ⟨k2, p, rfl, hLk, hok2, hkk2⟩
                    · exact Nat.zero_le _
                    · refine Classical.byContradiction fun hlt => ?_
                      have hk2s := (Array.getElem?_eq_some_iff.1 hok2).1
                      have hLkk : Li L k := by
                        by_cases e : k = k2
                        · subst e; exact hLk
                        · exact I.before D k2 hLk k hks (D.eff k2 p k _ (toL hok2) (toL hok) (by omega) hkk2 hkk)
                      exact hn (I.before D k hLkk i hi hor.2)
                  · refine .inl ?_
                    by_cases h3 : i < k
                    · exact .inr (by simpa using fun h4 => hor ⟨h3, h4⟩)
                    · exact .inl h3
              · rfl
            have := hli g hgm
            rw [if_pos hmay, H.get g hg] at this
            simp only at this
            unfold seesSame at this
            rw [hevl] at this
            rw [hgv]
            cases hz : evalOp T (X i).1.get o (X g).2 with
            | none => rw [hz] at this; simp at this
            | some r =>
              obtain ⟨u, rfl⟩ := kind1 h1 hz
              rw [hz] at this
              simp only at this
              rw [AV.same_eq _ _ this]
        rw [stepOp_val hev2]
        simp only [hput', Option.map_some]
        exact ⟨_, rfl, fun h3 => absurd h3 h2, fun _ => rfl⟩
    · rw [if_neg (by rw [hwf]; simp)]
      subst hv
      rw [hput']
      refine ⟨hc, rfl, fun h2 => by rw [hsame]; exact heff h2, fun _ => rfl⟩
  obtain ⟨hc', hstep, he2, he1⟩ := hstep
  refine ⟨tmc', hc', hstep, ⟨by simp [I.size], ?_, ?_, ?_, ?_⟩⟩
  · intro j p hj hoj x hx
    rw [Li_set hiL] at hj ⊢
    rcases hj with rfl | hj
    · rw [ho] at hoj; cases hoj; exact .inr (hpr x hx)
    · exact .inr (I.closed j p hj hoj x hx)
  · rw [put_size hput', I.tsize]
  · intro d
    by_cases hd : o.dst = some d
    · refine ⟨i + 1, by omega, ?_, ?_, .inr ⟨i, o, rfl, (Li_set hiL).2 (.inl rfl), ho, hd⟩⟩
      · rw [put_get hput', put_get hput, if_pos hd, if_pos hd]
      · intro j p hoj hdj hj
        rw [Li_set hiL] at hj
        rcases hj with rfl | hj
        · omega
        · refine Classical.byContradiction fun hlt => ?_
          have hji : i < j := by omega
          exact hn (I.before D j hj i hi (D.shr j p i o (toL hoj) (toL ho) hji (share_dst hdj (.inr hd))))
    · obtain ⟨g2, h1, h2, h3, h4⟩ := I.tmv d
      refine ⟨g2, h1, ?_, ?_, ?_⟩
      · rw [put_get hput', if_neg hd]; exact h2
      · intro j p hoj hdj hj
        rw [Li_set hiL] at hj
        rcases hj with rfl | hj
        · rw [ho] at hoj; cases hoj; exact absurd hdj hd
        · exact h3 j p hoj hdj hj
      · rcases h4 with h4 | ⟨k, p, h5, h6, h7⟩
        · exact .inl h4
        · exact .inr ⟨k, p, h5, (Li_set hiL).2 (.inr h6), h7⟩
  · by_cases h2 : kindOf T o.op = 2
    · refine ⟨i + 1, by omega, he2 h2, ?_, .inr ⟨i, o, rfl, (Li_set hiL).2 (.inl rfl), ho, h2⟩⟩
      intro j p hoj hkj hj
      rw [Li_set hiL] at hj
      rcases hj with rfl | hj
      · omega
      · refine Classical.byContradiction fun hlt => ?_
        exact hn (I.before D j hj i hi (D.eff j p i o (toL hoj) (toL ho) (by omega) hkj h2))
    · refine ⟨g, hg, by rw [he1 (by omega)]; exact hgv, ?_, ?_⟩
      · intro j p hoj hkj hj
        rw [Li_set hiL] at hj
        rcases hj with rfl | hj
        · rw [ho] at hoj; cases hoj; exact absurd hkj h2
        · exact hgb j p hoj hkj hj
      · rcases hgk with h4 | ⟨k, p, h5, h6, h7⟩
        · exact .inl h4
        · exact .inr ⟨k, p, h5, (Li_set hiL).2 (.inr h6), h7⟩
/-- All listed: the text's order's last state. -/
theorem Inv.fin (H : TrOk T S ops tr tm h X) {L : Array Bool} {tmc : Tm} {hc : AH} (I : Inv T ops X L tmc hc) (hall : ∀ i, i < ops.size → Li L i) (hk : ∀ (i : Nat) (o : Oper), ops[i]? = some o → kindOf T o.op ≤ 2) :
    tmc.size = (X ops.size).1.size ∧ (∀ d, tmc.get d = (X ops.size).1.get d) ∧ hc = (X ops.size).2 := by
  refine ⟨by rw [I.tsize, H.size _ (Nat.le_refl _), H.zero], ?_, ?_⟩
  · intro d
    obtain ⟨g, h1, h2, h3, _⟩ := I.tmv d
    rw [h2]
    refine (H.stayT _ h1 (Nat.le_refl _) ?_).symm
    intro j o hj hlt hoj hd
    have := h3 j o hoj hd (hall j hlt)
    omega
  · obtain ⟨g, h1, h2, h3, _⟩ := I.heap
    rw [h2]
    refine (H.stayH _ h1 (Nat.le_refl _) ?_).symm
    intro j o hj hlt hoj
    have := hk j o hoj
    by_cases e : kindOf T o.op = 2
    · have := h3 j o hoj e (hall j hlt)
      omega
    · omega
end inv
end pure

section walk
variable {P : Program} {T : Tys} {w0 : World}
theorem count_set : ∀ (l : List Bool) (i : Nat), l[i]? = some false → (l.set i true).count false + 1 = l.count false
  | [], i, h => by simp at h
  | b :: l, 0, h => by simp at h; subst h; simp
  | b :: l, i + 1, h => by
    have := count_set l i (by simpa using h)
    simp only [List.set_cons_succ, List.count_cons]
    omega
theorem count_zero {L : Array Bool} (h : L.toList.count false = 0) : ∀ i, i < L.size → Li L i := by
  intro i hi
  unfold Li
  rw [List.count_eq_zero] at h
  have : L[i] ∈ L.toList := by simp
  simp only [Array.getD, hi, dif_pos]
  cases hb : L[i] with
  | true => simpa using hb
  | false => rw [hb] at this; exact absurd this h
theorem TmR.congr {ρ : Rho} {t t' : Tm} {ts : Array Value} (h : TmR w0 ρ t ts) (hs : t.size = t'.size) (hg : ∀ d, t.get d = t'.get d) : TmR w0 ρ t' ts := ⟨by rw [← hs]; exact h.1, fun i => by rw [← hg]; exact h.2 i⟩

theorem any_wp {S : Sys} {rd : Option Nat} {n : Nat} {ops : Array Oper} {Q : Exit → Act → World → Prop} {m : List Nat} {tr : List (Tm × AH)} {tm : Tm} {h : AH} {X : Nat → Tm × AH} (hT : TOk P T) (hF : FOk P) (hS : SysOk P w0 S)
    (D : DOk T ops.toList m) (H : TrOk T S ops tr tm h X) (hloose : looseOk T ops m tr = true) (ρ0 : Rho) (A0 : Act)
    (hk : ∀ ρ' A' w', Ext ρ0 ρ' → WR w0 ρ' (X ops.size).2 w' → TmR w0 ρ' (X ops.size).1 A'.tmps → A'.defers = A0.defers → Q .normal A' w') :
    ∀ (fuel : Nat) (L : Array Bool) (tmc : Tm) (hc : AH) (ρ : Rho) (A : Act) (w : World), L.toList.count false ≤ fuel → Inv T ops X L tmc hc → Ext ρ0 ρ → WR w0 ρ hc w → TmR w0 ρ tmc A.tmps → A.defers = A0.defers →
      wpAnyIn (FW rd) n P .any ops Q fuel L A w := by
  have done : ∀ (L : Array Bool) (tmc : Tm) (hc : AH) (ρ : Rho) (A : Act) (w : World), (∀ i, i < ops.size → Li L i) → Inv T ops X L tmc hc → Ext ρ0 ρ → WR w0 ρ hc w → TmR w0 ρ tmc A.tmps → A.defers = A0.defers → Q .normal A w := by
    intro L tmc hc ρ A w hall I hx Hw ht hd
    obtain ⟨h1, h2, h3⟩ := I.fin H hall fun i o ho => D.kind i o (toL ho)
    exact hk ρ A w hx (by rw [← h3]; exact Hw) (ht.congr h1 h2) hd
  intro fuel
  induction fuel with
  | zero =>
    intro L tmc hc ρ A w hc0 I hx Hw ht hd
    have hall : ∀ i, i < ops.size → Li L i := fun i hi => count_zero (by omega) i (by rw [I.size]; exact hi)
    refine ⟨?_, done L tmc hc ρ A w hall I hx Hw ht hd⟩
    refine List.eq_nil_iff_forall_not_mem.2 fun i hi => ?_
    obtain ⟨o, ho, hn, _⟩ := ready_spec hi I.size
    exact hn (hall i (Array.getElem?_eq_some_iff.1 ho).1)
  | succ fuel ih =>
    intro L tmc hc ρ A w hc0 I hx Hw ht hd
    refine ⟨fun hr => done L tmc hc ρ A w (ready_nil D hr I.size) I hx Hw ht hd, fun i hi => ?_⟩
    obtain ⟨o, ho, hn, hp⟩ := ready_spec hi I.size
    obtain ⟨tmc', hc', hst, I'⟩ := I.take D H hloose ho hn hp
    refine regStep_wp hT hF hS hst Hw ht fun ρ' A' w' hx' Hw' ht' hd' => ?_
    refine ih _ tmc' hc' ρ' A' w' ?_ I' (hx.trans hx') Hw' ht' (hd'.trans hd)
    have hiL : i < L.size := by rw [I.size]; exact (Array.getElem?_eq_some_iff.1 ho).1
    have hf : L.toList[i]? = some false := by
      unfold Li at hn
      simp [Array.getD, hiL] at hn ⊢
      exact hn
    have := count_set L.toList i hf
    rw [Array.toList_setIfInBounds]
    omega

/-- **REGIONS THAT DRAW.** -/
theorem draw_ok (hM : P.follows .mixedOrders = true) (hT : TOk P T) (hF : FOk P) : ∀ S, SysOk P w0 S → DrawOk P T w0 S := by
  intro S hS rd n id ops Q ρ h h' w tm tm' A hr Hw ht hk
  unfold regDraw at hr
  split at hr
  · rename_i hD
    split at hr
    · simp at hr
    · rename_i tr htr
      split at hr
      · rename_i hl
        have D := drawOk_DOk hD
        have H := regTrace_TrOk htr
        have hX := H.get ops.size (Nat.le_refl _)
        rw [hr] at hX
        simp only [Option.some.injEq] at hX
        refine wpIn_region_any hM ?_
        refine any_wp hT hF hS D H hl ρ A ?_ ops.size _ tm h ρ A w.drew ?_ (Inv.start H) (Ext.refl _) Hw.drew ht rfl
        · intro ρ' A' w' hx' Hw' ht' hd'
          rw [← hX] at Hw' ht'
          exact hk ρ' A' w' hx' Hw' ht' hd'
        · have := List.count_le_length (a := false) (l := (Array.replicate ops.size false).toList)
          exact Nat.le_trans this (by simp)
      · simp at hr
  · simp at hr

/-- **THE WHOLE.** -/
theorem abs_ok (hM : P.follows .mixedOrders = true) (hT : TOk P T) (hF : FOk P) (n : Nat) : SysOk P w0 ⟨callA P T n, yieldA P T n⟩ := sys_ok hT hF (draw_ok hM hT hF) n
end walk
end Go.Abs
end

section
/- From the abstract machine's answer to a row: 'it returns true, and what came in reads as it did'. -/
set_option linter.unusedSimpArgs false
set_option linter.unusedVariables false
namespace Go.Abs
open Go.RowKit Go.ChangeShapes

/-! ### The type table, by reckoning -/
def ti1B (P : Program) (t : TypeId) (ti : TI) : Bool :=
  match P.info? t, P.underlying t with
  | some i, some d => decide (i.size = ti.size) && decide (i.bytes = ti.bytes) &&
    (match i.zero with
     | some z => (match AV.ofVals z.cells.toList with | some l => AV.sames l ti.zero | none => false)
     | none => false) &&
    ti.zero.all AV.one && (!ti.eqOk || (P.eqGuardType P.depth t == false && P.stoodInHeld t == false))
  | _, _ => false

def tiB (P : Program) (t : TypeId) (ti : TI) : Bool :=
  decide (ti.desc = .bad) || (ti1B P t ti && (match P.underlying t with | some d => decide (tdOf d = ti.desc) | none => false))
def tisB (P : Program) : Nat → List TI → Bool
  | _, [] => true
  | t, ti :: l => tiB P t ti && tisB P (t + 1) l
theorem tisB_get {P : Program} : ∀ {l : List TI} {b i : Nat} {ti : TI}, tisB P b l = true → l[i]? = some ti → tiB P (b + i) ti = true
  | [], b, i, ti, h, hi => by simp at hi
  | x :: l, b, 0, ti, h, hi => by
    simp only [tisB, Bool.and_eq_true] at h
    simp at hi; subst hi; exact h.1
  | x :: l, b, i + 1, ti, h, hi => by
    simp only [tisB, Bool.and_eq_true] at h
    have := tisB_get h.2 (by simpa using hi)
    rwa [Nat.add_assoc, Nat.add_comm 1 i] at this
theorem TOk_of {P : Program} {l : List TI} (h : tisB P 0 l = true) : TOk P (fun t => (l[t]?).getD default) := by
  intro t ht
  cases hl : l[t]? with
  | none => simp [hl] at ht; exact absurd rfl ht
  | some ti =>
    simp only [hl, Option.getD_some] at ht ⊢
    have := tisB_get h hl
    rw [Nat.zero_add] at this
    unfold tiB at this
    simp only [Bool.or_eq_true, decide_eq_true_eq, Bool.and_eq_true] at this
    rcases this with h1 | ⟨h1, h2⟩
    · exact absurd h1 ht
    · unfold ti1B at h1
      split at h1
      · rename_i i d hi hd
        rw [hd] at h2
        simp only [Bool.and_eq_true, decide_eq_true_eq] at h1 h2
        obtain ⟨⟨⟨⟨k1, k2⟩, k3⟩, k4⟩, k5⟩ := h1
        split at k3
        · rename_i z hz
          split at k3
          · rename_i lz hlz
            refine ⟨i, d, z, hi, hd, h2, k1, k2, hz, by rw [hlz, AV.sames_eq _ _ k3], k4, ?_⟩
            intro he
            simp [he] at k5
            exact k5
          · simp at k3
        · simp at k3
      · simp at h1
def fnsB (P : Program) : Bool := P.funcs.all fun fn => !(fn.name == "runtime.NumGoroutine")
theorem FOk_of {P : Program} (h : fnsB P = true) : FOk P := by
  intro f fn hf
  unfold fnsB at h
  rw [Array.all_eq_true_iff_forall_mem] at h
  have := h fn (Array.mem_of_getElem? hf)
  simpa using this

/-! ### A call -/
variable {P : Program} {T : Tys}
theorem WR_start (W : World) : WR W (fun _ => none) AH.empty W :=
  ⟨Below.refl _ _, fun i _ => ⟨rfl, rfl⟩, fun i o h => by simp [AH.get, AH.empty, Tr.get] at h, fun i j o o' p q h => by simp [AH.get, AH.empty, Tr.get] at h⟩
theorem callA_body {n : Nat} {f : FuncId} {as : List AV} {h h' : AH} {b : Bool} (hr : callA P T n f as h = some (.bool b, h')) : ∃ fn c, P.funcs[f]? = some fn ∧ fn.body = some c := by
  cases n with
  | zero => simp [callA] at hr
  | succ n =>
    simp only [callA] at hr
    split at hr
    · simp at hr
    · rename_i fn hfn
      split at hr
      · unfold extA at hr
        split at hr
        · split at hr <;> simp at hr
        · simp at hr
      · rename_i c hc
        exact ⟨fn, c, hfn, hc⟩
theorem calls_true (hM : P.follows .mixedOrders = true) (hT : TOk P T) (hF : FOk P) {n : Nat} {f : FuncId} {as : List AV} {h' : AH} {W : World} {args : Array Value}
    (hr : callA P T n f as AH.empty = some (.bool true, h')) (ha : VRs W (fun _ => none) as args.toList) :
    Calls P f args W fun e W' => e = .returned (.bool true) ∧ Below W.heap.size W W' := by
  have h := (abs_ok (w0 := W) hM hT hF n).call f as AH.empty _ h' hr (callA_body hr) (fun _ => none) W args.toList 0 (WR_start W) ha
  rw [Array.toArray_toList] at h
  refine (h.calls fun k => FW_room none k).mono ?_
  rintro e W' ⟨ρ', u, rfl, _, H, hv⟩
  cases hv
  exact ⟨rfl, H.below⟩

/-! ### The row's post -/
section post
variable {H : Type} {enc : TypeId × Value → H}
theorem trodAll_stays {W W' : World} {sp : Nat → Bool} (hl : laidOutB P = true) (hb : Below W.heap.size W W') : ∀ {ts : List TypeId} {vs : List Value} {ds : List (DataW H)} {ps : List MemPlace},
    (∀ t ∈ ts, P.readableRec t = true ∧ t < P.types.size) → DataW.TrodAll enc P W 0 (fun _ => true) true ts vs ds ps → (∀ p ∈ ps, p.block < W.heap.size) → (∀ p ∈ ps, sp p.block = true) →
    DataW.TrodAll enc P W' 0 sp true ts vs ds ps
  | [], vs, ds, ps, _, h, _, _ => by
    obtain ⟨rfl, rfl, rfl⟩ := trodAll_nil h
    exact trodAll_mk0
  | t :: ts, vs, ds, ps, hts, h, hlt, hsp => by
    obtain ⟨v, vs1, d, ds1, p, q, rfl, rfl, rfl, h1, h2⟩ := trodAll_cons h
    have ht := hts t List.mem_cons_self
    refine ⟨p, q, WideElems.Trod_stays hl ht.1 ht.2 h1 (fun x hx => hb.same (hlt x (List.mem_append_left _ hx))) (fun x hx => hsp x (List.mem_append_left _ hx)), ?_, rfl⟩
    exact trodAll_stays hl hb (fun u hu => hts u (List.mem_cons_of_mem _ hu)) h2 (fun x hx => hlt x (List.mem_append_right _ hx)) (fun x hx => hsp x (List.mem_append_right _ hx))
def parsB (P : Program) (ts : List TypeId) : Bool := ts.all fun t => P.readableRec t && decide (t < P.types.size)
theorem post_true {f : Func} {s : ChangeSpec} {apart fresh again : Bool} {W W' : World} {args : Array Value} {ds gs : List (DataW H)} {before : List MemPlace} {tb : TypeId} (hl : laidOutB P = true) (hp : parsB P f.params.toList = true)
    (hrt : f.resultTypes = #[tb]) (htb : P.underlying tb = some .bool) (hvs : s.vars = []) (hW : DataW.Whole enc P f.params.toList s.vars apart W args.toList ds gs before)
    (hs : s.fn H (ds ++ gs) = { results := [.lit (.bool true)], args := ds }) (hb : Below W.heap.size W W') : s.post enc P f apart fresh false again W args (.bool true) W' := by
  have hW0 := hW
  have hlt : ∀ p ∈ before, p.block < W.heap.size := fun p hp => hW.lt p hp
  obtain ⟨p, q, hA, hV, rfl, hz, hn⟩ := hW
  rw [hvs] at hV
  obtain ⟨rfl, rfl⟩ := trodVars_none hV
  rw [List.append_nil] at hs hlt hz hn
  have hts : ∀ t ∈ f.params.toList, P.readableRec t = true ∧ t < P.types.size := by
    intro t ht
    unfold parsB at hp
    rw [List.all_eq_true] at hp
    simpa using hp t ht
  have hargs : ∀ sp : Nat → Bool, (∀ x ∈ p, sp x.block = true) → DataW.TrodAll enc P W' 0 sp true f.params.toList args.toList ds p := fun sp hsp => trodAll_stays hl hb hts hA hlt hsp
  have hres : ∀ (b : Nat) (sp : Nat → Bool) (hd : Bool), DataW.TrodAll enc P W' b sp hd f.resultTypes.toList ((Value.bool true).resultList f.resultTypes.size) [.lit (.bool true)] [] := by
    intro b sp hd
    rw [hrt]
    exact ⟨[], [], shut_bool htb true, trodAll_mk0, rfl⟩
  have e : s.fn H (ds ++ []) = { results := [.lit (.bool true)], args := ds } := by rw [List.append_nil]; exact hs
  refine ⟨ds, [], p ++ [], [], p, [], hW0, ?_, ?_, ?_, ?_, fun _ => ⟨?_, [.lit (.bool true)] ++ ds, [], p, ?_, ?_⟩⟩
  · rw [e]; exact hres _ _ _
  · rw [e]; exact hargs _ fun x hx => by simpa using hlt x hx
  · rw [e, hvs]; exact rfl
  · exact hb.frame _
  · intro j t r h1 h2
    rw [hrt] at h1 h2
    match j, h1, h2 with
    | 0, h1, h2 =>
      simp [Value.resultList] at h1 h2
      subst h1; subst h2
      exact okWide_bool_mk htb true
  · refine ⟨[] ++ p, [], trodAll_append (hargs _ fun _ _ => rfl) (hres _ _ _), by rw [hvs]; exact rfl, by simp, ?_, hn⟩
    intro b off hm
    rw [hb.frozen (p := ⟨b, off, none⟩) (hlt _ hm)]
    exact hz b off hm
  · intro x hx _
    simpa using hx
end post
end Go.Abs
end
