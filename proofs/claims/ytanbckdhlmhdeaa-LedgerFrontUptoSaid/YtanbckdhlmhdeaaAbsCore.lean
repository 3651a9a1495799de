/- An abstract machine for single-goroutine Go code: values, heap, and an evaluator of the model's code. Definitions only. -/
import Derived.CallsIn
import Derived.KernelRfl
namespace Go.Abs

/-! ### A finite map on numbers, quick in the kernel -/
inductive Tr (α : Type) where
  | leaf
  | node (v : Option α) (l r : Tr α)

def Tr.get {α : Type} : Tr α → Nat → Option α
  | .leaf, _ => none
  | .node v l r, k => match k with
    | 0 => v
    | k + 1 => if k % 2 = 0 then l.get (k / 2) else r.get (k / 2)

/-- 'node v c r', c looked at first. -/
def Tr.mkL {α : Type} (v : Option α) (c r : Tr α) : Tr α := match c with | .leaf => .node v .leaf r | .node a b d => .node v (.node a b d) r
def Tr.mkR {α : Type} (v : Option α) (l c : Tr α) : Tr α := match c with | .leaf => .node v l .leaf | .node a b d => .node v l (.node a b d)

def Tr.setF {α : Type} : Nat → Tr α → Nat → α → Tr α
  | 0, t, _, _ => t
  | f + 1, .leaf, k, x => match k with
    | 0 => .node (some x) .leaf .leaf
    | k + 1 => if k % 2 = 0 then .mkL none (setF f .leaf (k / 2) x) .leaf else .mkR none .leaf (setF f .leaf (k / 2) x)
  | f + 1, .node v l r, k, x => match k with
    | 0 => .node (some x) l r
    | k + 1 => if k % 2 = 0 then .mkL v (setF f l (k / 2) x) r else .mkR v l (setF f r (k / 2) x)
def Tr.set {α : Type} (t : Tr α) (k : Nat) (x : α) : Tr α := t.setF (k + 1) k x

/-! ### Values -/
inductive AV where
  | int (k : IntKind) (n : Int)
  | bool (b : Bool)
  | str (s : List UInt8)
  | ptr (a : Option (Nat × Nat))
  | iptr (row : List AV) (off : Nat)
  | slice (a : Option (Nat × Nat)) (len cap sz : Nat) (ex : Bool)
  | islice (row : List AV) (off len cap sz : Nat)
  | func (f : FuncId) (cap : List AV)
  | yield (l : Nat)
  | nilFunc
  | agg (cs : List AV)
  | tuple (vs : List AV)
  deriving Inhabited

def undefA : AV := .tuple []

def AV.cells : AV → List AV
  | .agg cs => cs
  | v => [v]
def AV.one : AV → Bool
  | .agg _ | .tuple _ => false
  | _ => true

/-- A constant of the code. -/
def AV.ofVal1 : Value → Option AV
  | .int k n => some (.int k n)
  | .bool b => some (.bool b)
  | .string s => some (.str s.data.toList)
  | .pointer none => some (.ptr none)
  | .slice none 0 0 => some (.slice none 0 0 0 true)
  | .nilFunc => some .nilFunc
  | _ => none
def AV.ofVals : List Value → Option (List AV)
  | [] => some []
  | v :: r => match AV.ofVal1 v, AV.ofVals r with
    | some a, some l => some (a :: l)
    | _, _ => none
def AV.ofVal : Value → Option AV
  | .agg cs => (AV.ofVals cs.toList).map .agg
  | .tuple cs => (AV.ofVals cs.toList).map .tuple
  | v => AV.ofVal1 v

/-! ### Temporaries -/
structure Tm where
  size : Nat
  tr : Tr AV
def Tm.get (t : Tm) (i : Nat) : AV := (t.tr.get i).getD undefA
def Tm.set (t : Tm) (i : Nat) (v : AV) : Tm := { t with tr := t.tr.set i v }
def Tm.put (t : Tm) (d : Option Nat) (v : AV) : Option Tm :=
  match d with
  | none => some t
  | some d => if d < t.size then some (t.set d v) else none
def Tm.fillFrom (t : Tm) : Nat → List AV → Tm
  | _, [] => t
  | i, v :: r => (t.set i v).fillFrom (i + 1) r
def Tm.enter (args : List AV) (n : Nat) : Tm := Tm.fillFrom { size := max args.length n, tr := .leaf } 0 args

/-! ### Heap -/
inductive AO where
  | cells (cs : List AV)
  | loop (st : LoopState) (pending : Option Code) (tm : Tm) (ps : List Nat) (assign body : Code)
  | defs (taken : Bool)
  | dead
structure AH where
  size : Nat
  tr : Tr AO
def AH.get (h : AH) (i : Nat) : Option AO := h.tr.get i
def AH.set (h : AH) (i : Nat) (o : AO) : AH := { h with tr := h.tr.set i o }
def AH.push (h : AH) (o : AO) : AH := { size := h.size + 1, tr := h.tr.set h.size o }
def AH.empty : AH := { size := 0, tr := .leaf }

/-- n cells from offset o of a list. -/
def cut (cs : List AV) (o n : Nat) : Option (List AV) := if o + n ≤ cs.length then some ((cs.drop o).take n) else none
/-- The list with new cells laid over it from offset o on. -/
def over (cs : List AV) (o : Nat) (new : List AV) : List AV := cs.take o ++ new ++ cs.drop (o + new.length)
def AH.read (h : AH) (i o n : Nat) : Option (List AV) :=
  match h.get i with
  | some (.cells cs) => cut cs o n
  | _ => none
def AH.write (h : AH) (i o : Nat) (new : List AV) : Option AH :=
  match h.get i with
  | some (.cells cs) => if o + new.length ≤ cs.length then some (h.set i (.cells (over cs o new))) else none
  | _ => none

/-! ### Types -/
inductive TD where
  | bad | int (k : IntKind) | bool | string | pointer (e : Nat) | slice (e : Nat) | array (n e : Nat)
  | struct (fs : List (Nat × Nat × Bool)) | func | tuple
  deriving Inhabited, DecidableEq
structure TI where
  desc : TD
  size : Nat
  bytes : Nat
  zero : List AV
  eqOk : Bool := false
  deriving Inhabited
abbrev Tys := Nat → TI
def TD.isAgg : TD → Bool
  | .array .. | .struct _ => true
  | _ => false

def okT (T : Tys) (t : TypeId) : Bool := match (T t).desc with | .bad => false | _ => true

/-! ### Operations -/
inductive OpR where
  | val (v : AV) (h : AH)
  | enter (f : FuncId) (args : List AV)
  | round (l : Nat) (args : List AV)

abbrev Env := Nat → AV
def ev (ρ : Env) : Operand → Option AV
  | .tmp t => some (ρ t)
  | .const v => AV.ofVal v
  | .global _ => none
  | .func f => some (.func f [])
def evs (ρ : Env) : List Operand → Option (List AV)
  | [] => some []
  | x :: r => match ev ρ x, evs ρ r with
    | some a, some l => some (a :: l)
    | _, _ => none

def intBin (op : BinOp) (k : IntKind) (x y : Int) : Option AV :=
  match op with
  | .add => some (.int k (k.wrap (x + y)))
  | .sub => some (.int k (k.wrap (x - y)))
  | .mul => some (.int k (k.wrap (x * y)))
  | .quo => if y = 0 then none else some (.int k (k.wrap (x.tdiv y)))
  | .rem => if y = 0 then none else some (.int k (x.tmod y))
  | .and => some (.int k (k.wrap (BitVec.ofInt k.bits x &&& BitVec.ofInt k.bits y).toNat))
  | .or => some (.int k (k.wrap (BitVec.ofInt k.bits x ||| BitVec.ofInt k.bits y).toNat))
  | .xor => some (.int k (k.wrap (BitVec.ofInt k.bits x ^^^ BitVec.ofInt k.bits y).toNat))
  | .andNot => some (.int k (k.wrap (BitVec.ofInt k.bits x &&& ~~~(BitVec.ofInt k.bits y)).toNat))
  | .shl => if y < 0 then none else some (.int k (k.wrap (x * 2 ^ min y.toNat k.bits)))
  | .shr => if y < 0 then none else some (.int k (x.fdiv (2 ^ min y.toNat k.bits)))
  | .eql => some (.bool (x == y))
  | .neq => some (.bool (x != y))
  | .lss => some (.bool (decide (x < y)))
  | .leq => some (.bool (decide (x ≤ y)))
  | .gtr => some (.bool (decide (x > y)))
  | .geq => some (.bool (decide (x ≥ y)))
def strBin (op : BinOp) (x y : List UInt8) : Option AV :=
  match op with
  | .add => if ((x.length + y.length : Nat) : Int) > 9223372036854775807 then none else some (.str (x ++ y))
  | .eql => some (.bool (x == y))
  | .neq => some (.bool (!(x == y)))
  | .lss => some (.bool (Op.bytesLess x y))
  | .leq => some (.bool (Op.bytesLess x y || x == y))
  | .gtr => some (.bool (!(Op.bytesLess x y || x == y)))
  | .geq => some (.bool (!Op.bytesLess x y))
  | _ => none
/-- '==' of two values that are no numbers and no texts, at a type. -/
def eqA (d : TD) (x y : AV) : Option Bool :=
  match d, x, y with
  | .bool, .bool a, .bool b => some (a == b)
  | .pointer _, .ptr none, .ptr b => some b.isNone
  | .pointer _, .ptr none, .iptr _ _ => some false
  | .pointer _, .ptr (some _), .ptr none => some false
  | .pointer _, .iptr _ _, .ptr none => some false
  | .slice _, .slice none _ _ _ _, .slice b _ _ _ _ => some b.isNone
  | .slice _, .slice none _ _ _ _, .islice .. => some false
  | .slice _, .slice (some _) _ _ _ _, .slice none _ _ _ _ => some false
  | .slice _, .islice .., .slice none _ _ _ _ => some false
  | .func, .nilFunc, .nilFunc => some true
  | .func, .nilFunc, .func _ _ => some false
  | .func, .func _ _, .nilFunc => some false
  | .func, .nilFunc, .yield _ => some false
  | .func, .yield _, .nilFunc => some false
  | _, _, _ => none
/-- '==' of one cell of a struct. -/
def eqCell (d : TD) (x y : AV) : Option Bool :=
  match d, x, y with
  | .int _, .int k a, .int k' b => if k = k' then some (a == b) else none
  | .string, .str a, .str b => some (a == b)
  | .bool, .bool a, .bool b => some (a == b)
  | _, _, _ => none
/-- '==' of two structs, all of whose fields are numbers, texts and bools: field by field, as long as they are the same. -/
def eqFields (T : Tys) (xs ys : List AV) : List (Nat × Nat × Bool) → Option Bool
  | [] => some true
  | (t, off, counted) :: r =>
    if !counted then eqFields T xs ys r else
    match xs[off]?, ys[off]? with
    | some x, some y => match eqCell (T t).desc x y with
      | some true => eqFields T xs ys r
      | some false => some false
      | none => none
    | _, _ => none
def binA (T : Tys) (op : BinOp) (t : TypeId) (x y : AV) : Option AV :=
  match x, y with
  | .int k a, .int k' b => if k = k' ∨ op = .shl ∨ op = .shr then intBin op k a b else none
  | .str a, .str b => strBin op a b
  | .agg xs, .agg ys =>
    match (T t).desc with
    | .struct fs =>
      if !(T t).eqOk then none else
      match op with
      | .eql => (eqFields T xs ys fs).map .bool
      | .neq => (eqFields T xs ys fs).map fun b => .bool (!b)
      | _ => none
    | _ => none
  | x, y => match op with
    | .eql => (eqA (T t).desc x y).map .bool
    | .neq => (eqA (T t).desc x y).map fun b => .bool (!b)
    | _ => none
def unA (op : UnOp) (x : AV) : Option AV :=
  match op, x with
  | .not, .bool b => some (.bool !b)
  | .neg, .int k n => some (.int k (k.wrap (0 - n)))
  | .xor, .int k n => some (.int k (k.wrap (BitVec.ofInt k.bits (if k.signed then -1 else k.max) ^^^ BitVec.ofInt k.bits n).toNat))
  | _, _ => none

def bytesOf : List AV → Option (List UInt8)
  | [] => some []
  | .int .u8 n :: r => (bytesOf r).map (UInt8.ofNat n.toNat :: ·)
  | _ :: _ => none
def ofBytes (s : List UInt8) : List AV := s.map fun b => .int .u8 b.toNat

/-- The first n elements of a slice, or of a text, as cells of which an element has sz. -/
def elems (h : AH) (sz n : Nat) : AV → Option (List AV)
  | .slice none _ _ _ _ => if n = 0 then some [] else none
  | .slice (some (i, o)) len cap s _ => if n = 0 ∨ sz = 0 then some [] else if n ≤ len ∧ s = sz ∧ len ≤ cap then h.read i o (n * sz) else none
  | .islice row off len cap s => if n = 0 ∨ sz = 0 then some [] else if n ≤ len ∧ s = sz ∧ len ≤ cap then (match cut row off (n * sz) with | some cs => if cs.all AV.one then some cs else none | none => none) else none
  | .str s => if sz = 1 ∧ n ≤ s.length then some (ofBytes (s.take n)) else none
  | _ => none
def lenA : AV → Option Nat
  | .slice _ n _ _ _ => some n
  | .islice _ _ n _ _ => some n
  | .str s => some s.length
  | _ => none

/-- A struct's or an array's cells, some parts laid over them. -/
def fillA (place : Nat → Option (Nat × Nat)) (cells : List AV) : List (Nat × AV) → Option (List AV)
  | [] => some cells
  | (i, v) :: rest =>
    match place i with
    | none => none
    | some (off, size) => if v.cells.length = size ∧ off + size ≤ cells.length ∧ v.cells.all AV.one then fillA place (over cells off v.cells) rest else none
def evParts (ρ : Env) : List (Nat × Operand) → Option (List (Nat × AV))
  | [] => some []
  | (i, x) :: r => match ev ρ x, evParts ρ r with
    | some a, some l => some ((i, a) :: l)
    | _, _ => none
def rep (zero : List AV) : Nat → List AV
  | 0 => []
  | n + 1 => zero ++ rep zero n

def loadA (T : Tys) (h : AH) (t : TypeId) (x : AV) : Option AV :=
  let d := (T t).desc
  match d with
  | .bad => none
  | _ =>
    if d.isAgg then
      match x with
      | .ptr (some (i, o)) => (h.read i o (T t).size).map .agg
      | .iptr row off => (cut row off (T t).size).map .agg
      | _ => none
    else
      match x with
      | .ptr (some (i, o)) => match h.read i o 1 with | some [v] => some v | _ => none
      | .iptr row off => row[off]?
      | _ => none
def storeA (T : Tys) (h : AH) (t : TypeId) (x v : AV) : Option AH :=
  match x with
  | .ptr (some (i, o)) =>
    match (T t).desc with
    | .bad => none
    | _ => if v.cells.length = (T t).size ∧ v.cells.all AV.one then h.write i o v.cells else none
  | _ => none

def asI : Option AV → Option (Option Int)
  | none => some none
  | some (.int _ n) => some (some n)
  | some _ => none
/-- A slice expression's operands: none: not written. -/
def evO (ρ : Env) : Option Operand → Option (Option AV)
  | none => some none
  | some x => (ev ρ x).map some

def sliceA (T : Tys) (t : TypeId) (x : AV) (lo hi mx : Option Int) : Option AV :=
  match (T t).desc, x with
  | .string, .str s =>
    if mx.isSome then none else
    let h := hi.getD s.length
    let l := lo.getD 0
    if 0 ≤ l ∧ l ≤ h ∧ h ≤ s.length then some (.str ((s.drop l.toNat).take (h.toNat - l.toNat))) else none
  | .slice e, .slice a len cap sz ex =>
    let h := hi.getD len
    let l := lo.getD 0
    let m := mx.getD cap
    if !okT T e then none else
    if mx.isSome ∧ hi.isNone then none else
    if 0 ≤ l ∧ l ≤ h ∧ h ≤ m ∧ m ≤ cap ∧ len ≤ cap then
      match a with
      | none => some (.slice none 0 0 sz true)
      | some (i, o) => if sz = (T e).size then some (.slice (some (i, o + l.toNat * sz)) (h.toNat - l.toNat) (m.toNat - l.toNat) sz (ex || mx.isSome)) else none
    else none
  | .slice e, .islice row off len cap sz =>
    let h := hi.getD len
    let l := lo.getD 0
    let m := mx.getD cap
    if !okT T e then none else
    if mx.isSome ∧ hi.isNone then none else
    if 0 ≤ l ∧ l ≤ h ∧ h ≤ m ∧ m ≤ cap ∧ len ≤ cap ∧ sz = (T e).size then
      some (.islice row (off + l.toNat * sz) (h.toNat - l.toNat) (m.toNat - l.toNat) sz)
    else none
  | _, _ => none

def convA (T : Tys) (h : AH) (src dst : TypeId) (x : AV) : Option (AV × AH) :=
  match (T src).desc, (T dst).desc, x with
  | .bad, _, _ => none
  | _, .int k, .int _ n => some (.int k (k.wrap n), h)
  | _, .string, .str s => some (.str s, h)
  | .slice e, .string, x =>
    match (T e).desc with
    | .int .u8 =>
      match lenA x, x with
      | _, .str _ => none
      | some n, x => match elems h 1 n x with
        | some cs => (bytesOf cs).map fun s => (.str s, h)
        | none => none
      | none, _ => none
    | _ => none
  | .slice _, .slice e, .slice (some (i, o)) len cap sz ex =>
    match (T e).desc, h.get i with
    | .int .u8, some (.cells _) => if src = dst ∧ 0 < cap then some (.slice (some (i, o)) len cap sz ex, h) else none
    | _, _ => none
  | _, .slice e, .str s =>
    match (T e).desc with
    | .int .u8 => if s.length ≤ 9223372036854775807 then some (.slice (some (h.size, 0)) s.length s.length 1 false, h.push (.cells (ofBytes s))) else none
    | _ => none
  | _, _, _ => none

/-- Where is a new array made for certain, or may there be room that the abstract machine does not know of? -/
def appendA (T : Tys) (h : AH) (t xt : TypeId) (s x : AV) : Option (AV × AH) :=
  match (T t).desc, (T xt).desc with
  | .slice e, .slice _ | .slice e, .string =>
    let sz := (T e).size
    if !okT T e then none else
    match lenA x with
    | none => none
    | some n =>
      match elems h sz n x with
      | none => none
      | some new =>
        match s with
        | .slice a len cap s0 ex =>
          let need := len + n
          if need ≤ cap then
            match a with
            | none => some (.slice none need cap s0 true, h)
            | some (i, o) =>
              if new = [] then some (.slice (some (i, o)) need cap s0 ex, h)
              else if s0 = sz then match h.write i (o + len * sz) new with
                | some h' => some (.slice (some (i, o)) need cap sz ex, h')
                | none => none
              else none
          else if need * (T e).bytes ≤ 140737488355328 ∧ 0 < (T e).bytes ∧ (T e).zero.length = sz ∧ need ≤ 9223372036854775807 then
            match elems h sz len s with
            | none => none
            | some old =>
              let h1 := match a with
                | some (i, _) => if ex then some h else match h.get i with
                  | some (.cells _) => if s0 = sz then some (h.set i .dead) else none
                  | _ => none
                | none => some h
              match h1 with
              | none => none
              | some h1 => some (.slice (some (h.size, 0)) need need sz false, h1.push (.cells (old ++ new)))
          else none
        | .islice row off len cap s0 =>
          let need := len + n
          if need ≤ cap then (if new = [] then some (.islice row off need cap s0, h) else none)
          else if need * (T e).bytes ≤ 140737488355328 ∧ 0 < (T e).bytes ∧ (T e).zero.length = sz ∧ need ≤ 9223372036854775807 then
            match elems h sz len s with
            | none => none
            | some old => some (.slice (some (h.size, 0)) need need sz false, h.push (.cells (old ++ new)))
          else none
        | _ => none
  | _, _ => none

def copyA (T : Tys) (h : AH) (t : TypeId) (d x : AV) : Option (AV × AH) :=
  match (T t).desc with
  | .slice e =>
    let sz := (T e).size
    if !okT T e then none else
    match d, lenA d, lenA x with
    | .slice a _ _ s0 _, some m, some k =>
      let n := min k m
      match elems h sz n x with
      | none => none
      | some new =>
        match a with
        | none => some (.int .i64 n, h)
        | some (i, o) => if new = [] then some (.int .i64 n, h) else if s0 = sz then (h.write i o new).map fun h' => (.int .i64 n, h') else none
    | _, _, _ => none
  | _ => none
def clearA (T : Tys) (h : AH) (t : TypeId) (x : AV) : Option (AV × AH) :=
  match (T t).desc with
  | .slice e =>
    if !okT T e then none else
    match x with
    | .slice none _ _ _ _ => some (.tuple [], h)
    | .slice (some (i, o)) n _ s0 _ =>
      if n = 0 then some (.tuple [], h) else
      if s0 = (T e).size ∧ (T e).zero.length = s0 then (h.write i o (rep (T e).zero n)).map fun h' => (.tuple [], h') else none
    | .islice _ _ n _ _ => if n = 0 then some (.tuple [], h) else none
    | _ => none
  | _ => none

def builtinA (T : Tys) (h : AH) (b : Builtin) (ts : List TypeId) (args : List AV) : Option (AV × AH) :=
  match b, ts, args with
  | .append, [t, xt], [s, x] => appendA T h t xt s x
  | .len, [t], [x] =>
    match (T t).desc, x with
    | .string, .str s => some (.int .i64 s.length, h)
    | .slice _, .slice _ n _ _ _ => some (.int .i64 n, h)
    | .slice _, .islice _ _ n _ _ => some (.int .i64 n, h)
    | _, _ => none
  | .copy, [t, _], [d, x] => copyA T h t d x
  | .clear, [t], [x] => clearA T h t x
  | .min, _, [.int k x, .int _ y] => some (.int k (if y < x then y else x), h)
  | .max, _, [.int k x, .int _ y] => some (.int k (if y > x then y else x), h)
  | _, _, _ => none

def partA (T : Tys) (t : TypeId) (cs : List AV) (off : Nat) : Option AV :=
  match (T t).desc with
  | .bad => none
  | d => if d.isAgg then (cut cs off (T t).size).map .agg else cs[off]?

def evalOp (T : Tys) (ρ : Env) (o : Oper) (h : AH) : Option OpR :=
  let v (x : Option AV) : Option OpR := x.map fun a => .val a h
  let vh (x : Option (AV × AH)) : Option OpR := x.map fun p => .val p.1 p.2
  match o.op with
  | .move x | .assign x => v (ev ρ x)
  | .pick c a b => match ev ρ c with
    | some (.bool t) => v (if t then ev ρ a else ev ρ b)
    | _ => none
  | .alloc e => match (T e).desc with
    | .bad => none
    | _ => some (.val (.ptr (some (h.size, 0))) (h.push (.cells (T e).zero)))
  | .box _ x => match ev ρ x with
    | some a => if a.cells.all AV.one then some (.val (.ptr (some (h.size, 0))) (h.push (.cells a.cells))) else none
    | none => none
  | .build t ps => match (T t).desc, evParts ρ ps.toList with
    | .struct fs, some l => if !(fs.all fun f => okT T f.1) then none else v ((fillA (fun i => (fs[i]?).map fun f => (f.2.1, (T f.1).size)) (T t).zero l).map .agg)
    | _, _ => none
  | .buildSlice t n ps => match (T t).desc, evParts ρ ps.toList with
    | .slice e, some l =>
      let sz := (T e).size
      if okT T e = true ∧ n * sz ≤ 16777216 ∧ (T e).zero.length = sz then
        match fillA (fun i => some (i * sz, sz)) (rep (T e).zero n) l with
        | some cs => some (.val (.slice (some (h.size, 0)) n n sz true) (h.push (.cells cs)))
        | none => none
      else none
    | _, _ => none
  | .load t a => match ev ρ a with
    | some x => v (loadA T h t x)
    | none => none
  | .store t a x => match ev ρ a, ev ρ x with
    | some p, some y => (storeA T h t p y).map fun h' => .val undefA h'
    | _, _ => none
  | .nilCheck x => match ev ρ x with
    | some (.ptr (some a)) => some (.val (.ptr (some a)) h)
    | some (.iptr r o) => some (.val (.iptr r o) h)
    | some (.func f c) => some (.val (.func f c) h)
    | some (.yield l) => some (.val (.yield l) h)
    | _ => none
  | .binOp op t x y _ => match ev ρ x, ev ρ y with
    | some a, some b => v (binA T op t a b)
    | _, _ => none
  | .unOp op _ x => match ev ρ x with
    | some a => v (unA op a)
    | none => none
  | .convert src dst x => match ev ρ x with
    | some a => vh (convA T h src dst a)
    | none => none
  | .makeFunc (.func f) first cap => if first.size = 0 then v ((evs ρ cap.toList).map (.func f)) else none
  | .makeSlice t l c => match (T t).desc, ev ρ l, ev ρ c with
    | .slice e, some (.int _ n), some (.int _ m) =>
      if okT T e = true ∧ 0 ≤ n ∧ n ≤ m ∧ m ≤ 9223372036854775807 ∧ (T e).bytes * m ≤ 281474976710656 ∧ (T e).zero.length = (T e).size then
        some (.val (.slice (some (h.size, 0)) n.toNat m.toNat (T e).size true) (h.push (.cells (rep (T e).zero m.toNat))))
      else none
    | _, _, _ => none
  | .slice t x lo hi mx => match ev ρ x, evO ρ lo, evO ρ hi, evO ρ mx with
    | some a, some l, some h', some m => match asI l, asI h', asI m with
      | some l, some h', some m => v (sliceA T t a l h' m)
      | _, _, _ => none
    | _, _, _, _ => none
  | .fieldAddr s x f => match (T s).desc, ev ρ x with
    | .struct fs, some p => match fs[f]? with
      | some (ft, off, _) =>
        if (T ft).size = 0 then none else
        match (T ft).desc with
        | .bad => none
        | _ => match p with
          | .ptr (some (i, o)) => some (.val (.ptr (some (i, o + off))) h)
          | .iptr row o => some (.val (.iptr row (o + off)) h)
          | _ => none
      | none => none
    | _, _ => none
  | .field t x f => match (T t).desc, ev ρ x with
    | .struct fs, some (.agg cs) => match fs[f]? with
      | some (ft, off, _) => v (partA T ft cs off)
      | none => none
    | _, _ => none
  | .indexAddr t x ix => match (T t).desc, ev ρ x, ev ρ ix with
    | .slice e, some (.slice (some (i, o)) len _ sz _), some (.int _ n) =>
      if okT T e = true ∧ 0 ≤ n ∧ n < len ∧ sz = (T e).size then some (.val (.ptr (some (i, o + n.toNat * sz))) h) else none
    | .slice e, some (.islice row off len cap sz), some (.int _ n) =>
      if okT T e = true ∧ 0 ≤ n ∧ n < len ∧ len ≤ cap ∧ sz = (T e).size then some (.val (.iptr row (off + n.toNat * sz)) h) else none
    | .array len e, some (.ptr (some (i, o))), some (.int _ n) =>
      if okT T e = true ∧ 0 ≤ n ∧ n < len then some (.val (.ptr (some (i, o + n.toNat * (T e).size))) h) else none
    | _, _, _ => none
  | .index t x ix => match (T t).desc, ev ρ x, ev ρ ix with
    | .string, some (.str s), some (.int _ n) =>
      if 0 ≤ n then match s[n.toNat]? with
        | some b => some (.val (.int .u8 b.toNat) h)
        | none => none
      else none
    | .array len e, some (.agg cs), some (.int _ n) => if okT T e = true ∧ 0 ≤ n ∧ n < len then v (partA T e cs (n.toNat * (T e).size)) else none
    | _, _, _ => none
  | .extract t ix => match ev ρ t with
    | some (.tuple vs) => v (vs[ix]?)
    | _ => none
  | .call c => match c.callee, evs ρ c.args.toList with
    | .builtin b, some args => vh (builtinA T h b c.argTypes.toList args)
    | .value f, some args => match ev ρ f with
      | some (.func g cap) => some (.enter g (args ++ cap))
      | some (.yield l) => some (.round l args)
      | _ => none
    | _, _ => none
  | _ => none

/-! ### Regions -/
abbrev Calls' := FuncId → List AV → AH → Option (AV × AH)
abbrev Yields' := Nat → List AV → AH → Option (AV × AH)
structure Sys where
  call : Calls'
  yield : Yields'

def stepOp (T : Tys) (S : Sys) (ρ : Env) (o : Oper) (h : AH) : Option (AV × AH) :=
  match evalOp T ρ o h with
  | some (.val v h') => some (v, h')
  | some (.enter f args) => S.call f args h
  | some (.round l args) => S.yield l args h
  | none => none

def wantedA (ops : Array Oper) (o : Oper) (tm : Tm) : Bool :=
  match o.guard with
  | none => true
  | some (j, want) =>
    match (ops[j]?).bind (·.dst) with
    | none => false
    | some d => match tm.get d with
      | .bool b => b == want
      | _ => false

def regStep (T : Tys) (S : Sys) (ops : Array Oper) (i : Nat) (tm : Tm) (h : AH) : Option (Tm × AH) :=
  match ops[i]? with
  | none => none
  | some o =>
    if wantedA ops o tm then
      match stepOp T S tm.get o h with
      | none => none
      | some (v, h') => (tm.put o.dst v).map fun t => (t, h')
    else (tm.put o.dst undefA).map fun t => (t, h)
def regRun (T : Tys) (S : Sys) (ops : Array Oper) : List Nat → Tm → AH → Option (Tm × AH)
  | [], tm, h => some (tm, h)
  | i :: l, tm, h => match regStep T S ops i tm h with
    | none => none
    | some (tm', h') => regRun T S ops l tm' h'

end Go.Abs
