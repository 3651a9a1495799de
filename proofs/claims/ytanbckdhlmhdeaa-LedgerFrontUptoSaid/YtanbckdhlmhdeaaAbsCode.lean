/- The abstract machine, second part: regions that draw their order, control, calls, rounds of a range over a function. Definitions, and the soundness of the equality test. -/
import Derived.Test.YtanbckdhlmhdeaaAbsCore
namespace Go.Abs

mutual
def AV.same : AV → AV → Bool
  | .int k n, .int k' n' => decide (k = k') && decide (n = n')
  | .bool a, .bool b => a == b
  | .str a, .str b => decide (a = b)
  | .ptr a, .ptr b => decide (a = b)
  | .iptr r o, .iptr r' o' => decide (o = o') && AV.sames r r'
  | .slice a b c d e, .slice a' b' c' d' e' => decide (a = a') && decide (b = b') && decide (c = c') && decide (d = d') && (e == e')
  | .islice r o b c d, .islice r' o' b' c' d' => decide (o = o') && decide (b = b') && decide (c = c') && decide (d = d') && AV.sames r r'
  | .func f c, .func f' c' => decide (f = f') && AV.sames c c'
  | .yield l, .yield l' => decide (l = l')
  | .nilFunc, .nilFunc => true
  | .agg c, .agg c' => AV.sames c c'
  | .tuple c, .tuple c' => AV.sames c c'
  | _, _ => false
def AV.sames : List AV → List AV → Bool
  | [], [] => true
  | a :: r, b :: s => AV.same a b && AV.sames r s
  | _, _ => false
end
mutual
theorem AV.same_eq : ∀ (a b : AV), AV.same a b = true → a = b := by
  intro a b h
  cases a <;> cases b <;> simp [AV.same] at h ⊢ <;> first | exact h | skip
  case iptr => exact ⟨AV.sames_eq _ _ h.2, h.1⟩
  case slice => exact ⟨h.1.1.1.1, h.1.1.1.2, h.1.1.2, h.1.2, h.2⟩
  case islice => exact ⟨AV.sames_eq _ _ h.2, h.1.1.1.1, h.1.1.1.2, h.1.1.2, h.1.2⟩
  case func => exact ⟨h.1, AV.sames_eq _ _ h.2⟩
  case agg => exact AV.sames_eq _ _ h
  case tuple => exact AV.sames_eq _ _ h
theorem AV.sames_eq : ∀ (a b : List AV), AV.sames a b = true → a = b := by
  intro a b h
  cases a with
  | nil => cases b with
    | nil => rfl
    | cons => simp [AV.sames] at h
  | cons x r => cases b with
    | nil => simp [AV.sames] at h
    | cons y s =>
      simp [AV.sames] at h
      rw [AV.same_eq _ _ h.1, AV.sames_eq _ _ h.2]
end
mutual
theorem AV.same_self : ∀ (a : AV), AV.same a a = true := by
  intro a
  cases a <;> simp [AV.same, AV.sames_self]
theorem AV.sames_self : ∀ (a : List AV), AV.sames a a = true := by
  intro a
  cases a with
  | nil => rfl
  | cons x r => simp [AV.sames, AV.same_self x, AV.sames_self r]
end

/-! ### A region that draws its order -/
/-- 0: the answer hangs on the operands alone; 1: on memory too; 2: it changes memory, or calls; 3: not known. -/
def kindOf (T : Tys) : Op → Nat
  | .move _ | .assign _ | .pick .. | .build .. | .nilCheck _ | .binOp .. | .unOp .. | .makeFunc .. | .slice .. | .fieldAddr .. | .field .. | .indexAddr .. | .index .. | .extract .. => 0
  | .load .. => 1
  | .convert src dst _ => match (T src).desc, (T dst).desc with
    | .slice _, .string => 1
    | _, .slice _ => 2
    | _, _ => 0
  | .alloc _ | .box .. | .buildSlice .. | .store .. | .makeSlice .. => 2
  | .call c => match c.callee with
    | .builtin .len | .builtin .min | .builtin .max => 0
    | .builtin .append | .builtin .copy | .builtin .clear => 2
    | .value _ => 2
    | _ => 3
  | _ => 3

def preds (o : Oper) : List Nat := o.after.toList.filterMap fun e => if Region.binds .any e then some e.on else none
def maskAt (acc : List Nat) (o : Oper) : Nat := (preds o).foldl (fun s e => s ||| (1 <<< e) ||| acc.getD e 0) 0
def masks : List Oper → List Nat → List Nat
  | [], acc => acc
  | o :: r, acc => masks r (acc ++ [maskAt acc o])
def ordered (m : List Nat) (i j : Nat) : Bool := (m.getD i 0).testBit j      -- j comes before i, for certain
def looks (ops : List Oper) (o : Oper) : List Nat :=
  (o.op.operands.toList.filterMap fun | .tmp t => some t | _ => none) ++
  (match o.guard with
   | some (g, _) => ((ops[g]?).bind (·.dst)).toList
   | none => [])
def share (ops : List Oper) (x y : Oper) : Bool :=
  (match x.dst with
   | some d => (looks ops y).contains d || y.dst == some d
   | none => false) ||
  (match y.dst with
   | some d => (looks ops x).contains d
   | none => false)
def drawAt (T : Tys) (ops : List Oper) (m : List Nat) (i : Nat) (o : Oper) : Bool :=
  (preds o).all (fun e => decide (e < i)) &&
  (List.range ops.length).all (fun j => !ordered m i j || (preds o).any (fun e => e == j || ordered m e j)) &&
  decide (kindOf T o.op ≤ 2) &&
  (List.range i).all fun j => match ops[j]? with
    | none => false
    | some p => (!(decide (kindOf T o.op = 2) && decide (kindOf T p.op = 2)) || ordered m i j) && (!share ops o p || ordered m i j)
def drawsOk (T : Tys) (ops : List Oper) (m : List Nat) : List Nat → Bool
  | [] => true
  | i :: r => (match ops[i]? with | none => false | some o => drawAt T ops m i o) && drawsOk T ops m r
def drawOk (T : Tys) (ops : List Oper) : Bool := drawsOk T ops (masks ops []) (List.range ops.length)

/-- The states ahead of each operation, in the text's order, and the last one. -/
def regTrace (T : Tys) (S : Sys) (ops : Array Oper) : List Nat → Tm → AH → Option (List (Tm × AH))
  | [], tm, h => some [(tm, h)]
  | i :: l, tm, h => match regStep T S ops i tm h with
    | none => none
    | some (tm', h') => (regTrace T S ops l tm' h').map ((tm, h) :: ·)
/-- May operation i see memory as it is ahead of place p? -/
def mayAt (T : Tys) (ops : List Oper) (m : List Nat) (i p : Nat) : Bool :=
  (List.range ops.length).all fun e => match ops[e]? with
    | none => true
    | some x => if kindOf T x.op = 2 then (!(decide (e < i) && ordered m i e) || decide (e < p)) && (!(decide (i < e) && ordered m e i) || decide (p ≤ e)) else true
def placesOf (T : Tys) (ops : List Oper) : List Nat :=
  0 :: (List.range ops.length).filterMap fun e => match ops[e]? with
    | none => none
    | some x => if kindOf T x.op = 2 then some (e + 1) else none
/-- The answer of a look at memory is the same wherever it may come. -/
def seesSame (T : Tys) (ρ : Env) (o : Oper) (h0 h1 : AH) : Bool :=
  match evalOp T ρ o h0, evalOp T ρ o h1 with
  | some (.val v _), some (.val u _) => AV.same v u
  | _, _ => false
def looseAt (T : Tys) (ops : Array Oper) (m : List Nat) (tr : List (Tm × AH)) (i : Nat) : Bool :=
  match ops[i]?, tr[i]? with
  | some o, some (tm, h) =>
    if kindOf T o.op = 1 ∧ wantedA ops o tm = true then
      (placesOf T ops.toList).all fun p => if mayAt T ops.toList m i p then (match tr[p]? with | some (_, h') => seesSame T tm.get o h h' | none => false) else true
    else true
  | _, _ => false
def looseOk (T : Tys) (ops : Array Oper) (m : List Nat) (tr : List (Tm × AH)) : Bool := (List.range ops.size).all (looseAt T ops m tr)
def regDraw (T : Tys) (S : Sys) (ops : Array Oper) (tm : Tm) (h : AH) : Option (Tm × AH) :=
  if drawOk T ops.toList then
    match regTrace T S ops (List.range ops.size) tm h with
    | none => none
    | some tr => if looseOk T ops (masks ops.toList []) tr then tr[ops.size]? else none
  else none

/-! ### Control -/
inductive Ex where
  | normal
  | exit (id : Nat)
  | goto (l : Nat)
  | ret
def Ex.jump : Ex → Option Code
  | .normal => none
  | .exit id => some (.exit id)
  | .goto l => some (.goto l)
  | .ret => some .ret
structure St where
  tm : Tm
  marks : List Nat
  h : AH

def loopA : Nat → (St → Option (Ex × St)) → St → Option (Ex × St)
  | 0, _, _ => none
  | n + 1, b, s => match b s with
    | some (.normal, s') => loopA n b s'
    | r => r

/-- Whatever is called or ranged over lies in S; 'rd': the loop's record, in a round. -/
def runCode (T : Tys) (S : Sys) (rd : Option Nat) (n : Nat) : Code → St → Option (Ex × St)
  | .skip, s | .label _, s => some (.normal, s)
  | .ret, s => some (.ret, s)
  | .exit id, s => some (.exit id, s)
  | .goto l, s => some (.goto l, s)
  | .refuse _, _ => none
  | .seq a b, s => match runCode T S rd n a s with
    | some (.normal, s') => runCode T S rd n b s'
    | r => r
  | .cond c a b, s => match ev s.tm.get c with
    | some (.bool t) => if t then runCode T S rd n a s else runCode T S rd n b s
    | _ => none
  | .block id b, s => match runCode T S rd n b s with
    | some (.exit id', s') => if id' = id then some (.normal, s') else some (.exit id', s')
    | r => r
  | .scope b, s => match runCode T S rd n b s with
    | some (.goto _, _) => none
    | r => r
  | .loop b, s => loopA n (runCode T S rd n b) s
  | .region _ ops draw, s =>
    match (if draw then regDraw T S ops s.tm s.h else regRun T S ops (List.range ops.size) s.tm s.h) with
    | some (tm, h) => some (.normal, { s with tm, h })
    | none => none
  | .rangeFunc f ps assign body, s =>
    match ev s.tm.get f with
    | some (.func g cap) =>
      match (match rd with
        | none => some ([s.h.size], s.h.push (.defs false))
        | some l0 => match s.h.get l0 with
          | some (.loop ..) => some ([], s.h)
          | _ => none) with
      | none => none
      | some (mk, h0) =>
        match S.call g (.yield h0.size :: cap) (h0.push (.loop .ready none s.tm ps.toList assign body)) with
        | none => none
        | some (_, h2) =>
          match h2.get h0.size with
          | some (.loop st pending _ _ _ _) =>
            if st = .busy then none else
            match pending with
            | none => some (.normal, { tm := s.tm, marks := mk ++ s.marks, h := h2.set h0.size .dead })
            | some .ret => some (.ret, { tm := s.tm, marks := mk ++ s.marks, h := h2.set h0.size .dead })
            | some (.exit id) => some (.exit id, { tm := s.tm, marks := mk ++ s.marks, h := h2.set h0.size .dead })
            | some (.goto t) => some (.goto t, { tm := s.tm, marks := mk ++ s.marks, h := h2.set h0.size .dead })
            | _ => none
          | _ => none
    | _ => none

def takeMarks (h : AH) : List Nat → Option AH
  | [] => some h
  | i :: r => match h.get i with
    | some (.defs false) => takeMarks (h.set i .dead) r
    | _ => none
def resultOf (T : Tys) (tm : Tm) (h : AH) : ResultVar → Option AV
  | .tmp t => some (tm.get t)
  | .cell a t => loadA T h t (tm.get a)
def resultsOf (T : Tys) (tm : Tm) (h : AH) : List ResultVar → Option (List AV)
  | [] => some []
  | r :: l => match resultOf T tm h r, resultsOf T tm h l with
    | some v, some vs => some (v :: vs)
    | _, _ => none
def packed : List AV → AV
  | [v] => v
  | vs => .tuple vs

def leave (T : Tys) (rs : List ResultVar) (s : St) : Option (AV × AH) :=
  match takeMarks s.h s.marks with
  | none => none
  | some h => (resultsOf T s.tm h rs).map fun vs => (packed vs, h)

def setAll (tm : Tm) : List Nat → List AV → Option Tm
  | [], [] => some tm
  | p :: ps, v :: vs => if p < tm.size then setAll (tm.set p v) ps vs else none
  | _, _ => none

mutual
def callA (P : Program) (T : Tys) : Nat → Calls'
  | 0, _, _, _ => none
  | n + 1, f, args, h =>
    match P.funcs[f]? with
    | none => none
    | some fn =>
      match fn.body with
      | none => none
      | some c =>
        match runCode T ⟨callA P T n, yieldA P T n⟩ none n c ⟨Tm.enter args fn.ntmps, [], h⟩ with
        | some (.normal, s) | some (.ret, s) => leave T fn.results.toList s
        | _ => none
def yieldA (P : Program) (T : Tys) : Nat → Yields'
  | 0, _, _, _ => none
  | n + 1, l, args, h =>
    match h.get l with
    | some (.loop .ready none tm ps assign body) =>
      match setAll tm ps args with
      | none => none
      | some tm1 =>
        match runCode T ⟨callA P T n, yieldA P T n⟩ (some l) n assign ⟨tm1, [], h⟩ with
        | some (.normal, s1) =>
          match s1.h.get l with
          | some (.loop .ready none tmx psx asx box) =>
            match runCode T ⟨callA P T n, yieldA P T n⟩ (some l) n body { s1 with h := s1.h.set l (.loop .busy none tmx psx asx box) } with
            | some (e, s2) =>
              match s2.h.get l with
              | some (.loop .busy none tmy psy asy boy) =>
                some (.bool e.jump.isNone, s2.h.set l (.loop (if e.jump.isNone then .ready else .done) e.jump tmy psy asy boy))
              | _ => none
            | none => none
          | _ => none
        | _ => none
    | _ => none
end

end Go.Abs
