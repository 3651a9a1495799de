/- The types of the program as rewriting rules: written by a program (mkf.py). -/
import Derived.Test.YtanbckdhlmhdeaaAbsB
import Derived.Test.YtanbckdhlmhdeaaAbsTledger
set_option linter.unusedVariables false
namespace Go.Proofs
open Go.Abs
namespace Try
section tf
variable {h h' : AH} {i o : Nat} {v a : AV} {row cs : List AV} {α : Type} {E : Enc α} {l : List α} {j : Int} {off0 : Nat} {k : IntKind} {s : List UInt8} {x y : Int}
theorem Td1 : (Try.T 1).desc = .func := rfl
theorem Tz1 : (Try.T 1).zero = [.nilFunc] := rfl
theorem ld1 : loadA Try.T h 1 (.ptr (some (i, o))) = rd1 o (h.get i) := ld_1 rfl rfl
theorem li1 : loadA Try.T h 1 (.iptr row o) = row[o]? := ldi_1 rfl rfl
theorem st1 : storeA Try.T h 1 (.ptr (some (i, o))) v = stC h i o 1 v.cells := st_n rfl rfl
theorem feqs1 {f : FuncId} : binA Try.T .eql 1 (.func f cs) .nilFunc = some (.bool false) := fn_eqs rfl
theorem feqn1 : binA Try.T .eql 1 .nilFunc .nilFunc = some (.bool true) := fn_eqn rfl
theorem Td2 : (Try.T 2).desc = .int .i64 := rfl
theorem Tz2 : (Try.T 2).zero = [.int .i64 0] := rfl
theorem ld2 : loadA Try.T h 2 (.ptr (some (i, o))) = rd1 o (h.get i) := ld_1 rfl rfl
theorem li2 : loadA Try.T h 2 (.iptr row o) = row[o]? := ldi_1 rfl rfl
theorem st2 : storeA Try.T h 2 (.ptr (some (i, o))) v = stC h i o 1 v.cells := st_n rfl rfl
theorem lI2 {l : List Int} (p : Sl EI h i a l) (h0 : 0 ≤ j) (h1 : j < l.length) : loadA Try.T h 2 (a.at EI.sz 0 j) = some (.int .i64 (l[j.toNat]!)) := p.ldI h0 h1 rfl rfl
theorem Td3 : (Try.T 3).desc = .int .i64 := rfl
theorem Tz3 : (Try.T 3).zero = [.int .i64 0] := rfl
theorem ld3 : loadA Try.T h 3 (.ptr (some (i, o))) = rd1 o (h.get i) := ld_1 rfl rfl
theorem li3 : loadA Try.T h 3 (.iptr row o) = row[o]? := ldi_1 rfl rfl
theorem st3 : storeA Try.T h 3 (.ptr (some (i, o))) v = stC h i o 1 v.cells := st_n rfl rfl
theorem lI3 {l : List Int} (p : Sl EI h i a l) (h0 : 0 ≤ j) (h1 : j < l.length) : loadA Try.T h 3 (a.at EI.sz 0 j) = some (.int .i64 (l[j.toNat]!)) := p.ldI h0 h1 rfl rfl
theorem Td4 : (Try.T 4).desc = .bool := rfl
theorem Tz4 : (Try.T 4).zero = [.bool false] := rfl
theorem ld4 : loadA Try.T h 4 (.ptr (some (i, o))) = rd1 o (h.get i) := ld_1 rfl rfl
theorem li4 : loadA Try.T h 4 (.iptr row o) = row[o]? := ldi_1 rfl rfl
theorem st4 : storeA Try.T h 4 (.ptr (some (i, o))) v = stC h i o 1 v.cells := st_n rfl rfl
theorem beql4 {x y : Bool} : binA Try.T .eql 4 (.bool x) (.bool y) = some (.bool (x == y)) := bool_eql rfl
theorem bneq4 {x y : Bool} : binA Try.T .neq 4 (.bool x) (.bool y) = some (.bool (!(x == y))) := bool_neq rfl
theorem Td5 : (Try.T 5).desc = .int .u8 := rfl
theorem Tz5 : (Try.T 5).zero = [.int .u8 0] := rfl
theorem ld5 : loadA Try.T h 5 (.ptr (some (i, o))) = rd1 o (h.get i) := ld_1 rfl rfl
theorem li5 : loadA Try.T h 5 (.iptr row o) = row[o]? := ldi_1 rfl rfl
theorem st5 : storeA Try.T h 5 (.ptr (some (i, o))) v = stC h i o 1 v.cells := st_n rfl rfl
theorem l85 {l : List UInt8} (p : Sl E8 h i a l) (h0 : 0 ≤ j) (h1 : j < l.length) : loadA Try.T h 5 (a.at E8.sz 0 j) = some (.int .u8 ((l[j.toNat]!).toNat : Int)) := p.ld8 h0 h1 rfl rfl
theorem Td6 : (Try.T 6).desc = .int .u8 := rfl
theorem Tz6 : (Try.T 6).zero = [.int .u8 0] := rfl
theorem ld6 : loadA Try.T h 6 (.ptr (some (i, o))) = rd1 o (h.get i) := ld_1 rfl rfl
theorem li6 : loadA Try.T h 6 (.iptr row o) = row[o]? := ldi_1 rfl rfl
theorem st6 : storeA Try.T h 6 (.ptr (some (i, o))) v = stC h i o 1 v.cells := st_n rfl rfl
theorem l86 {l : List UInt8} (p : Sl E8 h i a l) (h0 : 0 ≤ j) (h1 : j < l.length) : loadA Try.T h 6 (a.at E8.sz 0 j) = some (.int .u8 ((l[j.toNat]!).toNat : Int)) := p.ld8 h0 h1 rfl rfl
theorem Td9 : (Try.T 9).desc = .string := rfl
theorem Tz9 : (Try.T 9).zero = [.str []] := rfl
theorem ld9 : loadA Try.T h 9 (.ptr (some (i, o))) = rd1 o (h.get i) := ld_1 rfl rfl
theorem li9 : loadA Try.T h 9 (.iptr row o) = row[o]? := ldi_1 rfl rfl
theorem st9 : storeA Try.T h 9 (.ptr (some (i, o))) v = stC h i o 1 v.cells := st_n rfl rfl
theorem ssn9 (h0 : 0 ≤ y) (h1 : y ≤ s.length) : sliceA Try.T 9 (.str s) none (some y) none = some (.str (s.take y.toNat)) := ss_n rfl h0 h1
theorem ssl9 (h0 : 0 ≤ x) (h1 : x ≤ s.length) : sliceA Try.T 9 (.str s) (some x) none none = some (.str (s.drop x.toNat)) := ss_l rfl h0 h1
theorem ssb9 (h0 : 0 ≤ x) (h1 : x ≤ y) (h2 : y ≤ s.length) : sliceA Try.T 9 (.str s) (some x) (some y) none = some (.str ((s.drop x.toNat).take (y.toNat - x.toNat))) := ss_b rfl h0 h1 h2
theorem len9 : builtinA Try.T h .len [9] [.str s] = some (.int .i64 (s.length : Int), h) := len_str .mk
theorem ix9 (h0 : 0 ≤ j) (h1 : j < s.length) : ixR Try.T 9 (some (.str s)) (some (.int k j)) = some (.int .u8 ((s[j.toNat]!).toNat : Int)) := ix_str .mk h0 h1
theorem Td10 : (Try.T 10).desc = .string := rfl
theorem Tz10 : (Try.T 10).zero = [.str []] := rfl
theorem ld10 : loadA Try.T h 10 (.ptr (some (i, o))) = rd1 o (h.get i) := ld_1 rfl rfl
theorem li10 : loadA Try.T h 10 (.iptr row o) = row[o]? := ldi_1 rfl rfl
theorem st10 : storeA Try.T h 10 (.ptr (some (i, o))) v = stC h i o 1 v.cells := st_n rfl rfl
theorem ssn10 (h0 : 0 ≤ y) (h1 : y ≤ s.length) : sliceA Try.T 10 (.str s) none (some y) none = some (.str (s.take y.toNat)) := ss_n rfl h0 h1
theorem ssl10 (h0 : 0 ≤ x) (h1 : x ≤ s.length) : sliceA Try.T 10 (.str s) (some x) none none = some (.str (s.drop x.toNat)) := ss_l rfl h0 h1
theorem ssb10 (h0 : 0 ≤ x) (h1 : x ≤ y) (h2 : y ≤ s.length) : sliceA Try.T 10 (.str s) (some x) (some y) none = some (.str ((s.drop x.toNat).take (y.toNat - x.toNat))) := ss_b rfl h0 h1 h2
theorem len10 : builtinA Try.T h .len [10] [.str s] = some (.int .i64 (s.length : Int), h) := len_str .mk
theorem ix10 (h0 : 0 ≤ j) (h1 : j < s.length) : ixR Try.T 10 (some (.str s)) (some (.int k j)) = some (.int .u8 ((s[j.toNat]!).toNat : Int)) := ix_str .mk h0 h1
theorem Td11 : (Try.T 11).desc = .string := rfl
theorem Tz11 : (Try.T 11).zero = [.str []] := rfl
theorem ld11 : loadA Try.T h 11 (.ptr (some (i, o))) = rd1 o (h.get i) := ld_1 rfl rfl
theorem li11 : loadA Try.T h 11 (.iptr row o) = row[o]? := ldi_1 rfl rfl
theorem st11 : storeA Try.T h 11 (.ptr (some (i, o))) v = stC h i o 1 v.cells := st_n rfl rfl
theorem ssn11 (h0 : 0 ≤ y) (h1 : y ≤ s.length) : sliceA Try.T 11 (.str s) none (some y) none = some (.str (s.take y.toNat)) := ss_n rfl h0 h1
theorem ssl11 (h0 : 0 ≤ x) (h1 : x ≤ s.length) : sliceA Try.T 11 (.str s) (some x) none none = some (.str (s.drop x.toNat)) := ss_l rfl h0 h1
theorem ssb11 (h0 : 0 ≤ x) (h1 : x ≤ y) (h2 : y ≤ s.length) : sliceA Try.T 11 (.str s) (some x) (some y) none = some (.str ((s.drop x.toNat).take (y.toNat - x.toNat))) := ss_b rfl h0 h1 h2
theorem len11 : builtinA Try.T h .len [11] [.str s] = some (.int .i64 (s.length : Int), h) := len_str .mk
theorem ix11 (h0 : 0 ≤ j) (h1 : j < s.length) : ixR Try.T 11 (some (.str s)) (some (.int k j)) = some (.int .u8 ((s[j.toNat]!).toNat : Int)) := ix_str .mk h0 h1
theorem Td12 : (Try.T 12).desc = .int .u64 := rfl
theorem Tz12 : (Try.T 12).zero = [.int .u64 0] := rfl
theorem ld12 : loadA Try.T h 12 (.ptr (some (i, o))) = rd1 o (h.get i) := ld_1 rfl rfl
theorem li12 : loadA Try.T h 12 (.iptr row o) = row[o]? := ldi_1 rfl rfl
theorem st12 : storeA Try.T h 12 (.ptr (some (i, o))) v = stC h i o 1 v.cells := st_n rfl rfl
theorem Td15 : (Try.T 15).desc = .pointer 83 := rfl
theorem Tz15 : (Try.T 15).zero = [.ptr none] := rfl
theorem ld15 : loadA Try.T h 15 (.ptr (some (i, o))) = rd1 o (h.get i) := ld_1 rfl rfl
theorem li15 : loadA Try.T h 15 (.iptr row o) = row[o]? := ldi_1 rfl rfl
theorem st15 : storeA Try.T h 15 (.ptr (some (i, o))) v = stC h i o 1 v.cells := st_n rfl rfl
theorem peqn15 : binA Try.T .eql 15 (.ptr none) (.ptr none) = some (.bool true) := pt_eqn rfl
theorem peqs15 {p : Nat × Nat} : binA Try.T .eql 15 (.ptr (some p)) (.ptr none) = some (.bool false) := pt_eqs rfl
theorem pnen15 : binA Try.T .neq 15 (.ptr none) (.ptr none) = some (.bool false) := pt_nen rfl
theorem pnes15 {p : Nat × Nat} : binA Try.T .neq 15 (.ptr (some p)) (.ptr none) = some (.bool true) := pt_nes rfl
theorem Td16 : (Try.T 16).desc = .pointer 86 := rfl
theorem Tz16 : (Try.T 16).zero = [.ptr none] := rfl
theorem ld16 : loadA Try.T h 16 (.ptr (some (i, o))) = rd1 o (h.get i) := ld_1 rfl rfl
theorem li16 : loadA Try.T h 16 (.iptr row o) = row[o]? := ldi_1 rfl rfl
theorem st16 : storeA Try.T h 16 (.ptr (some (i, o))) v = stC h i o 1 v.cells := st_n rfl rfl
theorem peqn16 : binA Try.T .eql 16 (.ptr none) (.ptr none) = some (.bool true) := pt_eqn rfl
theorem peqs16 {p : Nat × Nat} : binA Try.T .eql 16 (.ptr (some p)) (.ptr none) = some (.bool false) := pt_eqs rfl
theorem pnen16 : binA Try.T .neq 16 (.ptr none) (.ptr none) = some (.bool false) := pt_nen rfl
theorem pnes16 {p : Nat × Nat} : binA Try.T .neq 16 (.ptr (some p)) (.ptr none) = some (.bool true) := pt_nes rfl
theorem Td17 : (Try.T 17).desc = .pointer 96 := rfl
theorem Tz17 : (Try.T 17).zero = [.ptr none] := rfl
theorem ld17 : loadA Try.T h 17 (.ptr (some (i, o))) = rd1 o (h.get i) := ld_1 rfl rfl
theorem li17 : loadA Try.T h 17 (.iptr row o) = row[o]? := ldi_1 rfl rfl
theorem st17 : storeA Try.T h 17 (.ptr (some (i, o))) v = stC h i o 1 v.cells := st_n rfl rfl
theorem peqn17 : binA Try.T .eql 17 (.ptr none) (.ptr none) = some (.bool true) := pt_eqn rfl
theorem peqs17 {p : Nat × Nat} : binA Try.T .eql 17 (.ptr (some p)) (.ptr none) = some (.bool false) := pt_eqs rfl
theorem pnen17 : binA Try.T .neq 17 (.ptr none) (.ptr none) = some (.bool false) := pt_nen rfl
theorem pnes17 {p : Nat × Nat} : binA Try.T .neq 17 (.ptr (some p)) (.ptr none) = some (.bool true) := pt_nes rfl
theorem Td21 : (Try.T 21).desc = .int .i32 := rfl
theorem Tz21 : (Try.T 21).zero = [.int .i32 0] := rfl
theorem ld21 : loadA Try.T h 21 (.ptr (some (i, o))) = rd1 o (h.get i) := ld_1 rfl rfl
theorem li21 : loadA Try.T h 21 (.iptr row o) = row[o]? := ldi_1 rfl rfl
theorem st21 : storeA Try.T h 21 (.ptr (some (i, o))) v = stC h i o 1 v.cells := st_n rfl rfl
theorem Td22 : (Try.T 22).desc = .slice 37 := rfl
theorem Tz22 : (Try.T 22).zero = [.slice none 0 0 0 true] := rfl
theorem ld22 : loadA Try.T h 22 (.ptr (some (i, o))) = rd1 o (h.get i) := ld_1 rfl rfl
theorem li22 : loadA Try.T h 22 (.iptr row o) = row[o]? := ldi_1 rfl rfl
theorem st22 : storeA Try.T h 22 (.ptr (some (i, o))) v = stC h i o 1 v.cells := st_n rfl rfl
theorem len22 (p : Sl E h i a l) : builtinA Try.T h' .len [22] [a] = some (.int .i64 (l.length : Int), h') := p.len rfl
theorem ix22 (p : Sl E h i a l) (h0 : 0 ≤ j) (h1 : j < l.length) (h2 : Seen (Nat.beq E.sz 8)) : idxA Try.T 22 a (.int k j) = some (a.at E.sz 0 j) := p.idx h0 h1 rfl rfl (Nat.eq_of_beq_eq_true h2.eq).symm
theorem wr37 {P : Program} {ops : Array Oper} {L : List Oper} {K : Tm → AH → Prop} {d : Option Nat} {tm : Tm} (p : Ow E h i a l) (x : α) (hx : v.cells = E.f x) (h0 : 0 ≤ j) (h1 : j < l.length) (h2 : Seen (Nat.beq E.sz 8)) (hk : ∀ h', Ow E h' i a (l.set j.toNat x) → h'.size = h.size → (∀ b, ¬ b = i → h'.get b = h.get b) → putM P Try.T ops L K d tm undefA h') : ansM P Try.T ops L K d tm h ((storeA Try.T h 37 (a.at E.sz 0 j) v).map fun h' => .val undefA h') :=
  ans_wr p x hx h0 h1 rfl (Nat.eq_of_beq_eq_true h2.eq).symm hk
theorem w37_0_3 {P : Program} {ops : Array Oper} {L : List Oper} {K : Tm → AH → Prop} {d : Option Nat} {tm : Tm} [Inhabited α] (p : Ow E h i a l) (x : α) (hx : E.f x = (E.f (l[j.toNat]!)).set 0 v) (hv : v.cells = [v]) (hv1 : v.one = true) (h0 : 0 ≤ j) (h1 : j < l.length) (h2 : Seen (Nat.blt 0 E.sz)) (hk : ∀ h', Ow E h' i a (l.set j.toNat x) → h'.size = h.size → (∀ b, ¬ b = i → h'.get b = h.get b) → putM P Try.T ops L K d tm undefA h') : ansM P Try.T ops L K d tm h ((storeA Try.T h 3 (a.at E.sz 0 j) v).map fun h' => .val undefA h') :=
  ans_wr1 p x hx hv hv1 (by simpa [Nat.blt_eq] using h2.eq) h0 h1 rfl rfl hk
theorem sl22 (p : Sl E h i a l) (h0 : 0 ≤ x) (h1 : x ≤ y) (h2 : y ≤ l.length) (h3 : Seen (Nat.beq E.sz 8)) : sliceA Try.T 22 a (some x) (some y) none = some (a.part x y) := p.slc h0 h1 h2 rfl rfl (Nat.eq_of_beq_eq_true h3.eq).symm
theorem sm22 (p : Sl E h i a l) (h1 : 0 ≤ y) (h2 : y ≤ l.length) (h3 : Seen (Nat.beq E.sz 8)) : sliceA Try.T 22 a none (some y) none = some (a.part 0 y) := p.slc (lo := none) (Int.le_refl _) h1 h2 rfl rfl (Nat.eq_of_beq_eq_true h3.eq).symm
theorem sn22 (p : Sl E h i a l) (h0 : 0 ≤ x) (h1 : x ≤ l.length) (h3 : Seen (Nat.beq E.sz 8)) : sliceA Try.T 22 a (some x) none none = some (a.part x l.length) := p.slc (hi := none) h0 h1 (Int.le_refl _) rfl rfl (Nat.eq_of_beq_eq_true h3.eq).symm
theorem ap22 {P : Program} {ops : Array Oper} {L : List Oper} {K : Tm → AH → Prop} {d : Option Nat} {tm : Tm} {x : AV} {new : List α} {ix : Nat} (p : Ow E h i a l) (hx : Sl E h ix x new) (h2 : Seen (Nat.beq E.sz 8)) (hr : (l.length + new.length) * 96 ≤ 140737488355328) (hk : ∀ z h' i', Ow E h' i' z (l ++ new) → (i' = i ∨ h.size ≤ i') → h.size ≤ h'.size → (∀ j, j < h.size → ¬ j = i → h'.get j = h.get j) → putM P Try.T ops L K d tm z h') : ansM P Try.T ops L K d tm h (pairR (appendA Try.T h 22 22 a x)) :=
  ans_app p hx rfl ⟨_, rfl⟩ rfl (Nat.eq_of_beq_eq_true h2.eq).symm (Nat.eq_of_beq_eq_true h2.eq).symm (by decide) hr hk
theorem al22 {P : Program} {ops : Array Oper} {L : List Oper} {K : Tm → AH → Prop} {d : Option Nat} {tm : Tm} {sz : Nat} (x : α) (p : Ow E h i a l) (hx : cs = E.f x) (hs : sz = E.sz) (h2 : Seen (Nat.beq E.sz 8)) (hr : (l.length + 1) * 96 ≤ 140737488355328) (hk : ∀ z h' i', Ow E h' i' z (l ++ [x]) → (i' = i ∨ h.size ≤ i') → h.size ≤ h'.size → (∀ j, j < h.size → ¬ j = i → h'.get j = h.get j) → putM P Try.T ops L K d tm z h') : ansM P Try.T ops L K d tm (h.push (.cells cs)) (pairR (appendA Try.T (h.push (.cells cs)) 22 22 a (.slice (some (h.size, 0)) 1 1 sz true))) :=
  ans_app1 p x hx hs rfl rfl (Nat.eq_of_beq_eq_true h2.eq).symm (Nat.eq_of_beq_eq_true h2.eq).symm (by decide) hr hk
theorem eqn22 {l1 c1 z1 l2 c2 z2 : Nat} {x1 x2 : Bool} : binA Try.T .eql 22 (.slice none l1 c1 z1 x1) (.slice none l2 c2 z2 x2) = some (.bool true) := sl_eqn rfl
theorem eqs22 {l1 c1 z1 l2 c2 z2 : Nat} {x1 x2 : Bool} {p : Nat × Nat} : binA Try.T .eql 22 (.slice (some p) l1 c1 z1 x1) (.slice none l2 c2 z2 x2) = some (.bool false) := sl_eqs rfl
theorem eqi22 {l2 c2 z2 a1 b1 c1 d1 : Nat} {x2 : Bool} : binA Try.T .eql 22 (.islice row a1 b1 c1 d1) (.slice none l2 c2 z2 x2) = some (.bool false) := sl_eqi rfl
theorem Td23 : (Try.T 23).desc = .slice 3 := rfl
theorem Tz23 : (Try.T 23).zero = [.slice none 0 0 0 true] := rfl
theorem ld23 : loadA Try.T h 23 (.ptr (some (i, o))) = rd1 o (h.get i) := ld_1 rfl rfl
theorem li23 : loadA Try.T h 23 (.iptr row o) = row[o]? := ldi_1 rfl rfl
theorem st23 : storeA Try.T h 23 (.ptr (some (i, o))) v = stC h i o 1 v.cells := st_n rfl rfl
theorem len23 (p : Sl E h i a l) : builtinA Try.T h' .len [23] [a] = some (.int .i64 (l.length : Int), h') := p.len rfl
theorem ix23 (p : Sl E h i a l) (h0 : 0 ≤ j) (h1 : j < l.length) (h2 : Seen (Nat.beq E.sz 1)) : idxA Try.T 23 a (.int k j) = some (a.at E.sz 0 j) := p.idx h0 h1 rfl rfl (Nat.eq_of_beq_eq_true h2.eq).symm
theorem wr3 {P : Program} {ops : Array Oper} {L : List Oper} {K : Tm → AH → Prop} {d : Option Nat} {tm : Tm} (p : Ow E h i a l) (x : α) (hx : v.cells = E.f x) (h0 : 0 ≤ j) (h1 : j < l.length) (h2 : Seen (Nat.beq E.sz 1)) (hk : ∀ h', Ow E h' i a (l.set j.toNat x) → h'.size = h.size → (∀ b, ¬ b = i → h'.get b = h.get b) → putM P Try.T ops L K d tm undefA h') : ansM P Try.T ops L K d tm h ((storeA Try.T h 3 (a.at E.sz 0 j) v).map fun h' => .val undefA h') :=
  ans_wr p x hx h0 h1 rfl (Nat.eq_of_beq_eq_true h2.eq).symm hk
theorem br23 {n : Nat} {l : List (Nat × AV)} (hn : Seen (Nat.beq l.length n && (Nat.ble n 10000 && bsOk 0 l))) : bsR Try.T h 23 n (some l) = some (.val (.slice (some (h.size, 0)) n n 1 true) (h.push (.cells (l.map (·.2))))) := bs_row rfl rfl rfl rfl hn
theorem bs23 (hv : Seen (match v with | .agg _ | .tuple _ => false | _ => true)) : bsR Try.T h 23 1 (some [(0, v)]) = some (.val (.slice (some (h.size, 0)) 1 1 1 true) (h.push (.cells [v]))) := bs_one rfl rfl rfl rfl hv
theorem sl23 (p : Sl E h i a l) (h0 : 0 ≤ x) (h1 : x ≤ y) (h2 : y ≤ l.length) (h3 : Seen (Nat.beq E.sz 1)) : sliceA Try.T 23 a (some x) (some y) none = some (a.part x y) := p.slc h0 h1 h2 rfl rfl (Nat.eq_of_beq_eq_true h3.eq).symm
theorem sm23 (p : Sl E h i a l) (h1 : 0 ≤ y) (h2 : y ≤ l.length) (h3 : Seen (Nat.beq E.sz 1)) : sliceA Try.T 23 a none (some y) none = some (a.part 0 y) := p.slc (lo := none) (Int.le_refl _) h1 h2 rfl rfl (Nat.eq_of_beq_eq_true h3.eq).symm
theorem sn23 (p : Sl E h i a l) (h0 : 0 ≤ x) (h1 : x ≤ l.length) (h3 : Seen (Nat.beq E.sz 1)) : sliceA Try.T 23 a (some x) none none = some (a.part x l.length) := p.slc (hi := none) h0 h1 (Int.le_refl _) rfl rfl (Nat.eq_of_beq_eq_true h3.eq).symm
theorem ap23 {P : Program} {ops : Array Oper} {L : List Oper} {K : Tm → AH → Prop} {d : Option Nat} {tm : Tm} {x : AV} {new : List α} {ix : Nat} (p : Ow E h i a l) (hx : Sl E h ix x new) (h2 : Seen (Nat.beq E.sz 1)) (hr : (l.length + new.length) * 8 ≤ 140737488355328) (hk : ∀ z h' i', Ow E h' i' z (l ++ new) → (i' = i ∨ h.size ≤ i') → h.size ≤ h'.size → (∀ j, j < h.size → ¬ j = i → h'.get j = h.get j) → putM P Try.T ops L K d tm z h') : ansM P Try.T ops L K d tm h (pairR (appendA Try.T h 23 23 a x)) :=
  ans_app p hx rfl ⟨_, rfl⟩ rfl (Nat.eq_of_beq_eq_true h2.eq).symm (Nat.eq_of_beq_eq_true h2.eq).symm (by decide) hr hk
theorem al23 {P : Program} {ops : Array Oper} {L : List Oper} {K : Tm → AH → Prop} {d : Option Nat} {tm : Tm} {sz : Nat} (x : α) (p : Ow E h i a l) (hx : cs = E.f x) (hs : sz = E.sz) (h2 : Seen (Nat.beq E.sz 1)) (hr : (l.length + 1) * 8 ≤ 140737488355328) (hk : ∀ z h' i', Ow E h' i' z (l ++ [x]) → (i' = i ∨ h.size ≤ i') → h.size ≤ h'.size → (∀ j, j < h.size → ¬ j = i → h'.get j = h.get j) → putM P Try.T ops L K d tm z h') : ansM P Try.T ops L K d tm (h.push (.cells cs)) (pairR (appendA Try.T (h.push (.cells cs)) 23 23 a (.slice (some (h.size, 0)) 1 1 sz true))) :=
  ans_app1 p x hx hs rfl rfl (Nat.eq_of_beq_eq_true h2.eq).symm (Nat.eq_of_beq_eq_true h2.eq).symm (by decide) hr hk
theorem eqn23 {l1 c1 z1 l2 c2 z2 : Nat} {x1 x2 : Bool} : binA Try.T .eql 23 (.slice none l1 c1 z1 x1) (.slice none l2 c2 z2 x2) = some (.bool true) := sl_eqn rfl
theorem eqs23 {l1 c1 z1 l2 c2 z2 : Nat} {x1 x2 : Bool} {p : Nat × Nat} : binA Try.T .eql 23 (.slice (some p) l1 c1 z1 x1) (.slice none l2 c2 z2 x2) = some (.bool false) := sl_eqs rfl
theorem eqi23 {l2 c2 z2 a1 b1 c1 d1 : Nat} {x2 : Bool} : binA Try.T .eql 23 (.islice row a1 b1 c1 d1) (.slice none l2 c2 z2 x2) = some (.bool false) := sl_eqi rfl
theorem Td25 : (Try.T 25).desc = .pointer 60 := rfl
theorem Tz25 : (Try.T 25).zero = [.ptr none] := rfl
theorem ld25 : loadA Try.T h 25 (.ptr (some (i, o))) = rd1 o (h.get i) := ld_1 rfl rfl
theorem li25 : loadA Try.T h 25 (.iptr row o) = row[o]? := ldi_1 rfl rfl
theorem st25 : storeA Try.T h 25 (.ptr (some (i, o))) v = stC h i o 1 v.cells := st_n rfl rfl
theorem peqn25 : binA Try.T .eql 25 (.ptr none) (.ptr none) = some (.bool true) := pt_eqn rfl
theorem peqs25 {p : Nat × Nat} : binA Try.T .eql 25 (.ptr (some p)) (.ptr none) = some (.bool false) := pt_eqs rfl
theorem pnen25 : binA Try.T .neq 25 (.ptr none) (.ptr none) = some (.bool false) := pt_nen rfl
theorem pnes25 {p : Nat × Nat} : binA Try.T .neq 25 (.ptr (some p)) (.ptr none) = some (.bool true) := pt_nes rfl
theorem Td27 : (Try.T 27).desc = .pointer 30 := rfl
theorem Tz27 : (Try.T 27).zero = [.ptr none] := rfl
theorem ld27 : loadA Try.T h 27 (.ptr (some (i, o))) = rd1 o (h.get i) := ld_1 rfl rfl
theorem li27 : loadA Try.T h 27 (.iptr row o) = row[o]? := ldi_1 rfl rfl
theorem st27 : storeA Try.T h 27 (.ptr (some (i, o))) v = stC h i o 1 v.cells := st_n rfl rfl
theorem peqn27 : binA Try.T .eql 27 (.ptr none) (.ptr none) = some (.bool true) := pt_eqn rfl
theorem peqs27 {p : Nat × Nat} : binA Try.T .eql 27 (.ptr (some p)) (.ptr none) = some (.bool false) := pt_eqs rfl
theorem pnen27 : binA Try.T .neq 27 (.ptr none) (.ptr none) = some (.bool false) := pt_nen rfl
theorem pnes27 {p : Nat × Nat} : binA Try.T .neq 27 (.ptr (some p)) (.ptr none) = some (.bool true) := pt_nes rfl
theorem Td28 : (Try.T 28).desc = .slice 42 := rfl
theorem Tz28 : (Try.T 28).zero = [.slice none 0 0 0 true] := rfl
theorem ld28 : loadA Try.T h 28 (.ptr (some (i, o))) = rd1 o (h.get i) := ld_1 rfl rfl
theorem li28 : loadA Try.T h 28 (.iptr row o) = row[o]? := ldi_1 rfl rfl
theorem st28 : storeA Try.T h 28 (.ptr (some (i, o))) v = stC h i o 1 v.cells := st_n rfl rfl
theorem len28 (p : Sl E h i a l) : builtinA Try.T h' .len [28] [a] = some (.int .i64 (l.length : Int), h') := p.len rfl
theorem ix28 (p : Sl E h i a l) (h0 : 0 ≤ j) (h1 : j < l.length) (h2 : Seen (Nat.beq E.sz 1)) : idxA Try.T 28 a (.int k j) = some (a.at E.sz 0 j) := p.idx h0 h1 rfl rfl (Nat.eq_of_beq_eq_true h2.eq).symm
theorem wr42 {P : Program} {ops : Array Oper} {L : List Oper} {K : Tm → AH → Prop} {d : Option Nat} {tm : Tm} (p : Ow E h i a l) (x : α) (hx : v.cells = E.f x) (h0 : 0 ≤ j) (h1 : j < l.length) (h2 : Seen (Nat.beq E.sz 1)) (hk : ∀ h', Ow E h' i a (l.set j.toNat x) → h'.size = h.size → (∀ b, ¬ b = i → h'.get b = h.get b) → putM P Try.T ops L K d tm undefA h') : ansM P Try.T ops L K d tm h ((storeA Try.T h 42 (a.at E.sz 0 j) v).map fun h' => .val undefA h') :=
  ans_wr p x hx h0 h1 rfl (Nat.eq_of_beq_eq_true h2.eq).symm hk
theorem br28 {n : Nat} {l : List (Nat × AV)} (hn : Seen (Nat.beq l.length n && (Nat.ble n 10000 && bsOk 0 l))) : bsR Try.T h 28 n (some l) = some (.val (.slice (some (h.size, 0)) n n 1 true) (h.push (.cells (l.map (·.2))))) := bs_row rfl rfl rfl rfl hn
theorem bs28 (hv : Seen (match v with | .agg _ | .tuple _ => false | _ => true)) : bsR Try.T h 28 1 (some [(0, v)]) = some (.val (.slice (some (h.size, 0)) 1 1 1 true) (h.push (.cells [v]))) := bs_one rfl rfl rfl rfl hv
theorem sl28 (p : Sl E h i a l) (h0 : 0 ≤ x) (h1 : x ≤ y) (h2 : y ≤ l.length) (h3 : Seen (Nat.beq E.sz 1)) : sliceA Try.T 28 a (some x) (some y) none = some (a.part x y) := p.slc h0 h1 h2 rfl rfl (Nat.eq_of_beq_eq_true h3.eq).symm
theorem sm28 (p : Sl E h i a l) (h1 : 0 ≤ y) (h2 : y ≤ l.length) (h3 : Seen (Nat.beq E.sz 1)) : sliceA Try.T 28 a none (some y) none = some (a.part 0 y) := p.slc (lo := none) (Int.le_refl _) h1 h2 rfl rfl (Nat.eq_of_beq_eq_true h3.eq).symm
theorem sn28 (p : Sl E h i a l) (h0 : 0 ≤ x) (h1 : x ≤ l.length) (h3 : Seen (Nat.beq E.sz 1)) : sliceA Try.T 28 a (some x) none none = some (a.part x l.length) := p.slc (hi := none) h0 h1 (Int.le_refl _) rfl rfl (Nat.eq_of_beq_eq_true h3.eq).symm
theorem ap28 {P : Program} {ops : Array Oper} {L : List Oper} {K : Tm → AH → Prop} {d : Option Nat} {tm : Tm} {x : AV} {new : List α} {ix : Nat} (p : Ow E h i a l) (hx : Sl E h ix x new) (h2 : Seen (Nat.beq E.sz 1)) (hr : (l.length + new.length) * 8 ≤ 140737488355328) (hk : ∀ z h' i', Ow E h' i' z (l ++ new) → (i' = i ∨ h.size ≤ i') → h.size ≤ h'.size → (∀ j, j < h.size → ¬ j = i → h'.get j = h.get j) → putM P Try.T ops L K d tm z h') : ansM P Try.T ops L K d tm h (pairR (appendA Try.T h 28 28 a x)) :=
  ans_app p hx rfl ⟨_, rfl⟩ rfl (Nat.eq_of_beq_eq_true h2.eq).symm (Nat.eq_of_beq_eq_true h2.eq).symm (by decide) hr hk
theorem al28 {P : Program} {ops : Array Oper} {L : List Oper} {K : Tm → AH → Prop} {d : Option Nat} {tm : Tm} {sz : Nat} (x : α) (p : Ow E h i a l) (hx : cs = E.f x) (hs : sz = E.sz) (h2 : Seen (Nat.beq E.sz 1)) (hr : (l.length + 1) * 8 ≤ 140737488355328) (hk : ∀ z h' i', Ow E h' i' z (l ++ [x]) → (i' = i ∨ h.size ≤ i') → h.size ≤ h'.size → (∀ j, j < h.size → ¬ j = i → h'.get j = h.get j) → putM P Try.T ops L K d tm z h') : ansM P Try.T ops L K d tm (h.push (.cells cs)) (pairR (appendA Try.T (h.push (.cells cs)) 28 28 a (.slice (some (h.size, 0)) 1 1 sz true))) :=
  ans_app1 p x hx hs rfl rfl (Nat.eq_of_beq_eq_true h2.eq).symm (Nat.eq_of_beq_eq_true h2.eq).symm (by decide) hr hk
theorem eqn28 {l1 c1 z1 l2 c2 z2 : Nat} {x1 x2 : Bool} : binA Try.T .eql 28 (.slice none l1 c1 z1 x1) (.slice none l2 c2 z2 x2) = some (.bool true) := sl_eqn rfl
theorem eqs28 {l1 c1 z1 l2 c2 z2 : Nat} {x1 x2 : Bool} {p : Nat × Nat} : binA Try.T .eql 28 (.slice (some p) l1 c1 z1 x1) (.slice none l2 c2 z2 x2) = some (.bool false) := sl_eqs rfl
theorem eqi28 {l2 c2 z2 a1 b1 c1 d1 : Nat} {x2 : Bool} : binA Try.T .eql 28 (.islice row a1 b1 c1 d1) (.slice none l2 c2 z2 x2) = some (.bool false) := sl_eqi rfl
theorem Td30 : (Try.T 30).desc = .struct [(28, 0, true), (4, 1, true), (4, 2, true)] := rfl
theorem Tz30 : (Try.T 30).zero = [.slice none 0 0 0 true, .bool false, .bool false] := rfl
theorem ld30 : loadA Try.T h 30 (.ptr (some (i, o))) = rdN o 3 (h.get i) := ld_n rfl rfl rfl
theorem li30 : loadA Try.T h 30 (.iptr row o) = (cut row o 3).map .agg := ldi_n rfl rfl rfl
theorem st30 : storeA Try.T h 30 (.ptr (some (i, o))) v = stC h i o 3 v.cells := st_n rfl rfl
theorem lE30 [Inhabited α] (p : Sl E h i a l) (h0 : 0 ≤ j) (h1 : j < l.length) (h4 : Seen (Nat.beq E.sz 3)) : loadA Try.T h 30 (a.at E.sz 0 j) = some (.agg (E.f (l[j.toNat]!))) := p.ldn h0 h1 rfl rfl (Nat.eq_of_beq_eq_true h4.eq).symm
theorem bd30 {l : List (Nat × AV)} : bldR Try.T 30 (some l) = (fillA (plA Try.T 30) (Try.T 30).zero l).map .agg := bld_eq rfl
theorem pl30_0 : plA Try.T 30 0 = some (0, 1) := rfl
theorem pl30_1 : plA Try.T 30 1 = some (1, 1) := rfl
theorem pl30_2 : plA Try.T 30 2 = some (2, 1) := rfl
theorem fa30_0 : faR Try.T 30 0 (some (.ptr (some (i, o)))) = some (.ptr (some (i, o + 0))) := fa_ptr rfl (by decide) rfl
theorem fi30_0 : faR Try.T 30 0 (some (.iptr row o)) = some (.iptr row (o + 0)) := fa_iptr rfl (by decide) rfl
theorem fE30_0 (p : Sl E h i a l) (h0 : 0 ≤ j) (h1 : j < l.length) : faR Try.T 30 0 (some (a.at E.sz off0 j)) = some (a.at E.sz (off0 + 0) j) := p.fa h0 h1 rfl (by decide) rfl
theorem fl30_0 : fldR Try.T 30 0 (some (.agg cs)) = cs[0]? := fld_1 rfl rfl rfl
theorem fa30_1 : faR Try.T 30 1 (some (.ptr (some (i, o)))) = some (.ptr (some (i, o + 1))) := fa_ptr rfl (by decide) rfl
theorem fi30_1 : faR Try.T 30 1 (some (.iptr row o)) = some (.iptr row (o + 1)) := fa_iptr rfl (by decide) rfl
theorem fE30_1 (p : Sl E h i a l) (h0 : 0 ≤ j) (h1 : j < l.length) : faR Try.T 30 1 (some (a.at E.sz off0 j)) = some (a.at E.sz (off0 + 1) j) := p.fa h0 h1 rfl (by decide) rfl
theorem fl30_1 : fldR Try.T 30 1 (some (.agg cs)) = cs[1]? := fld_1 rfl rfl rfl
theorem fa30_2 : faR Try.T 30 2 (some (.ptr (some (i, o)))) = some (.ptr (some (i, o + 2))) := fa_ptr rfl (by decide) rfl
theorem fi30_2 : faR Try.T 30 2 (some (.iptr row o)) = some (.iptr row (o + 2)) := fa_iptr rfl (by decide) rfl
theorem fE30_2 (p : Sl E h i a l) (h0 : 0 ≤ j) (h1 : j < l.length) : faR Try.T 30 2 (some (a.at E.sz off0 j)) = some (a.at E.sz (off0 + 2) j) := p.fa h0 h1 rfl (by decide) rfl
theorem fl30_2 : fldR Try.T 30 2 (some (.agg cs)) = cs[2]? := fld_1 rfl rfl rfl
theorem Td32 : (Try.T 32).desc = .slice 53 := rfl
theorem Tz32 : (Try.T 32).zero = [.slice none 0 0 0 true] := rfl
theorem ld32 : loadA Try.T h 32 (.ptr (some (i, o))) = rd1 o (h.get i) := ld_1 rfl rfl
theorem li32 : loadA Try.T h 32 (.iptr row o) = row[o]? := ldi_1 rfl rfl
theorem st32 : storeA Try.T h 32 (.ptr (some (i, o))) v = stC h i o 1 v.cells := st_n rfl rfl
theorem len32 (p : Sl E h i a l) : builtinA Try.T h' .len [32] [a] = some (.int .i64 (l.length : Int), h') := p.len rfl
theorem ix32 (p : Sl E h i a l) (h0 : 0 ≤ j) (h1 : j < l.length) (h2 : Seen (Nat.beq E.sz 3)) : idxA Try.T 32 a (.int k j) = some (a.at E.sz 0 j) := p.idx h0 h1 rfl rfl (Nat.eq_of_beq_eq_true h2.eq).symm
theorem wr53 {P : Program} {ops : Array Oper} {L : List Oper} {K : Tm → AH → Prop} {d : Option Nat} {tm : Tm} (p : Ow E h i a l) (x : α) (hx : v.cells = E.f x) (h0 : 0 ≤ j) (h1 : j < l.length) (h2 : Seen (Nat.beq E.sz 3)) (hk : ∀ h', Ow E h' i a (l.set j.toNat x) → h'.size = h.size → (∀ b, ¬ b = i → h'.get b = h.get b) → putM P Try.T ops L K d tm undefA h') : ansM P Try.T ops L K d tm h ((storeA Try.T h 53 (a.at E.sz 0 j) v).map fun h' => .val undefA h') :=
  ans_wr p x hx h0 h1 rfl (Nat.eq_of_beq_eq_true h2.eq).symm hk
theorem w53_0_9 {P : Program} {ops : Array Oper} {L : List Oper} {K : Tm → AH → Prop} {d : Option Nat} {tm : Tm} [Inhabited α] (p : Ow E h i a l) (x : α) (hx : E.f x = (E.f (l[j.toNat]!)).set 0 v) (hv : v.cells = [v]) (hv1 : v.one = true) (h0 : 0 ≤ j) (h1 : j < l.length) (h2 : Seen (Nat.blt 0 E.sz)) (hk : ∀ h', Ow E h' i a (l.set j.toNat x) → h'.size = h.size → (∀ b, ¬ b = i → h'.get b = h.get b) → putM P Try.T ops L K d tm undefA h') : ansM P Try.T ops L K d tm h ((storeA Try.T h 9 (a.at E.sz 0 j) v).map fun h' => .val undefA h') :=
  ans_wr1 p x hx hv hv1 (by simpa [Nat.blt_eq] using h2.eq) h0 h1 rfl rfl hk
theorem w53_1_9 {P : Program} {ops : Array Oper} {L : List Oper} {K : Tm → AH → Prop} {d : Option Nat} {tm : Tm} [Inhabited α] (p : Ow E h i a l) (x : α) (hx : E.f x = (E.f (l[j.toNat]!)).set 1 v) (hv : v.cells = [v]) (hv1 : v.one = true) (h0 : 0 ≤ j) (h1 : j < l.length) (h2 : Seen (Nat.blt 1 E.sz)) (hk : ∀ h', Ow E h' i a (l.set j.toNat x) → h'.size = h.size → (∀ b, ¬ b = i → h'.get b = h.get b) → putM P Try.T ops L K d tm undefA h') : ansM P Try.T ops L K d tm h ((storeA Try.T h 9 (a.at E.sz 1 j) v).map fun h' => .val undefA h') :=
  ans_wr1 p x hx hv hv1 (by simpa [Nat.blt_eq] using h2.eq) h0 h1 rfl rfl hk
theorem w53_2_4 {P : Program} {ops : Array Oper} {L : List Oper} {K : Tm → AH → Prop} {d : Option Nat} {tm : Tm} [Inhabited α] (p : Ow E h i a l) (x : α) (hx : E.f x = (E.f (l[j.toNat]!)).set 2 v) (hv : v.cells = [v]) (hv1 : v.one = true) (h0 : 0 ≤ j) (h1 : j < l.length) (h2 : Seen (Nat.blt 2 E.sz)) (hk : ∀ h', Ow E h' i a (l.set j.toNat x) → h'.size = h.size → (∀ b, ¬ b = i → h'.get b = h.get b) → putM P Try.T ops L K d tm undefA h') : ansM P Try.T ops L K d tm h ((storeA Try.T h 4 (a.at E.sz 2 j) v).map fun h' => .val undefA h') :=
  ans_wr1 p x hx hv hv1 (by simpa [Nat.blt_eq] using h2.eq) h0 h1 rfl rfl hk
theorem sl32 (p : Sl E h i a l) (h0 : 0 ≤ x) (h1 : x ≤ y) (h2 : y ≤ l.length) (h3 : Seen (Nat.beq E.sz 3)) : sliceA Try.T 32 a (some x) (some y) none = some (a.part x y) := p.slc h0 h1 h2 rfl rfl (Nat.eq_of_beq_eq_true h3.eq).symm
theorem sm32 (p : Sl E h i a l) (h1 : 0 ≤ y) (h2 : y ≤ l.length) (h3 : Seen (Nat.beq E.sz 3)) : sliceA Try.T 32 a none (some y) none = some (a.part 0 y) := p.slc (lo := none) (Int.le_refl _) h1 h2 rfl rfl (Nat.eq_of_beq_eq_true h3.eq).symm
theorem sn32 (p : Sl E h i a l) (h0 : 0 ≤ x) (h1 : x ≤ l.length) (h3 : Seen (Nat.beq E.sz 3)) : sliceA Try.T 32 a (some x) none none = some (a.part x l.length) := p.slc (hi := none) h0 h1 (Int.le_refl _) rfl rfl (Nat.eq_of_beq_eq_true h3.eq).symm
theorem ap32 {P : Program} {ops : Array Oper} {L : List Oper} {K : Tm → AH → Prop} {d : Option Nat} {tm : Tm} {x : AV} {new : List α} {ix : Nat} (p : Ow E h i a l) (hx : Sl E h ix x new) (h2 : Seen (Nat.beq E.sz 3)) (hr : (l.length + new.length) * 40 ≤ 140737488355328) (hk : ∀ z h' i', Ow E h' i' z (l ++ new) → (i' = i ∨ h.size ≤ i') → h.size ≤ h'.size → (∀ j, j < h.size → ¬ j = i → h'.get j = h.get j) → putM P Try.T ops L K d tm z h') : ansM P Try.T ops L K d tm h (pairR (appendA Try.T h 32 32 a x)) :=
  ans_app p hx rfl ⟨_, rfl⟩ rfl (Nat.eq_of_beq_eq_true h2.eq).symm (Nat.eq_of_beq_eq_true h2.eq).symm (by decide) hr hk
theorem al32 {P : Program} {ops : Array Oper} {L : List Oper} {K : Tm → AH → Prop} {d : Option Nat} {tm : Tm} {sz : Nat} (x : α) (p : Ow E h i a l) (hx : cs = E.f x) (hs : sz = E.sz) (h2 : Seen (Nat.beq E.sz 3)) (hr : (l.length + 1) * 40 ≤ 140737488355328) (hk : ∀ z h' i', Ow E h' i' z (l ++ [x]) → (i' = i ∨ h.size ≤ i') → h.size ≤ h'.size → (∀ j, j < h.size → ¬ j = i → h'.get j = h.get j) → putM P Try.T ops L K d tm z h') : ansM P Try.T ops L K d tm (h.push (.cells cs)) (pairR (appendA Try.T (h.push (.cells cs)) 32 32 a (.slice (some (h.size, 0)) 1 1 sz true))) :=
  ans_app1 p x hx hs rfl rfl (Nat.eq_of_beq_eq_true h2.eq).symm (Nat.eq_of_beq_eq_true h2.eq).symm (by decide) hr hk
theorem eqn32 {l1 c1 z1 l2 c2 z2 : Nat} {x1 x2 : Bool} : binA Try.T .eql 32 (.slice none l1 c1 z1 x1) (.slice none l2 c2 z2 x2) = some (.bool true) := sl_eqn rfl
theorem eqs32 {l1 c1 z1 l2 c2 z2 : Nat} {x1 x2 : Bool} {p : Nat × Nat} : binA Try.T .eql 32 (.slice (some p) l1 c1 z1 x1) (.slice none l2 c2 z2 x2) = some (.bool false) := sl_eqs rfl
theorem eqi32 {l2 c2 z2 a1 b1 c1 d1 : Nat} {x2 : Bool} : binA Try.T .eql 32 (.islice row a1 b1 c1 d1) (.slice none l2 c2 z2 x2) = some (.bool false) := sl_eqi rfl
theorem Td33 : (Try.T 33).desc = .slice 5 := rfl
theorem Tz33 : (Try.T 33).zero = [.slice none 0 0 0 true] := rfl
theorem ld33 : loadA Try.T h 33 (.ptr (some (i, o))) = rd1 o (h.get i) := ld_1 rfl rfl
theorem li33 : loadA Try.T h 33 (.iptr row o) = row[o]? := ldi_1 rfl rfl
theorem st33 : storeA Try.T h 33 (.ptr (some (i, o))) v = stC h i o 1 v.cells := st_n rfl rfl
theorem len33 (p : Sl E h i a l) : builtinA Try.T h' .len [33] [a] = some (.int .i64 (l.length : Int), h') := p.len rfl
theorem ix33 (p : Sl E h i a l) (h0 : 0 ≤ j) (h1 : j < l.length) (h2 : Seen (Nat.beq E.sz 1)) : idxA Try.T 33 a (.int k j) = some (a.at E.sz 0 j) := p.idx h0 h1 rfl rfl (Nat.eq_of_beq_eq_true h2.eq).symm
theorem wr5 {P : Program} {ops : Array Oper} {L : List Oper} {K : Tm → AH → Prop} {d : Option Nat} {tm : Tm} (p : Ow E h i a l) (x : α) (hx : v.cells = E.f x) (h0 : 0 ≤ j) (h1 : j < l.length) (h2 : Seen (Nat.beq E.sz 1)) (hk : ∀ h', Ow E h' i a (l.set j.toNat x) → h'.size = h.size → (∀ b, ¬ b = i → h'.get b = h.get b) → putM P Try.T ops L K d tm undefA h') : ansM P Try.T ops L K d tm h ((storeA Try.T h 5 (a.at E.sz 0 j) v).map fun h' => .val undefA h') :=
  ans_wr p x hx h0 h1 rfl (Nat.eq_of_beq_eq_true h2.eq).symm hk
theorem br33 {n : Nat} {l : List (Nat × AV)} (hn : Seen (Nat.beq l.length n && (Nat.ble n 10000 && bsOk 0 l))) : bsR Try.T h 33 n (some l) = some (.val (.slice (some (h.size, 0)) n n 1 true) (h.push (.cells (l.map (·.2))))) := bs_row rfl rfl rfl rfl hn
theorem bs33 (hv : Seen (match v with | .agg _ | .tuple _ => false | _ => true)) : bsR Try.T h 33 1 (some [(0, v)]) = some (.val (.slice (some (h.size, 0)) 1 1 1 true) (h.push (.cells [v]))) := bs_one rfl rfl rfl rfl hv
theorem sl33 (p : Sl E h i a l) (h0 : 0 ≤ x) (h1 : x ≤ y) (h2 : y ≤ l.length) (h3 : Seen (Nat.beq E.sz 1)) : sliceA Try.T 33 a (some x) (some y) none = some (a.part x y) := p.slc h0 h1 h2 rfl rfl (Nat.eq_of_beq_eq_true h3.eq).symm
theorem sm33 (p : Sl E h i a l) (h1 : 0 ≤ y) (h2 : y ≤ l.length) (h3 : Seen (Nat.beq E.sz 1)) : sliceA Try.T 33 a none (some y) none = some (a.part 0 y) := p.slc (lo := none) (Int.le_refl _) h1 h2 rfl rfl (Nat.eq_of_beq_eq_true h3.eq).symm
theorem sn33 (p : Sl E h i a l) (h0 : 0 ≤ x) (h1 : x ≤ l.length) (h3 : Seen (Nat.beq E.sz 1)) : sliceA Try.T 33 a (some x) none none = some (a.part x l.length) := p.slc (hi := none) h0 h1 (Int.le_refl _) rfl rfl (Nat.eq_of_beq_eq_true h3.eq).symm
theorem ap33 {P : Program} {ops : Array Oper} {L : List Oper} {K : Tm → AH → Prop} {d : Option Nat} {tm : Tm} {x : AV} {new : List α} {ix : Nat} (p : Ow E h i a l) (hx : Sl E h ix x new) (h2 : Seen (Nat.beq E.sz 1)) (hr : (l.length + new.length) * 1 ≤ 140737488355328) (hk : ∀ z h' i', Ow E h' i' z (l ++ new) → (i' = i ∨ h.size ≤ i') → h.size ≤ h'.size → (∀ j, j < h.size → ¬ j = i → h'.get j = h.get j) → putM P Try.T ops L K d tm z h') : ansM P Try.T ops L K d tm h (pairR (appendA Try.T h 33 33 a x)) :=
  ans_app p hx rfl ⟨_, rfl⟩ rfl (Nat.eq_of_beq_eq_true h2.eq).symm (Nat.eq_of_beq_eq_true h2.eq).symm (by decide) hr hk
theorem al33 {P : Program} {ops : Array Oper} {L : List Oper} {K : Tm → AH → Prop} {d : Option Nat} {tm : Tm} {sz : Nat} (x : α) (p : Ow E h i a l) (hx : cs = E.f x) (hs : sz = E.sz) (h2 : Seen (Nat.beq E.sz 1)) (hr : (l.length + 1) * 1 ≤ 140737488355328) (hk : ∀ z h' i', Ow E h' i' z (l ++ [x]) → (i' = i ∨ h.size ≤ i') → h.size ≤ h'.size → (∀ j, j < h.size → ¬ j = i → h'.get j = h.get j) → putM P Try.T ops L K d tm z h') : ansM P Try.T ops L K d tm (h.push (.cells cs)) (pairR (appendA Try.T (h.push (.cells cs)) 33 33 a (.slice (some (h.size, 0)) 1 1 sz true))) :=
  ans_app1 p x hx hs rfl rfl (Nat.eq_of_beq_eq_true h2.eq).symm (Nat.eq_of_beq_eq_true h2.eq).symm (by decide) hr hk
theorem a833 {P : Program} {ops : Array Oper} {L : List Oper} {K : Tm → AH → Prop} {d : Option Nat} {tm : Tm} {l : List UInt8} {e : Int} (p : Ow E8 h i a l) (h0 : 0 ≤ e) (h1 : e < 256) (hr : l.length < 100000000000000) (hk : ∀ z h' i', Ow E8 h' i' z (l ++ [UInt8.ofNat e.toNat]) → (i' = i ∨ h.size ≤ i') → h.size ≤ h'.size → (∀ j, j < h.size → ¬ j = i → h'.get j = h.get j) → putM P Try.T ops L K d tm z h') : ansM P Try.T ops L K d tm (h.push (.cells [.int .u8 e])) (pairR (appendA Try.T (h.push (.cells [.int .u8 e])) 33 33 a (.slice (some (h.size, 0)) 1 1 1 true))) :=
  ans_app1 p (UInt8.ofNat e.toNat) (e8_of h0 h1) rfl rfl rfl rfl rfl (by decide) (by show (l.length + 1) * 1 ≤ _; omega) hk
theorem as33_9 {P : Program} {ops : Array Oper} {L : List Oper} {K : Tm → AH → Prop} {d : Option Nat} {tm : Tm} {l : List UInt8} (p : Ow E8 h i a l) (hr : l.length + s.length < 100000000000000) (hk : ∀ z h' i', Ow E8 h' i' z (l ++ s) → (i' = i ∨ h.size ≤ i') → h.size ≤ h'.size → (∀ j, j < h.size → ¬ j = i → h'.get j = h.get j) → putM P Try.T ops L K d tm z h') : ansM P Try.T ops L K d tm h (pairR (appendA Try.T h 33 9 a (.str s))) :=
  ans_appS p rfl rfl rfl rfl rfl (by decide) (by show (l.length + s.length) * 1 ≤ _; omega) hk
theorem as33_10 {P : Program} {ops : Array Oper} {L : List Oper} {K : Tm → AH → Prop} {d : Option Nat} {tm : Tm} {l : List UInt8} (p : Ow E8 h i a l) (hr : l.length + s.length < 100000000000000) (hk : ∀ z h' i', Ow E8 h' i' z (l ++ s) → (i' = i ∨ h.size ≤ i') → h.size ≤ h'.size → (∀ j, j < h.size → ¬ j = i → h'.get j = h.get j) → putM P Try.T ops L K d tm z h') : ansM P Try.T ops L K d tm h (pairR (appendA Try.T h 33 10 a (.str s))) :=
  ans_appS p rfl rfl rfl rfl rfl (by decide) (by show (l.length + s.length) * 1 ≤ _; omega) hk
theorem as33_11 {P : Program} {ops : Array Oper} {L : List Oper} {K : Tm → AH → Prop} {d : Option Nat} {tm : Tm} {l : List UInt8} (p : Ow E8 h i a l) (hr : l.length + s.length < 100000000000000) (hk : ∀ z h' i', Ow E8 h' i' z (l ++ s) → (i' = i ∨ h.size ≤ i') → h.size ≤ h'.size → (∀ j, j < h.size → ¬ j = i → h'.get j = h.get j) → putM P Try.T ops L K d tm z h') : ansM P Try.T ops L K d tm h (pairR (appendA Try.T h 33 11 a (.str s))) :=
  ans_appS p rfl rfl rfl rfl rfl (by decide) (by show (l.length + s.length) * 1 ≤ _; omega) hk
theorem cs33_9 {l : List UInt8} (p : Sl E8 h i a l) : convA Try.T h 33 9 a = some (.str l, h) := p.conv rfl rfl rfl
theorem cb9_33 (hl : (s.length : Int) ≤ 9223372036854775807) : convA Try.T h 9 33 (.str s) = some (.slice (some (h.size, 0)) s.length s.length 1 false, h.push (.cells (ofBytes s))) := conv_bytes rfl rfl rfl (by omega)
theorem cs33_10 {l : List UInt8} (p : Sl E8 h i a l) : convA Try.T h 33 10 a = some (.str l, h) := p.conv rfl rfl rfl
theorem cb10_33 (hl : (s.length : Int) ≤ 9223372036854775807) : convA Try.T h 10 33 (.str s) = some (.slice (some (h.size, 0)) s.length s.length 1 false, h.push (.cells (ofBytes s))) := conv_bytes rfl rfl rfl (by omega)
theorem cs33_11 {l : List UInt8} (p : Sl E8 h i a l) : convA Try.T h 33 11 a = some (.str l, h) := p.conv rfl rfl rfl
theorem cb11_33 (hl : (s.length : Int) ≤ 9223372036854775807) : convA Try.T h 11 33 (.str s) = some (.slice (some (h.size, 0)) s.length s.length 1 false, h.push (.cells (ofBytes s))) := conv_bytes rfl rfl rfl (by omega)
theorem eqn33 {l1 c1 z1 l2 c2 z2 : Nat} {x1 x2 : Bool} : binA Try.T .eql 33 (.slice none l1 c1 z1 x1) (.slice none l2 c2 z2 x2) = some (.bool true) := sl_eqn rfl
theorem eqs33 {l1 c1 z1 l2 c2 z2 : Nat} {x1 x2 : Bool} {p : Nat × Nat} : binA Try.T .eql 33 (.slice (some p) l1 c1 z1 x1) (.slice none l2 c2 z2 x2) = some (.bool false) := sl_eqs rfl
theorem eqi33 {l2 c2 z2 a1 b1 c1 d1 : Nat} {x2 : Bool} : binA Try.T .eql 33 (.islice row a1 b1 c1 d1) (.slice none l2 c2 z2 x2) = some (.bool false) := sl_eqi rfl
theorem Td35 : (Try.T 35).desc = .struct [(3, 0, true), (3, 1, true), (32, 2, true), (33, 3, true), (4, 4, true), (2, 5, true), (3, 6, true)] := rfl
theorem Tz35 : (Try.T 35).zero = [.int .i64 0, .int .i64 0, .slice none 0 0 0 true, .slice none 0 0 0 true, .bool false, .int .i64 0, .int .i64 0] := rfl
theorem ld35 : loadA Try.T h 35 (.ptr (some (i, o))) = rdN o 7 (h.get i) := ld_n rfl rfl rfl
theorem li35 : loadA Try.T h 35 (.iptr row o) = (cut row o 7).map .agg := ldi_n rfl rfl rfl
theorem st35 : storeA Try.T h 35 (.ptr (some (i, o))) v = stC h i o 7 v.cells := st_n rfl rfl
theorem lE35 [Inhabited α] (p : Sl E h i a l) (h0 : 0 ≤ j) (h1 : j < l.length) (h4 : Seen (Nat.beq E.sz 7)) : loadA Try.T h 35 (a.at E.sz 0 j) = some (.agg (E.f (l[j.toNat]!))) := p.ldn h0 h1 rfl rfl (Nat.eq_of_beq_eq_true h4.eq).symm
theorem bd35 {l : List (Nat × AV)} : bldR Try.T 35 (some l) = (fillA (plA Try.T 35) (Try.T 35).zero l).map .agg := bld_eq rfl
theorem pl35_0 : plA Try.T 35 0 = some (0, 1) := rfl
theorem pl35_1 : plA Try.T 35 1 = some (1, 1) := rfl
theorem pl35_2 : plA Try.T 35 2 = some (2, 1) := rfl
theorem pl35_3 : plA Try.T 35 3 = some (3, 1) := rfl
theorem pl35_4 : plA Try.T 35 4 = some (4, 1) := rfl
theorem pl35_5 : plA Try.T 35 5 = some (5, 1) := rfl
theorem pl35_6 : plA Try.T 35 6 = some (6, 1) := rfl
theorem fa35_0 : faR Try.T 35 0 (some (.ptr (some (i, o)))) = some (.ptr (some (i, o + 0))) := fa_ptr rfl (by decide) rfl
theorem fi35_0 : faR Try.T 35 0 (some (.iptr row o)) = some (.iptr row (o + 0)) := fa_iptr rfl (by decide) rfl
theorem fE35_0 (p : Sl E h i a l) (h0 : 0 ≤ j) (h1 : j < l.length) : faR Try.T 35 0 (some (a.at E.sz off0 j)) = some (a.at E.sz (off0 + 0) j) := p.fa h0 h1 rfl (by decide) rfl
theorem fl35_0 : fldR Try.T 35 0 (some (.agg cs)) = cs[0]? := fld_1 rfl rfl rfl
theorem fa35_1 : faR Try.T 35 1 (some (.ptr (some (i, o)))) = some (.ptr (some (i, o + 1))) := fa_ptr rfl (by decide) rfl
theorem fi35_1 : faR Try.T 35 1 (some (.iptr row o)) = some (.iptr row (o + 1)) := fa_iptr rfl (by decide) rfl
theorem fE35_1 (p : Sl E h i a l) (h0 : 0 ≤ j) (h1 : j < l.length) : faR Try.T 35 1 (some (a.at E.sz off0 j)) = some (a.at E.sz (off0 + 1) j) := p.fa h0 h1 rfl (by decide) rfl
theorem fl35_1 : fldR Try.T 35 1 (some (.agg cs)) = cs[1]? := fld_1 rfl rfl rfl
theorem fa35_2 : faR Try.T 35 2 (some (.ptr (some (i, o)))) = some (.ptr (some (i, o + 2))) := fa_ptr rfl (by decide) rfl
theorem fi35_2 : faR Try.T 35 2 (some (.iptr row o)) = some (.iptr row (o + 2)) := fa_iptr rfl (by decide) rfl
theorem fE35_2 (p : Sl E h i a l) (h0 : 0 ≤ j) (h1 : j < l.length) : faR Try.T 35 2 (some (a.at E.sz off0 j)) = some (a.at E.sz (off0 + 2) j) := p.fa h0 h1 rfl (by decide) rfl
theorem fl35_2 : fldR Try.T 35 2 (some (.agg cs)) = cs[2]? := fld_1 rfl rfl rfl
theorem fa35_3 : faR Try.T 35 3 (some (.ptr (some (i, o)))) = some (.ptr (some (i, o + 3))) := fa_ptr rfl (by decide) rfl
theorem fi35_3 : faR Try.T 35 3 (some (.iptr row o)) = some (.iptr row (o + 3)) := fa_iptr rfl (by decide) rfl
theorem fE35_3 (p : Sl E h i a l) (h0 : 0 ≤ j) (h1 : j < l.length) : faR Try.T 35 3 (some (a.at E.sz off0 j)) = some (a.at E.sz (off0 + 3) j) := p.fa h0 h1 rfl (by decide) rfl
theorem fl35_3 : fldR Try.T 35 3 (some (.agg cs)) = cs[3]? := fld_1 rfl rfl rfl
theorem fa35_4 : faR Try.T 35 4 (some (.ptr (some (i, o)))) = some (.ptr (some (i, o + 4))) := fa_ptr rfl (by decide) rfl
theorem fi35_4 : faR Try.T 35 4 (some (.iptr row o)) = some (.iptr row (o + 4)) := fa_iptr rfl (by decide) rfl
theorem fE35_4 (p : Sl E h i a l) (h0 : 0 ≤ j) (h1 : j < l.length) : faR Try.T 35 4 (some (a.at E.sz off0 j)) = some (a.at E.sz (off0 + 4) j) := p.fa h0 h1 rfl (by decide) rfl
theorem fl35_4 : fldR Try.T 35 4 (some (.agg cs)) = cs[4]? := fld_1 rfl rfl rfl
theorem fa35_5 : faR Try.T 35 5 (some (.ptr (some (i, o)))) = some (.ptr (some (i, o + 5))) := fa_ptr rfl (by decide) rfl
theorem fi35_5 : faR Try.T 35 5 (some (.iptr row o)) = some (.iptr row (o + 5)) := fa_iptr rfl (by decide) rfl
theorem fE35_5 (p : Sl E h i a l) (h0 : 0 ≤ j) (h1 : j < l.length) : faR Try.T 35 5 (some (a.at E.sz off0 j)) = some (a.at E.sz (off0 + 5) j) := p.fa h0 h1 rfl (by decide) rfl
theorem fl35_5 : fldR Try.T 35 5 (some (.agg cs)) = cs[5]? := fld_1 rfl rfl rfl
theorem fa35_6 : faR Try.T 35 6 (some (.ptr (some (i, o)))) = some (.ptr (some (i, o + 6))) := fa_ptr rfl (by decide) rfl
theorem fi35_6 : faR Try.T 35 6 (some (.iptr row o)) = some (.iptr row (o + 6)) := fa_iptr rfl (by decide) rfl
theorem fE35_6 (p : Sl E h i a l) (h0 : 0 ≤ j) (h1 : j < l.length) : faR Try.T 35 6 (some (a.at E.sz off0 j)) = some (a.at E.sz (off0 + 6) j) := p.fa h0 h1 rfl (by decide) rfl
theorem fl35_6 : fldR Try.T 35 6 (some (.agg cs)) = cs[6]? := fld_1 rfl rfl rfl
theorem Td37 : (Try.T 37).desc = .struct [(3, 0, true), (35, 1, true)] := rfl
theorem Tz37 : (Try.T 37).zero = [.int .i64 0, .int .i64 0, .int .i64 0, .slice none 0 0 0 true, .slice none 0 0 0 true, .bool false, .int .i64 0, .int .i64 0] := rfl
theorem ld37 : loadA Try.T h 37 (.ptr (some (i, o))) = rdN o 8 (h.get i) := ld_n rfl rfl rfl
theorem li37 : loadA Try.T h 37 (.iptr row o) = (cut row o 8).map .agg := ldi_n rfl rfl rfl
theorem st37 : storeA Try.T h 37 (.ptr (some (i, o))) v = stC h i o 8 v.cells := st_n rfl rfl
theorem lE37 [Inhabited α] (p : Sl E h i a l) (h0 : 0 ≤ j) (h1 : j < l.length) (h4 : Seen (Nat.beq E.sz 8)) : loadA Try.T h 37 (a.at E.sz 0 j) = some (.agg (E.f (l[j.toNat]!))) := p.ldn h0 h1 rfl rfl (Nat.eq_of_beq_eq_true h4.eq).symm
theorem bd37 {l : List (Nat × AV)} : bldR Try.T 37 (some l) = (fillA (plA Try.T 37) (Try.T 37).zero l).map .agg := bld_eq rfl
theorem pl37_0 : plA Try.T 37 0 = some (0, 1) := rfl
theorem pl37_1 : plA Try.T 37 1 = some (1, 7) := rfl
theorem fa37_0 : faR Try.T 37 0 (some (.ptr (some (i, o)))) = some (.ptr (some (i, o + 0))) := fa_ptr rfl (by decide) rfl
theorem fi37_0 : faR Try.T 37 0 (some (.iptr row o)) = some (.iptr row (o + 0)) := fa_iptr rfl (by decide) rfl
theorem fE37_0 (p : Sl E h i a l) (h0 : 0 ≤ j) (h1 : j < l.length) : faR Try.T 37 0 (some (a.at E.sz off0 j)) = some (a.at E.sz (off0 + 0) j) := p.fa h0 h1 rfl (by decide) rfl
theorem fl37_0 : fldR Try.T 37 0 (some (.agg cs)) = cs[0]? := fld_1 rfl rfl rfl
theorem fa37_1 : faR Try.T 37 1 (some (.ptr (some (i, o)))) = some (.ptr (some (i, o + 1))) := fa_ptr rfl (by decide) rfl
theorem fi37_1 : faR Try.T 37 1 (some (.iptr row o)) = some (.iptr row (o + 1)) := fa_iptr rfl (by decide) rfl
theorem fE37_1 (p : Sl E h i a l) (h0 : 0 ≤ j) (h1 : j < l.length) : faR Try.T 37 1 (some (a.at E.sz off0 j)) = some (a.at E.sz (off0 + 1) j) := p.fa h0 h1 rfl (by decide) rfl
theorem fl37_1 : fldR Try.T 37 1 (some (.agg cs)) = (cut cs 1 7).map .agg := fld_n rfl rfl rfl rfl
theorem Td39 : (Try.T 39).desc = .struct [(4, 0, true), (32, 1, true), (4, 2, true), (33, 3, true), (4, 4, true), (4, 5, true), (3, 6, true), (4, 7, true)] := rfl
theorem Tz39 : (Try.T 39).zero = [.bool false, .slice none 0 0 0 true, .bool false, .slice none 0 0 0 true, .bool false, .bool false, .int .i64 0, .bool false] := rfl
theorem ld39 : loadA Try.T h 39 (.ptr (some (i, o))) = rdN o 8 (h.get i) := ld_n rfl rfl rfl
theorem li39 : loadA Try.T h 39 (.iptr row o) = (cut row o 8).map .agg := ldi_n rfl rfl rfl
theorem st39 : storeA Try.T h 39 (.ptr (some (i, o))) v = stC h i o 8 v.cells := st_n rfl rfl
theorem lE39 [Inhabited α] (p : Sl E h i a l) (h0 : 0 ≤ j) (h1 : j < l.length) (h4 : Seen (Nat.beq E.sz 8)) : loadA Try.T h 39 (a.at E.sz 0 j) = some (.agg (E.f (l[j.toNat]!))) := p.ldn h0 h1 rfl rfl (Nat.eq_of_beq_eq_true h4.eq).symm
theorem bd39 {l : List (Nat × AV)} : bldR Try.T 39 (some l) = (fillA (plA Try.T 39) (Try.T 39).zero l).map .agg := bld_eq rfl
theorem pl39_0 : plA Try.T 39 0 = some (0, 1) := rfl
theorem pl39_1 : plA Try.T 39 1 = some (1, 1) := rfl
theorem pl39_2 : plA Try.T 39 2 = some (2, 1) := rfl
theorem pl39_3 : plA Try.T 39 3 = some (3, 1) := rfl
theorem pl39_4 : plA Try.T 39 4 = some (4, 1) := rfl
theorem pl39_5 : plA Try.T 39 5 = some (5, 1) := rfl
theorem pl39_6 : plA Try.T 39 6 = some (6, 1) := rfl
theorem pl39_7 : plA Try.T 39 7 = some (7, 1) := rfl
theorem fa39_0 : faR Try.T 39 0 (some (.ptr (some (i, o)))) = some (.ptr (some (i, o + 0))) := fa_ptr rfl (by decide) rfl
theorem fi39_0 : faR Try.T 39 0 (some (.iptr row o)) = some (.iptr row (o + 0)) := fa_iptr rfl (by decide) rfl
theorem fE39_0 (p : Sl E h i a l) (h0 : 0 ≤ j) (h1 : j < l.length) : faR Try.T 39 0 (some (a.at E.sz off0 j)) = some (a.at E.sz (off0 + 0) j) := p.fa h0 h1 rfl (by decide) rfl
theorem fl39_0 : fldR Try.T 39 0 (some (.agg cs)) = cs[0]? := fld_1 rfl rfl rfl
theorem fa39_1 : faR Try.T 39 1 (some (.ptr (some (i, o)))) = some (.ptr (some (i, o + 1))) := fa_ptr rfl (by decide) rfl
theorem fi39_1 : faR Try.T 39 1 (some (.iptr row o)) = some (.iptr row (o + 1)) := fa_iptr rfl (by decide) rfl
theorem fE39_1 (p : Sl E h i a l) (h0 : 0 ≤ j) (h1 : j < l.length) : faR Try.T 39 1 (some (a.at E.sz off0 j)) = some (a.at E.sz (off0 + 1) j) := p.fa h0 h1 rfl (by decide) rfl
theorem fl39_1 : fldR Try.T 39 1 (some (.agg cs)) = cs[1]? := fld_1 rfl rfl rfl
theorem fa39_2 : faR Try.T 39 2 (some (.ptr (some (i, o)))) = some (.ptr (some (i, o + 2))) := fa_ptr rfl (by decide) rfl
theorem fi39_2 : faR Try.T 39 2 (some (.iptr row o)) = some (.iptr row (o + 2)) := fa_iptr rfl (by decide) rfl
theorem fE39_2 (p : Sl E h i a l) (h0 : 0 ≤ j) (h1 : j < l.length) : faR Try.T 39 2 (some (a.at E.sz off0 j)) = some (a.at E.sz (off0 + 2) j) := p.fa h0 h1 rfl (by decide) rfl
theorem fl39_2 : fldR Try.T 39 2 (some (.agg cs)) = cs[2]? := fld_1 rfl rfl rfl
theorem fa39_3 : faR Try.T 39 3 (some (.ptr (some (i, o)))) = some (.ptr (some (i, o + 3))) := fa_ptr rfl (by decide) rfl
theorem fi39_3 : faR Try.T 39 3 (some (.iptr row o)) = some (.iptr row (o + 3)) := fa_iptr rfl (by decide) rfl
theorem fE39_3 (p : Sl E h i a l) (h0 : 0 ≤ j) (h1 : j < l.length) : faR Try.T 39 3 (some (a.at E.sz off0 j)) = some (a.at E.sz (off0 + 3) j) := p.fa h0 h1 rfl (by decide) rfl
theorem fl39_3 : fldR Try.T 39 3 (some (.agg cs)) = cs[3]? := fld_1 rfl rfl rfl
theorem fa39_4 : faR Try.T 39 4 (some (.ptr (some (i, o)))) = some (.ptr (some (i, o + 4))) := fa_ptr rfl (by decide) rfl
theorem fi39_4 : faR Try.T 39 4 (some (.iptr row o)) = some (.iptr row (o + 4)) := fa_iptr rfl (by decide) rfl
theorem fE39_4 (p : Sl E h i a l) (h0 : 0 ≤ j) (h1 : j < l.length) : faR Try.T 39 4 (some (a.at E.sz off0 j)) = some (a.at E.sz (off0 + 4) j) := p.fa h0 h1 rfl (by decide) rfl
theorem fl39_4 : fldR Try.T 39 4 (some (.agg cs)) = cs[4]? := fld_1 rfl rfl rfl
theorem fa39_5 : faR Try.T 39 5 (some (.ptr (some (i, o)))) = some (.ptr (some (i, o + 5))) := fa_ptr rfl (by decide) rfl
theorem fi39_5 : faR Try.T 39 5 (some (.iptr row o)) = some (.iptr row (o + 5)) := fa_iptr rfl (by decide) rfl
theorem fE39_5 (p : Sl E h i a l) (h0 : 0 ≤ j) (h1 : j < l.length) : faR Try.T 39 5 (some (a.at E.sz off0 j)) = some (a.at E.sz (off0 + 5) j) := p.fa h0 h1 rfl (by decide) rfl
theorem fl39_5 : fldR Try.T 39 5 (some (.agg cs)) = cs[5]? := fld_1 rfl rfl rfl
theorem fa39_6 : faR Try.T 39 6 (some (.ptr (some (i, o)))) = some (.ptr (some (i, o + 6))) := fa_ptr rfl (by decide) rfl
theorem fi39_6 : faR Try.T 39 6 (some (.iptr row o)) = some (.iptr row (o + 6)) := fa_iptr rfl (by decide) rfl
theorem fE39_6 (p : Sl E h i a l) (h0 : 0 ≤ j) (h1 : j < l.length) : faR Try.T 39 6 (some (a.at E.sz off0 j)) = some (a.at E.sz (off0 + 6) j) := p.fa h0 h1 rfl (by decide) rfl
theorem fl39_6 : fldR Try.T 39 6 (some (.agg cs)) = cs[6]? := fld_1 rfl rfl rfl
theorem fa39_7 : faR Try.T 39 7 (some (.ptr (some (i, o)))) = some (.ptr (some (i, o + 7))) := fa_ptr rfl (by decide) rfl
theorem fi39_7 : faR Try.T 39 7 (some (.iptr row o)) = some (.iptr row (o + 7)) := fa_iptr rfl (by decide) rfl
theorem fE39_7 (p : Sl E h i a l) (h0 : 0 ≤ j) (h1 : j < l.length) : faR Try.T 39 7 (some (a.at E.sz off0 j)) = some (a.at E.sz (off0 + 7) j) := p.fa h0 h1 rfl (by decide) rfl
theorem fl39_7 : fldR Try.T 39 7 (some (.agg cs)) = cs[7]? := fld_1 rfl rfl rfl
theorem Td41 : (Try.T 41).desc = .struct [(3, 0, true), (39, 1, true), (39, 9, true), (3, 17, true)] := rfl
theorem Tz41 : (Try.T 41).zero = [.int .i64 0, .bool false, .slice none 0 0 0 true, .bool false, .slice none 0 0 0 true, .bool false, .bool false, .int .i64 0, .bool false, .bool false, .slice none 0 0 0 true, .bool false, .slice none 0 0 0 true, .bool false, .bool false, .int .i64 0, .bool false, .int .i64 0] := rfl
theorem ld41 : loadA Try.T h 41 (.ptr (some (i, o))) = rdN o 18 (h.get i) := ld_n rfl rfl rfl
theorem li41 : loadA Try.T h 41 (.iptr row o) = (cut row o 18).map .agg := ldi_n rfl rfl rfl
theorem st41 : storeA Try.T h 41 (.ptr (some (i, o))) v = stC h i o 18 v.cells := st_n rfl rfl
theorem lE41 [Inhabited α] (p : Sl E h i a l) (h0 : 0 ≤ j) (h1 : j < l.length) (h4 : Seen (Nat.beq E.sz 18)) : loadA Try.T h 41 (a.at E.sz 0 j) = some (.agg (E.f (l[j.toNat]!))) := p.ldn h0 h1 rfl rfl (Nat.eq_of_beq_eq_true h4.eq).symm
theorem bd41 {l : List (Nat × AV)} : bldR Try.T 41 (some l) = (fillA (plA Try.T 41) (Try.T 41).zero l).map .agg := bld_eq rfl
theorem pl41_0 : plA Try.T 41 0 = some (0, 1) := rfl
theorem pl41_1 : plA Try.T 41 1 = some (1, 8) := rfl
theorem pl41_2 : plA Try.T 41 2 = some (9, 8) := rfl
theorem pl41_3 : plA Try.T 41 3 = some (17, 1) := rfl
theorem fa41_0 : faR Try.T 41 0 (some (.ptr (some (i, o)))) = some (.ptr (some (i, o + 0))) := fa_ptr rfl (by decide) rfl
theorem fi41_0 : faR Try.T 41 0 (some (.iptr row o)) = some (.iptr row (o + 0)) := fa_iptr rfl (by decide) rfl
theorem fE41_0 (p : Sl E h i a l) (h0 : 0 ≤ j) (h1 : j < l.length) : faR Try.T 41 0 (some (a.at E.sz off0 j)) = some (a.at E.sz (off0 + 0) j) := p.fa h0 h1 rfl (by decide) rfl
theorem fl41_0 : fldR Try.T 41 0 (some (.agg cs)) = cs[0]? := fld_1 rfl rfl rfl
theorem fa41_1 : faR Try.T 41 1 (some (.ptr (some (i, o)))) = some (.ptr (some (i, o + 1))) := fa_ptr rfl (by decide) rfl
theorem fi41_1 : faR Try.T 41 1 (some (.iptr row o)) = some (.iptr row (o + 1)) := fa_iptr rfl (by decide) rfl
theorem fE41_1 (p : Sl E h i a l) (h0 : 0 ≤ j) (h1 : j < l.length) : faR Try.T 41 1 (some (a.at E.sz off0 j)) = some (a.at E.sz (off0 + 1) j) := p.fa h0 h1 rfl (by decide) rfl
theorem fl41_1 : fldR Try.T 41 1 (some (.agg cs)) = (cut cs 1 8).map .agg := fld_n rfl rfl rfl rfl
theorem fa41_2 : faR Try.T 41 2 (some (.ptr (some (i, o)))) = some (.ptr (some (i, o + 9))) := fa_ptr rfl (by decide) rfl
theorem fi41_2 : faR Try.T 41 2 (some (.iptr row o)) = some (.iptr row (o + 9)) := fa_iptr rfl (by decide) rfl
theorem fE41_2 (p : Sl E h i a l) (h0 : 0 ≤ j) (h1 : j < l.length) : faR Try.T 41 2 (some (a.at E.sz off0 j)) = some (a.at E.sz (off0 + 9) j) := p.fa h0 h1 rfl (by decide) rfl
theorem fl41_2 : fldR Try.T 41 2 (some (.agg cs)) = (cut cs 9 8).map .agg := fld_n rfl rfl rfl rfl
theorem fa41_3 : faR Try.T 41 3 (some (.ptr (some (i, o)))) = some (.ptr (some (i, o + 17))) := fa_ptr rfl (by decide) rfl
theorem fi41_3 : faR Try.T 41 3 (some (.iptr row o)) = some (.iptr row (o + 17)) := fa_iptr rfl (by decide) rfl
theorem fE41_3 (p : Sl E h i a l) (h0 : 0 ≤ j) (h1 : j < l.length) : faR Try.T 41 3 (some (a.at E.sz off0 j)) = some (a.at E.sz (off0 + 17) j) := p.fa h0 h1 rfl (by decide) rfl
theorem fl41_3 : fldR Try.T 41 3 (some (.agg cs)) = cs[17]? := fld_1 rfl rfl rfl
theorem Td42 : (Try.T 42).desc = .pointer 41 := rfl
theorem Tz42 : (Try.T 42).zero = [.ptr none] := rfl
theorem ld42 : loadA Try.T h 42 (.ptr (some (i, o))) = rd1 o (h.get i) := ld_1 rfl rfl
theorem li42 : loadA Try.T h 42 (.iptr row o) = row[o]? := ldi_1 rfl rfl
theorem st42 : storeA Try.T h 42 (.ptr (some (i, o))) v = stC h i o 1 v.cells := st_n rfl rfl
theorem peqn42 : binA Try.T .eql 42 (.ptr none) (.ptr none) = some (.bool true) := pt_eqn rfl
theorem peqs42 {p : Nat × Nat} : binA Try.T .eql 42 (.ptr (some p)) (.ptr none) = some (.bool false) := pt_eqs rfl
theorem pnen42 : binA Try.T .neq 42 (.ptr none) (.ptr none) = some (.bool false) := pt_nen rfl
theorem pnes42 {p : Nat × Nat} : binA Try.T .neq 42 (.ptr (some p)) (.ptr none) = some (.bool true) := pt_nes rfl
theorem Td46 : (Try.T 46).desc = .func := rfl
theorem Tz46 : (Try.T 46).zero = [.nilFunc] := rfl
theorem ld46 : loadA Try.T h 46 (.ptr (some (i, o))) = rd1 o (h.get i) := ld_1 rfl rfl
theorem li46 : loadA Try.T h 46 (.iptr row o) = row[o]? := ldi_1 rfl rfl
theorem st46 : storeA Try.T h 46 (.ptr (some (i, o))) v = stC h i o 1 v.cells := st_n rfl rfl
theorem feqs46 {f : FuncId} : binA Try.T .eql 46 (.func f cs) .nilFunc = some (.bool false) := fn_eqs rfl
theorem feqn46 : binA Try.T .eql 46 .nilFunc .nilFunc = some (.bool true) := fn_eqn rfl
theorem Td50 : (Try.T 50).desc = .func := rfl
theorem Tz50 : (Try.T 50).zero = [.nilFunc] := rfl
theorem ld50 : loadA Try.T h 50 (.ptr (some (i, o))) = rd1 o (h.get i) := ld_1 rfl rfl
theorem li50 : loadA Try.T h 50 (.iptr row o) = row[o]? := ldi_1 rfl rfl
theorem st50 : storeA Try.T h 50 (.ptr (some (i, o))) v = stC h i o 1 v.cells := st_n rfl rfl
theorem feqs50 {f : FuncId} : binA Try.T .eql 50 (.func f cs) .nilFunc = some (.bool false) := fn_eqs rfl
theorem feqn50 : binA Try.T .eql 50 .nilFunc .nilFunc = some (.bool true) := fn_eqn rfl
theorem Td51 : (Try.T 51).desc = .func := rfl
theorem Tz51 : (Try.T 51).zero = [.nilFunc] := rfl
theorem ld51 : loadA Try.T h 51 (.ptr (some (i, o))) = rd1 o (h.get i) := ld_1 rfl rfl
theorem li51 : loadA Try.T h 51 (.iptr row o) = row[o]? := ldi_1 rfl rfl
theorem st51 : storeA Try.T h 51 (.ptr (some (i, o))) v = stC h i o 1 v.cells := st_n rfl rfl
theorem feqs51 {f : FuncId} : binA Try.T .eql 51 (.func f cs) .nilFunc = some (.bool false) := fn_eqs rfl
theorem feqn51 : binA Try.T .eql 51 .nilFunc .nilFunc = some (.bool true) := fn_eqn rfl
theorem Td53 : (Try.T 53).desc = .struct [(9, 0, true), (9, 1, true), (4, 2, true)] := rfl
theorem Tz53 : (Try.T 53).zero = [.str [], .str [], .bool false] := rfl
theorem ld53 : loadA Try.T h 53 (.ptr (some (i, o))) = rdN o 3 (h.get i) := ld_n rfl rfl rfl
theorem li53 : loadA Try.T h 53 (.iptr row o) = (cut row o 3).map .agg := ldi_n rfl rfl rfl
theorem st53 : storeA Try.T h 53 (.ptr (some (i, o))) v = stC h i o 3 v.cells := st_n rfl rfl
theorem lE53 [Inhabited α] (p : Sl E h i a l) (h0 : 0 ≤ j) (h1 : j < l.length) (h4 : Seen (Nat.beq E.sz 3)) : loadA Try.T h 53 (a.at E.sz 0 j) = some (.agg (E.f (l[j.toNat]!))) := p.ldn h0 h1 rfl rfl (Nat.eq_of_beq_eq_true h4.eq).symm
theorem bd53 {l : List (Nat × AV)} : bldR Try.T 53 (some l) = (fillA (plA Try.T 53) (Try.T 53).zero l).map .agg := bld_eq rfl
theorem pl53_0 : plA Try.T 53 0 = some (0, 1) := rfl
theorem pl53_1 : plA Try.T 53 1 = some (1, 1) := rfl
theorem pl53_2 : plA Try.T 53 2 = some (2, 1) := rfl
theorem fa53_0 : faR Try.T 53 0 (some (.ptr (some (i, o)))) = some (.ptr (some (i, o + 0))) := fa_ptr rfl (by decide) rfl
theorem fi53_0 : faR Try.T 53 0 (some (.iptr row o)) = some (.iptr row (o + 0)) := fa_iptr rfl (by decide) rfl
theorem fE53_0 (p : Sl E h i a l) (h0 : 0 ≤ j) (h1 : j < l.length) : faR Try.T 53 0 (some (a.at E.sz off0 j)) = some (a.at E.sz (off0 + 0) j) := p.fa h0 h1 rfl (by decide) rfl
theorem fl53_0 : fldR Try.T 53 0 (some (.agg cs)) = cs[0]? := fld_1 rfl rfl rfl
theorem fa53_1 : faR Try.T 53 1 (some (.ptr (some (i, o)))) = some (.ptr (some (i, o + 1))) := fa_ptr rfl (by decide) rfl
theorem fi53_1 : faR Try.T 53 1 (some (.iptr row o)) = some (.iptr row (o + 1)) := fa_iptr rfl (by decide) rfl
theorem fE53_1 (p : Sl E h i a l) (h0 : 0 ≤ j) (h1 : j < l.length) : faR Try.T 53 1 (some (a.at E.sz off0 j)) = some (a.at E.sz (off0 + 1) j) := p.fa h0 h1 rfl (by decide) rfl
theorem fl53_1 : fldR Try.T 53 1 (some (.agg cs)) = cs[1]? := fld_1 rfl rfl rfl
theorem fa53_2 : faR Try.T 53 2 (some (.ptr (some (i, o)))) = some (.ptr (some (i, o + 2))) := fa_ptr rfl (by decide) rfl
theorem fi53_2 : faR Try.T 53 2 (some (.iptr row o)) = some (.iptr row (o + 2)) := fa_iptr rfl (by decide) rfl
theorem fE53_2 (p : Sl E h i a l) (h0 : 0 ≤ j) (h1 : j < l.length) : faR Try.T 53 2 (some (a.at E.sz off0 j)) = some (a.at E.sz (off0 + 2) j) := p.fa h0 h1 rfl (by decide) rfl
theorem fl53_2 : fldR Try.T 53 2 (some (.agg cs)) = cs[2]? := fld_1 rfl rfl rfl
theorem Td55 : (Try.T 55).desc = .slice 4 := rfl
theorem Tz55 : (Try.T 55).zero = [.slice none 0 0 0 true] := rfl
theorem ld55 : loadA Try.T h 55 (.ptr (some (i, o))) = rd1 o (h.get i) := ld_1 rfl rfl
theorem li55 : loadA Try.T h 55 (.iptr row o) = row[o]? := ldi_1 rfl rfl
theorem st55 : storeA Try.T h 55 (.ptr (some (i, o))) v = stC h i o 1 v.cells := st_n rfl rfl
theorem len55 (p : Sl E h i a l) : builtinA Try.T h' .len [55] [a] = some (.int .i64 (l.length : Int), h') := p.len rfl
theorem ix55 (p : Sl E h i a l) (h0 : 0 ≤ j) (h1 : j < l.length) (h2 : Seen (Nat.beq E.sz 1)) : idxA Try.T 55 a (.int k j) = some (a.at E.sz 0 j) := p.idx h0 h1 rfl rfl (Nat.eq_of_beq_eq_true h2.eq).symm
theorem wr4 {P : Program} {ops : Array Oper} {L : List Oper} {K : Tm → AH → Prop} {d : Option Nat} {tm : Tm} (p : Ow E h i a l) (x : α) (hx : v.cells = E.f x) (h0 : 0 ≤ j) (h1 : j < l.length) (h2 : Seen (Nat.beq E.sz 1)) (hk : ∀ h', Ow E h' i a (l.set j.toNat x) → h'.size = h.size → (∀ b, ¬ b = i → h'.get b = h.get b) → putM P Try.T ops L K d tm undefA h') : ansM P Try.T ops L K d tm h ((storeA Try.T h 4 (a.at E.sz 0 j) v).map fun h' => .val undefA h') :=
  ans_wr p x hx h0 h1 rfl (Nat.eq_of_beq_eq_true h2.eq).symm hk
theorem br55 {n : Nat} {l : List (Nat × AV)} (hn : Seen (Nat.beq l.length n && (Nat.ble n 10000 && bsOk 0 l))) : bsR Try.T h 55 n (some l) = some (.val (.slice (some (h.size, 0)) n n 1 true) (h.push (.cells (l.map (·.2))))) := bs_row rfl rfl rfl rfl hn
theorem bs55 (hv : Seen (match v with | .agg _ | .tuple _ => false | _ => true)) : bsR Try.T h 55 1 (some [(0, v)]) = some (.val (.slice (some (h.size, 0)) 1 1 1 true) (h.push (.cells [v]))) := bs_one rfl rfl rfl rfl hv
theorem sl55 (p : Sl E h i a l) (h0 : 0 ≤ x) (h1 : x ≤ y) (h2 : y ≤ l.length) (h3 : Seen (Nat.beq E.sz 1)) : sliceA Try.T 55 a (some x) (some y) none = some (a.part x y) := p.slc h0 h1 h2 rfl rfl (Nat.eq_of_beq_eq_true h3.eq).symm
theorem sm55 (p : Sl E h i a l) (h1 : 0 ≤ y) (h2 : y ≤ l.length) (h3 : Seen (Nat.beq E.sz 1)) : sliceA Try.T 55 a none (some y) none = some (a.part 0 y) := p.slc (lo := none) (Int.le_refl _) h1 h2 rfl rfl (Nat.eq_of_beq_eq_true h3.eq).symm
theorem sn55 (p : Sl E h i a l) (h0 : 0 ≤ x) (h1 : x ≤ l.length) (h3 : Seen (Nat.beq E.sz 1)) : sliceA Try.T 55 a (some x) none none = some (a.part x l.length) := p.slc (hi := none) h0 h1 (Int.le_refl _) rfl rfl (Nat.eq_of_beq_eq_true h3.eq).symm
theorem ap55 {P : Program} {ops : Array Oper} {L : List Oper} {K : Tm → AH → Prop} {d : Option Nat} {tm : Tm} {x : AV} {new : List α} {ix : Nat} (p : Ow E h i a l) (hx : Sl E h ix x new) (h2 : Seen (Nat.beq E.sz 1)) (hr : (l.length + new.length) * 1 ≤ 140737488355328) (hk : ∀ z h' i', Ow E h' i' z (l ++ new) → (i' = i ∨ h.size ≤ i') → h.size ≤ h'.size → (∀ j, j < h.size → ¬ j = i → h'.get j = h.get j) → putM P Try.T ops L K d tm z h') : ansM P Try.T ops L K d tm h (pairR (appendA Try.T h 55 55 a x)) :=
  ans_app p hx rfl ⟨_, rfl⟩ rfl (Nat.eq_of_beq_eq_true h2.eq).symm (Nat.eq_of_beq_eq_true h2.eq).symm (by decide) hr hk
theorem al55 {P : Program} {ops : Array Oper} {L : List Oper} {K : Tm → AH → Prop} {d : Option Nat} {tm : Tm} {sz : Nat} (x : α) (p : Ow E h i a l) (hx : cs = E.f x) (hs : sz = E.sz) (h2 : Seen (Nat.beq E.sz 1)) (hr : (l.length + 1) * 1 ≤ 140737488355328) (hk : ∀ z h' i', Ow E h' i' z (l ++ [x]) → (i' = i ∨ h.size ≤ i') → h.size ≤ h'.size → (∀ j, j < h.size → ¬ j = i → h'.get j = h.get j) → putM P Try.T ops L K d tm z h') : ansM P Try.T ops L K d tm (h.push (.cells cs)) (pairR (appendA Try.T (h.push (.cells cs)) 55 55 a (.slice (some (h.size, 0)) 1 1 sz true))) :=
  ans_app1 p x hx hs rfl rfl (Nat.eq_of_beq_eq_true h2.eq).symm (Nat.eq_of_beq_eq_true h2.eq).symm (by decide) hr hk
theorem eqn55 {l1 c1 z1 l2 c2 z2 : Nat} {x1 x2 : Bool} : binA Try.T .eql 55 (.slice none l1 c1 z1 x1) (.slice none l2 c2 z2 x2) = some (.bool true) := sl_eqn rfl
theorem eqs55 {l1 c1 z1 l2 c2 z2 : Nat} {x1 x2 : Bool} {p : Nat × Nat} : binA Try.T .eql 55 (.slice (some p) l1 c1 z1 x1) (.slice none l2 c2 z2 x2) = some (.bool false) := sl_eqs rfl
theorem eqi55 {l2 c2 z2 a1 b1 c1 d1 : Nat} {x2 : Bool} : binA Try.T .eql 55 (.islice row a1 b1 c1 d1) (.slice none l2 c2 z2 x2) = some (.bool false) := sl_eqi rfl
theorem Td57 : (Try.T 57).desc = .slice 61 := rfl
theorem Tz57 : (Try.T 57).zero = [.slice none 0 0 0 true] := rfl
theorem ld57 : loadA Try.T h 57 (.ptr (some (i, o))) = rd1 o (h.get i) := ld_1 rfl rfl
theorem li57 : loadA Try.T h 57 (.iptr row o) = row[o]? := ldi_1 rfl rfl
theorem st57 : storeA Try.T h 57 (.ptr (some (i, o))) v = stC h i o 1 v.cells := st_n rfl rfl
theorem len57 (p : Sl E h i a l) : builtinA Try.T h' .len [57] [a] = some (.int .i64 (l.length : Int), h') := p.len rfl
theorem ix57 (p : Sl E h i a l) (h0 : 0 ≤ j) (h1 : j < l.length) (h2 : Seen (Nat.beq E.sz 1)) : idxA Try.T 57 a (.int k j) = some (a.at E.sz 0 j) := p.idx h0 h1 rfl rfl (Nat.eq_of_beq_eq_true h2.eq).symm
theorem wr61 {P : Program} {ops : Array Oper} {L : List Oper} {K : Tm → AH → Prop} {d : Option Nat} {tm : Tm} (p : Ow E h i a l) (x : α) (hx : v.cells = E.f x) (h0 : 0 ≤ j) (h1 : j < l.length) (h2 : Seen (Nat.beq E.sz 1)) (hk : ∀ h', Ow E h' i a (l.set j.toNat x) → h'.size = h.size → (∀ b, ¬ b = i → h'.get b = h.get b) → putM P Try.T ops L K d tm undefA h') : ansM P Try.T ops L K d tm h ((storeA Try.T h 61 (a.at E.sz 0 j) v).map fun h' => .val undefA h') :=
  ans_wr p x hx h0 h1 rfl (Nat.eq_of_beq_eq_true h2.eq).symm hk
theorem br57 {n : Nat} {l : List (Nat × AV)} (hn : Seen (Nat.beq l.length n && (Nat.ble n 10000 && bsOk 0 l))) : bsR Try.T h 57 n (some l) = some (.val (.slice (some (h.size, 0)) n n 1 true) (h.push (.cells (l.map (·.2))))) := bs_row rfl rfl rfl rfl hn
theorem bs57 (hv : Seen (match v with | .agg _ | .tuple _ => false | _ => true)) : bsR Try.T h 57 1 (some [(0, v)]) = some (.val (.slice (some (h.size, 0)) 1 1 1 true) (h.push (.cells [v]))) := bs_one rfl rfl rfl rfl hv
theorem sl57 (p : Sl E h i a l) (h0 : 0 ≤ x) (h1 : x ≤ y) (h2 : y ≤ l.length) (h3 : Seen (Nat.beq E.sz 1)) : sliceA Try.T 57 a (some x) (some y) none = some (a.part x y) := p.slc h0 h1 h2 rfl rfl (Nat.eq_of_beq_eq_true h3.eq).symm
theorem sm57 (p : Sl E h i a l) (h1 : 0 ≤ y) (h2 : y ≤ l.length) (h3 : Seen (Nat.beq E.sz 1)) : sliceA Try.T 57 a none (some y) none = some (a.part 0 y) := p.slc (lo := none) (Int.le_refl _) h1 h2 rfl rfl (Nat.eq_of_beq_eq_true h3.eq).symm
theorem sn57 (p : Sl E h i a l) (h0 : 0 ≤ x) (h1 : x ≤ l.length) (h3 : Seen (Nat.beq E.sz 1)) : sliceA Try.T 57 a (some x) none none = some (a.part x l.length) := p.slc (hi := none) h0 h1 (Int.le_refl _) rfl rfl (Nat.eq_of_beq_eq_true h3.eq).symm
theorem ap57 {P : Program} {ops : Array Oper} {L : List Oper} {K : Tm → AH → Prop} {d : Option Nat} {tm : Tm} {x : AV} {new : List α} {ix : Nat} (p : Ow E h i a l) (hx : Sl E h ix x new) (h2 : Seen (Nat.beq E.sz 1)) (hr : (l.length + new.length) * 8 ≤ 140737488355328) (hk : ∀ z h' i', Ow E h' i' z (l ++ new) → (i' = i ∨ h.size ≤ i') → h.size ≤ h'.size → (∀ j, j < h.size → ¬ j = i → h'.get j = h.get j) → putM P Try.T ops L K d tm z h') : ansM P Try.T ops L K d tm h (pairR (appendA Try.T h 57 57 a x)) :=
  ans_app p hx rfl ⟨_, rfl⟩ rfl (Nat.eq_of_beq_eq_true h2.eq).symm (Nat.eq_of_beq_eq_true h2.eq).symm (by decide) hr hk
theorem al57 {P : Program} {ops : Array Oper} {L : List Oper} {K : Tm → AH → Prop} {d : Option Nat} {tm : Tm} {sz : Nat} (x : α) (p : Ow E h i a l) (hx : cs = E.f x) (hs : sz = E.sz) (h2 : Seen (Nat.beq E.sz 1)) (hr : (l.length + 1) * 8 ≤ 140737488355328) (hk : ∀ z h' i', Ow E h' i' z (l ++ [x]) → (i' = i ∨ h.size ≤ i') → h.size ≤ h'.size → (∀ j, j < h.size → ¬ j = i → h'.get j = h.get j) → putM P Try.T ops L K d tm z h') : ansM P Try.T ops L K d tm (h.push (.cells cs)) (pairR (appendA Try.T (h.push (.cells cs)) 57 57 a (.slice (some (h.size, 0)) 1 1 sz true))) :=
  ans_app1 p x hx hs rfl rfl (Nat.eq_of_beq_eq_true h2.eq).symm (Nat.eq_of_beq_eq_true h2.eq).symm (by decide) hr hk
theorem eqn57 {l1 c1 z1 l2 c2 z2 : Nat} {x1 x2 : Bool} : binA Try.T .eql 57 (.slice none l1 c1 z1 x1) (.slice none l2 c2 z2 x2) = some (.bool true) := sl_eqn rfl
theorem eqs57 {l1 c1 z1 l2 c2 z2 : Nat} {x1 x2 : Bool} {p : Nat × Nat} : binA Try.T .eql 57 (.slice (some p) l1 c1 z1 x1) (.slice none l2 c2 z2 x2) = some (.bool false) := sl_eqs rfl
theorem eqi57 {l2 c2 z2 a1 b1 c1 d1 : Nat} {x2 : Bool} : binA Try.T .eql 57 (.islice row a1 b1 c1 d1) (.slice none l2 c2 z2 x2) = some (.bool false) := sl_eqi rfl
theorem Td58 : (Try.T 58).desc = .array 3 4 := rfl
theorem Tz58 : (Try.T 58).zero = [.bool false, .bool false, .bool false] := rfl
theorem ld58 : loadA Try.T h 58 (.ptr (some (i, o))) = rdN o 3 (h.get i) := ld_n rfl rfl rfl
theorem li58 : loadA Try.T h 58 (.iptr row o) = (cut row o 3).map .agg := ldi_n rfl rfl rfl
theorem st58 : storeA Try.T h 58 (.ptr (some (i, o))) v = stC h i o 3 v.cells := st_n rfl rfl
theorem lE58 [Inhabited α] (p : Sl E h i a l) (h0 : 0 ≤ j) (h1 : j < l.length) (h4 : Seen (Nat.beq E.sz 3)) : loadA Try.T h 58 (a.at E.sz 0 j) = some (.agg (E.f (l[j.toNat]!))) := p.ldn h0 h1 rfl rfl (Nat.eq_of_beq_eq_true h4.eq).symm
theorem Td60 : (Try.T 60).desc = .struct [(57, 0, true), (58, 1, true)] := rfl
theorem Tz60 : (Try.T 60).zero = [.slice none 0 0 0 true, .bool false, .bool false, .bool false] := rfl
theorem ld60 : loadA Try.T h 60 (.ptr (some (i, o))) = rdN o 4 (h.get i) := ld_n rfl rfl rfl
theorem li60 : loadA Try.T h 60 (.iptr row o) = (cut row o 4).map .agg := ldi_n rfl rfl rfl
theorem st60 : storeA Try.T h 60 (.ptr (some (i, o))) v = stC h i o 4 v.cells := st_n rfl rfl
theorem lE60 [Inhabited α] (p : Sl E h i a l) (h0 : 0 ≤ j) (h1 : j < l.length) (h4 : Seen (Nat.beq E.sz 4)) : loadA Try.T h 60 (a.at E.sz 0 j) = some (.agg (E.f (l[j.toNat]!))) := p.ldn h0 h1 rfl rfl (Nat.eq_of_beq_eq_true h4.eq).symm
theorem bd60 {l : List (Nat × AV)} : bldR Try.T 60 (some l) = (fillA (plA Try.T 60) (Try.T 60).zero l).map .agg := bld_eq rfl
theorem pl60_0 : plA Try.T 60 0 = some (0, 1) := rfl
theorem pl60_1 : plA Try.T 60 1 = some (1, 3) := rfl
theorem fa60_0 : faR Try.T 60 0 (some (.ptr (some (i, o)))) = some (.ptr (some (i, o + 0))) := fa_ptr rfl (by decide) rfl
theorem fi60_0 : faR Try.T 60 0 (some (.iptr row o)) = some (.iptr row (o + 0)) := fa_iptr rfl (by decide) rfl
theorem fE60_0 (p : Sl E h i a l) (h0 : 0 ≤ j) (h1 : j < l.length) : faR Try.T 60 0 (some (a.at E.sz off0 j)) = some (a.at E.sz (off0 + 0) j) := p.fa h0 h1 rfl (by decide) rfl
theorem fl60_0 : fldR Try.T 60 0 (some (.agg cs)) = cs[0]? := fld_1 rfl rfl rfl
theorem fa60_1 : faR Try.T 60 1 (some (.ptr (some (i, o)))) = some (.ptr (some (i, o + 1))) := fa_ptr rfl (by decide) rfl
theorem fi60_1 : faR Try.T 60 1 (some (.iptr row o)) = some (.iptr row (o + 1)) := fa_iptr rfl (by decide) rfl
theorem fE60_1 (p : Sl E h i a l) (h0 : 0 ≤ j) (h1 : j < l.length) : faR Try.T 60 1 (some (a.at E.sz off0 j)) = some (a.at E.sz (off0 + 1) j) := p.fa h0 h1 rfl (by decide) rfl
theorem fl60_1 : fldR Try.T 60 1 (some (.agg cs)) = (cut cs 1 3).map .agg := fld_n rfl rfl rfl rfl
theorem Td61 : (Try.T 61).desc = .pointer 67 := rfl
theorem Tz61 : (Try.T 61).zero = [.ptr none] := rfl
theorem ld61 : loadA Try.T h 61 (.ptr (some (i, o))) = rd1 o (h.get i) := ld_1 rfl rfl
theorem li61 : loadA Try.T h 61 (.iptr row o) = row[o]? := ldi_1 rfl rfl
theorem st61 : storeA Try.T h 61 (.ptr (some (i, o))) v = stC h i o 1 v.cells := st_n rfl rfl
theorem peqn61 : binA Try.T .eql 61 (.ptr none) (.ptr none) = some (.bool true) := pt_eqn rfl
theorem peqs61 {p : Nat × Nat} : binA Try.T .eql 61 (.ptr (some p)) (.ptr none) = some (.bool false) := pt_eqs rfl
theorem pnen61 : binA Try.T .neq 61 (.ptr none) (.ptr none) = some (.bool false) := pt_nen rfl
theorem pnes61 {p : Nat × Nat} : binA Try.T .neq 61 (.ptr (some p)) (.ptr none) = some (.bool true) := pt_nes rfl
theorem Td65 : (Try.T 65).desc = .struct [(33, 0, true), (3, 1, true), (4, 2, true), (4, 3, true)] := rfl
theorem Tz65 : (Try.T 65).zero = [.slice none 0 0 0 true, .int .i64 0, .bool false, .bool false] := rfl
theorem ld65 : loadA Try.T h 65 (.ptr (some (i, o))) = rdN o 4 (h.get i) := ld_n rfl rfl rfl
theorem li65 : loadA Try.T h 65 (.iptr row o) = (cut row o 4).map .agg := ldi_n rfl rfl rfl
theorem st65 : storeA Try.T h 65 (.ptr (some (i, o))) v = stC h i o 4 v.cells := st_n rfl rfl
theorem lE65 [Inhabited α] (p : Sl E h i a l) (h0 : 0 ≤ j) (h1 : j < l.length) (h4 : Seen (Nat.beq E.sz 4)) : loadA Try.T h 65 (a.at E.sz 0 j) = some (.agg (E.f (l[j.toNat]!))) := p.ldn h0 h1 rfl rfl (Nat.eq_of_beq_eq_true h4.eq).symm
theorem bd65 {l : List (Nat × AV)} : bldR Try.T 65 (some l) = (fillA (plA Try.T 65) (Try.T 65).zero l).map .agg := bld_eq rfl
theorem pl65_0 : plA Try.T 65 0 = some (0, 1) := rfl
theorem pl65_1 : plA Try.T 65 1 = some (1, 1) := rfl
theorem pl65_2 : plA Try.T 65 2 = some (2, 1) := rfl
theorem pl65_3 : plA Try.T 65 3 = some (3, 1) := rfl
theorem fa65_0 : faR Try.T 65 0 (some (.ptr (some (i, o)))) = some (.ptr (some (i, o + 0))) := fa_ptr rfl (by decide) rfl
theorem fi65_0 : faR Try.T 65 0 (some (.iptr row o)) = some (.iptr row (o + 0)) := fa_iptr rfl (by decide) rfl
theorem fE65_0 (p : Sl E h i a l) (h0 : 0 ≤ j) (h1 : j < l.length) : faR Try.T 65 0 (some (a.at E.sz off0 j)) = some (a.at E.sz (off0 + 0) j) := p.fa h0 h1 rfl (by decide) rfl
theorem fl65_0 : fldR Try.T 65 0 (some (.agg cs)) = cs[0]? := fld_1 rfl rfl rfl
theorem fa65_1 : faR Try.T 65 1 (some (.ptr (some (i, o)))) = some (.ptr (some (i, o + 1))) := fa_ptr rfl (by decide) rfl
theorem fi65_1 : faR Try.T 65 1 (some (.iptr row o)) = some (.iptr row (o + 1)) := fa_iptr rfl (by decide) rfl
theorem fE65_1 (p : Sl E h i a l) (h0 : 0 ≤ j) (h1 : j < l.length) : faR Try.T 65 1 (some (a.at E.sz off0 j)) = some (a.at E.sz (off0 + 1) j) := p.fa h0 h1 rfl (by decide) rfl
theorem fl65_1 : fldR Try.T 65 1 (some (.agg cs)) = cs[1]? := fld_1 rfl rfl rfl
theorem fa65_2 : faR Try.T 65 2 (some (.ptr (some (i, o)))) = some (.ptr (some (i, o + 2))) := fa_ptr rfl (by decide) rfl
theorem fi65_2 : faR Try.T 65 2 (some (.iptr row o)) = some (.iptr row (o + 2)) := fa_iptr rfl (by decide) rfl
theorem fE65_2 (p : Sl E h i a l) (h0 : 0 ≤ j) (h1 : j < l.length) : faR Try.T 65 2 (some (a.at E.sz off0 j)) = some (a.at E.sz (off0 + 2) j) := p.fa h0 h1 rfl (by decide) rfl
theorem fl65_2 : fldR Try.T 65 2 (some (.agg cs)) = cs[2]? := fld_1 rfl rfl rfl
theorem fa65_3 : faR Try.T 65 3 (some (.ptr (some (i, o)))) = some (.ptr (some (i, o + 3))) := fa_ptr rfl (by decide) rfl
theorem fi65_3 : faR Try.T 65 3 (some (.iptr row o)) = some (.iptr row (o + 3)) := fa_iptr rfl (by decide) rfl
theorem fE65_3 (p : Sl E h i a l) (h0 : 0 ≤ j) (h1 : j < l.length) : faR Try.T 65 3 (some (a.at E.sz off0 j)) = some (a.at E.sz (off0 + 3) j) := p.fa h0 h1 rfl (by decide) rfl
theorem fl65_3 : fldR Try.T 65 3 (some (.agg cs)) = cs[3]? := fld_1 rfl rfl rfl
theorem Td67 : (Try.T 67).desc = .struct [(3, 0, true), (3, 1, true), (32, 2, true), (4, 3, true), (4, 4, true), (65, 5, true), (4, 9, true), (32, 10, true), (4, 11, true), (4, 12, true), (65, 13, true)] := rfl
theorem Tz67 : (Try.T 67).zero = [.int .i64 0, .int .i64 0, .slice none 0 0 0 true, .bool false, .bool false, .slice none 0 0 0 true, .int .i64 0, .bool false, .bool false, .bool false, .slice none 0 0 0 true, .bool false, .bool false, .slice none 0 0 0 true, .int .i64 0, .bool false, .bool false] := rfl
theorem ld67 : loadA Try.T h 67 (.ptr (some (i, o))) = rdN o 17 (h.get i) := ld_n rfl rfl rfl
theorem li67 : loadA Try.T h 67 (.iptr row o) = (cut row o 17).map .agg := ldi_n rfl rfl rfl
theorem st67 : storeA Try.T h 67 (.ptr (some (i, o))) v = stC h i o 17 v.cells := st_n rfl rfl
theorem lE67 [Inhabited α] (p : Sl E h i a l) (h0 : 0 ≤ j) (h1 : j < l.length) (h4 : Seen (Nat.beq E.sz 17)) : loadA Try.T h 67 (a.at E.sz 0 j) = some (.agg (E.f (l[j.toNat]!))) := p.ldn h0 h1 rfl rfl (Nat.eq_of_beq_eq_true h4.eq).symm
theorem bd67 {l : List (Nat × AV)} : bldR Try.T 67 (some l) = (fillA (plA Try.T 67) (Try.T 67).zero l).map .agg := bld_eq rfl
theorem pl67_0 : plA Try.T 67 0 = some (0, 1) := rfl
theorem pl67_1 : plA Try.T 67 1 = some (1, 1) := rfl
theorem pl67_2 : plA Try.T 67 2 = some (2, 1) := rfl
theorem pl67_3 : plA Try.T 67 3 = some (3, 1) := rfl
theorem pl67_4 : plA Try.T 67 4 = some (4, 1) := rfl
theorem pl67_5 : plA Try.T 67 5 = some (5, 4) := rfl
theorem pl67_6 : plA Try.T 67 6 = some (9, 1) := rfl
theorem pl67_7 : plA Try.T 67 7 = some (10, 1) := rfl
theorem pl67_8 : plA Try.T 67 8 = some (11, 1) := rfl
theorem pl67_9 : plA Try.T 67 9 = some (12, 1) := rfl
theorem pl67_10 : plA Try.T 67 10 = some (13, 4) := rfl
theorem fa67_0 : faR Try.T 67 0 (some (.ptr (some (i, o)))) = some (.ptr (some (i, o + 0))) := fa_ptr rfl (by decide) rfl
theorem fi67_0 : faR Try.T 67 0 (some (.iptr row o)) = some (.iptr row (o + 0)) := fa_iptr rfl (by decide) rfl
theorem fE67_0 (p : Sl E h i a l) (h0 : 0 ≤ j) (h1 : j < l.length) : faR Try.T 67 0 (some (a.at E.sz off0 j)) = some (a.at E.sz (off0 + 0) j) := p.fa h0 h1 rfl (by decide) rfl
theorem fl67_0 : fldR Try.T 67 0 (some (.agg cs)) = cs[0]? := fld_1 rfl rfl rfl
theorem fa67_1 : faR Try.T 67 1 (some (.ptr (some (i, o)))) = some (.ptr (some (i, o + 1))) := fa_ptr rfl (by decide) rfl
theorem fi67_1 : faR Try.T 67 1 (some (.iptr row o)) = some (.iptr row (o + 1)) := fa_iptr rfl (by decide) rfl
theorem fE67_1 (p : Sl E h i a l) (h0 : 0 ≤ j) (h1 : j < l.length) : faR Try.T 67 1 (some (a.at E.sz off0 j)) = some (a.at E.sz (off0 + 1) j) := p.fa h0 h1 rfl (by decide) rfl
theorem fl67_1 : fldR Try.T 67 1 (some (.agg cs)) = cs[1]? := fld_1 rfl rfl rfl
theorem fa67_2 : faR Try.T 67 2 (some (.ptr (some (i, o)))) = some (.ptr (some (i, o + 2))) := fa_ptr rfl (by decide) rfl
theorem fi67_2 : faR Try.T 67 2 (some (.iptr row o)) = some (.iptr row (o + 2)) := fa_iptr rfl (by decide) rfl
theorem fE67_2 (p : Sl E h i a l) (h0 : 0 ≤ j) (h1 : j < l.length) : faR Try.T 67 2 (some (a.at E.sz off0 j)) = some (a.at E.sz (off0 + 2) j) := p.fa h0 h1 rfl (by decide) rfl
theorem fl67_2 : fldR Try.T 67 2 (some (.agg cs)) = cs[2]? := fld_1 rfl rfl rfl
theorem fa67_3 : faR Try.T 67 3 (some (.ptr (some (i, o)))) = some (.ptr (some (i, o + 3))) := fa_ptr rfl (by decide) rfl
theorem fi67_3 : faR Try.T 67 3 (some (.iptr row o)) = some (.iptr row (o + 3)) := fa_iptr rfl (by decide) rfl
theorem fE67_3 (p : Sl E h i a l) (h0 : 0 ≤ j) (h1 : j < l.length) : faR Try.T 67 3 (some (a.at E.sz off0 j)) = some (a.at E.sz (off0 + 3) j) := p.fa h0 h1 rfl (by decide) rfl
theorem fl67_3 : fldR Try.T 67 3 (some (.agg cs)) = cs[3]? := fld_1 rfl rfl rfl
theorem fa67_4 : faR Try.T 67 4 (some (.ptr (some (i, o)))) = some (.ptr (some (i, o + 4))) := fa_ptr rfl (by decide) rfl
theorem fi67_4 : faR Try.T 67 4 (some (.iptr row o)) = some (.iptr row (o + 4)) := fa_iptr rfl (by decide) rfl
theorem fE67_4 (p : Sl E h i a l) (h0 : 0 ≤ j) (h1 : j < l.length) : faR Try.T 67 4 (some (a.at E.sz off0 j)) = some (a.at E.sz (off0 + 4) j) := p.fa h0 h1 rfl (by decide) rfl
theorem fl67_4 : fldR Try.T 67 4 (some (.agg cs)) = cs[4]? := fld_1 rfl rfl rfl
theorem fa67_5 : faR Try.T 67 5 (some (.ptr (some (i, o)))) = some (.ptr (some (i, o + 5))) := fa_ptr rfl (by decide) rfl
theorem fi67_5 : faR Try.T 67 5 (some (.iptr row o)) = some (.iptr row (o + 5)) := fa_iptr rfl (by decide) rfl
theorem fE67_5 (p : Sl E h i a l) (h0 : 0 ≤ j) (h1 : j < l.length) : faR Try.T 67 5 (some (a.at E.sz off0 j)) = some (a.at E.sz (off0 + 5) j) := p.fa h0 h1 rfl (by decide) rfl
theorem fl67_5 : fldR Try.T 67 5 (some (.agg cs)) = (cut cs 5 4).map .agg := fld_n rfl rfl rfl rfl
theorem fa67_6 : faR Try.T 67 6 (some (.ptr (some (i, o)))) = some (.ptr (some (i, o + 9))) := fa_ptr rfl (by decide) rfl
theorem fi67_6 : faR Try.T 67 6 (some (.iptr row o)) = some (.iptr row (o + 9)) := fa_iptr rfl (by decide) rfl
theorem fE67_6 (p : Sl E h i a l) (h0 : 0 ≤ j) (h1 : j < l.length) : faR Try.T 67 6 (some (a.at E.sz off0 j)) = some (a.at E.sz (off0 + 9) j) := p.fa h0 h1 rfl (by decide) rfl
theorem fl67_6 : fldR Try.T 67 6 (some (.agg cs)) = cs[9]? := fld_1 rfl rfl rfl
theorem fa67_7 : faR Try.T 67 7 (some (.ptr (some (i, o)))) = some (.ptr (some (i, o + 10))) := fa_ptr rfl (by decide) rfl
theorem fi67_7 : faR Try.T 67 7 (some (.iptr row o)) = some (.iptr row (o + 10)) := fa_iptr rfl (by decide) rfl
theorem fE67_7 (p : Sl E h i a l) (h0 : 0 ≤ j) (h1 : j < l.length) : faR Try.T 67 7 (some (a.at E.sz off0 j)) = some (a.at E.sz (off0 + 10) j) := p.fa h0 h1 rfl (by decide) rfl
theorem fl67_7 : fldR Try.T 67 7 (some (.agg cs)) = cs[10]? := fld_1 rfl rfl rfl
theorem fa67_8 : faR Try.T 67 8 (some (.ptr (some (i, o)))) = some (.ptr (some (i, o + 11))) := fa_ptr rfl (by decide) rfl
theorem fi67_8 : faR Try.T 67 8 (some (.iptr row o)) = some (.iptr row (o + 11)) := fa_iptr rfl (by decide) rfl
theorem fE67_8 (p : Sl E h i a l) (h0 : 0 ≤ j) (h1 : j < l.length) : faR Try.T 67 8 (some (a.at E.sz off0 j)) = some (a.at E.sz (off0 + 11) j) := p.fa h0 h1 rfl (by decide) rfl
theorem fl67_8 : fldR Try.T 67 8 (some (.agg cs)) = cs[11]? := fld_1 rfl rfl rfl
theorem fa67_9 : faR Try.T 67 9 (some (.ptr (some (i, o)))) = some (.ptr (some (i, o + 12))) := fa_ptr rfl (by decide) rfl
theorem fi67_9 : faR Try.T 67 9 (some (.iptr row o)) = some (.iptr row (o + 12)) := fa_iptr rfl (by decide) rfl
theorem fE67_9 (p : Sl E h i a l) (h0 : 0 ≤ j) (h1 : j < l.length) : faR Try.T 67 9 (some (a.at E.sz off0 j)) = some (a.at E.sz (off0 + 12) j) := p.fa h0 h1 rfl (by decide) rfl
theorem fl67_9 : fldR Try.T 67 9 (some (.agg cs)) = cs[12]? := fld_1 rfl rfl rfl
theorem fa67_10 : faR Try.T 67 10 (some (.ptr (some (i, o)))) = some (.ptr (some (i, o + 13))) := fa_ptr rfl (by decide) rfl
theorem fi67_10 : faR Try.T 67 10 (some (.iptr row o)) = some (.iptr row (o + 13)) := fa_iptr rfl (by decide) rfl
theorem fE67_10 (p : Sl E h i a l) (h0 : 0 ≤ j) (h1 : j < l.length) : faR Try.T 67 10 (some (a.at E.sz off0 j)) = some (a.at E.sz (off0 + 13) j) := p.fa h0 h1 rfl (by decide) rfl
theorem fl67_10 : fldR Try.T 67 10 (some (.agg cs)) = (cut cs 13 4).map .agg := fld_n rfl rfl rfl rfl
theorem Td68 : (Try.T 68).desc = .func := rfl
theorem Tz68 : (Try.T 68).zero = [.nilFunc] := rfl
theorem ld68 : loadA Try.T h 68 (.ptr (some (i, o))) = rd1 o (h.get i) := ld_1 rfl rfl
theorem li68 : loadA Try.T h 68 (.iptr row o) = row[o]? := ldi_1 rfl rfl
theorem st68 : storeA Try.T h 68 (.ptr (some (i, o))) v = stC h i o 1 v.cells := st_n rfl rfl
theorem feqs68 {f : FuncId} : binA Try.T .eql 68 (.func f cs) .nilFunc = some (.bool false) := fn_eqs rfl
theorem feqn68 : binA Try.T .eql 68 .nilFunc .nilFunc = some (.bool true) := fn_eqn rfl
theorem Td70 : (Try.T 70).desc = .func := rfl
theorem Tz70 : (Try.T 70).zero = [.nilFunc] := rfl
theorem ld70 : loadA Try.T h 70 (.ptr (some (i, o))) = rd1 o (h.get i) := ld_1 rfl rfl
theorem li70 : loadA Try.T h 70 (.iptr row o) = row[o]? := ldi_1 rfl rfl
theorem st70 : storeA Try.T h 70 (.ptr (some (i, o))) v = stC h i o 1 v.cells := st_n rfl rfl
theorem feqs70 {f : FuncId} : binA Try.T .eql 70 (.func f cs) .nilFunc = some (.bool false) := fn_eqs rfl
theorem feqn70 : binA Try.T .eql 70 .nilFunc .nilFunc = some (.bool true) := fn_eqn rfl
theorem Td77 : (Try.T 77).desc = .pointer 65 := rfl
theorem Tz77 : (Try.T 77).zero = [.ptr none] := rfl
theorem ld77 : loadA Try.T h 77 (.ptr (some (i, o))) = rd1 o (h.get i) := ld_1 rfl rfl
theorem li77 : loadA Try.T h 77 (.iptr row o) = row[o]? := ldi_1 rfl rfl
theorem st77 : storeA Try.T h 77 (.ptr (some (i, o))) v = stC h i o 1 v.cells := st_n rfl rfl
theorem peqn77 : binA Try.T .eql 77 (.ptr none) (.ptr none) = some (.bool true) := pt_eqn rfl
theorem peqs77 {p : Nat × Nat} : binA Try.T .eql 77 (.ptr (some p)) (.ptr none) = some (.bool false) := pt_eqs rfl
theorem pnen77 : binA Try.T .neq 77 (.ptr none) (.ptr none) = some (.bool false) := pt_nen rfl
theorem pnes77 {p : Nat × Nat} : binA Try.T .neq 77 (.ptr (some p)) (.ptr none) = some (.bool true) := pt_nes rfl
theorem Td78 : (Try.T 78).desc = .func := rfl
theorem Tz78 : (Try.T 78).zero = [.nilFunc] := rfl
theorem ld78 : loadA Try.T h 78 (.ptr (some (i, o))) = rd1 o (h.get i) := ld_1 rfl rfl
theorem li78 : loadA Try.T h 78 (.iptr row o) = row[o]? := ldi_1 rfl rfl
theorem st78 : storeA Try.T h 78 (.ptr (some (i, o))) v = stC h i o 1 v.cells := st_n rfl rfl
theorem feqs78 {f : FuncId} : binA Try.T .eql 78 (.func f cs) .nilFunc = some (.bool false) := fn_eqs rfl
theorem feqn78 : binA Try.T .eql 78 .nilFunc .nilFunc = some (.bool true) := fn_eqn rfl
theorem Td80 : (Try.T 80).desc = .pointer 39 := rfl
theorem Tz80 : (Try.T 80).zero = [.ptr none] := rfl
theorem ld80 : loadA Try.T h 80 (.ptr (some (i, o))) = rd1 o (h.get i) := ld_1 rfl rfl
theorem li80 : loadA Try.T h 80 (.iptr row o) = row[o]? := ldi_1 rfl rfl
theorem st80 : storeA Try.T h 80 (.ptr (some (i, o))) v = stC h i o 1 v.cells := st_n rfl rfl
theorem peqn80 : binA Try.T .eql 80 (.ptr none) (.ptr none) = some (.bool true) := pt_eqn rfl
theorem peqs80 {p : Nat × Nat} : binA Try.T .eql 80 (.ptr (some p)) (.ptr none) = some (.bool false) := pt_eqs rfl
theorem pnen80 : binA Try.T .neq 80 (.ptr none) (.ptr none) = some (.bool false) := pt_nen rfl
theorem pnes80 {p : Nat × Nat} : binA Try.T .neq 80 (.ptr (some p)) (.ptr none) = some (.bool true) := pt_nes rfl
theorem Td83 : (Try.T 83).desc = .struct [(17, 0, true), (17, 1, true), (17, 2, true), (9, 3, true)] := rfl
theorem Tz83 : (Try.T 83).zero = [.ptr none, .ptr none, .ptr none, .str []] := rfl
theorem ld83 : loadA Try.T h 83 (.ptr (some (i, o))) = rdN o 4 (h.get i) := ld_n rfl rfl rfl
theorem li83 : loadA Try.T h 83 (.iptr row o) = (cut row o 4).map .agg := ldi_n rfl rfl rfl
theorem st83 : storeA Try.T h 83 (.ptr (some (i, o))) v = stC h i o 4 v.cells := st_n rfl rfl
theorem lE83 [Inhabited α] (p : Sl E h i a l) (h0 : 0 ≤ j) (h1 : j < l.length) (h4 : Seen (Nat.beq E.sz 4)) : loadA Try.T h 83 (a.at E.sz 0 j) = some (.agg (E.f (l[j.toNat]!))) := p.ldn h0 h1 rfl rfl (Nat.eq_of_beq_eq_true h4.eq).symm
theorem bd83 {l : List (Nat × AV)} : bldR Try.T 83 (some l) = (fillA (plA Try.T 83) (Try.T 83).zero l).map .agg := bld_eq rfl
theorem pl83_0 : plA Try.T 83 0 = some (0, 1) := rfl
theorem pl83_1 : plA Try.T 83 1 = some (1, 1) := rfl
theorem pl83_2 : plA Try.T 83 2 = some (2, 1) := rfl
theorem pl83_3 : plA Try.T 83 3 = some (3, 1) := rfl
theorem fa83_0 : faR Try.T 83 0 (some (.ptr (some (i, o)))) = some (.ptr (some (i, o + 0))) := fa_ptr rfl (by decide) rfl
theorem fi83_0 : faR Try.T 83 0 (some (.iptr row o)) = some (.iptr row (o + 0)) := fa_iptr rfl (by decide) rfl
theorem fE83_0 (p : Sl E h i a l) (h0 : 0 ≤ j) (h1 : j < l.length) : faR Try.T 83 0 (some (a.at E.sz off0 j)) = some (a.at E.sz (off0 + 0) j) := p.fa h0 h1 rfl (by decide) rfl
theorem fl83_0 : fldR Try.T 83 0 (some (.agg cs)) = cs[0]? := fld_1 rfl rfl rfl
theorem fa83_1 : faR Try.T 83 1 (some (.ptr (some (i, o)))) = some (.ptr (some (i, o + 1))) := fa_ptr rfl (by decide) rfl
theorem fi83_1 : faR Try.T 83 1 (some (.iptr row o)) = some (.iptr row (o + 1)) := fa_iptr rfl (by decide) rfl
theorem fE83_1 (p : Sl E h i a l) (h0 : 0 ≤ j) (h1 : j < l.length) : faR Try.T 83 1 (some (a.at E.sz off0 j)) = some (a.at E.sz (off0 + 1) j) := p.fa h0 h1 rfl (by decide) rfl
theorem fl83_1 : fldR Try.T 83 1 (some (.agg cs)) = cs[1]? := fld_1 rfl rfl rfl
theorem fa83_2 : faR Try.T 83 2 (some (.ptr (some (i, o)))) = some (.ptr (some (i, o + 2))) := fa_ptr rfl (by decide) rfl
theorem fi83_2 : faR Try.T 83 2 (some (.iptr row o)) = some (.iptr row (o + 2)) := fa_iptr rfl (by decide) rfl
theorem fE83_2 (p : Sl E h i a l) (h0 : 0 ≤ j) (h1 : j < l.length) : faR Try.T 83 2 (some (a.at E.sz off0 j)) = some (a.at E.sz (off0 + 2) j) := p.fa h0 h1 rfl (by decide) rfl
theorem fl83_2 : fldR Try.T 83 2 (some (.agg cs)) = cs[2]? := fld_1 rfl rfl rfl
theorem fa83_3 : faR Try.T 83 3 (some (.ptr (some (i, o)))) = some (.ptr (some (i, o + 3))) := fa_ptr rfl (by decide) rfl
theorem fi83_3 : faR Try.T 83 3 (some (.iptr row o)) = some (.iptr row (o + 3)) := fa_iptr rfl (by decide) rfl
theorem fE83_3 (p : Sl E h i a l) (h0 : 0 ≤ j) (h1 : j < l.length) : faR Try.T 83 3 (some (a.at E.sz off0 j)) = some (a.at E.sz (off0 + 3) j) := p.fa h0 h1 rfl (by decide) rfl
theorem fl83_3 : fldR Try.T 83 3 (some (.agg cs)) = cs[3]? := fld_1 rfl rfl rfl
theorem Td84 : (Try.T 84).desc = .array 0 16 := rfl
theorem Tz84 : (Try.T 84).zero = [] := rfl
theorem ld84 : loadA Try.T h 84 (.ptr (some (i, o))) = rdN o 0 (h.get i) := ld_n rfl rfl rfl
theorem li84 : loadA Try.T h 84 (.iptr row o) = (cut row o 0).map .agg := ldi_n rfl rfl rfl
theorem st84 : storeA Try.T h 84 (.ptr (some (i, o))) v = stC h i o 0 v.cells := st_n rfl rfl
theorem lE84 [Inhabited α] (p : Sl E h i a l) (h0 : 0 ≤ j) (h1 : j < l.length) (h4 : Seen (Nat.beq E.sz 0)) : loadA Try.T h 84 (a.at E.sz 0 j) = some (.agg (E.f (l[j.toNat]!))) := p.ldn h0 h1 rfl rfl (Nat.eq_of_beq_eq_true h4.eq).symm
theorem Td86 : (Try.T 86).desc = .struct [(84, 0, false)] := rfl
theorem Tz86 : (Try.T 86).zero = [] := rfl
theorem ld86 : loadA Try.T h 86 (.ptr (some (i, o))) = rdN o 0 (h.get i) := ld_n rfl rfl rfl
theorem li86 : loadA Try.T h 86 (.iptr row o) = (cut row o 0).map .agg := ldi_n rfl rfl rfl
theorem st86 : storeA Try.T h 86 (.ptr (some (i, o))) v = stC h i o 0 v.cells := st_n rfl rfl
theorem lE86 [Inhabited α] (p : Sl E h i a l) (h0 : 0 ≤ j) (h1 : j < l.length) (h4 : Seen (Nat.beq E.sz 0)) : loadA Try.T h 86 (a.at E.sz 0 j) = some (.agg (E.f (l[j.toNat]!))) := p.ldn h0 h1 rfl rfl (Nat.eq_of_beq_eq_true h4.eq).symm
theorem bd86 {l : List (Nat × AV)} : bldR Try.T 86 (some l) = (fillA (plA Try.T 86) (Try.T 86).zero l).map .agg := bld_eq rfl
theorem pl86_0 : plA Try.T 86 0 = some (0, 0) := rfl
theorem Td88 : (Try.T 88).desc = .int .u32 := rfl
theorem Tz88 : (Try.T 88).zero = [.int .u32 0] := rfl
theorem ld88 : loadA Try.T h 88 (.ptr (some (i, o))) = rd1 o (h.get i) := ld_1 rfl rfl
theorem li88 : loadA Try.T h 88 (.iptr row o) = row[o]? := ldi_1 rfl rfl
theorem st88 : storeA Try.T h 88 (.ptr (some (i, o))) v = stC h i o 1 v.cells := st_n rfl rfl
theorem Td89 : (Try.T 89).desc = .int .u8 := rfl
theorem Tz89 : (Try.T 89).zero = [.int .u8 0] := rfl
theorem ld89 : loadA Try.T h 89 (.ptr (some (i, o))) = rd1 o (h.get i) := ld_1 rfl rfl
theorem li89 : loadA Try.T h 89 (.iptr row o) = row[o]? := ldi_1 rfl rfl
theorem st89 : storeA Try.T h 89 (.ptr (some (i, o))) v = stC h i o 1 v.cells := st_n rfl rfl
theorem l889 {l : List UInt8} (p : Sl E8 h i a l) (h0 : 0 ≤ j) (h1 : j < l.length) : loadA Try.T h 89 (a.at E8.sz 0 j) = some (.int .u8 ((l[j.toNat]!).toNat : Int)) := p.ld8 h0 h1 rfl rfl
theorem Td90 : (Try.T 90).desc = .int .u8 := rfl
theorem Tz90 : (Try.T 90).zero = [.int .u8 0] := rfl
theorem ld90 : loadA Try.T h 90 (.ptr (some (i, o))) = rd1 o (h.get i) := ld_1 rfl rfl
theorem li90 : loadA Try.T h 90 (.iptr row o) = row[o]? := ldi_1 rfl rfl
theorem st90 : storeA Try.T h 90 (.ptr (some (i, o))) v = stC h i o 1 v.cells := st_n rfl rfl
theorem l890 {l : List UInt8} (p : Sl E8 h i a l) (h0 : 0 ≤ j) (h1 : j < l.length) : loadA Try.T h 90 (a.at E8.sz 0 j) = some (.int .u8 ((l[j.toNat]!).toNat : Int)) := p.ld8 h0 h1 rfl rfl
theorem Td91 : (Try.T 91).desc = .func := rfl
theorem Tz91 : (Try.T 91).zero = [.nilFunc] := rfl
theorem ld91 : loadA Try.T h 91 (.ptr (some (i, o))) = rd1 o (h.get i) := ld_1 rfl rfl
theorem li91 : loadA Try.T h 91 (.iptr row o) = row[o]? := ldi_1 rfl rfl
theorem st91 : storeA Try.T h 91 (.ptr (some (i, o))) v = stC h i o 1 v.cells := st_n rfl rfl
theorem feqs91 {f : FuncId} : binA Try.T .eql 91 (.func f cs) .nilFunc = some (.bool false) := fn_eqs rfl
theorem feqn91 : binA Try.T .eql 91 .nilFunc .nilFunc = some (.bool true) := fn_eqn rfl
theorem Td92 : (Try.T 92).desc = .pointer 5 := rfl
theorem Tz92 : (Try.T 92).zero = [.ptr none] := rfl
theorem ld92 : loadA Try.T h 92 (.ptr (some (i, o))) = rd1 o (h.get i) := ld_1 rfl rfl
theorem li92 : loadA Try.T h 92 (.iptr row o) = row[o]? := ldi_1 rfl rfl
theorem st92 : storeA Try.T h 92 (.ptr (some (i, o))) v = stC h i o 1 v.cells := st_n rfl rfl
theorem peqn92 : binA Try.T .eql 92 (.ptr none) (.ptr none) = some (.bool true) := pt_eqn rfl
theorem peqs92 {p : Nat × Nat} : binA Try.T .eql 92 (.ptr (some p)) (.ptr none) = some (.bool false) := pt_eqs rfl
theorem pnen92 : binA Try.T .neq 92 (.ptr none) (.ptr none) = some (.bool false) := pt_nen rfl
theorem pnes92 {p : Nat × Nat} : binA Try.T .neq 92 (.ptr (some p)) (.ptr none) = some (.bool true) := pt_nes rfl
theorem Td93 : (Try.T 93).desc = .int .i32 := rfl
theorem Tz93 : (Try.T 93).zero = [.int .i32 0] := rfl
theorem ld93 : loadA Try.T h 93 (.ptr (some (i, o))) = rd1 o (h.get i) := ld_1 rfl rfl
theorem li93 : loadA Try.T h 93 (.iptr row o) = row[o]? := ldi_1 rfl rfl
theorem st93 : storeA Try.T h 93 (.ptr (some (i, o))) v = stC h i o 1 v.cells := st_n rfl rfl
theorem Td94 : (Try.T 94).desc = .int .i32 := rfl
theorem Tz94 : (Try.T 94).zero = [.int .i32 0] := rfl
theorem ld94 : loadA Try.T h 94 (.ptr (some (i, o))) = rd1 o (h.get i) := ld_1 rfl rfl
theorem li94 : loadA Try.T h 94 (.iptr row o) = row[o]? := ldi_1 rfl rfl
theorem st94 : storeA Try.T h 94 (.ptr (some (i, o))) v = stC h i o 1 v.cells := st_n rfl rfl
theorem Td96 : (Try.T 96).desc = .struct [(12, 0, true), (12, 1, true), (88, 2, true), (89, 3, true), (5, 4, true), (5, 5, true), (90, 6, true), (91, 7, true), (92, 8, true), (93, 9, true), (94, 10, true)] := rfl
theorem Tz96 : (Try.T 96).zero = [.int .u64 0, .int .u64 0, .int .u32 0, .int .u8 0, .int .u8 0, .int .u8 0, .int .u8 0, .nilFunc, .ptr none, .int .i32 0, .int .i32 0] := rfl
theorem ld96 : loadA Try.T h 96 (.ptr (some (i, o))) = rdN o 11 (h.get i) := ld_n rfl rfl rfl
theorem li96 : loadA Try.T h 96 (.iptr row o) = (cut row o 11).map .agg := ldi_n rfl rfl rfl
theorem st96 : storeA Try.T h 96 (.ptr (some (i, o))) v = stC h i o 11 v.cells := st_n rfl rfl
theorem lE96 [Inhabited α] (p : Sl E h i a l) (h0 : 0 ≤ j) (h1 : j < l.length) (h4 : Seen (Nat.beq E.sz 11)) : loadA Try.T h 96 (a.at E.sz 0 j) = some (.agg (E.f (l[j.toNat]!))) := p.ldn h0 h1 rfl rfl (Nat.eq_of_beq_eq_true h4.eq).symm
theorem bd96 {l : List (Nat × AV)} : bldR Try.T 96 (some l) = (fillA (plA Try.T 96) (Try.T 96).zero l).map .agg := bld_eq rfl
theorem pl96_0 : plA Try.T 96 0 = some (0, 1) := rfl
theorem pl96_1 : plA Try.T 96 1 = some (1, 1) := rfl
theorem pl96_2 : plA Try.T 96 2 = some (2, 1) := rfl
theorem pl96_3 : plA Try.T 96 3 = some (3, 1) := rfl
theorem pl96_4 : plA Try.T 96 4 = some (4, 1) := rfl
theorem pl96_5 : plA Try.T 96 5 = some (5, 1) := rfl
theorem pl96_6 : plA Try.T 96 6 = some (6, 1) := rfl
theorem pl96_7 : plA Try.T 96 7 = some (7, 1) := rfl
theorem pl96_8 : plA Try.T 96 8 = some (8, 1) := rfl
theorem pl96_9 : plA Try.T 96 9 = some (9, 1) := rfl
theorem pl96_10 : plA Try.T 96 10 = some (10, 1) := rfl
theorem fa96_0 : faR Try.T 96 0 (some (.ptr (some (i, o)))) = some (.ptr (some (i, o + 0))) := fa_ptr rfl (by decide) rfl
theorem fi96_0 : faR Try.T 96 0 (some (.iptr row o)) = some (.iptr row (o + 0)) := fa_iptr rfl (by decide) rfl
theorem fE96_0 (p : Sl E h i a l) (h0 : 0 ≤ j) (h1 : j < l.length) : faR Try.T 96 0 (some (a.at E.sz off0 j)) = some (a.at E.sz (off0 + 0) j) := p.fa h0 h1 rfl (by decide) rfl
theorem fl96_0 : fldR Try.T 96 0 (some (.agg cs)) = cs[0]? := fld_1 rfl rfl rfl
theorem fa96_1 : faR Try.T 96 1 (some (.ptr (some (i, o)))) = some (.ptr (some (i, o + 1))) := fa_ptr rfl (by decide) rfl
theorem fi96_1 : faR Try.T 96 1 (some (.iptr row o)) = some (.iptr row (o + 1)) := fa_iptr rfl (by decide) rfl
theorem fE96_1 (p : Sl E h i a l) (h0 : 0 ≤ j) (h1 : j < l.length) : faR Try.T 96 1 (some (a.at E.sz off0 j)) = some (a.at E.sz (off0 + 1) j) := p.fa h0 h1 rfl (by decide) rfl
theorem fl96_1 : fldR Try.T 96 1 (some (.agg cs)) = cs[1]? := fld_1 rfl rfl rfl
theorem fa96_2 : faR Try.T 96 2 (some (.ptr (some (i, o)))) = some (.ptr (some (i, o + 2))) := fa_ptr rfl (by decide) rfl
theorem fi96_2 : faR Try.T 96 2 (some (.iptr row o)) = some (.iptr row (o + 2)) := fa_iptr rfl (by decide) rfl
theorem fE96_2 (p : Sl E h i a l) (h0 : 0 ≤ j) (h1 : j < l.length) : faR Try.T 96 2 (some (a.at E.sz off0 j)) = some (a.at E.sz (off0 + 2) j) := p.fa h0 h1 rfl (by decide) rfl
theorem fl96_2 : fldR Try.T 96 2 (some (.agg cs)) = cs[2]? := fld_1 rfl rfl rfl
theorem fa96_3 : faR Try.T 96 3 (some (.ptr (some (i, o)))) = some (.ptr (some (i, o + 3))) := fa_ptr rfl (by decide) rfl
theorem fi96_3 : faR Try.T 96 3 (some (.iptr row o)) = some (.iptr row (o + 3)) := fa_iptr rfl (by decide) rfl
theorem fE96_3 (p : Sl E h i a l) (h0 : 0 ≤ j) (h1 : j < l.length) : faR Try.T 96 3 (some (a.at E.sz off0 j)) = some (a.at E.sz (off0 + 3) j) := p.fa h0 h1 rfl (by decide) rfl
theorem fl96_3 : fldR Try.T 96 3 (some (.agg cs)) = cs[3]? := fld_1 rfl rfl rfl
theorem fa96_4 : faR Try.T 96 4 (some (.ptr (some (i, o)))) = some (.ptr (some (i, o + 4))) := fa_ptr rfl (by decide) rfl
theorem fi96_4 : faR Try.T 96 4 (some (.iptr row o)) = some (.iptr row (o + 4)) := fa_iptr rfl (by decide) rfl
theorem fE96_4 (p : Sl E h i a l) (h0 : 0 ≤ j) (h1 : j < l.length) : faR Try.T 96 4 (some (a.at E.sz off0 j)) = some (a.at E.sz (off0 + 4) j) := p.fa h0 h1 rfl (by decide) rfl
theorem fl96_4 : fldR Try.T 96 4 (some (.agg cs)) = cs[4]? := fld_1 rfl rfl rfl
theorem fa96_5 : faR Try.T 96 5 (some (.ptr (some (i, o)))) = some (.ptr (some (i, o + 5))) := fa_ptr rfl (by decide) rfl
theorem fi96_5 : faR Try.T 96 5 (some (.iptr row o)) = some (.iptr row (o + 5)) := fa_iptr rfl (by decide) rfl
theorem fE96_5 (p : Sl E h i a l) (h0 : 0 ≤ j) (h1 : j < l.length) : faR Try.T 96 5 (some (a.at E.sz off0 j)) = some (a.at E.sz (off0 + 5) j) := p.fa h0 h1 rfl (by decide) rfl
theorem fl96_5 : fldR Try.T 96 5 (some (.agg cs)) = cs[5]? := fld_1 rfl rfl rfl
theorem fa96_6 : faR Try.T 96 6 (some (.ptr (some (i, o)))) = some (.ptr (some (i, o + 6))) := fa_ptr rfl (by decide) rfl
theorem fi96_6 : faR Try.T 96 6 (some (.iptr row o)) = some (.iptr row (o + 6)) := fa_iptr rfl (by decide) rfl
theorem fE96_6 (p : Sl E h i a l) (h0 : 0 ≤ j) (h1 : j < l.length) : faR Try.T 96 6 (some (a.at E.sz off0 j)) = some (a.at E.sz (off0 + 6) j) := p.fa h0 h1 rfl (by decide) rfl
theorem fl96_6 : fldR Try.T 96 6 (some (.agg cs)) = cs[6]? := fld_1 rfl rfl rfl
theorem fa96_7 : faR Try.T 96 7 (some (.ptr (some (i, o)))) = some (.ptr (some (i, o + 7))) := fa_ptr rfl (by decide) rfl
theorem fi96_7 : faR Try.T 96 7 (some (.iptr row o)) = some (.iptr row (o + 7)) := fa_iptr rfl (by decide) rfl
theorem fE96_7 (p : Sl E h i a l) (h0 : 0 ≤ j) (h1 : j < l.length) : faR Try.T 96 7 (some (a.at E.sz off0 j)) = some (a.at E.sz (off0 + 7) j) := p.fa h0 h1 rfl (by decide) rfl
theorem fl96_7 : fldR Try.T 96 7 (some (.agg cs)) = cs[7]? := fld_1 rfl rfl rfl
theorem fa96_8 : faR Try.T 96 8 (some (.ptr (some (i, o)))) = some (.ptr (some (i, o + 8))) := fa_ptr rfl (by decide) rfl
theorem fi96_8 : faR Try.T 96 8 (some (.iptr row o)) = some (.iptr row (o + 8)) := fa_iptr rfl (by decide) rfl
theorem fE96_8 (p : Sl E h i a l) (h0 : 0 ≤ j) (h1 : j < l.length) : faR Try.T 96 8 (some (a.at E.sz off0 j)) = some (a.at E.sz (off0 + 8) j) := p.fa h0 h1 rfl (by decide) rfl
theorem fl96_8 : fldR Try.T 96 8 (some (.agg cs)) = cs[8]? := fld_1 rfl rfl rfl
theorem fa96_9 : faR Try.T 96 9 (some (.ptr (some (i, o)))) = some (.ptr (some (i, o + 9))) := fa_ptr rfl (by decide) rfl
theorem fi96_9 : faR Try.T 96 9 (some (.iptr row o)) = some (.iptr row (o + 9)) := fa_iptr rfl (by decide) rfl
theorem fE96_9 (p : Sl E h i a l) (h0 : 0 ≤ j) (h1 : j < l.length) : faR Try.T 96 9 (some (a.at E.sz off0 j)) = some (a.at E.sz (off0 + 9) j) := p.fa h0 h1 rfl (by decide) rfl
theorem fl96_9 : fldR Try.T 96 9 (some (.agg cs)) = cs[9]? := fld_1 rfl rfl rfl
theorem fa96_10 : faR Try.T 96 10 (some (.ptr (some (i, o)))) = some (.ptr (some (i, o + 10))) := fa_ptr rfl (by decide) rfl
theorem fi96_10 : faR Try.T 96 10 (some (.iptr row o)) = some (.iptr row (o + 10)) := fa_iptr rfl (by decide) rfl
theorem fE96_10 (p : Sl E h i a l) (h0 : 0 ≤ j) (h1 : j < l.length) : faR Try.T 96 10 (some (a.at E.sz off0 j)) = some (a.at E.sz (off0 + 10) j) := p.fa h0 h1 rfl (by decide) rfl
theorem fl96_10 : fldR Try.T 96 10 (some (.agg cs)) = cs[10]? := fld_1 rfl rfl rfl
theorem ci2 {a : Nat} : convA Try.T h a 2 (.int k x) = cvI (Try.T a).desc (.int .i64) h x := conv_i rfl
theorem ci3 {a : Nat} : convA Try.T h a 3 (.int k x) = cvI (Try.T a).desc (.int .i64) h x := conv_i rfl
theorem ci5 {a : Nat} : convA Try.T h a 5 (.int k x) = cvI (Try.T a).desc (.int .u8) h x := conv_i rfl
theorem ci6 {a : Nat} : convA Try.T h a 6 (.int k x) = cvI (Try.T a).desc (.int .u8) h x := conv_i rfl
theorem ci12 {a : Nat} : convA Try.T h a 12 (.int k x) = cvI (Try.T a).desc (.int .u64) h x := conv_i rfl
theorem ci21 {a : Nat} : convA Try.T h a 21 (.int k x) = cvI (Try.T a).desc (.int .i32) h x := conv_i rfl
theorem ci88 {a : Nat} : convA Try.T h a 88 (.int k x) = cvI (Try.T a).desc (.int .u32) h x := conv_i rfl
theorem ci89 {a : Nat} : convA Try.T h a 89 (.int k x) = cvI (Try.T a).desc (.int .u8) h x := conv_i rfl
theorem ci90 {a : Nat} : convA Try.T h a 90 (.int k x) = cvI (Try.T a).desc (.int .u8) h x := conv_i rfl
theorem ci93 {a : Nat} : convA Try.T h a 93 (.int k x) = cvI (Try.T a).desc (.int .i32) h x := conv_i rfl
theorem ci94 {a : Nat} : convA Try.T h a 94 (.int k x) = cvI (Try.T a).desc (.int .i32) h x := conv_i rfl
end tf
attribute [go_sem] Td1 Tz1 ld1 li1 st1 feqs1 feqn1 Td2 Tz2 ld2 li2 st2 lI2 Td3 Tz3 ld3 li3 st3 lI3 Td4 Tz4 ld4 li4 st4 beql4 bneq4 Td5 Tz5 ld5 li5 st5 l85 Td6 Tz6 ld6 li6 st6 l86 Td9 Tz9
attribute [go_sem] ld9 li9 st9 ssn9 ssl9 ssb9 len9 ix9 Td10 Tz10 ld10 li10 st10 ssn10 ssl10 ssb10 len10 ix10 Td11 Tz11 ld11 li11 st11 ssn11 ssl11 ssb11 len11 ix11 Td12 Tz12 ld12 li12 st12 Td15 Tz15 ld15 li15 st15 peqn15 peqs15
attribute [go_sem] pnen15 pnes15 Td16 Tz16 ld16 li16 st16 peqn16 peqs16 pnen16 pnes16 Td17 Tz17 ld17 li17 st17 peqn17 peqs17 pnen17 pnes17 Td21 Tz21 ld21 li21 st21 Td22 Tz22 ld22 li22 st22 len22 ix22 sl22 sm22 sn22 eqn22 eqs22 eqi22 Td23 Tz23
attribute [go_sem] ld23 li23 st23 len23 ix23 br23 bs23 sl23 sm23 sn23 eqn23 eqs23 eqi23 Td25 Tz25 ld25 li25 st25 peqn25 peqs25 pnen25 pnes25 Td27 Tz27 ld27 li27 st27 peqn27 peqs27 pnen27 pnes27 Td28 Tz28 ld28 li28 st28 len28 ix28 br28 bs28
attribute [go_sem] sl28 sm28 sn28 eqn28 eqs28 eqi28 Td30 Tz30 ld30 li30 st30 lE30 bd30 pl30_0 pl30_1 pl30_2 fa30_0 fi30_0 fE30_0 fl30_0 fa30_1 fi30_1 fE30_1 fl30_1 fa30_2 fi30_2 fE30_2 fl30_2 Td32 Tz32 ld32 li32 st32 len32 ix32 sl32 sm32 sn32 eqn32 eqs32
attribute [go_sem] eqi32 Td33 Tz33 ld33 li33 st33 len33 ix33 br33 bs33 sl33 sm33 sn33 cs33_9 cb9_33 cs33_10 cb10_33 cs33_11 cb11_33 eqn33 eqs33 eqi33 Td35 Tz35 ld35 li35 st35 lE35 bd35 pl35_0 pl35_1 pl35_2 pl35_3 pl35_4 pl35_5 pl35_6 fa35_0 fi35_0 fE35_0 fl35_0
attribute [go_sem] fa35_1 fi35_1 fE35_1 fl35_1 fa35_2 fi35_2 fE35_2 fl35_2 fa35_3 fi35_3 fE35_3 fl35_3 fa35_4 fi35_4 fE35_4 fl35_4 fa35_5 fi35_5 fE35_5 fl35_5 fa35_6 fi35_6 fE35_6 fl35_6 Td37 Tz37 ld37 li37 st37 lE37 bd37 pl37_0 pl37_1 fa37_0 fi37_0 fE37_0 fl37_0 fa37_1 fi37_1 fE37_1
attribute [go_sem] fl37_1 Td39 Tz39 ld39 li39 st39 lE39 bd39 pl39_0 pl39_1 pl39_2 pl39_3 pl39_4 pl39_5 pl39_6 pl39_7 fa39_0 fi39_0 fE39_0 fl39_0 fa39_1 fi39_1 fE39_1 fl39_1 fa39_2 fi39_2 fE39_2 fl39_2 fa39_3 fi39_3 fE39_3 fl39_3 fa39_4 fi39_4 fE39_4 fl39_4 fa39_5 fi39_5 fE39_5 fl39_5
attribute [go_sem] fa39_6 fi39_6 fE39_6 fl39_6 fa39_7 fi39_7 fE39_7 fl39_7 Td41 Tz41 ld41 li41 st41 lE41 bd41 pl41_0 pl41_1 pl41_2 pl41_3 fa41_0 fi41_0 fE41_0 fl41_0 fa41_1 fi41_1 fE41_1 fl41_1 fa41_2 fi41_2 fE41_2 fl41_2 fa41_3 fi41_3 fE41_3 fl41_3 Td42 Tz42 ld42 li42 st42
attribute [go_sem] peqn42 peqs42 pnen42 pnes42 Td46 Tz46 ld46 li46 st46 feqs46 feqn46 Td50 Tz50 ld50 li50 st50 feqs50 feqn50 Td51 Tz51 ld51 li51 st51 feqs51 feqn51 Td53 Tz53 ld53 li53 st53 lE53 bd53 pl53_0 pl53_1 pl53_2 fa53_0 fi53_0 fE53_0 fl53_0 fa53_1
attribute [go_sem] fi53_1 fE53_1 fl53_1 fa53_2 fi53_2 fE53_2 fl53_2 Td55 Tz55 ld55 li55 st55 len55 ix55 br55 bs55 sl55 sm55 sn55 eqn55 eqs55 eqi55 Td57 Tz57 ld57 li57 st57 len57 ix57 br57 bs57 sl57 sm57 sn57 eqn57 eqs57 eqi57 Td58 Tz58 ld58
attribute [go_sem] li58 st58 lE58 Td60 Tz60 ld60 li60 st60 lE60 bd60 pl60_0 pl60_1 fa60_0 fi60_0 fE60_0 fl60_0 fa60_1 fi60_1 fE60_1 fl60_1 Td61 Tz61 ld61 li61 st61 peqn61 peqs61 pnen61 pnes61 Td65 Tz65 ld65 li65 st65 lE65 bd65 pl65_0 pl65_1 pl65_2 pl65_3
attribute [go_sem] fa65_0 fi65_0 fE65_0 fl65_0 fa65_1 fi65_1 fE65_1 fl65_1 fa65_2 fi65_2 fE65_2 fl65_2 fa65_3 fi65_3 fE65_3 fl65_3 Td67 Tz67 ld67 li67 st67 lE67 bd67 pl67_0 pl67_1 pl67_2 pl67_3 pl67_4 pl67_5 pl67_6 pl67_7 pl67_8 pl67_9 pl67_10 fa67_0 fi67_0 fE67_0 fl67_0 fa67_1 fi67_1
attribute [go_sem] fE67_1 fl67_1 fa67_2 fi67_2 fE67_2 fl67_2 fa67_3 fi67_3 fE67_3 fl67_3 fa67_4 fi67_4 fE67_4 fl67_4 fa67_5 fi67_5 fE67_5 fl67_5 fa67_6 fi67_6 fE67_6 fl67_6 fa67_7 fi67_7 fE67_7 fl67_7 fa67_8 fi67_8 fE67_8 fl67_8 fa67_9 fi67_9 fE67_9 fl67_9 fa67_10 fi67_10 fE67_10 fl67_10 Td68 Tz68
attribute [go_sem] ld68 li68 st68 feqs68 feqn68 Td70 Tz70 ld70 li70 st70 feqs70 feqn70 Td77 Tz77 ld77 li77 st77 peqn77 peqs77 pnen77 pnes77 Td78 Tz78 ld78 li78 st78 feqs78 feqn78 Td80 Tz80 ld80 li80 st80 peqn80 peqs80 pnen80 pnes80 Td83 Tz83 ld83
attribute [go_sem] li83 st83 lE83 bd83 pl83_0 pl83_1 pl83_2 pl83_3 fa83_0 fi83_0 fE83_0 fl83_0 fa83_1 fi83_1 fE83_1 fl83_1 fa83_2 fi83_2 fE83_2 fl83_2 fa83_3 fi83_3 fE83_3 fl83_3 Td84 Tz84 ld84 li84 st84 lE84 Td86 Tz86 ld86 li86 st86 lE86 bd86 pl86_0 Td88 Tz88
attribute [go_sem] ld88 li88 st88 Td89 Tz89 ld89 li89 st89 l889 Td90 Tz90 ld90 li90 st90 l890 Td91 Tz91 ld91 li91 st91 feqs91 feqn91 Td92 Tz92 ld92 li92 st92 peqn92 peqs92 pnen92 pnes92 Td93 Tz93 ld93 li93 st93 Td94 Tz94 ld94 li94
attribute [go_sem] st94 Td96 Tz96 ld96 li96 st96 lE96 bd96 pl96_0 pl96_1 pl96_2 pl96_3 pl96_4 pl96_5 pl96_6 pl96_7 pl96_8 pl96_9 pl96_10 fa96_0 fi96_0 fE96_0 fl96_0 fa96_1 fi96_1 fE96_1 fl96_1 fa96_2 fi96_2 fE96_2 fl96_2 fa96_3 fi96_3 fE96_3 fl96_3 fa96_4 fi96_4 fE96_4 fl96_4 fa96_5
attribute [go_sem] fi96_5 fE96_5 fl96_5 fa96_6 fi96_6 fE96_6 fl96_6 fa96_7 fi96_7 fE96_7 fl96_7 fa96_8 fi96_8 fE96_8 fl96_8 fa96_9 fi96_9 fE96_9 fl96_9 fa96_10 fi96_10 fE96_10 fl96_10 ci2 ci3 ci5 ci6 ci12 ci21 ci88 ci89 ci90 ci93 ci94
end Try
end Go.Proofs
