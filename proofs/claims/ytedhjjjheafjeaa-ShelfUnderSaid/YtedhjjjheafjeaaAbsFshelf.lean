/- The types of the program as rewriting rules: written by a program (mkf.py). -/
import Derived.Test.YtedhjjjheafjeaaAbsB
import Derived.Test.YtedhjjjheafjeaaAbsTshelf
set_option linter.unusedVariables false
namespace Go.Proofs
open Go.Abs
namespace Try
section tf
variable {h h' : AH} {i o : Nat} {v a : AV} {row cs : List AV} {α : Type} {E : Enc α} {l : List α} {j : Int} {off0 : Nat} {k : IntKind} {s : List UInt8} {x y : Int}
theorem Td2 : (Try.T 2).desc = .int .i64 := rfl
theorem Tz2 : (Try.T 2).zero = [.int .i64 0] := rfl
theorem ld2 : loadA Try.T h 2 (.ptr (some (i, o))) = rd1 o (h.get i) := ld_1 rfl rfl
theorem li2 : loadA Try.T h 2 (.iptr row o) = row[o]? := ldi_1 rfl rfl
theorem st2 : storeA Try.T h 2 (.ptr (some (i, o))) v = stC h i o 1 v.cells := st_n rfl rfl
theorem lI2 {l : List Int} (p : Sl EI h i a l) (h0 : 0 ≤ j) (h1 : j < l.length) : loadA Try.T h 2 (a.at EI.sz 0 j) = some (.int .i64 (l[j.toNat]!)) := p.ldI h0 h1 rfl rfl
theorem Td3 : (Try.T 3).desc = .int .i64 := rfl
theorem Tz3 : (Try.T 3).zero = [.int .i64 0] := rfl
theorem ld3 : loadA Try.T h 3 (.ptr (some (i, o))) = rd1 o (h.get i) := ld_1 rfl rfl
theorem li3 : loadA Try.T h 3 (.iptr row o) = row[o]? := ldi_1 rfl rfl
theorem st3 : storeA Try.T h 3 (.ptr (some (i, o))) v = stC h i o 1 v.cells := st_n rfl rfl
theorem lI3 {l : List Int} (p : Sl EI h i a l) (h0 : 0 ≤ j) (h1 : j < l.length) : loadA Try.T h 3 (a.at EI.sz 0 j) = some (.int .i64 (l[j.toNat]!)) := p.ldI h0 h1 rfl rfl
theorem Td4 : (Try.T 4).desc = .bool := rfl
theorem Tz4 : (Try.T 4).zero = [.bool false] := rfl
theorem ld4 : loadA Try.T h 4 (.ptr (some (i, o))) = rd1 o (h.get i) := ld_1 rfl rfl
theorem li4 : loadA Try.T h 4 (.iptr row o) = row[o]? := ldi_1 rfl rfl
theorem st4 : storeA Try.T h 4 (.ptr (some (i, o))) v = stC h i o 1 v.cells := st_n rfl rfl
theorem beql4 {x y : Bool} : binA Try.T .eql 4 (.bool x) (.bool y) = some (.bool (x == y)) := bool_eql rfl
theorem bneq4 {x y : Bool} : binA Try.T .neq 4 (.bool x) (.bool y) = some (.bool (!(x == y))) := bool_neq rfl
theorem Td5 : (Try.T 5).desc = .int .u8 := rfl
theorem Tz5 : (Try.T 5).zero = [.int .u8 0] := rfl
theorem ld5 : loadA Try.T h 5 (.ptr (some (i, o))) = rd1 o (h.get i) := ld_1 rfl rfl
theorem li5 : loadA Try.T h 5 (.iptr row o) = row[o]? := ldi_1 rfl rfl
theorem st5 : storeA Try.T h 5 (.ptr (some (i, o))) v = stC h i o 1 v.cells := st_n rfl rfl
theorem l85 {l : List UInt8} (p : Sl E8 h i a l) (h0 : 0 ≤ j) (h1 : j < l.length) : loadA Try.T h 5 (a.at E8.sz 0 j) = some (.int .u8 ((l[j.toNat]!).toNat : Int)) := p.ld8 h0 h1 rfl rfl
theorem Td6 : (Try.T 6).desc = .int .u8 := rfl
theorem Tz6 : (Try.T 6).zero = [.int .u8 0] := rfl
theorem ld6 : loadA Try.T h 6 (.ptr (some (i, o))) = rd1 o (h.get i) := ld_1 rfl rfl
theorem li6 : loadA Try.T h 6 (.iptr row o) = row[o]? := ldi_1 rfl rfl
theorem st6 : storeA Try.T h 6 (.ptr (some (i, o))) v = stC h i o 1 v.cells := st_n rfl rfl
theorem l86 {l : List UInt8} (p : Sl E8 h i a l) (h0 : 0 ≤ j) (h1 : j < l.length) : loadA Try.T h 6 (a.at E8.sz 0 j) = some (.int .u8 ((l[j.toNat]!).toNat : Int)) := p.ld8 h0 h1 rfl rfl
theorem Td9 : (Try.T 9).desc = .string := rfl
theorem Tz9 : (Try.T 9).zero = [.str []] := rfl
theorem ld9 : loadA Try.T h 9 (.ptr (some (i, o))) = rd1 o (h.get i) := ld_1 rfl rfl
theorem li9 : loadA Try.T h 9 (.iptr row o) = row[o]? := ldi_1 rfl rfl
theorem st9 : storeA Try.T h 9 (.ptr (some (i, o))) v = stC h i o 1 v.cells := st_n rfl rfl
theorem ssn9 (h0 : 0 ≤ y) (h1 : y ≤ s.length) : sliceA Try.T 9 (.str s) none (some y) none = some (.str (s.take y.toNat)) := ss_n rfl h0 h1
theorem ssl9 (h0 : 0 ≤ x) (h1 : x ≤ s.length) : sliceA Try.T 9 (.str s) (some x) none none = some (.str (s.drop x.toNat)) := ss_l rfl h0 h1
theorem ssb9 (h0 : 0 ≤ x) (h1 : x ≤ y) (h2 : y ≤ s.length) : sliceA Try.T 9 (.str s) (some x) (some y) none = some (.str ((s.drop x.toNat).take (y.toNat - x.toNat))) := ss_b rfl h0 h1 h2
theorem len9 : builtinA Try.T h .len [9] [.str s] = some (.int .i64 (s.length : Int), h) := len_str .mk
theorem ix9 (h0 : 0 ≤ j) (h1 : j < s.length) : ixR Try.T 9 (some (.str s)) (some (.int k j)) = some (.int .u8 ((s[j.toNat]!).toNat : Int)) := ix_str .mk h0 h1
theorem Td10 : (Try.T 10).desc = .string := rfl
theorem Tz10 : (Try.T 10).zero = [.str []] := rfl
theorem ld10 : loadA Try.T h 10 (.ptr (some (i, o))) = rd1 o (h.get i) := ld_1 rfl rfl
theorem li10 : loadA Try.T h 10 (.iptr row o) = row[o]? := ldi_1 rfl rfl
theorem st10 : storeA Try.T h 10 (.ptr (some (i, o))) v = stC h i o 1 v.cells := st_n rfl rfl
theorem ssn10 (h0 : 0 ≤ y) (h1 : y ≤ s.length) : sliceA Try.T 10 (.str s) none (some y) none = some (.str (s.take y.toNat)) := ss_n rfl h0 h1
theorem ssl10 (h0 : 0 ≤ x) (h1 : x ≤ s.length) : sliceA Try.T 10 (.str s) (some x) none none = some (.str (s.drop x.toNat)) := ss_l rfl h0 h1
theorem ssb10 (h0 : 0 ≤ x) (h1 : x ≤ y) (h2 : y ≤ s.length) : sliceA Try.T 10 (.str s) (some x) (some y) none = some (.str ((s.drop x.toNat).take (y.toNat - x.toNat))) := ss_b rfl h0 h1 h2
theorem len10 : builtinA Try.T h .len [10] [.str s] = some (.int .i64 (s.length : Int), h) := len_str .mk
theorem ix10 (h0 : 0 ≤ j) (h1 : j < s.length) : ixR Try.T 10 (some (.str s)) (some (.int k j)) = some (.int .u8 ((s[j.toNat]!).toNat : Int)) := ix_str .mk h0 h1
theorem Td11 : (Try.T 11).desc = .string := rfl
theorem Tz11 : (Try.T 11).zero = [.str []] := rfl
theorem ld11 : loadA Try.T h 11 (.ptr (some (i, o))) = rd1 o (h.get i) := ld_1 rfl rfl
theorem li11 : loadA Try.T h 11 (.iptr row o) = row[o]? := ldi_1 rfl rfl
theorem st11 : storeA Try.T h 11 (.ptr (some (i, o))) v = stC h i o 1 v.cells := st_n rfl rfl
theorem ssn11 (h0 : 0 ≤ y) (h1 : y ≤ s.length) : sliceA Try.T 11 (.str s) none (some y) none = some (.str (s.take y.toNat)) := ss_n rfl h0 h1
theorem ssl11 (h0 : 0 ≤ x) (h1 : x ≤ s.length) : sliceA Try.T 11 (.str s) (some x) none none = some (.str (s.drop x.toNat)) := ss_l rfl h0 h1
theorem ssb11 (h0 : 0 ≤ x) (h1 : x ≤ y) (h2 : y ≤ s.length) : sliceA Try.T 11 (.str s) (some x) (some y) none = some (.str ((s.drop x.toNat).take (y.toNat - x.toNat))) := ss_b rfl h0 h1 h2
theorem len11 : builtinA Try.T h .len [11] [.str s] = some (.int .i64 (s.length : Int), h) := len_str .mk
theorem ix11 (h0 : 0 ≤ j) (h1 : j < s.length) : ixR Try.T 11 (some (.str s)) (some (.int k j)) = some (.int .u8 ((s[j.toNat]!).toNat : Int)) := ix_str .mk h0 h1
theorem Td12 : (Try.T 12).desc = .int .u64 := rfl
theorem Tz12 : (Try.T 12).zero = [.int .u64 0] := rfl
theorem ld12 : loadA Try.T h 12 (.ptr (some (i, o))) = rd1 o (h.get i) := ld_1 rfl rfl
theorem li12 : loadA Try.T h 12 (.iptr row o) = row[o]? := ldi_1 rfl rfl
theorem st12 : storeA Try.T h 12 (.ptr (some (i, o))) v = stC h i o 1 v.cells := st_n rfl rfl
theorem Td21 : (Try.T 21).desc = .int .i32 := rfl
theorem Tz21 : (Try.T 21).zero = [.int .i32 0] := rfl
theorem ld21 : loadA Try.T h 21 (.ptr (some (i, o))) = rd1 o (h.get i) := ld_1 rfl rfl
theorem li21 : loadA Try.T h 21 (.iptr row o) = row[o]? := ldi_1 rfl rfl
theorem st21 : storeA Try.T h 21 (.ptr (some (i, o))) v = stC h i o 1 v.cells := st_n rfl rfl
theorem Td22 : (Try.T 22).desc = .slice 32 := rfl
theorem Tz22 : (Try.T 22).zero = [.slice none 0 0 0 true] := rfl
theorem ld22 : loadA Try.T h 22 (.ptr (some (i, o))) = rd1 o (h.get i) := ld_1 rfl rfl
theorem li22 : loadA Try.T h 22 (.iptr row o) = row[o]? := ldi_1 rfl rfl
theorem st22 : storeA Try.T h 22 (.ptr (some (i, o))) v = stC h i o 1 v.cells := st_n rfl rfl
theorem len22 (p : Sl E h i a l) : builtinA Try.T h' .len [22] [a] = some (.int .i64 (l.length : Int), h') := p.len rfl
theorem ix22 (p : Sl E h i a l) (h0 : 0 ≤ j) (h1 : j < l.length) (h2 : Seen (Nat.beq E.sz 3)) : idxA Try.T 22 a (.int k j) = some (a.at E.sz 0 j) := p.idx h0 h1 rfl rfl (Nat.eq_of_beq_eq_true h2.eq).symm
theorem wr32 {P : Program} {ops : Array Oper} {L : List Oper} {K : Tm → AH → Prop} {d : Option Nat} {tm : Tm} (p : Ow E h i a l) (x : α) (hx : v.cells = E.f x) (h0 : 0 ≤ j) (h1 : j < l.length) (h2 : Seen (Nat.beq E.sz 3)) (hk : ∀ h', Ow E h' i a (l.set j.toNat x) → h'.size = h.size → (∀ b, ¬ b = i → h'.get b = h.get b) → putM P Try.T ops L K d tm undefA h') : ansM P Try.T ops L K d tm h ((storeA Try.T h 32 (a.at E.sz 0 j) v).map fun h' => .val undefA h') :=
  ans_wr p x hx h0 h1 rfl (Nat.eq_of_beq_eq_true h2.eq).symm hk
theorem w32_0_3 {P : Program} {ops : Array Oper} {L : List Oper} {K : Tm → AH → Prop} {d : Option Nat} {tm : Tm} [Inhabited α] (p : Ow E h i a l) (x : α) (hx : E.f x = (E.f (l[j.toNat]!)).set 0 v) (hv : v.cells = [v]) (hv1 : v.one = true) (h0 : 0 ≤ j) (h1 : j < l.length) (h2 : Seen (Nat.blt 0 E.sz)) (hk : ∀ h', Ow E h' i a (l.set j.toNat x) → h'.size = h.size → (∀ b, ¬ b = i → h'.get b = h.get b) → putM P Try.T ops L K d tm undefA h') : ansM P Try.T ops L K d tm h ((storeA Try.T h 3 (a.at E.sz 0 j) v).map fun h' => .val undefA h') :=
  ans_wr1 p x hx hv hv1 (by simpa [Nat.blt_eq] using h2.eq) h0 h1 rfl rfl hk
theorem w32_1_3 {P : Program} {ops : Array Oper} {L : List Oper} {K : Tm → AH → Prop} {d : Option Nat} {tm : Tm} [Inhabited α] (p : Ow E h i a l) (x : α) (hx : E.f x = (E.f (l[j.toNat]!)).set 1 v) (hv : v.cells = [v]) (hv1 : v.one = true) (h0 : 0 ≤ j) (h1 : j < l.length) (h2 : Seen (Nat.blt 1 E.sz)) (hk : ∀ h', Ow E h' i a (l.set j.toNat x) → h'.size = h.size → (∀ b, ¬ b = i → h'.get b = h.get b) → putM P Try.T ops L K d tm undefA h') : ansM P Try.T ops L K d tm h ((storeA Try.T h 3 (a.at E.sz 1 j) v).map fun h' => .val undefA h') :=
  ans_wr1 p x hx hv hv1 (by simpa [Nat.blt_eq] using h2.eq) h0 h1 rfl rfl hk
theorem w32_2_3 {P : Program} {ops : Array Oper} {L : List Oper} {K : Tm → AH → Prop} {d : Option Nat} {tm : Tm} [Inhabited α] (p : Ow E h i a l) (x : α) (hx : E.f x = (E.f (l[j.toNat]!)).set 2 v) (hv : v.cells = [v]) (hv1 : v.one = true) (h0 : 0 ≤ j) (h1 : j < l.length) (h2 : Seen (Nat.blt 2 E.sz)) (hk : ∀ h', Ow E h' i a (l.set j.toNat x) → h'.size = h.size → (∀ b, ¬ b = i → h'.get b = h.get b) → putM P Try.T ops L K d tm undefA h') : ansM P Try.T ops L K d tm h ((storeA Try.T h 3 (a.at E.sz 2 j) v).map fun h' => .val undefA h') :=
  ans_wr1 p x hx hv hv1 (by simpa [Nat.blt_eq] using h2.eq) h0 h1 rfl rfl hk
theorem sl22 (p : Sl E h i a l) (h0 : 0 ≤ x) (h1 : x ≤ y) (h2 : y ≤ l.length) (h3 : Seen (Nat.beq E.sz 3)) : sliceA Try.T 22 a (some x) (some y) none = some (a.part x y) := p.slc h0 h1 h2 rfl rfl (Nat.eq_of_beq_eq_true h3.eq).symm
theorem sm22 (p : Sl E h i a l) (h1 : 0 ≤ y) (h2 : y ≤ l.length) (h3 : Seen (Nat.beq E.sz 3)) : sliceA Try.T 22 a none (some y) none = some (a.part 0 y) := p.slc (lo := none) (Int.le_refl _) h1 h2 rfl rfl (Nat.eq_of_beq_eq_true h3.eq).symm
theorem sn22 (p : Sl E h i a l) (h0 : 0 ≤ x) (h1 : x ≤ l.length) (h3 : Seen (Nat.beq E.sz 3)) : sliceA Try.T 22 a (some x) none none = some (a.part x l.length) := p.slc (hi := none) h0 h1 (Int.le_refl _) rfl rfl (Nat.eq_of_beq_eq_true h3.eq).symm
theorem ap22 {P : Program} {ops : Array Oper} {L : List Oper} {K : Tm → AH → Prop} {d : Option Nat} {tm : Tm} {x : AV} {new : List α} {ix : Nat} (p : Ow E h i a l) (hx : Sl E h ix x new) (h2 : Seen (Nat.beq E.sz 3)) (hr : (l.length + new.length) * 24 ≤ 140737488355328) (hk : ∀ z h' i', Ow E h' i' z (l ++ new) → (i' = i ∨ h.size ≤ i') → h.size ≤ h'.size → (∀ j, j < h.size → ¬ j = i → h'.get j = h.get j) → putM P Try.T ops L K d tm z h') : ansM P Try.T ops L K d tm h (pairR (appendA Try.T h 22 22 a x)) :=
  ans_app p hx rfl ⟨_, rfl⟩ rfl (Nat.eq_of_beq_eq_true h2.eq).symm (Nat.eq_of_beq_eq_true h2.eq).symm (by decide) hr hk
theorem al22 {P : Program} {ops : Array Oper} {L : List Oper} {K : Tm → AH → Prop} {d : Option Nat} {tm : Tm} {sz : Nat} (x : α) (p : Ow E h i a l) (hx : cs = E.f x) (hs : sz = E.sz) (h2 : Seen (Nat.beq E.sz 3)) (hr : (l.length + 1) * 24 ≤ 140737488355328) (hk : ∀ z h' i', Ow E h' i' z (l ++ [x]) → (i' = i ∨ h.size ≤ i') → h.size ≤ h'.size → (∀ j, j < h.size → ¬ j = i → h'.get j = h.get j) → putM P Try.T ops L K d tm z h') : ansM P Try.T ops L K d tm (h.push (.cells cs)) (pairR (appendA Try.T (h.push (.cells cs)) 22 22 a (.slice (some (h.size, 0)) 1 1 sz true))) :=
  ans_app1 p x hx hs rfl rfl (Nat.eq_of_beq_eq_true h2.eq).symm (Nat.eq_of_beq_eq_true h2.eq).symm (by decide) hr hk
theorem eqn22 {l1 c1 z1 l2 c2 z2 : Nat} {x1 x2 : Bool} : binA Try.T .eql 22 (.slice none l1 c1 z1 x1) (.slice none l2 c2 z2 x2) = some (.bool true) := sl_eqn rfl
theorem eqs22 {l1 c1 z1 l2 c2 z2 : Nat} {x1 x2 : Bool} {p : Nat × Nat} : binA Try.T .eql 22 (.slice (some p) l1 c1 z1 x1) (.slice none l2 c2 z2 x2) = some (.bool false) := sl_eqs rfl
theorem eqi22 {l2 c2 z2 a1 b1 c1 d1 : Nat} {x2 : Bool} : binA Try.T .eql 22 (.islice row a1 b1 c1 d1) (.slice none l2 c2 z2 x2) = some (.bool false) := sl_eqi rfl
theorem Td23 : (Try.T 23).desc = .slice 3 := rfl
theorem Tz23 : (Try.T 23).zero = [.slice none 0 0 0 true] := rfl
theorem ld23 : loadA Try.T h 23 (.ptr (some (i, o))) = rd1 o (h.get i) := ld_1 rfl rfl
theorem li23 : loadA Try.T h 23 (.iptr row o) = row[o]? := ldi_1 rfl rfl
theorem st23 : storeA Try.T h 23 (.ptr (some (i, o))) v = stC h i o 1 v.cells := st_n rfl rfl
theorem len23 (p : Sl E h i a l) : builtinA Try.T h' .len [23] [a] = some (.int .i64 (l.length : Int), h') := p.len rfl
theorem ix23 (p : Sl E h i a l) (h0 : 0 ≤ j) (h1 : j < l.length) (h2 : Seen (Nat.beq E.sz 1)) : idxA Try.T 23 a (.int k j) = some (a.at E.sz 0 j) := p.idx h0 h1 rfl rfl (Nat.eq_of_beq_eq_true h2.eq).symm
theorem wr3 {P : Program} {ops : Array Oper} {L : List Oper} {K : Tm → AH → Prop} {d : Option Nat} {tm : Tm} (p : Ow E h i a l) (x : α) (hx : v.cells = E.f x) (h0 : 0 ≤ j) (h1 : j < l.length) (h2 : Seen (Nat.beq E.sz 1)) (hk : ∀ h', Ow E h' i a (l.set j.toNat x) → h'.size = h.size → (∀ b, ¬ b = i → h'.get b = h.get b) → putM P Try.T ops L K d tm undefA h') : ansM P Try.T ops L K d tm h ((storeA Try.T h 3 (a.at E.sz 0 j) v).map fun h' => .val undefA h') :=
  ans_wr p x hx h0 h1 rfl (Nat.eq_of_beq_eq_true h2.eq).symm hk
theorem br23 {n : Nat} {l : List (Nat × AV)} (hn : Seen (Nat.beq l.length n && (Nat.ble n 10000 && bsOk 0 l))) : bsR Try.T h 23 n (some l) = some (.val (.slice (some (h.size, 0)) n n 1 true) (h.push (.cells (l.map (·.2))))) := bs_row rfl rfl rfl rfl hn
theorem bs23 (hv : Seen (match v with | .agg _ | .tuple _ => false | _ => true)) : bsR Try.T h 23 1 (some [(0, v)]) = some (.val (.slice (some (h.size, 0)) 1 1 1 true) (h.push (.cells [v]))) := bs_one rfl rfl rfl rfl hv
theorem sl23 (p : Sl E h i a l) (h0 : 0 ≤ x) (h1 : x ≤ y) (h2 : y ≤ l.length) (h3 : Seen (Nat.beq E.sz 1)) : sliceA Try.T 23 a (some x) (some y) none = some (a.part x y) := p.slc h0 h1 h2 rfl rfl (Nat.eq_of_beq_eq_true h3.eq).symm
theorem sm23 (p : Sl E h i a l) (h1 : 0 ≤ y) (h2 : y ≤ l.length) (h3 : Seen (Nat.beq E.sz 1)) : sliceA Try.T 23 a none (some y) none = some (a.part 0 y) := p.slc (lo := none) (Int.le_refl _) h1 h2 rfl rfl (Nat.eq_of_beq_eq_true h3.eq).symm
theorem sn23 (p : Sl E h i a l) (h0 : 0 ≤ x) (h1 : x ≤ l.length) (h3 : Seen (Nat.beq E.sz 1)) : sliceA Try.T 23 a (some x) none none = some (a.part x l.length) := p.slc (hi := none) h0 h1 (Int.le_refl _) rfl rfl (Nat.eq_of_beq_eq_true h3.eq).symm
theorem ap23 {P : Program} {ops : Array Oper} {L : List Oper} {K : Tm → AH → Prop} {d : Option Nat} {tm : Tm} {x : AV} {new : List α} {ix : Nat} (p : Ow E h i a l) (hx : Sl E h ix x new) (h2 : Seen (Nat.beq E.sz 1)) (hr : (l.length + new.length) * 8 ≤ 140737488355328) (hk : ∀ z h' i', Ow E h' i' z (l ++ new) → (i' = i ∨ h.size ≤ i') → h.size ≤ h'.size → (∀ j, j < h.size → ¬ j = i → h'.get j = h.get j) → putM P Try.T ops L K d tm z h') : ansM P Try.T ops L K d tm h (pairR (appendA Try.T h 23 23 a x)) :=
  ans_app p hx rfl ⟨_, rfl⟩ rfl (Nat.eq_of_beq_eq_true h2.eq).symm (Nat.eq_of_beq_eq_true h2.eq).symm (by decide) hr hk
theorem al23 {P : Program} {ops : Array Oper} {L : List Oper} {K : Tm → AH → Prop} {d : Option Nat} {tm : Tm} {sz : Nat} (x : α) (p : Ow E h i a l) (hx : cs = E.f x) (hs : sz = E.sz) (h2 : Seen (Nat.beq E.sz 1)) (hr : (l.length + 1) * 8 ≤ 140737488355328) (hk : ∀ z h' i', Ow E h' i' z (l ++ [x]) → (i' = i ∨ h.size ≤ i') → h.size ≤ h'.size → (∀ j, j < h.size → ¬ j = i → h'.get j = h.get j) → putM P Try.T ops L K d tm z h') : ansM P Try.T ops L K d tm (h.push (.cells cs)) (pairR (appendA Try.T (h.push (.cells cs)) 23 23 a (.slice (some (h.size, 0)) 1 1 sz true))) :=
  ans_app1 p x hx hs rfl rfl (Nat.eq_of_beq_eq_true h2.eq).symm (Nat.eq_of_beq_eq_true h2.eq).symm (by decide) hr hk
theorem eqn23 {l1 c1 z1 l2 c2 z2 : Nat} {x1 x2 : Bool} : binA Try.T .eql 23 (.slice none l1 c1 z1 x1) (.slice none l2 c2 z2 x2) = some (.bool true) := sl_eqn rfl
theorem eqs23 {l1 c1 z1 l2 c2 z2 : Nat} {x1 x2 : Bool} {p : Nat × Nat} : binA Try.T .eql 23 (.slice (some p) l1 c1 z1 x1) (.slice none l2 c2 z2 x2) = some (.bool false) := sl_eqs rfl
theorem eqi23 {l2 c2 z2 a1 b1 c1 d1 : Nat} {x2 : Bool} : binA Try.T .eql 23 (.islice row a1 b1 c1 d1) (.slice none l2 c2 z2 x2) = some (.bool false) := sl_eqi rfl
theorem Td25 : (Try.T 25).desc = .pointer 60 := rfl
theorem Tz25 : (Try.T 25).zero = [.ptr none] := rfl
theorem ld25 : loadA Try.T h 25 (.ptr (some (i, o))) = rd1 o (h.get i) := ld_1 rfl rfl
theorem li25 : loadA Try.T h 25 (.iptr row o) = row[o]? := ldi_1 rfl rfl
theorem st25 : storeA Try.T h 25 (.ptr (some (i, o))) v = stC h i o 1 v.cells := st_n rfl rfl
theorem peqn25 : binA Try.T .eql 25 (.ptr none) (.ptr none) = some (.bool true) := pt_eqn rfl
theorem peqs25 {p : Nat × Nat} : binA Try.T .eql 25 (.ptr (some p)) (.ptr none) = some (.bool false) := pt_eqs rfl
theorem pnen25 : binA Try.T .neq 25 (.ptr none) (.ptr none) = some (.bool false) := pt_nen rfl
theorem pnes25 {p : Nat × Nat} : binA Try.T .neq 25 (.ptr (some p)) (.ptr none) = some (.bool true) := pt_nes rfl
theorem Td27 : (Try.T 27).desc = .pointer 29 := rfl
theorem Tz27 : (Try.T 27).zero = [.ptr none] := rfl
theorem ld27 : loadA Try.T h 27 (.ptr (some (i, o))) = rd1 o (h.get i) := ld_1 rfl rfl
theorem li27 : loadA Try.T h 27 (.iptr row o) = row[o]? := ldi_1 rfl rfl
theorem st27 : storeA Try.T h 27 (.ptr (some (i, o))) v = stC h i o 1 v.cells := st_n rfl rfl
theorem peqn27 : binA Try.T .eql 27 (.ptr none) (.ptr none) = some (.bool true) := pt_eqn rfl
theorem peqs27 {p : Nat × Nat} : binA Try.T .eql 27 (.ptr (some p)) (.ptr none) = some (.bool false) := pt_eqs rfl
theorem pnen27 : binA Try.T .neq 27 (.ptr none) (.ptr none) = some (.bool false) := pt_nen rfl
theorem pnes27 {p : Nat × Nat} : binA Try.T .neq 27 (.ptr (some p)) (.ptr none) = some (.bool true) := pt_nes rfl
theorem Td29 : (Try.T 29).desc = .struct [(23, 0, true), (23, 1, true), (23, 2, true), (23, 3, true), (3, 4, true)] := rfl
theorem Tz29 : (Try.T 29).zero = [.slice none 0 0 0 true, .slice none 0 0 0 true, .slice none 0 0 0 true, .slice none 0 0 0 true, .int .i64 0] := rfl
theorem ld29 : loadA Try.T h 29 (.ptr (some (i, o))) = rdN o 5 (h.get i) := ld_n rfl rfl rfl
theorem li29 : loadA Try.T h 29 (.iptr row o) = (cut row o 5).map .agg := ldi_n rfl rfl rfl
theorem st29 : storeA Try.T h 29 (.ptr (some (i, o))) v = stC h i o 5 v.cells := st_n rfl rfl
theorem lE29 [Inhabited α] (p : Sl E h i a l) (h0 : 0 ≤ j) (h1 : j < l.length) (h4 : Seen (Nat.beq E.sz 5)) : loadA Try.T h 29 (a.at E.sz 0 j) = some (.agg (E.f (l[j.toNat]!))) := p.ldn h0 h1 rfl rfl (Nat.eq_of_beq_eq_true h4.eq).symm
theorem bd29 {l : List (Nat × AV)} : bldR Try.T 29 (some l) = (fillA (plA Try.T 29) (Try.T 29).zero l).map .agg := bld_eq rfl
theorem pl29_0 : plA Try.T 29 0 = some (0, 1) := rfl
theorem pl29_1 : plA Try.T 29 1 = some (1, 1) := rfl
theorem pl29_2 : plA Try.T 29 2 = some (2, 1) := rfl
theorem pl29_3 : plA Try.T 29 3 = some (3, 1) := rfl
theorem pl29_4 : plA Try.T 29 4 = some (4, 1) := rfl
theorem fa29_0 : faR Try.T 29 0 (some (.ptr (some (i, o)))) = some (.ptr (some (i, o + 0))) := fa_ptr rfl (by decide) rfl
theorem fi29_0 : faR Try.T 29 0 (some (.iptr row o)) = some (.iptr row (o + 0)) := fa_iptr rfl (by decide) rfl
theorem fE29_0 (p : Sl E h i a l) (h0 : 0 ≤ j) (h1 : j < l.length) : faR Try.T 29 0 (some (a.at E.sz off0 j)) = some (a.at E.sz (off0 + 0) j) := p.fa h0 h1 rfl (by decide) rfl
theorem fl29_0 : fldR Try.T 29 0 (some (.agg cs)) = cs[0]? := fld_1 rfl rfl rfl
theorem fa29_1 : faR Try.T 29 1 (some (.ptr (some (i, o)))) = some (.ptr (some (i, o + 1))) := fa_ptr rfl (by decide) rfl
theorem fi29_1 : faR Try.T 29 1 (some (.iptr row o)) = some (.iptr row (o + 1)) := fa_iptr rfl (by decide) rfl
theorem fE29_1 (p : Sl E h i a l) (h0 : 0 ≤ j) (h1 : j < l.length) : faR Try.T 29 1 (some (a.at E.sz off0 j)) = some (a.at E.sz (off0 + 1) j) := p.fa h0 h1 rfl (by decide) rfl
theorem fl29_1 : fldR Try.T 29 1 (some (.agg cs)) = cs[1]? := fld_1 rfl rfl rfl
theorem fa29_2 : faR Try.T 29 2 (some (.ptr (some (i, o)))) = some (.ptr (some (i, o + 2))) := fa_ptr rfl (by decide) rfl
theorem fi29_2 : faR Try.T 29 2 (some (.iptr row o)) = some (.iptr row (o + 2)) := fa_iptr rfl (by decide) rfl
theorem fE29_2 (p : Sl E h i a l) (h0 : 0 ≤ j) (h1 : j < l.length) : faR Try.T 29 2 (some (a.at E.sz off0 j)) = some (a.at E.sz (off0 + 2) j) := p.fa h0 h1 rfl (by decide) rfl
theorem fl29_2 : fldR Try.T 29 2 (some (.agg cs)) = cs[2]? := fld_1 rfl rfl rfl
theorem fa29_3 : faR Try.T 29 3 (some (.ptr (some (i, o)))) = some (.ptr (some (i, o + 3))) := fa_ptr rfl (by decide) rfl
theorem fi29_3 : faR Try.T 29 3 (some (.iptr row o)) = some (.iptr row (o + 3)) := fa_iptr rfl (by decide) rfl
theorem fE29_3 (p : Sl E h i a l) (h0 : 0 ≤ j) (h1 : j < l.length) : faR Try.T 29 3 (some (a.at E.sz off0 j)) = some (a.at E.sz (off0 + 3) j) := p.fa h0 h1 rfl (by decide) rfl
theorem fl29_3 : fldR Try.T 29 3 (some (.agg cs)) = cs[3]? := fld_1 rfl rfl rfl
theorem fa29_4 : faR Try.T 29 4 (some (.ptr (some (i, o)))) = some (.ptr (some (i, o + 4))) := fa_ptr rfl (by decide) rfl
theorem fi29_4 : faR Try.T 29 4 (some (.iptr row o)) = some (.iptr row (o + 4)) := fa_iptr rfl (by decide) rfl
theorem fE29_4 (p : Sl E h i a l) (h0 : 0 ≤ j) (h1 : j < l.length) : faR Try.T 29 4 (some (a.at E.sz off0 j)) = some (a.at E.sz (off0 + 4) j) := p.fa h0 h1 rfl (by decide) rfl
theorem fl29_4 : fldR Try.T 29 4 (some (.agg cs)) = cs[4]? := fld_1 rfl rfl rfl
theorem Td32 : (Try.T 32).desc = .struct [(3, 0, true), (3, 1, true), (3, 2, true)] := rfl
theorem Tz32 : (Try.T 32).zero = [.int .i64 0, .int .i64 0, .int .i64 0] := rfl
theorem ld32 : loadA Try.T h 32 (.ptr (some (i, o))) = rdN o 3 (h.get i) := ld_n rfl rfl rfl
theorem li32 : loadA Try.T h 32 (.iptr row o) = (cut row o 3).map .agg := ldi_n rfl rfl rfl
theorem st32 : storeA Try.T h 32 (.ptr (some (i, o))) v = stC h i o 3 v.cells := st_n rfl rfl
theorem lE32 [Inhabited α] (p : Sl E h i a l) (h0 : 0 ≤ j) (h1 : j < l.length) (h4 : Seen (Nat.beq E.sz 3)) : loadA Try.T h 32 (a.at E.sz 0 j) = some (.agg (E.f (l[j.toNat]!))) := p.ldn h0 h1 rfl rfl (Nat.eq_of_beq_eq_true h4.eq).symm
theorem bd32 {l : List (Nat × AV)} : bldR Try.T 32 (some l) = (fillA (plA Try.T 32) (Try.T 32).zero l).map .agg := bld_eq rfl
theorem pl32_0 : plA Try.T 32 0 = some (0, 1) := rfl
theorem pl32_1 : plA Try.T 32 1 = some (1, 1) := rfl
theorem pl32_2 : plA Try.T 32 2 = some (2, 1) := rfl
theorem fa32_0 : faR Try.T 32 0 (some (.ptr (some (i, o)))) = some (.ptr (some (i, o + 0))) := fa_ptr rfl (by decide) rfl
theorem fi32_0 : faR Try.T 32 0 (some (.iptr row o)) = some (.iptr row (o + 0)) := fa_iptr rfl (by decide) rfl
theorem fE32_0 (p : Sl E h i a l) (h0 : 0 ≤ j) (h1 : j < l.length) : faR Try.T 32 0 (some (a.at E.sz off0 j)) = some (a.at E.sz (off0 + 0) j) := p.fa h0 h1 rfl (by decide) rfl
theorem fl32_0 : fldR Try.T 32 0 (some (.agg cs)) = cs[0]? := fld_1 rfl rfl rfl
theorem fa32_1 : faR Try.T 32 1 (some (.ptr (some (i, o)))) = some (.ptr (some (i, o + 1))) := fa_ptr rfl (by decide) rfl
theorem fi32_1 : faR Try.T 32 1 (some (.iptr row o)) = some (.iptr row (o + 1)) := fa_iptr rfl (by decide) rfl
theorem fE32_1 (p : Sl E h i a l) (h0 : 0 ≤ j) (h1 : j < l.length) : faR Try.T 32 1 (some (a.at E.sz off0 j)) = some (a.at E.sz (off0 + 1) j) := p.fa h0 h1 rfl (by decide) rfl
theorem fl32_1 : fldR Try.T 32 1 (some (.agg cs)) = cs[1]? := fld_1 rfl rfl rfl
theorem fa32_2 : faR Try.T 32 2 (some (.ptr (some (i, o)))) = some (.ptr (some (i, o + 2))) := fa_ptr rfl (by decide) rfl
theorem fi32_2 : faR Try.T 32 2 (some (.iptr row o)) = some (.iptr row (o + 2)) := fa_iptr rfl (by decide) rfl
theorem fE32_2 (p : Sl E h i a l) (h0 : 0 ≤ j) (h1 : j < l.length) : faR Try.T 32 2 (some (a.at E.sz off0 j)) = some (a.at E.sz (off0 + 2) j) := p.fa h0 h1 rfl (by decide) rfl
theorem fl32_2 : fldR Try.T 32 2 (some (.agg cs)) = cs[2]? := fld_1 rfl rfl rfl
theorem Td36 : (Try.T 36).desc = .func := rfl
theorem Tz36 : (Try.T 36).zero = [.nilFunc] := rfl
theorem ld36 : loadA Try.T h 36 (.ptr (some (i, o))) = rd1 o (h.get i) := ld_1 rfl rfl
theorem li36 : loadA Try.T h 36 (.iptr row o) = row[o]? := ldi_1 rfl rfl
theorem st36 : storeA Try.T h 36 (.ptr (some (i, o))) v = stC h i o 1 v.cells := st_n rfl rfl
theorem feqs36 {f : FuncId} : binA Try.T .eql 36 (.func f cs) .nilFunc = some (.bool false) := fn_eqs rfl
theorem feqn36 : binA Try.T .eql 36 .nilFunc .nilFunc = some (.bool true) := fn_eqn rfl
theorem Td39 : (Try.T 39).desc = .slice 9 := rfl
theorem Tz39 : (Try.T 39).zero = [.slice none 0 0 0 true] := rfl
theorem ld39 : loadA Try.T h 39 (.ptr (some (i, o))) = rd1 o (h.get i) := ld_1 rfl rfl
theorem li39 : loadA Try.T h 39 (.iptr row o) = row[o]? := ldi_1 rfl rfl
theorem st39 : storeA Try.T h 39 (.ptr (some (i, o))) v = stC h i o 1 v.cells := st_n rfl rfl
theorem len39 (p : Sl E h i a l) : builtinA Try.T h' .len [39] [a] = some (.int .i64 (l.length : Int), h') := p.len rfl
theorem ix39 (p : Sl E h i a l) (h0 : 0 ≤ j) (h1 : j < l.length) (h2 : Seen (Nat.beq E.sz 1)) : idxA Try.T 39 a (.int k j) = some (a.at E.sz 0 j) := p.idx h0 h1 rfl rfl (Nat.eq_of_beq_eq_true h2.eq).symm
theorem wr9 {P : Program} {ops : Array Oper} {L : List Oper} {K : Tm → AH → Prop} {d : Option Nat} {tm : Tm} (p : Ow E h i a l) (x : α) (hx : v.cells = E.f x) (h0 : 0 ≤ j) (h1 : j < l.length) (h2 : Seen (Nat.beq E.sz 1)) (hk : ∀ h', Ow E h' i a (l.set j.toNat x) → h'.size = h.size → (∀ b, ¬ b = i → h'.get b = h.get b) → putM P Try.T ops L K d tm undefA h') : ansM P Try.T ops L K d tm h ((storeA Try.T h 9 (a.at E.sz 0 j) v).map fun h' => .val undefA h') :=
  ans_wr p x hx h0 h1 rfl (Nat.eq_of_beq_eq_true h2.eq).symm hk
theorem br39 {n : Nat} {l : List (Nat × AV)} (hn : Seen (Nat.beq l.length n && (Nat.ble n 10000 && bsOk 0 l))) : bsR Try.T h 39 n (some l) = some (.val (.slice (some (h.size, 0)) n n 1 true) (h.push (.cells (l.map (·.2))))) := bs_row rfl rfl rfl rfl hn
theorem bs39 (hv : Seen (match v with | .agg _ | .tuple _ => false | _ => true)) : bsR Try.T h 39 1 (some [(0, v)]) = some (.val (.slice (some (h.size, 0)) 1 1 1 true) (h.push (.cells [v]))) := bs_one rfl rfl rfl rfl hv
theorem sl39 (p : Sl E h i a l) (h0 : 0 ≤ x) (h1 : x ≤ y) (h2 : y ≤ l.length) (h3 : Seen (Nat.beq E.sz 1)) : sliceA Try.T 39 a (some x) (some y) none = some (a.part x y) := p.slc h0 h1 h2 rfl rfl (Nat.eq_of_beq_eq_true h3.eq).symm
theorem sm39 (p : Sl E h i a l) (h1 : 0 ≤ y) (h2 : y ≤ l.length) (h3 : Seen (Nat.beq E.sz 1)) : sliceA Try.T 39 a none (some y) none = some (a.part 0 y) := p.slc (lo := none) (Int.le_refl _) h1 h2 rfl rfl (Nat.eq_of_beq_eq_true h3.eq).symm
theorem sn39 (p : Sl E h i a l) (h0 : 0 ≤ x) (h1 : x ≤ l.length) (h3 : Seen (Nat.beq E.sz 1)) : sliceA Try.T 39 a (some x) none none = some (a.part x l.length) := p.slc (hi := none) h0 h1 (Int.le_refl _) rfl rfl (Nat.eq_of_beq_eq_true h3.eq).symm
theorem ap39 {P : Program} {ops : Array Oper} {L : List Oper} {K : Tm → AH → Prop} {d : Option Nat} {tm : Tm} {x : AV} {new : List α} {ix : Nat} (p : Ow E h i a l) (hx : Sl E h ix x new) (h2 : Seen (Nat.beq E.sz 1)) (hr : (l.length + new.length) * 16 ≤ 140737488355328) (hk : ∀ z h' i', Ow E h' i' z (l ++ new) → (i' = i ∨ h.size ≤ i') → h.size ≤ h'.size → (∀ j, j < h.size → ¬ j = i → h'.get j = h.get j) → putM P Try.T ops L K d tm z h') : ansM P Try.T ops L K d tm h (pairR (appendA Try.T h 39 39 a x)) :=
  ans_app p hx rfl ⟨_, rfl⟩ rfl (Nat.eq_of_beq_eq_true h2.eq).symm (Nat.eq_of_beq_eq_true h2.eq).symm (by decide) hr hk
theorem al39 {P : Program} {ops : Array Oper} {L : List Oper} {K : Tm → AH → Prop} {d : Option Nat} {tm : Tm} {sz : Nat} (x : α) (p : Ow E h i a l) (hx : cs = E.f x) (hs : sz = E.sz) (h2 : Seen (Nat.beq E.sz 1)) (hr : (l.length + 1) * 16 ≤ 140737488355328) (hk : ∀ z h' i', Ow E h' i' z (l ++ [x]) → (i' = i ∨ h.size ≤ i') → h.size ≤ h'.size → (∀ j, j < h.size → ¬ j = i → h'.get j = h.get j) → putM P Try.T ops L K d tm z h') : ansM P Try.T ops L K d tm (h.push (.cells cs)) (pairR (appendA Try.T (h.push (.cells cs)) 39 39 a (.slice (some (h.size, 0)) 1 1 sz true))) :=
  ans_app1 p x hx hs rfl rfl (Nat.eq_of_beq_eq_true h2.eq).symm (Nat.eq_of_beq_eq_true h2.eq).symm (by decide) hr hk
theorem eqn39 {l1 c1 z1 l2 c2 z2 : Nat} {x1 x2 : Bool} : binA Try.T .eql 39 (.slice none l1 c1 z1 x1) (.slice none l2 c2 z2 x2) = some (.bool true) := sl_eqn rfl
theorem eqs39 {l1 c1 z1 l2 c2 z2 : Nat} {x1 x2 : Bool} {p : Nat × Nat} : binA Try.T .eql 39 (.slice (some p) l1 c1 z1 x1) (.slice none l2 c2 z2 x2) = some (.bool false) := sl_eqs rfl
theorem eqi39 {l2 c2 z2 a1 b1 c1 d1 : Nat} {x2 : Bool} : binA Try.T .eql 39 (.islice row a1 b1 c1 d1) (.slice none l2 c2 z2 x2) = some (.bool false) := sl_eqi rfl
theorem Td40 : (Try.T 40).desc = .pointer 65 := rfl
theorem Tz40 : (Try.T 40).zero = [.ptr none] := rfl
theorem ld40 : loadA Try.T h 40 (.ptr (some (i, o))) = rd1 o (h.get i) := ld_1 rfl rfl
theorem li40 : loadA Try.T h 40 (.iptr row o) = row[o]? := ldi_1 rfl rfl
theorem st40 : storeA Try.T h 40 (.ptr (some (i, o))) v = stC h i o 1 v.cells := st_n rfl rfl
theorem peqn40 : binA Try.T .eql 40 (.ptr none) (.ptr none) = some (.bool true) := pt_eqn rfl
theorem peqs40 {p : Nat × Nat} : binA Try.T .eql 40 (.ptr (some p)) (.ptr none) = some (.bool false) := pt_eqs rfl
theorem pnen40 : binA Try.T .neq 40 (.ptr none) (.ptr none) = some (.bool false) := pt_nen rfl
theorem pnes40 {p : Nat × Nat} : binA Try.T .neq 40 (.ptr (some p)) (.ptr none) = some (.bool true) := pt_nes rfl
theorem Td41 : (Try.T 41).desc = .func := rfl
theorem Tz41 : (Try.T 41).zero = [.nilFunc] := rfl
theorem ld41 : loadA Try.T h 41 (.ptr (some (i, o))) = rd1 o (h.get i) := ld_1 rfl rfl
theorem li41 : loadA Try.T h 41 (.iptr row o) = row[o]? := ldi_1 rfl rfl
theorem st41 : storeA Try.T h 41 (.ptr (some (i, o))) v = stC h i o 1 v.cells := st_n rfl rfl
theorem feqs41 {f : FuncId} : binA Try.T .eql 41 (.func f cs) .nilFunc = some (.bool false) := fn_eqs rfl
theorem feqn41 : binA Try.T .eql 41 .nilFunc .nilFunc = some (.bool true) := fn_eqn rfl
theorem Td42 : (Try.T 42).desc = .int .i64 := rfl
theorem Tz42 : (Try.T 42).zero = [.int .i64 0] := rfl
theorem ld42 : loadA Try.T h 42 (.ptr (some (i, o))) = rd1 o (h.get i) := ld_1 rfl rfl
theorem li42 : loadA Try.T h 42 (.iptr row o) = row[o]? := ldi_1 rfl rfl
theorem st42 : storeA Try.T h 42 (.ptr (some (i, o))) v = stC h i o 1 v.cells := st_n rfl rfl
theorem lI42 {l : List Int} (p : Sl EI h i a l) (h0 : 0 ≤ j) (h1 : j < l.length) : loadA Try.T h 42 (a.at EI.sz 0 j) = some (.int .i64 (l[j.toNat]!)) := p.ldI h0 h1 rfl rfl
theorem Td48 : (Try.T 48).desc = .func := rfl
theorem Tz48 : (Try.T 48).zero = [.nilFunc] := rfl
theorem ld48 : loadA Try.T h 48 (.ptr (some (i, o))) = rd1 o (h.get i) := ld_1 rfl rfl
theorem li48 : loadA Try.T h 48 (.iptr row o) = row[o]? := ldi_1 rfl rfl
theorem st48 : storeA Try.T h 48 (.ptr (some (i, o))) v = stC h i o 1 v.cells := st_n rfl rfl
theorem feqs48 {f : FuncId} : binA Try.T .eql 48 (.func f cs) .nilFunc = some (.bool false) := fn_eqs rfl
theorem feqn48 : binA Try.T .eql 48 .nilFunc .nilFunc = some (.bool true) := fn_eqn rfl
theorem Td49 : (Try.T 49).desc = .func := rfl
theorem Tz49 : (Try.T 49).zero = [.nilFunc] := rfl
theorem ld49 : loadA Try.T h 49 (.ptr (some (i, o))) = rd1 o (h.get i) := ld_1 rfl rfl
theorem li49 : loadA Try.T h 49 (.iptr row o) = row[o]? := ldi_1 rfl rfl
theorem st49 : storeA Try.T h 49 (.ptr (some (i, o))) v = stC h i o 1 v.cells := st_n rfl rfl
theorem feqs49 {f : FuncId} : binA Try.T .eql 49 (.func f cs) .nilFunc = some (.bool false) := fn_eqs rfl
theorem feqn49 : binA Try.T .eql 49 .nilFunc .nilFunc = some (.bool true) := fn_eqn rfl
theorem Td51 : (Try.T 51).desc = .func := rfl
theorem Tz51 : (Try.T 51).zero = [.nilFunc] := rfl
theorem ld51 : loadA Try.T h 51 (.ptr (some (i, o))) = rd1 o (h.get i) := ld_1 rfl rfl
theorem li51 : loadA Try.T h 51 (.iptr row o) = row[o]? := ldi_1 rfl rfl
theorem st51 : storeA Try.T h 51 (.ptr (some (i, o))) v = stC h i o 1 v.cells := st_n rfl rfl
theorem feqs51 {f : FuncId} : binA Try.T .eql 51 (.func f cs) .nilFunc = some (.bool false) := fn_eqs rfl
theorem feqn51 : binA Try.T .eql 51 .nilFunc .nilFunc = some (.bool true) := fn_eqn rfl
theorem Td52 : (Try.T 52).desc = .func := rfl
theorem Tz52 : (Try.T 52).zero = [.nilFunc] := rfl
theorem ld52 : loadA Try.T h 52 (.ptr (some (i, o))) = rd1 o (h.get i) := ld_1 rfl rfl
theorem li52 : loadA Try.T h 52 (.iptr row o) = row[o]? := ldi_1 rfl rfl
theorem st52 : storeA Try.T h 52 (.ptr (some (i, o))) v = stC h i o 1 v.cells := st_n rfl rfl
theorem feqs52 {f : FuncId} : binA Try.T .eql 52 (.func f cs) .nilFunc = some (.bool false) := fn_eqs rfl
theorem feqn52 : binA Try.T .eql 52 .nilFunc .nilFunc = some (.bool true) := fn_eqn rfl
theorem Td53 : (Try.T 53).desc = .pointer 81 := rfl
theorem Tz53 : (Try.T 53).zero = [.ptr none] := rfl
theorem ld53 : loadA Try.T h 53 (.ptr (some (i, o))) = rd1 o (h.get i) := ld_1 rfl rfl
theorem li53 : loadA Try.T h 53 (.iptr row o) = row[o]? := ldi_1 rfl rfl
theorem st53 : storeA Try.T h 53 (.ptr (some (i, o))) v = stC h i o 1 v.cells := st_n rfl rfl
theorem peqn53 : binA Try.T .eql 53 (.ptr none) (.ptr none) = some (.bool true) := pt_eqn rfl
theorem peqs53 {p : Nat × Nat} : binA Try.T .eql 53 (.ptr (some p)) (.ptr none) = some (.bool false) := pt_eqs rfl
theorem pnen53 : binA Try.T .neq 53 (.ptr none) (.ptr none) = some (.bool false) := pt_nen rfl
theorem pnes53 {p : Nat × Nat} : binA Try.T .neq 53 (.ptr (some p)) (.ptr none) = some (.bool true) := pt_nes rfl
theorem Td56 : (Try.T 56).desc = .func := rfl
theorem Tz56 : (Try.T 56).zero = [.nilFunc] := rfl
theorem ld56 : loadA Try.T h 56 (.ptr (some (i, o))) = rd1 o (h.get i) := ld_1 rfl rfl
theorem li56 : loadA Try.T h 56 (.iptr row o) = row[o]? := ldi_1 rfl rfl
theorem st56 : storeA Try.T h 56 (.ptr (some (i, o))) v = stC h i o 1 v.cells := st_n rfl rfl
theorem feqs56 {f : FuncId} : binA Try.T .eql 56 (.func f cs) .nilFunc = some (.bool false) := fn_eqs rfl
theorem feqn56 : binA Try.T .eql 56 .nilFunc .nilFunc = some (.bool true) := fn_eqn rfl
theorem Td57 : (Try.T 57).desc = .slice 62 := rfl
theorem Tz57 : (Try.T 57).zero = [.slice none 0 0 0 true] := rfl
theorem ld57 : loadA Try.T h 57 (.ptr (some (i, o))) = rd1 o (h.get i) := ld_1 rfl rfl
theorem li57 : loadA Try.T h 57 (.iptr row o) = row[o]? := ldi_1 rfl rfl
theorem st57 : storeA Try.T h 57 (.ptr (some (i, o))) v = stC h i o 1 v.cells := st_n rfl rfl
theorem len57 (p : Sl E h i a l) : builtinA Try.T h' .len [57] [a] = some (.int .i64 (l.length : Int), h') := p.len rfl
theorem ix57 (p : Sl E h i a l) (h0 : 0 ≤ j) (h1 : j < l.length) (h2 : Seen (Nat.beq E.sz 2)) : idxA Try.T 57 a (.int k j) = some (a.at E.sz 0 j) := p.idx h0 h1 rfl rfl (Nat.eq_of_beq_eq_true h2.eq).symm
theorem wr62 {P : Program} {ops : Array Oper} {L : List Oper} {K : Tm → AH → Prop} {d : Option Nat} {tm : Tm} (p : Ow E h i a l) (x : α) (hx : v.cells = E.f x) (h0 : 0 ≤ j) (h1 : j < l.length) (h2 : Seen (Nat.beq E.sz 2)) (hk : ∀ h', Ow E h' i a (l.set j.toNat x) → h'.size = h.size → (∀ b, ¬ b = i → h'.get b = h.get b) → putM P Try.T ops L K d tm undefA h') : ansM P Try.T ops L K d tm h ((storeA Try.T h 62 (a.at E.sz 0 j) v).map fun h' => .val undefA h') :=
  ans_wr p x hx h0 h1 rfl (Nat.eq_of_beq_eq_true h2.eq).symm hk
theorem w62_0_3 {P : Program} {ops : Array Oper} {L : List Oper} {K : Tm → AH → Prop} {d : Option Nat} {tm : Tm} [Inhabited α] (p : Ow E h i a l) (x : α) (hx : E.f x = (E.f (l[j.toNat]!)).set 0 v) (hv : v.cells = [v]) (hv1 : v.one = true) (h0 : 0 ≤ j) (h1 : j < l.length) (h2 : Seen (Nat.blt 0 E.sz)) (hk : ∀ h', Ow E h' i a (l.set j.toNat x) → h'.size = h.size → (∀ b, ¬ b = i → h'.get b = h.get b) → putM P Try.T ops L K d tm undefA h') : ansM P Try.T ops L K d tm h ((storeA Try.T h 3 (a.at E.sz 0 j) v).map fun h' => .val undefA h') :=
  ans_wr1 p x hx hv hv1 (by simpa [Nat.blt_eq] using h2.eq) h0 h1 rfl rfl hk
theorem w62_1_3 {P : Program} {ops : Array Oper} {L : List Oper} {K : Tm → AH → Prop} {d : Option Nat} {tm : Tm} [Inhabited α] (p : Ow E h i a l) (x : α) (hx : E.f x = (E.f (l[j.toNat]!)).set 1 v) (hv : v.cells = [v]) (hv1 : v.one = true) (h0 : 0 ≤ j) (h1 : j < l.length) (h2 : Seen (Nat.blt 1 E.sz)) (hk : ∀ h', Ow E h' i a (l.set j.toNat x) → h'.size = h.size → (∀ b, ¬ b = i → h'.get b = h.get b) → putM P Try.T ops L K d tm undefA h') : ansM P Try.T ops L K d tm h ((storeA Try.T h 3 (a.at E.sz 1 j) v).map fun h' => .val undefA h') :=
  ans_wr1 p x hx hv hv1 (by simpa [Nat.blt_eq] using h2.eq) h0 h1 rfl rfl hk
theorem sl57 (p : Sl E h i a l) (h0 : 0 ≤ x) (h1 : x ≤ y) (h2 : y ≤ l.length) (h3 : Seen (Nat.beq E.sz 2)) : sliceA Try.T 57 a (some x) (some y) none = some (a.part x y) := p.slc h0 h1 h2 rfl rfl (Nat.eq_of_beq_eq_true h3.eq).symm
theorem sm57 (p : Sl E h i a l) (h1 : 0 ≤ y) (h2 : y ≤ l.length) (h3 : Seen (Nat.beq E.sz 2)) : sliceA Try.T 57 a none (some y) none = some (a.part 0 y) := p.slc (lo := none) (Int.le_refl _) h1 h2 rfl rfl (Nat.eq_of_beq_eq_true h3.eq).symm
theorem sn57 (p : Sl E h i a l) (h0 : 0 ≤ x) (h1 : x ≤ l.length) (h3 : Seen (Nat.beq E.sz 2)) : sliceA Try.T 57 a (some x) none none = some (a.part x l.length) := p.slc (hi := none) h0 h1 (Int.le_refl _) rfl rfl (Nat.eq_of_beq_eq_true h3.eq).symm
theorem ap57 {P : Program} {ops : Array Oper} {L : List Oper} {K : Tm → AH → Prop} {d : Option Nat} {tm : Tm} {x : AV} {new : List α} {ix : Nat} (p : Ow E h i a l) (hx : Sl E h ix x new) (h2 : Seen (Nat.beq E.sz 2)) (hr : (l.length + new.length) * 16 ≤ 140737488355328) (hk : ∀ z h' i', Ow E h' i' z (l ++ new) → (i' = i ∨ h.size ≤ i') → h.size ≤ h'.size → (∀ j, j < h.size → ¬ j = i → h'.get j = h.get j) → putM P Try.T ops L K d tm z h') : ansM P Try.T ops L K d tm h (pairR (appendA Try.T h 57 57 a x)) :=
  ans_app p hx rfl ⟨_, rfl⟩ rfl (Nat.eq_of_beq_eq_true h2.eq).symm (Nat.eq_of_beq_eq_true h2.eq).symm (by decide) hr hk
theorem al57 {P : Program} {ops : Array Oper} {L : List Oper} {K : Tm → AH → Prop} {d : Option Nat} {tm : Tm} {sz : Nat} (x : α) (p : Ow E h i a l) (hx : cs = E.f x) (hs : sz = E.sz) (h2 : Seen (Nat.beq E.sz 2)) (hr : (l.length + 1) * 16 ≤ 140737488355328) (hk : ∀ z h' i', Ow E h' i' z (l ++ [x]) → (i' = i ∨ h.size ≤ i') → h.size ≤ h'.size → (∀ j, j < h.size → ¬ j = i → h'.get j = h.get j) → putM P Try.T ops L K d tm z h') : ansM P Try.T ops L K d tm (h.push (.cells cs)) (pairR (appendA Try.T (h.push (.cells cs)) 57 57 a (.slice (some (h.size, 0)) 1 1 sz true))) :=
  ans_app1 p x hx hs rfl rfl (Nat.eq_of_beq_eq_true h2.eq).symm (Nat.eq_of_beq_eq_true h2.eq).symm (by decide) hr hk
theorem eqn57 {l1 c1 z1 l2 c2 z2 : Nat} {x1 x2 : Bool} : binA Try.T .eql 57 (.slice none l1 c1 z1 x1) (.slice none l2 c2 z2 x2) = some (.bool true) := sl_eqn rfl
theorem eqs57 {l1 c1 z1 l2 c2 z2 : Nat} {x1 x2 : Bool} {p : Nat × Nat} : binA Try.T .eql 57 (.slice (some p) l1 c1 z1 x1) (.slice none l2 c2 z2 x2) = some (.bool false) := sl_eqs rfl
theorem eqi57 {l2 c2 z2 a1 b1 c1 d1 : Nat} {x2 : Bool} : binA Try.T .eql 57 (.islice row a1 b1 c1 d1) (.slice none l2 c2 z2 x2) = some (.bool false) := sl_eqi rfl
theorem Td58 : (Try.T 58).desc = .slice 77 := rfl
theorem Tz58 : (Try.T 58).zero = [.slice none 0 0 0 true] := rfl
theorem ld58 : loadA Try.T h 58 (.ptr (some (i, o))) = rd1 o (h.get i) := ld_1 rfl rfl
theorem li58 : loadA Try.T h 58 (.iptr row o) = row[o]? := ldi_1 rfl rfl
theorem st58 : storeA Try.T h 58 (.ptr (some (i, o))) v = stC h i o 1 v.cells := st_n rfl rfl
theorem len58 (p : Sl E h i a l) : builtinA Try.T h' .len [58] [a] = some (.int .i64 (l.length : Int), h') := p.len rfl
theorem ix58 (p : Sl E h i a l) (h0 : 0 ≤ j) (h1 : j < l.length) (h2 : Seen (Nat.beq E.sz 2)) : idxA Try.T 58 a (.int k j) = some (a.at E.sz 0 j) := p.idx h0 h1 rfl rfl (Nat.eq_of_beq_eq_true h2.eq).symm
theorem wr77 {P : Program} {ops : Array Oper} {L : List Oper} {K : Tm → AH → Prop} {d : Option Nat} {tm : Tm} (p : Ow E h i a l) (x : α) (hx : v.cells = E.f x) (h0 : 0 ≤ j) (h1 : j < l.length) (h2 : Seen (Nat.beq E.sz 2)) (hk : ∀ h', Ow E h' i a (l.set j.toNat x) → h'.size = h.size → (∀ b, ¬ b = i → h'.get b = h.get b) → putM P Try.T ops L K d tm undefA h') : ansM P Try.T ops L K d tm h ((storeA Try.T h 77 (a.at E.sz 0 j) v).map fun h' => .val undefA h') :=
  ans_wr p x hx h0 h1 rfl (Nat.eq_of_beq_eq_true h2.eq).symm hk
theorem w77_0_3 {P : Program} {ops : Array Oper} {L : List Oper} {K : Tm → AH → Prop} {d : Option Nat} {tm : Tm} [Inhabited α] (p : Ow E h i a l) (x : α) (hx : E.f x = (E.f (l[j.toNat]!)).set 0 v) (hv : v.cells = [v]) (hv1 : v.one = true) (h0 : 0 ≤ j) (h1 : j < l.length) (h2 : Seen (Nat.blt 0 E.sz)) (hk : ∀ h', Ow E h' i a (l.set j.toNat x) → h'.size = h.size → (∀ b, ¬ b = i → h'.get b = h.get b) → putM P Try.T ops L K d tm undefA h') : ansM P Try.T ops L K d tm h ((storeA Try.T h 3 (a.at E.sz 0 j) v).map fun h' => .val undefA h') :=
  ans_wr1 p x hx hv hv1 (by simpa [Nat.blt_eq] using h2.eq) h0 h1 rfl rfl hk
theorem w77_1_3 {P : Program} {ops : Array Oper} {L : List Oper} {K : Tm → AH → Prop} {d : Option Nat} {tm : Tm} [Inhabited α] (p : Ow E h i a l) (x : α) (hx : E.f x = (E.f (l[j.toNat]!)).set 1 v) (hv : v.cells = [v]) (hv1 : v.one = true) (h0 : 0 ≤ j) (h1 : j < l.length) (h2 : Seen (Nat.blt 1 E.sz)) (hk : ∀ h', Ow E h' i a (l.set j.toNat x) → h'.size = h.size → (∀ b, ¬ b = i → h'.get b = h.get b) → putM P Try.T ops L K d tm undefA h') : ansM P Try.T ops L K d tm h ((storeA Try.T h 3 (a.at E.sz 1 j) v).map fun h' => .val undefA h') :=
  ans_wr1 p x hx hv hv1 (by simpa [Nat.blt_eq] using h2.eq) h0 h1 rfl rfl hk
theorem sl58 (p : Sl E h i a l) (h0 : 0 ≤ x) (h1 : x ≤ y) (h2 : y ≤ l.length) (h3 : Seen (Nat.beq E.sz 2)) : sliceA Try.T 58 a (some x) (some y) none = some (a.part x y) := p.slc h0 h1 h2 rfl rfl (Nat.eq_of_beq_eq_true h3.eq).symm
theorem sm58 (p : Sl E h i a l) (h1 : 0 ≤ y) (h2 : y ≤ l.length) (h3 : Seen (Nat.beq E.sz 2)) : sliceA Try.T 58 a none (some y) none = some (a.part 0 y) := p.slc (lo := none) (Int.le_refl _) h1 h2 rfl rfl (Nat.eq_of_beq_eq_true h3.eq).symm
theorem sn58 (p : Sl E h i a l) (h0 : 0 ≤ x) (h1 : x ≤ l.length) (h3 : Seen (Nat.beq E.sz 2)) : sliceA Try.T 58 a (some x) none none = some (a.part x l.length) := p.slc (hi := none) h0 h1 (Int.le_refl _) rfl rfl (Nat.eq_of_beq_eq_true h3.eq).symm
theorem ap58 {P : Program} {ops : Array Oper} {L : List Oper} {K : Tm → AH → Prop} {d : Option Nat} {tm : Tm} {x : AV} {new : List α} {ix : Nat} (p : Ow E h i a l) (hx : Sl E h ix x new) (h2 : Seen (Nat.beq E.sz 2)) (hr : (l.length + new.length) * 16 ≤ 140737488355328) (hk : ∀ z h' i', Ow E h' i' z (l ++ new) → (i' = i ∨ h.size ≤ i') → h.size ≤ h'.size → (∀ j, j < h.size → ¬ j = i → h'.get j = h.get j) → putM P Try.T ops L K d tm z h') : ansM P Try.T ops L K d tm h (pairR (appendA Try.T h 58 58 a x)) :=
  ans_app p hx rfl ⟨_, rfl⟩ rfl (Nat.eq_of_beq_eq_true h2.eq).symm (Nat.eq_of_beq_eq_true h2.eq).symm (by decide) hr hk
theorem al58 {P : Program} {ops : Array Oper} {L : List Oper} {K : Tm → AH → Prop} {d : Option Nat} {tm : Tm} {sz : Nat} (x : α) (p : Ow E h i a l) (hx : cs = E.f x) (hs : sz = E.sz) (h2 : Seen (Nat.beq E.sz 2)) (hr : (l.length + 1) * 16 ≤ 140737488355328) (hk : ∀ z h' i', Ow E h' i' z (l ++ [x]) → (i' = i ∨ h.size ≤ i') → h.size ≤ h'.size → (∀ j, j < h.size → ¬ j = i → h'.get j = h.get j) → putM P Try.T ops L K d tm z h') : ansM P Try.T ops L K d tm (h.push (.cells cs)) (pairR (appendA Try.T (h.push (.cells cs)) 58 58 a (.slice (some (h.size, 0)) 1 1 sz true))) :=
  ans_app1 p x hx hs rfl rfl (Nat.eq_of_beq_eq_true h2.eq).symm (Nat.eq_of_beq_eq_true h2.eq).symm (by decide) hr hk
theorem eqn58 {l1 c1 z1 l2 c2 z2 : Nat} {x1 x2 : Bool} : binA Try.T .eql 58 (.slice none l1 c1 z1 x1) (.slice none l2 c2 z2 x2) = some (.bool true) := sl_eqn rfl
theorem eqs58 {l1 c1 z1 l2 c2 z2 : Nat} {x1 x2 : Bool} {p : Nat × Nat} : binA Try.T .eql 58 (.slice (some p) l1 c1 z1 x1) (.slice none l2 c2 z2 x2) = some (.bool false) := sl_eqs rfl
theorem eqi58 {l2 c2 z2 a1 b1 c1 d1 : Nat} {x2 : Bool} : binA Try.T .eql 58 (.islice row a1 b1 c1 d1) (.slice none l2 c2 z2 x2) = some (.bool false) := sl_eqi rfl
theorem Td60 : (Try.T 60).desc = .struct [(57, 0, true), (58, 1, true), (3, 2, true)] := rfl
theorem Tz60 : (Try.T 60).zero = [.slice none 0 0 0 true, .slice none 0 0 0 true, .int .i64 0] := rfl
theorem ld60 : loadA Try.T h 60 (.ptr (some (i, o))) = rdN o 3 (h.get i) := ld_n rfl rfl rfl
theorem li60 : loadA Try.T h 60 (.iptr row o) = (cut row o 3).map .agg := ldi_n rfl rfl rfl
theorem st60 : storeA Try.T h 60 (.ptr (some (i, o))) v = stC h i o 3 v.cells := st_n rfl rfl
theorem lE60 [Inhabited α] (p : Sl E h i a l) (h0 : 0 ≤ j) (h1 : j < l.length) (h4 : Seen (Nat.beq E.sz 3)) : loadA Try.T h 60 (a.at E.sz 0 j) = some (.agg (E.f (l[j.toNat]!))) := p.ldn h0 h1 rfl rfl (Nat.eq_of_beq_eq_true h4.eq).symm
theorem bd60 {l : List (Nat × AV)} : bldR Try.T 60 (some l) = (fillA (plA Try.T 60) (Try.T 60).zero l).map .agg := bld_eq rfl
theorem pl60_0 : plA Try.T 60 0 = some (0, 1) := rfl
theorem pl60_1 : plA Try.T 60 1 = some (1, 1) := rfl
theorem pl60_2 : plA Try.T 60 2 = some (2, 1) := rfl
theorem fa60_0 : faR Try.T 60 0 (some (.ptr (some (i, o)))) = some (.ptr (some (i, o + 0))) := fa_ptr rfl (by decide) rfl
theorem fi60_0 : faR Try.T 60 0 (some (.iptr row o)) = some (.iptr row (o + 0)) := fa_iptr rfl (by decide) rfl
theorem fE60_0 (p : Sl E h i a l) (h0 : 0 ≤ j) (h1 : j < l.length) : faR Try.T 60 0 (some (a.at E.sz off0 j)) = some (a.at E.sz (off0 + 0) j) := p.fa h0 h1 rfl (by decide) rfl
theorem fl60_0 : fldR Try.T 60 0 (some (.agg cs)) = cs[0]? := fld_1 rfl rfl rfl
theorem fa60_1 : faR Try.T 60 1 (some (.ptr (some (i, o)))) = some (.ptr (some (i, o + 1))) := fa_ptr rfl (by decide) rfl
theorem fi60_1 : faR Try.T 60 1 (some (.iptr row o)) = some (.iptr row (o + 1)) := fa_iptr rfl (by decide) rfl
theorem fE60_1 (p : Sl E h i a l) (h0 : 0 ≤ j) (h1 : j < l.length) : faR Try.T 60 1 (some (a.at E.sz off0 j)) = some (a.at E.sz (off0 + 1) j) := p.fa h0 h1 rfl (by decide) rfl
theorem fl60_1 : fldR Try.T 60 1 (some (.agg cs)) = cs[1]? := fld_1 rfl rfl rfl
theorem fa60_2 : faR Try.T 60 2 (some (.ptr (some (i, o)))) = some (.ptr (some (i, o + 2))) := fa_ptr rfl (by decide) rfl
theorem fi60_2 : faR Try.T 60 2 (some (.iptr row o)) = some (.iptr row (o + 2)) := fa_iptr rfl (by decide) rfl
theorem fE60_2 (p : Sl E h i a l) (h0 : 0 ≤ j) (h1 : j < l.length) : faR Try.T 60 2 (some (a.at E.sz off0 j)) = some (a.at E.sz (off0 + 2) j) := p.fa h0 h1 rfl (by decide) rfl
theorem fl60_2 : fldR Try.T 60 2 (some (.agg cs)) = cs[2]? := fld_1 rfl rfl rfl
theorem Td62 : (Try.T 62).desc = .struct [(3, 0, true), (3, 1, true)] := rfl
theorem Tz62 : (Try.T 62).zero = [.int .i64 0, .int .i64 0] := rfl
theorem ld62 : loadA Try.T h 62 (.ptr (some (i, o))) = rdN o 2 (h.get i) := ld_n rfl rfl rfl
theorem li62 : loadA Try.T h 62 (.iptr row o) = (cut row o 2).map .agg := ldi_n rfl rfl rfl
theorem st62 : storeA Try.T h 62 (.ptr (some (i, o))) v = stC h i o 2 v.cells := st_n rfl rfl
theorem lE62 [Inhabited α] (p : Sl E h i a l) (h0 : 0 ≤ j) (h1 : j < l.length) (h4 : Seen (Nat.beq E.sz 2)) : loadA Try.T h 62 (a.at E.sz 0 j) = some (.agg (E.f (l[j.toNat]!))) := p.ldn h0 h1 rfl rfl (Nat.eq_of_beq_eq_true h4.eq).symm
theorem bd62 {l : List (Nat × AV)} : bldR Try.T 62 (some l) = (fillA (plA Try.T 62) (Try.T 62).zero l).map .agg := bld_eq rfl
theorem pl62_0 : plA Try.T 62 0 = some (0, 1) := rfl
theorem pl62_1 : plA Try.T 62 1 = some (1, 1) := rfl
theorem fa62_0 : faR Try.T 62 0 (some (.ptr (some (i, o)))) = some (.ptr (some (i, o + 0))) := fa_ptr rfl (by decide) rfl
theorem fi62_0 : faR Try.T 62 0 (some (.iptr row o)) = some (.iptr row (o + 0)) := fa_iptr rfl (by decide) rfl
theorem fE62_0 (p : Sl E h i a l) (h0 : 0 ≤ j) (h1 : j < l.length) : faR Try.T 62 0 (some (a.at E.sz off0 j)) = some (a.at E.sz (off0 + 0) j) := p.fa h0 h1 rfl (by decide) rfl
theorem fl62_0 : fldR Try.T 62 0 (some (.agg cs)) = cs[0]? := fld_1 rfl rfl rfl
theorem fa62_1 : faR Try.T 62 1 (some (.ptr (some (i, o)))) = some (.ptr (some (i, o + 1))) := fa_ptr rfl (by decide) rfl
theorem fi62_1 : faR Try.T 62 1 (some (.iptr row o)) = some (.iptr row (o + 1)) := fa_iptr rfl (by decide) rfl
theorem fE62_1 (p : Sl E h i a l) (h0 : 0 ≤ j) (h1 : j < l.length) : faR Try.T 62 1 (some (a.at E.sz off0 j)) = some (a.at E.sz (off0 + 1) j) := p.fa h0 h1 rfl (by decide) rfl
theorem fl62_1 : fldR Try.T 62 1 (some (.agg cs)) = cs[1]? := fld_1 rfl rfl rfl
theorem Td63 : (Try.T 63).desc = .slice 68 := rfl
theorem Tz63 : (Try.T 63).zero = [.slice none 0 0 0 true] := rfl
theorem ld63 : loadA Try.T h 63 (.ptr (some (i, o))) = rd1 o (h.get i) := ld_1 rfl rfl
theorem li63 : loadA Try.T h 63 (.iptr row o) = row[o]? := ldi_1 rfl rfl
theorem st63 : storeA Try.T h 63 (.ptr (some (i, o))) v = stC h i o 1 v.cells := st_n rfl rfl
theorem len63 (p : Sl E h i a l) : builtinA Try.T h' .len [63] [a] = some (.int .i64 (l.length : Int), h') := p.len rfl
theorem ix63 (p : Sl E h i a l) (h0 : 0 ≤ j) (h1 : j < l.length) (h2 : Seen (Nat.beq E.sz 2)) : idxA Try.T 63 a (.int k j) = some (a.at E.sz 0 j) := p.idx h0 h1 rfl rfl (Nat.eq_of_beq_eq_true h2.eq).symm
theorem wr68 {P : Program} {ops : Array Oper} {L : List Oper} {K : Tm → AH → Prop} {d : Option Nat} {tm : Tm} (p : Ow E h i a l) (x : α) (hx : v.cells = E.f x) (h0 : 0 ≤ j) (h1 : j < l.length) (h2 : Seen (Nat.beq E.sz 2)) (hk : ∀ h', Ow E h' i a (l.set j.toNat x) → h'.size = h.size → (∀ b, ¬ b = i → h'.get b = h.get b) → putM P Try.T ops L K d tm undefA h') : ansM P Try.T ops L K d tm h ((storeA Try.T h 68 (a.at E.sz 0 j) v).map fun h' => .val undefA h') :=
  ans_wr p x hx h0 h1 rfl (Nat.eq_of_beq_eq_true h2.eq).symm hk
theorem w68_0_3 {P : Program} {ops : Array Oper} {L : List Oper} {K : Tm → AH → Prop} {d : Option Nat} {tm : Tm} [Inhabited α] (p : Ow E h i a l) (x : α) (hx : E.f x = (E.f (l[j.toNat]!)).set 0 v) (hv : v.cells = [v]) (hv1 : v.one = true) (h0 : 0 ≤ j) (h1 : j < l.length) (h2 : Seen (Nat.blt 0 E.sz)) (hk : ∀ h', Ow E h' i a (l.set j.toNat x) → h'.size = h.size → (∀ b, ¬ b = i → h'.get b = h.get b) → putM P Try.T ops L K d tm undefA h') : ansM P Try.T ops L K d tm h ((storeA Try.T h 3 (a.at E.sz 0 j) v).map fun h' => .val undefA h') :=
  ans_wr1 p x hx hv hv1 (by simpa [Nat.blt_eq] using h2.eq) h0 h1 rfl rfl hk
theorem w68_1_9 {P : Program} {ops : Array Oper} {L : List Oper} {K : Tm → AH → Prop} {d : Option Nat} {tm : Tm} [Inhabited α] (p : Ow E h i a l) (x : α) (hx : E.f x = (E.f (l[j.toNat]!)).set 1 v) (hv : v.cells = [v]) (hv1 : v.one = true) (h0 : 0 ≤ j) (h1 : j < l.length) (h2 : Seen (Nat.blt 1 E.sz)) (hk : ∀ h', Ow E h' i a (l.set j.toNat x) → h'.size = h.size → (∀ b, ¬ b = i → h'.get b = h.get b) → putM P Try.T ops L K d tm undefA h') : ansM P Try.T ops L K d tm h ((storeA Try.T h 9 (a.at E.sz 1 j) v).map fun h' => .val undefA h') :=
  ans_wr1 p x hx hv hv1 (by simpa [Nat.blt_eq] using h2.eq) h0 h1 rfl rfl hk
theorem sl63 (p : Sl E h i a l) (h0 : 0 ≤ x) (h1 : x ≤ y) (h2 : y ≤ l.length) (h3 : Seen (Nat.beq E.sz 2)) : sliceA Try.T 63 a (some x) (some y) none = some (a.part x y) := p.slc h0 h1 h2 rfl rfl (Nat.eq_of_beq_eq_true h3.eq).symm
theorem sm63 (p : Sl E h i a l) (h1 : 0 ≤ y) (h2 : y ≤ l.length) (h3 : Seen (Nat.beq E.sz 2)) : sliceA Try.T 63 a none (some y) none = some (a.part 0 y) := p.slc (lo := none) (Int.le_refl _) h1 h2 rfl rfl (Nat.eq_of_beq_eq_true h3.eq).symm
theorem sn63 (p : Sl E h i a l) (h0 : 0 ≤ x) (h1 : x ≤ l.length) (h3 : Seen (Nat.beq E.sz 2)) : sliceA Try.T 63 a (some x) none none = some (a.part x l.length) := p.slc (hi := none) h0 h1 (Int.le_refl _) rfl rfl (Nat.eq_of_beq_eq_true h3.eq).symm
theorem ap63 {P : Program} {ops : Array Oper} {L : List Oper} {K : Tm → AH → Prop} {d : Option Nat} {tm : Tm} {x : AV} {new : List α} {ix : Nat} (p : Ow E h i a l) (hx : Sl E h ix x new) (h2 : Seen (Nat.beq E.sz 2)) (hr : (l.length + new.length) * 24 ≤ 140737488355328) (hk : ∀ z h' i', Ow E h' i' z (l ++ new) → (i' = i ∨ h.size ≤ i') → h.size ≤ h'.size → (∀ j, j < h.size → ¬ j = i → h'.get j = h.get j) → putM P Try.T ops L K d tm z h') : ansM P Try.T ops L K d tm h (pairR (appendA Try.T h 63 63 a x)) :=
  ans_app p hx rfl ⟨_, rfl⟩ rfl (Nat.eq_of_beq_eq_true h2.eq).symm (Nat.eq_of_beq_eq_true h2.eq).symm (by decide) hr hk
theorem al63 {P : Program} {ops : Array Oper} {L : List Oper} {K : Tm → AH → Prop} {d : Option Nat} {tm : Tm} {sz : Nat} (x : α) (p : Ow E h i a l) (hx : cs = E.f x) (hs : sz = E.sz) (h2 : Seen (Nat.beq E.sz 2)) (hr : (l.length + 1) * 24 ≤ 140737488355328) (hk : ∀ z h' i', Ow E h' i' z (l ++ [x]) → (i' = i ∨ h.size ≤ i') → h.size ≤ h'.size → (∀ j, j < h.size → ¬ j = i → h'.get j = h.get j) → putM P Try.T ops L K d tm z h') : ansM P Try.T ops L K d tm (h.push (.cells cs)) (pairR (appendA Try.T (h.push (.cells cs)) 63 63 a (.slice (some (h.size, 0)) 1 1 sz true))) :=
  ans_app1 p x hx hs rfl rfl (Nat.eq_of_beq_eq_true h2.eq).symm (Nat.eq_of_beq_eq_true h2.eq).symm (by decide) hr hk
theorem eqn63 {l1 c1 z1 l2 c2 z2 : Nat} {x1 x2 : Bool} : binA Try.T .eql 63 (.slice none l1 c1 z1 x1) (.slice none l2 c2 z2 x2) = some (.bool true) := sl_eqn rfl
theorem eqs63 {l1 c1 z1 l2 c2 z2 : Nat} {x1 x2 : Bool} {p : Nat × Nat} : binA Try.T .eql 63 (.slice (some p) l1 c1 z1 x1) (.slice none l2 c2 z2 x2) = some (.bool false) := sl_eqs rfl
theorem eqi63 {l2 c2 z2 a1 b1 c1 d1 : Nat} {x2 : Bool} : binA Try.T .eql 63 (.islice row a1 b1 c1 d1) (.slice none l2 c2 z2 x2) = some (.bool false) := sl_eqi rfl
theorem Td65 : (Try.T 65).desc = .struct [(63, 0, true), (58, 1, true), (3, 2, true)] := rfl
theorem Tz65 : (Try.T 65).zero = [.slice none 0 0 0 true, .slice none 0 0 0 true, .int .i64 0] := rfl
theorem ld65 : loadA Try.T h 65 (.ptr (some (i, o))) = rdN o 3 (h.get i) := ld_n rfl rfl rfl
theorem li65 : loadA Try.T h 65 (.iptr row o) = (cut row o 3).map .agg := ldi_n rfl rfl rfl
theorem st65 : storeA Try.T h 65 (.ptr (some (i, o))) v = stC h i o 3 v.cells := st_n rfl rfl
theorem lE65 [Inhabited α] (p : Sl E h i a l) (h0 : 0 ≤ j) (h1 : j < l.length) (h4 : Seen (Nat.beq E.sz 3)) : loadA Try.T h 65 (a.at E.sz 0 j) = some (.agg (E.f (l[j.toNat]!))) := p.ldn h0 h1 rfl rfl (Nat.eq_of_beq_eq_true h4.eq).symm
theorem bd65 {l : List (Nat × AV)} : bldR Try.T 65 (some l) = (fillA (plA Try.T 65) (Try.T 65).zero l).map .agg := bld_eq rfl
theorem pl65_0 : plA Try.T 65 0 = some (0, 1) := rfl
theorem pl65_1 : plA Try.T 65 1 = some (1, 1) := rfl
theorem pl65_2 : plA Try.T 65 2 = some (2, 1) := rfl
theorem fa65_0 : faR Try.T 65 0 (some (.ptr (some (i, o)))) = some (.ptr (some (i, o + 0))) := fa_ptr rfl (by decide) rfl
theorem fi65_0 : faR Try.T 65 0 (some (.iptr row o)) = some (.iptr row (o + 0)) := fa_iptr rfl (by decide) rfl
theorem fE65_0 (p : Sl E h i a l) (h0 : 0 ≤ j) (h1 : j < l.length) : faR Try.T 65 0 (some (a.at E.sz off0 j)) = some (a.at E.sz (off0 + 0) j) := p.fa h0 h1 rfl (by decide) rfl
theorem fl65_0 : fldR Try.T 65 0 (some (.agg cs)) = cs[0]? := fld_1 rfl rfl rfl
theorem fa65_1 : faR Try.T 65 1 (some (.ptr (some (i, o)))) = some (.ptr (some (i, o + 1))) := fa_ptr rfl (by decide) rfl
theorem fi65_1 : faR Try.T 65 1 (some (.iptr row o)) = some (.iptr row (o + 1)) := fa_iptr rfl (by decide) rfl
theorem fE65_1 (p : Sl E h i a l) (h0 : 0 ≤ j) (h1 : j < l.length) : faR Try.T 65 1 (some (a.at E.sz off0 j)) = some (a.at E.sz (off0 + 1) j) := p.fa h0 h1 rfl (by decide) rfl
theorem fl65_1 : fldR Try.T 65 1 (some (.agg cs)) = cs[1]? := fld_1 rfl rfl rfl
theorem fa65_2 : faR Try.T 65 2 (some (.ptr (some (i, o)))) = some (.ptr (some (i, o + 2))) := fa_ptr rfl (by decide) rfl
theorem fi65_2 : faR Try.T 65 2 (some (.iptr row o)) = some (.iptr row (o + 2)) := fa_iptr rfl (by decide) rfl
theorem fE65_2 (p : Sl E h i a l) (h0 : 0 ≤ j) (h1 : j < l.length) : faR Try.T 65 2 (some (a.at E.sz off0 j)) = some (a.at E.sz (off0 + 2) j) := p.fa h0 h1 rfl (by decide) rfl
theorem fl65_2 : fldR Try.T 65 2 (some (.agg cs)) = cs[2]? := fld_1 rfl rfl rfl
theorem Td68 : (Try.T 68).desc = .struct [(3, 0, true), (9, 1, true)] := rfl
theorem Tz68 : (Try.T 68).zero = [.int .i64 0, .str []] := rfl
theorem ld68 : loadA Try.T h 68 (.ptr (some (i, o))) = rdN o 2 (h.get i) := ld_n rfl rfl rfl
theorem li68 : loadA Try.T h 68 (.iptr row o) = (cut row o 2).map .agg := ldi_n rfl rfl rfl
theorem st68 : storeA Try.T h 68 (.ptr (some (i, o))) v = stC h i o 2 v.cells := st_n rfl rfl
theorem lE68 [Inhabited α] (p : Sl E h i a l) (h0 : 0 ≤ j) (h1 : j < l.length) (h4 : Seen (Nat.beq E.sz 2)) : loadA Try.T h 68 (a.at E.sz 0 j) = some (.agg (E.f (l[j.toNat]!))) := p.ldn h0 h1 rfl rfl (Nat.eq_of_beq_eq_true h4.eq).symm
theorem bd68 {l : List (Nat × AV)} : bldR Try.T 68 (some l) = (fillA (plA Try.T 68) (Try.T 68).zero l).map .agg := bld_eq rfl
theorem pl68_0 : plA Try.T 68 0 = some (0, 1) := rfl
theorem pl68_1 : plA Try.T 68 1 = some (1, 1) := rfl
theorem fa68_0 : faR Try.T 68 0 (some (.ptr (some (i, o)))) = some (.ptr (some (i, o + 0))) := fa_ptr rfl (by decide) rfl
theorem fi68_0 : faR Try.T 68 0 (some (.iptr row o)) = some (.iptr row (o + 0)) := fa_iptr rfl (by decide) rfl
theorem fE68_0 (p : Sl E h i a l) (h0 : 0 ≤ j) (h1 : j < l.length) : faR Try.T 68 0 (some (a.at E.sz off0 j)) = some (a.at E.sz (off0 + 0) j) := p.fa h0 h1 rfl (by decide) rfl
theorem fl68_0 : fldR Try.T 68 0 (some (.agg cs)) = cs[0]? := fld_1 rfl rfl rfl
theorem fa68_1 : faR Try.T 68 1 (some (.ptr (some (i, o)))) = some (.ptr (some (i, o + 1))) := fa_ptr rfl (by decide) rfl
theorem fi68_1 : faR Try.T 68 1 (some (.iptr row o)) = some (.iptr row (o + 1)) := fa_iptr rfl (by decide) rfl
theorem fE68_1 (p : Sl E h i a l) (h0 : 0 ≤ j) (h1 : j < l.length) : faR Try.T 68 1 (some (a.at E.sz off0 j)) = some (a.at E.sz (off0 + 1) j) := p.fa h0 h1 rfl (by decide) rfl
theorem fl68_1 : fldR Try.T 68 1 (some (.agg cs)) = cs[1]? := fld_1 rfl rfl rfl
theorem Td77 : (Try.T 77).desc = .struct [(3, 0, true), (3, 1, true)] := rfl
theorem Tz77 : (Try.T 77).zero = [.int .i64 0, .int .i64 0] := rfl
theorem ld77 : loadA Try.T h 77 (.ptr (some (i, o))) = rdN o 2 (h.get i) := ld_n rfl rfl rfl
theorem li77 : loadA Try.T h 77 (.iptr row o) = (cut row o 2).map .agg := ldi_n rfl rfl rfl
theorem st77 : storeA Try.T h 77 (.ptr (some (i, o))) v = stC h i o 2 v.cells := st_n rfl rfl
theorem lE77 [Inhabited α] (p : Sl E h i a l) (h0 : 0 ≤ j) (h1 : j < l.length) (h4 : Seen (Nat.beq E.sz 2)) : loadA Try.T h 77 (a.at E.sz 0 j) = some (.agg (E.f (l[j.toNat]!))) := p.ldn h0 h1 rfl rfl (Nat.eq_of_beq_eq_true h4.eq).symm
theorem bd77 {l : List (Nat × AV)} : bldR Try.T 77 (some l) = (fillA (plA Try.T 77) (Try.T 77).zero l).map .agg := bld_eq rfl
theorem pl77_0 : plA Try.T 77 0 = some (0, 1) := rfl
theorem pl77_1 : plA Try.T 77 1 = some (1, 1) := rfl
theorem fa77_0 : faR Try.T 77 0 (some (.ptr (some (i, o)))) = some (.ptr (some (i, o + 0))) := fa_ptr rfl (by decide) rfl
theorem fi77_0 : faR Try.T 77 0 (some (.iptr row o)) = some (.iptr row (o + 0)) := fa_iptr rfl (by decide) rfl
theorem fE77_0 (p : Sl E h i a l) (h0 : 0 ≤ j) (h1 : j < l.length) : faR Try.T 77 0 (some (a.at E.sz off0 j)) = some (a.at E.sz (off0 + 0) j) := p.fa h0 h1 rfl (by decide) rfl
theorem fl77_0 : fldR Try.T 77 0 (some (.agg cs)) = cs[0]? := fld_1 rfl rfl rfl
theorem fa77_1 : faR Try.T 77 1 (some (.ptr (some (i, o)))) = some (.ptr (some (i, o + 1))) := fa_ptr rfl (by decide) rfl
theorem fi77_1 : faR Try.T 77 1 (some (.iptr row o)) = some (.iptr row (o + 1)) := fa_iptr rfl (by decide) rfl
theorem fE77_1 (p : Sl E h i a l) (h0 : 0 ≤ j) (h1 : j < l.length) : faR Try.T 77 1 (some (a.at E.sz off0 j)) = some (a.at E.sz (off0 + 1) j) := p.fa h0 h1 rfl (by decide) rfl
theorem fl77_1 : fldR Try.T 77 1 (some (.agg cs)) = cs[1]? := fld_1 rfl rfl rfl
theorem Td79 : (Try.T 79).desc = .slice 83 := rfl
theorem Tz79 : (Try.T 79).zero = [.slice none 0 0 0 true] := rfl
theorem ld79 : loadA Try.T h 79 (.ptr (some (i, o))) = rd1 o (h.get i) := ld_1 rfl rfl
theorem li79 : loadA Try.T h 79 (.iptr row o) = row[o]? := ldi_1 rfl rfl
theorem st79 : storeA Try.T h 79 (.ptr (some (i, o))) v = stC h i o 1 v.cells := st_n rfl rfl
theorem len79 (p : Sl E h i a l) : builtinA Try.T h' .len [79] [a] = some (.int .i64 (l.length : Int), h') := p.len rfl
theorem ix79 (p : Sl E h i a l) (h0 : 0 ≤ j) (h1 : j < l.length) (h2 : Seen (Nat.beq E.sz 2)) : idxA Try.T 79 a (.int k j) = some (a.at E.sz 0 j) := p.idx h0 h1 rfl rfl (Nat.eq_of_beq_eq_true h2.eq).symm
theorem wr83 {P : Program} {ops : Array Oper} {L : List Oper} {K : Tm → AH → Prop} {d : Option Nat} {tm : Tm} (p : Ow E h i a l) (x : α) (hx : v.cells = E.f x) (h0 : 0 ≤ j) (h1 : j < l.length) (h2 : Seen (Nat.beq E.sz 2)) (hk : ∀ h', Ow E h' i a (l.set j.toNat x) → h'.size = h.size → (∀ b, ¬ b = i → h'.get b = h.get b) → putM P Try.T ops L K d tm undefA h') : ansM P Try.T ops L K d tm h ((storeA Try.T h 83 (a.at E.sz 0 j) v).map fun h' => .val undefA h') :=
  ans_wr p x hx h0 h1 rfl (Nat.eq_of_beq_eq_true h2.eq).symm hk
theorem w83_0_3 {P : Program} {ops : Array Oper} {L : List Oper} {K : Tm → AH → Prop} {d : Option Nat} {tm : Tm} [Inhabited α] (p : Ow E h i a l) (x : α) (hx : E.f x = (E.f (l[j.toNat]!)).set 0 v) (hv : v.cells = [v]) (hv1 : v.one = true) (h0 : 0 ≤ j) (h1 : j < l.length) (h2 : Seen (Nat.blt 0 E.sz)) (hk : ∀ h', Ow E h' i a (l.set j.toNat x) → h'.size = h.size → (∀ b, ¬ b = i → h'.get b = h.get b) → putM P Try.T ops L K d tm undefA h') : ansM P Try.T ops L K d tm h ((storeA Try.T h 3 (a.at E.sz 0 j) v).map fun h' => .val undefA h') :=
  ans_wr1 p x hx hv hv1 (by simpa [Nat.blt_eq] using h2.eq) h0 h1 rfl rfl hk
theorem w83_1_4 {P : Program} {ops : Array Oper} {L : List Oper} {K : Tm → AH → Prop} {d : Option Nat} {tm : Tm} [Inhabited α] (p : Ow E h i a l) (x : α) (hx : E.f x = (E.f (l[j.toNat]!)).set 1 v) (hv : v.cells = [v]) (hv1 : v.one = true) (h0 : 0 ≤ j) (h1 : j < l.length) (h2 : Seen (Nat.blt 1 E.sz)) (hk : ∀ h', Ow E h' i a (l.set j.toNat x) → h'.size = h.size → (∀ b, ¬ b = i → h'.get b = h.get b) → putM P Try.T ops L K d tm undefA h') : ansM P Try.T ops L K d tm h ((storeA Try.T h 4 (a.at E.sz 1 j) v).map fun h' => .val undefA h') :=
  ans_wr1 p x hx hv hv1 (by simpa [Nat.blt_eq] using h2.eq) h0 h1 rfl rfl hk
theorem sl79 (p : Sl E h i a l) (h0 : 0 ≤ x) (h1 : x ≤ y) (h2 : y ≤ l.length) (h3 : Seen (Nat.beq E.sz 2)) : sliceA Try.T 79 a (some x) (some y) none = some (a.part x y) := p.slc h0 h1 h2 rfl rfl (Nat.eq_of_beq_eq_true h3.eq).symm
theorem sm79 (p : Sl E h i a l) (h1 : 0 ≤ y) (h2 : y ≤ l.length) (h3 : Seen (Nat.beq E.sz 2)) : sliceA Try.T 79 a none (some y) none = some (a.part 0 y) := p.slc (lo := none) (Int.le_refl _) h1 h2 rfl rfl (Nat.eq_of_beq_eq_true h3.eq).symm
theorem sn79 (p : Sl E h i a l) (h0 : 0 ≤ x) (h1 : x ≤ l.length) (h3 : Seen (Nat.beq E.sz 2)) : sliceA Try.T 79 a (some x) none none = some (a.part x l.length) := p.slc (hi := none) h0 h1 (Int.le_refl _) rfl rfl (Nat.eq_of_beq_eq_true h3.eq).symm
theorem ap79 {P : Program} {ops : Array Oper} {L : List Oper} {K : Tm → AH → Prop} {d : Option Nat} {tm : Tm} {x : AV} {new : List α} {ix : Nat} (p : Ow E h i a l) (hx : Sl E h ix x new) (h2 : Seen (Nat.beq E.sz 2)) (hr : (l.length + new.length) * 16 ≤ 140737488355328) (hk : ∀ z h' i', Ow E h' i' z (l ++ new) → (i' = i ∨ h.size ≤ i') → h.size ≤ h'.size → (∀ j, j < h.size → ¬ j = i → h'.get j = h.get j) → putM P Try.T ops L K d tm z h') : ansM P Try.T ops L K d tm h (pairR (appendA Try.T h 79 79 a x)) :=
  ans_app p hx rfl ⟨_, rfl⟩ rfl (Nat.eq_of_beq_eq_true h2.eq).symm (Nat.eq_of_beq_eq_true h2.eq).symm (by decide) hr hk
theorem al79 {P : Program} {ops : Array Oper} {L : List Oper} {K : Tm → AH → Prop} {d : Option Nat} {tm : Tm} {sz : Nat} (x : α) (p : Ow E h i a l) (hx : cs = E.f x) (hs : sz = E.sz) (h2 : Seen (Nat.beq E.sz 2)) (hr : (l.length + 1) * 16 ≤ 140737488355328) (hk : ∀ z h' i', Ow E h' i' z (l ++ [x]) → (i' = i ∨ h.size ≤ i') → h.size ≤ h'.size → (∀ j, j < h.size → ¬ j = i → h'.get j = h.get j) → putM P Try.T ops L K d tm z h') : ansM P Try.T ops L K d tm (h.push (.cells cs)) (pairR (appendA Try.T (h.push (.cells cs)) 79 79 a (.slice (some (h.size, 0)) 1 1 sz true))) :=
  ans_app1 p x hx hs rfl rfl (Nat.eq_of_beq_eq_true h2.eq).symm (Nat.eq_of_beq_eq_true h2.eq).symm (by decide) hr hk
theorem eqn79 {l1 c1 z1 l2 c2 z2 : Nat} {x1 x2 : Bool} : binA Try.T .eql 79 (.slice none l1 c1 z1 x1) (.slice none l2 c2 z2 x2) = some (.bool true) := sl_eqn rfl
theorem eqs79 {l1 c1 z1 l2 c2 z2 : Nat} {x1 x2 : Bool} {p : Nat × Nat} : binA Try.T .eql 79 (.slice (some p) l1 c1 z1 x1) (.slice none l2 c2 z2 x2) = some (.bool false) := sl_eqs rfl
theorem eqi79 {l2 c2 z2 a1 b1 c1 d1 : Nat} {x2 : Bool} : binA Try.T .eql 79 (.islice row a1 b1 c1 d1) (.slice none l2 c2 z2 x2) = some (.bool false) := sl_eqi rfl
theorem Td81 : (Try.T 81).desc = .struct [(79, 0, true), (58, 1, true), (3, 2, true)] := rfl
theorem Tz81 : (Try.T 81).zero = [.slice none 0 0 0 true, .slice none 0 0 0 true, .int .i64 0] := rfl
theorem ld81 : loadA Try.T h 81 (.ptr (some (i, o))) = rdN o 3 (h.get i) := ld_n rfl rfl rfl
theorem li81 : loadA Try.T h 81 (.iptr row o) = (cut row o 3).map .agg := ldi_n rfl rfl rfl
theorem st81 : storeA Try.T h 81 (.ptr (some (i, o))) v = stC h i o 3 v.cells := st_n rfl rfl
theorem lE81 [Inhabited α] (p : Sl E h i a l) (h0 : 0 ≤ j) (h1 : j < l.length) (h4 : Seen (Nat.beq E.sz 3)) : loadA Try.T h 81 (a.at E.sz 0 j) = some (.agg (E.f (l[j.toNat]!))) := p.ldn h0 h1 rfl rfl (Nat.eq_of_beq_eq_true h4.eq).symm
theorem bd81 {l : List (Nat × AV)} : bldR Try.T 81 (some l) = (fillA (plA Try.T 81) (Try.T 81).zero l).map .agg := bld_eq rfl
theorem pl81_0 : plA Try.T 81 0 = some (0, 1) := rfl
theorem pl81_1 : plA Try.T 81 1 = some (1, 1) := rfl
theorem pl81_2 : plA Try.T 81 2 = some (2, 1) := rfl
theorem fa81_0 : faR Try.T 81 0 (some (.ptr (some (i, o)))) = some (.ptr (some (i, o + 0))) := fa_ptr rfl (by decide) rfl
theorem fi81_0 : faR Try.T 81 0 (some (.iptr row o)) = some (.iptr row (o + 0)) := fa_iptr rfl (by decide) rfl
theorem fE81_0 (p : Sl E h i a l) (h0 : 0 ≤ j) (h1 : j < l.length) : faR Try.T 81 0 (some (a.at E.sz off0 j)) = some (a.at E.sz (off0 + 0) j) := p.fa h0 h1 rfl (by decide) rfl
theorem fl81_0 : fldR Try.T 81 0 (some (.agg cs)) = cs[0]? := fld_1 rfl rfl rfl
theorem fa81_1 : faR Try.T 81 1 (some (.ptr (some (i, o)))) = some (.ptr (some (i, o + 1))) := fa_ptr rfl (by decide) rfl
theorem fi81_1 : faR Try.T 81 1 (some (.iptr row o)) = some (.iptr row (o + 1)) := fa_iptr rfl (by decide) rfl
theorem fE81_1 (p : Sl E h i a l) (h0 : 0 ≤ j) (h1 : j < l.length) : faR Try.T 81 1 (some (a.at E.sz off0 j)) = some (a.at E.sz (off0 + 1) j) := p.fa h0 h1 rfl (by decide) rfl
theorem fl81_1 : fldR Try.T 81 1 (some (.agg cs)) = cs[1]? := fld_1 rfl rfl rfl
theorem fa81_2 : faR Try.T 81 2 (some (.ptr (some (i, o)))) = some (.ptr (some (i, o + 2))) := fa_ptr rfl (by decide) rfl
theorem fi81_2 : faR Try.T 81 2 (some (.iptr row o)) = some (.iptr row (o + 2)) := fa_iptr rfl (by decide) rfl
theorem fE81_2 (p : Sl E h i a l) (h0 : 0 ≤ j) (h1 : j < l.length) : faR Try.T 81 2 (some (a.at E.sz off0 j)) = some (a.at E.sz (off0 + 2) j) := p.fa h0 h1 rfl (by decide) rfl
theorem fl81_2 : fldR Try.T 81 2 (some (.agg cs)) = cs[2]? := fld_1 rfl rfl rfl
theorem Td83 : (Try.T 83).desc = .struct [(3, 0, true), (4, 1, true)] := rfl
theorem Tz83 : (Try.T 83).zero = [.int .i64 0, .bool false] := rfl
theorem ld83 : loadA Try.T h 83 (.ptr (some (i, o))) = rdN o 2 (h.get i) := ld_n rfl rfl rfl
theorem li83 : loadA Try.T h 83 (.iptr row o) = (cut row o 2).map .agg := ldi_n rfl rfl rfl
theorem st83 : storeA Try.T h 83 (.ptr (some (i, o))) v = stC h i o 2 v.cells := st_n rfl rfl
theorem lE83 [Inhabited α] (p : Sl E h i a l) (h0 : 0 ≤ j) (h1 : j < l.length) (h4 : Seen (Nat.beq E.sz 2)) : loadA Try.T h 83 (a.at E.sz 0 j) = some (.agg (E.f (l[j.toNat]!))) := p.ldn h0 h1 rfl rfl (Nat.eq_of_beq_eq_true h4.eq).symm
theorem bd83 {l : List (Nat × AV)} : bldR Try.T 83 (some l) = (fillA (plA Try.T 83) (Try.T 83).zero l).map .agg := bld_eq rfl
theorem pl83_0 : plA Try.T 83 0 = some (0, 1) := rfl
theorem pl83_1 : plA Try.T 83 1 = some (1, 1) := rfl
theorem fa83_0 : faR Try.T 83 0 (some (.ptr (some (i, o)))) = some (.ptr (some (i, o + 0))) := fa_ptr rfl (by decide) rfl
theorem fi83_0 : faR Try.T 83 0 (some (.iptr row o)) = some (.iptr row (o + 0)) := fa_iptr rfl (by decide) rfl
theorem fE83_0 (p : Sl E h i a l) (h0 : 0 ≤ j) (h1 : j < l.length) : faR Try.T 83 0 (some (a.at E.sz off0 j)) = some (a.at E.sz (off0 + 0) j) := p.fa h0 h1 rfl (by decide) rfl
theorem fl83_0 : fldR Try.T 83 0 (some (.agg cs)) = cs[0]? := fld_1 rfl rfl rfl
theorem fa83_1 : faR Try.T 83 1 (some (.ptr (some (i, o)))) = some (.ptr (some (i, o + 1))) := fa_ptr rfl (by decide) rfl
theorem fi83_1 : faR Try.T 83 1 (some (.iptr row o)) = some (.iptr row (o + 1)) := fa_iptr rfl (by decide) rfl
theorem fE83_1 (p : Sl E h i a l) (h0 : 0 ≤ j) (h1 : j < l.length) : faR Try.T 83 1 (some (a.at E.sz off0 j)) = some (a.at E.sz (off0 + 1) j) := p.fa h0 h1 rfl (by decide) rfl
theorem fl83_1 : fldR Try.T 83 1 (some (.agg cs)) = cs[1]? := fld_1 rfl rfl rfl
theorem Td87 : (Try.T 87).desc = .func := rfl
theorem Tz87 : (Try.T 87).zero = [.nilFunc] := rfl
theorem ld87 : loadA Try.T h 87 (.ptr (some (i, o))) = rd1 o (h.get i) := ld_1 rfl rfl
theorem li87 : loadA Try.T h 87 (.iptr row o) = row[o]? := ldi_1 rfl rfl
theorem st87 : storeA Try.T h 87 (.ptr (some (i, o))) v = stC h i o 1 v.cells := st_n rfl rfl
theorem feqs87 {f : FuncId} : binA Try.T .eql 87 (.func f cs) .nilFunc = some (.bool false) := fn_eqs rfl
theorem feqn87 : binA Try.T .eql 87 .nilFunc .nilFunc = some (.bool true) := fn_eqn rfl
theorem Td88 : (Try.T 88).desc = .func := rfl
theorem Tz88 : (Try.T 88).zero = [.nilFunc] := rfl
theorem ld88 : loadA Try.T h 88 (.ptr (some (i, o))) = rd1 o (h.get i) := ld_1 rfl rfl
theorem li88 : loadA Try.T h 88 (.iptr row o) = row[o]? := ldi_1 rfl rfl
theorem st88 : storeA Try.T h 88 (.ptr (some (i, o))) v = stC h i o 1 v.cells := st_n rfl rfl
theorem feqs88 {f : FuncId} : binA Try.T .eql 88 (.func f cs) .nilFunc = some (.bool false) := fn_eqs rfl
theorem feqn88 : binA Try.T .eql 88 .nilFunc .nilFunc = some (.bool true) := fn_eqn rfl
theorem Td89 : (Try.T 89).desc = .func := rfl
theorem Tz89 : (Try.T 89).zero = [.nilFunc] := rfl
theorem ld89 : loadA Try.T h 89 (.ptr (some (i, o))) = rd1 o (h.get i) := ld_1 rfl rfl
theorem li89 : loadA Try.T h 89 (.iptr row o) = row[o]? := ldi_1 rfl rfl
theorem st89 : storeA Try.T h 89 (.ptr (some (i, o))) v = stC h i o 1 v.cells := st_n rfl rfl
theorem feqs89 {f : FuncId} : binA Try.T .eql 89 (.func f cs) .nilFunc = some (.bool false) := fn_eqs rfl
theorem feqn89 : binA Try.T .eql 89 .nilFunc .nilFunc = some (.bool true) := fn_eqn rfl
theorem Td92 : (Try.T 92).desc = .func := rfl
theorem Tz92 : (Try.T 92).zero = [.nilFunc] := rfl
theorem ld92 : loadA Try.T h 92 (.ptr (some (i, o))) = rd1 o (h.get i) := ld_1 rfl rfl
theorem li92 : loadA Try.T h 92 (.iptr row o) = row[o]? := ldi_1 rfl rfl
theorem st92 : storeA Try.T h 92 (.ptr (some (i, o))) v = stC h i o 1 v.cells := st_n rfl rfl
theorem feqs92 {f : FuncId} : binA Try.T .eql 92 (.func f cs) .nilFunc = some (.bool false) := fn_eqs rfl
theorem feqn92 : binA Try.T .eql 92 .nilFunc .nilFunc = some (.bool true) := fn_eqn rfl
theorem Td94 : (Try.T 94).desc = .func := rfl
theorem Tz94 : (Try.T 94).zero = [.nilFunc] := rfl
theorem ld94 : loadA Try.T h 94 (.ptr (some (i, o))) = rd1 o (h.get i) := ld_1 rfl rfl
theorem li94 : loadA Try.T h 94 (.iptr row o) = row[o]? := ldi_1 rfl rfl
theorem st94 : storeA Try.T h 94 (.ptr (some (i, o))) v = stC h i o 1 v.cells := st_n rfl rfl
theorem feqs94 {f : FuncId} : binA Try.T .eql 94 (.func f cs) .nilFunc = some (.bool false) := fn_eqs rfl
theorem feqn94 : binA Try.T .eql 94 .nilFunc .nilFunc = some (.bool true) := fn_eqn rfl
theorem Td95 : (Try.T 95).desc = .int .u64 := rfl
theorem Tz95 : (Try.T 95).zero = [.int .u64 0] := rfl
theorem ld95 : loadA Try.T h 95 (.ptr (some (i, o))) = rd1 o (h.get i) := ld_1 rfl rfl
theorem li95 : loadA Try.T h 95 (.iptr row o) = row[o]? := ldi_1 rfl rfl
theorem st95 : storeA Try.T h 95 (.ptr (some (i, o))) v = stC h i o 1 v.cells := st_n rfl rfl
theorem Td102 : (Try.T 102).desc = .int .u32 := rfl
theorem Tz102 : (Try.T 102).zero = [.int .u32 0] := rfl
theorem ld102 : loadA Try.T h 102 (.ptr (some (i, o))) = rd1 o (h.get i) := ld_1 rfl rfl
theorem li102 : loadA Try.T h 102 (.iptr row o) = row[o]? := ldi_1 rfl rfl
theorem st102 : storeA Try.T h 102 (.ptr (some (i, o))) v = stC h i o 1 v.cells := st_n rfl rfl
theorem Td103 : (Try.T 103).desc = .int .u8 := rfl
theorem Tz103 : (Try.T 103).zero = [.int .u8 0] := rfl
theorem ld103 : loadA Try.T h 103 (.ptr (some (i, o))) = rd1 o (h.get i) := ld_1 rfl rfl
theorem li103 : loadA Try.T h 103 (.iptr row o) = row[o]? := ldi_1 rfl rfl
theorem st103 : storeA Try.T h 103 (.ptr (some (i, o))) v = stC h i o 1 v.cells := st_n rfl rfl
theorem l8103 {l : List UInt8} (p : Sl E8 h i a l) (h0 : 0 ≤ j) (h1 : j < l.length) : loadA Try.T h 103 (a.at E8.sz 0 j) = some (.int .u8 ((l[j.toNat]!).toNat : Int)) := p.ld8 h0 h1 rfl rfl
theorem Td104 : (Try.T 104).desc = .int .u8 := rfl
theorem Tz104 : (Try.T 104).zero = [.int .u8 0] := rfl
theorem ld104 : loadA Try.T h 104 (.ptr (some (i, o))) = rd1 o (h.get i) := ld_1 rfl rfl
theorem li104 : loadA Try.T h 104 (.iptr row o) = row[o]? := ldi_1 rfl rfl
theorem st104 : storeA Try.T h 104 (.ptr (some (i, o))) v = stC h i o 1 v.cells := st_n rfl rfl
theorem l8104 {l : List UInt8} (p : Sl E8 h i a l) (h0 : 0 ≤ j) (h1 : j < l.length) : loadA Try.T h 104 (a.at E8.sz 0 j) = some (.int .u8 ((l[j.toNat]!).toNat : Int)) := p.ld8 h0 h1 rfl rfl
theorem Td107 : (Try.T 107).desc = .int .i32 := rfl
theorem Tz107 : (Try.T 107).zero = [.int .i32 0] := rfl
theorem ld107 : loadA Try.T h 107 (.ptr (some (i, o))) = rd1 o (h.get i) := ld_1 rfl rfl
theorem li107 : loadA Try.T h 107 (.iptr row o) = row[o]? := ldi_1 rfl rfl
theorem st107 : storeA Try.T h 107 (.ptr (some (i, o))) v = stC h i o 1 v.cells := st_n rfl rfl
theorem Td108 : (Try.T 108).desc = .int .i32 := rfl
theorem Tz108 : (Try.T 108).zero = [.int .i32 0] := rfl
theorem ld108 : loadA Try.T h 108 (.ptr (some (i, o))) = rd1 o (h.get i) := ld_1 rfl rfl
theorem li108 : loadA Try.T h 108 (.iptr row o) = row[o]? := ldi_1 rfl rfl
theorem st108 : storeA Try.T h 108 (.ptr (some (i, o))) v = stC h i o 1 v.cells := st_n rfl rfl
theorem ci2 {a : Nat} : convA Try.T h a 2 (.int k x) = cvI (Try.T a).desc (.int .i64) h x := conv_i rfl
theorem ci3 {a : Nat} : convA Try.T h a 3 (.int k x) = cvI (Try.T a).desc (.int .i64) h x := conv_i rfl
theorem ci5 {a : Nat} : convA Try.T h a 5 (.int k x) = cvI (Try.T a).desc (.int .u8) h x := conv_i rfl
theorem ci6 {a : Nat} : convA Try.T h a 6 (.int k x) = cvI (Try.T a).desc (.int .u8) h x := conv_i rfl
theorem ci12 {a : Nat} : convA Try.T h a 12 (.int k x) = cvI (Try.T a).desc (.int .u64) h x := conv_i rfl
theorem ci21 {a : Nat} : convA Try.T h a 21 (.int k x) = cvI (Try.T a).desc (.int .i32) h x := conv_i rfl
theorem ci42 {a : Nat} : convA Try.T h a 42 (.int k x) = cvI (Try.T a).desc (.int .i64) h x := conv_i rfl
theorem ci95 {a : Nat} : convA Try.T h a 95 (.int k x) = cvI (Try.T a).desc (.int .u64) h x := conv_i rfl
theorem ci102 {a : Nat} : convA Try.T h a 102 (.int k x) = cvI (Try.T a).desc (.int .u32) h x := conv_i rfl
theorem ci103 {a : Nat} : convA Try.T h a 103 (.int k x) = cvI (Try.T a).desc (.int .u8) h x := conv_i rfl
theorem ci104 {a : Nat} : convA Try.T h a 104 (.int k x) = cvI (Try.T a).desc (.int .u8) h x := conv_i rfl
theorem ci107 {a : Nat} : convA Try.T h a 107 (.int k x) = cvI (Try.T a).desc (.int .i32) h x := conv_i rfl
theorem ci108 {a : Nat} : convA Try.T h a 108 (.int k x) = cvI (Try.T a).desc (.int .i32) h x := conv_i rfl
end tf
attribute [go_sem] Td2 Tz2 ld2 li2 st2 lI2 Td3 Tz3 ld3 li3 st3 lI3 Td4 Tz4 ld4 li4 st4 beql4 bneq4 Td5 Tz5 ld5 li5 st5 l85 Td6 Tz6 ld6 li6 st6 l86 Td9 Tz9 ld9 li9 st9 ssn9 ssl9 ssb9 len9
attribute [go_sem] ix9 Td10 Tz10 ld10 li10 st10 ssn10 ssl10 ssb10 len10 ix10 Td11 Tz11 ld11 li11 st11 ssn11 ssl11 ssb11 len11 ix11 Td12 Tz12 ld12 li12 st12 Td21 Tz21 ld21 li21 st21 Td22 Tz22 ld22 li22 st22 len22 ix22 sl22 sm22
attribute [go_sem] sn22 eqn22 eqs22 eqi22 Td23 Tz23 ld23 li23 st23 len23 ix23 br23 bs23 sl23 sm23 sn23 eqn23 eqs23 eqi23 Td25 Tz25 ld25 li25 st25 peqn25 peqs25 pnen25 pnes25 Td27 Tz27 ld27 li27 st27 peqn27 peqs27 pnen27 pnes27 Td29 Tz29 ld29
attribute [go_sem] li29 st29 lE29 bd29 pl29_0 pl29_1 pl29_2 pl29_3 pl29_4 fa29_0 fi29_0 fE29_0 fl29_0 fa29_1 fi29_1 fE29_1 fl29_1 fa29_2 fi29_2 fE29_2 fl29_2 fa29_3 fi29_3 fE29_3 fl29_3 fa29_4 fi29_4 fE29_4 fl29_4 Td32 Tz32 ld32 li32 st32 lE32 bd32 pl32_0 pl32_1 pl32_2 fa32_0
attribute [go_sem] fi32_0 fE32_0 fl32_0 fa32_1 fi32_1 fE32_1 fl32_1 fa32_2 fi32_2 fE32_2 fl32_2 Td36 Tz36 ld36 li36 st36 feqs36 feqn36 Td39 Tz39 ld39 li39 st39 len39 ix39 br39 bs39 sl39 sm39 sn39 eqn39 eqs39 eqi39 Td40 Tz40 ld40 li40 st40 peqn40 peqs40
attribute [go_sem] pnen40 pnes40 Td41 Tz41 ld41 li41 st41 feqs41 feqn41 Td42 Tz42 ld42 li42 st42 lI42 Td48 Tz48 ld48 li48 st48 feqs48 feqn48 Td49 Tz49 ld49 li49 st49 feqs49 feqn49 Td51 Tz51 ld51 li51 st51 feqs51 feqn51 Td52 Tz52 ld52 li52
attribute [go_sem] st52 feqs52 feqn52 Td53 Tz53 ld53 li53 st53 peqn53 peqs53 pnen53 pnes53 Td56 Tz56 ld56 li56 st56 feqs56 feqn56 Td57 Tz57 ld57 li57 st57 len57 ix57 sl57 sm57 sn57 eqn57 eqs57 eqi57 Td58 Tz58 ld58 li58 st58 len58 ix58 sl58
attribute [go_sem] sm58 sn58 eqn58 eqs58 eqi58 Td60 Tz60 ld60 li60 st60 lE60 bd60 pl60_0 pl60_1 pl60_2 fa60_0 fi60_0 fE60_0 fl60_0 fa60_1 fi60_1 fE60_1 fl60_1 fa60_2 fi60_2 fE60_2 fl60_2 Td62 Tz62 ld62 li62 st62 lE62 bd62 pl62_0 pl62_1 fa62_0 fi62_0 fE62_0 fl62_0
attribute [go_sem] fa62_1 fi62_1 fE62_1 fl62_1 Td63 Tz63 ld63 li63 st63 len63 ix63 sl63 sm63 sn63 eqn63 eqs63 eqi63 Td65 Tz65 ld65 li65 st65 lE65 bd65 pl65_0 pl65_1 pl65_2 fa65_0 fi65_0 fE65_0 fl65_0 fa65_1 fi65_1 fE65_1 fl65_1 fa65_2 fi65_2 fE65_2 fl65_2 Td68
attribute [go_sem] Tz68 ld68 li68 st68 lE68 bd68 pl68_0 pl68_1 fa68_0 fi68_0 fE68_0 fl68_0 fa68_1 fi68_1 fE68_1 fl68_1 Td77 Tz77 ld77 li77 st77 lE77 bd77 pl77_0 pl77_1 fa77_0 fi77_0 fE77_0 fl77_0 fa77_1 fi77_1 fE77_1 fl77_1 Td79 Tz79 ld79 li79 st79 len79 ix79
attribute [go_sem] sl79 sm79 sn79 eqn79 eqs79 eqi79 Td81 Tz81 ld81 li81 st81 lE81 bd81 pl81_0 pl81_1 pl81_2 fa81_0 fi81_0 fE81_0 fl81_0 fa81_1 fi81_1 fE81_1 fl81_1 fa81_2 fi81_2 fE81_2 fl81_2 Td83 Tz83 ld83 li83 st83 lE83 bd83 pl83_0 pl83_1 fa83_0 fi83_0 fE83_0
attribute [go_sem] fl83_0 fa83_1 fi83_1 fE83_1 fl83_1 Td87 Tz87 ld87 li87 st87 feqs87 feqn87 Td88 Tz88 ld88 li88 st88 feqs88 feqn88 Td89 Tz89 ld89 li89 st89 feqs89 feqn89 Td92 Tz92 ld92 li92 st92 feqs92 feqn92 Td94 Tz94 ld94 li94 st94 feqs94 feqn94
attribute [go_sem] Td95 Tz95 ld95 li95 st95 Td102 Tz102 ld102 li102 st102 Td103 Tz103 ld103 li103 st103 l8103 Td104 Tz104 ld104 li104 st104 l8104 Td107 Tz107 ld107 li107 st107 Td108 Tz108 ld108 li108 st108 ci2 ci3 ci5 ci6 ci12 ci21 ci42 ci95
attribute [go_sem] ci102 ci103 ci104 ci107 ci108
end Try
end Go.Proofs
