/- The types of the program as rewriting rules: written by a program (mkf.py). -/
import Derived.Test.YtmopimjhljellaaAbsLoose
import Derived.Test.YtmopimjhljellaaAbsTtable
set_option linter.unusedVariables false
namespace Go.Proofs
open Go.Abs
namespace Try
section tf
variable {h h' : AH} {i o : Nat} {v a : AV} {row cs : List AV} {α : Type} {E : Enc α} {l : List α} {j : Int} {off0 : Nat} {k : IntKind} {s : List UInt8} {x y : Int}
theorem Td1 : (Try.T 1).desc = .func := rfl
theorem Tz1 : (Try.T 1).zero = [.nilFunc] := rfl
theorem ld1 : loadA Try.T h 1 (.ptr (some (i, o))) = rd1 o (h.get i) := ld_1 rfl rfl
theorem li1 : loadA Try.T h 1 (.iptr row o) = row[o]? := ldi_1 rfl rfl
theorem st1 : storeA Try.T h 1 (.ptr (some (i, o))) v = stC h i o 1 v.cells := st_n rfl rfl
theorem feqs1 {f : FuncId} : binA Try.T .eql 1 (.func f cs) .nilFunc = some (.bool false) := fn_eqs rfl
theorem feqn1 : binA Try.T .eql 1 .nilFunc .nilFunc = some (.bool true) := fn_eqn rfl
theorem Td2 : (Try.T 2).desc = .int .i64 := rfl
theorem Tz2 : (Try.T 2).zero = [.int .i64 0] := rfl
theorem ld2 : loadA Try.T h 2 (.ptr (some (i, o))) = rd1 o (h.get i) := ld_1 rfl rfl
theorem li2 : loadA Try.T h 2 (.iptr row o) = row[o]? := ldi_1 rfl rfl
theorem st2 : storeA Try.T h 2 (.ptr (some (i, o))) v = stC h i o 1 v.cells := st_n rfl rfl
theorem lI2 {l : List Int} (p : Sl EI h i a l) (h0 : 0 ≤ j) (h1 : j < l.length) : loadA Try.T h 2 (a.at EI.sz 0 j) = some (.int .i64 (l[j.toNat]!)) := p.ldI h0 h1 rfl rfl
theorem Td3 : (Try.T 3).desc = .int .i64 := rfl
theorem Tz3 : (Try.T 3).zero = [.int .i64 0] := rfl
theorem ld3 : loadA Try.T h 3 (.ptr (some (i, o))) = rd1 o (h.get i) := ld_1 rfl rfl
theorem li3 : loadA Try.T h 3 (.iptr row o) = row[o]? := ldi_1 rfl rfl
theorem st3 : storeA Try.T h 3 (.ptr (some (i, o))) v = stC h i o 1 v.cells := st_n rfl rfl
theorem lI3 {l : List Int} (p : Sl EI h i a l) (h0 : 0 ≤ j) (h1 : j < l.length) : loadA Try.T h 3 (a.at EI.sz 0 j) = some (.int .i64 (l[j.toNat]!)) := p.ldI h0 h1 rfl rfl
theorem Td4 : (Try.T 4).desc = .bool := rfl
theorem Tz4 : (Try.T 4).zero = [.bool false] := rfl
theorem ld4 : loadA Try.T h 4 (.ptr (some (i, o))) = rd1 o (h.get i) := ld_1 rfl rfl
theorem li4 : loadA Try.T h 4 (.iptr row o) = row[o]? := ldi_1 rfl rfl
theorem st4 : storeA Try.T h 4 (.ptr (some (i, o))) v = stC h i o 1 v.cells := st_n rfl rfl
theorem beql4 {x y : Bool} : binA Try.T .eql 4 (.bool x) (.bool y) = some (.bool (x == y)) := bool_eql rfl
theorem bneq4 {x y : Bool} : binA Try.T .neq 4 (.bool x) (.bool y) = some (.bool (!(x == y))) := bool_neq rfl
theorem Td5 : (Try.T 5).desc = .int .u8 := rfl
theorem Tz5 : (Try.T 5).zero = [.int .u8 0] := rfl
theorem ld5 : loadA Try.T h 5 (.ptr (some (i, o))) = rd1 o (h.get i) := ld_1 rfl rfl
theorem li5 : loadA Try.T h 5 (.iptr row o) = row[o]? := ldi_1 rfl rfl
theorem st5 : storeA Try.T h 5 (.ptr (some (i, o))) v = stC h i o 1 v.cells := st_n rfl rfl
theorem l85 {l : List UInt8} (p : Sl E8 h i a l) (h0 : 0 ≤ j) (h1 : j < l.length) : loadA Try.T h 5 (a.at E8.sz 0 j) = some (.int .u8 ((l[j.toNat]!).toNat : Int)) := p.ld8 h0 h1 rfl rfl
theorem Td6 : (Try.T 6).desc = .int .u8 := rfl
theorem Tz6 : (Try.T 6).zero = [.int .u8 0] := rfl
theorem ld6 : loadA Try.T h 6 (.ptr (some (i, o))) = rd1 o (h.get i) := ld_1 rfl rfl
theorem li6 : loadA Try.T h 6 (.iptr row o) = row[o]? := ldi_1 rfl rfl
theorem st6 : storeA Try.T h 6 (.ptr (some (i, o))) v = stC h i o 1 v.cells := st_n rfl rfl
theorem l86 {l : List UInt8} (p : Sl E8 h i a l) (h0 : 0 ≤ j) (h1 : j < l.length) : loadA Try.T h 6 (a.at E8.sz 0 j) = some (.int .u8 ((l[j.toNat]!).toNat : Int)) := p.ld8 h0 h1 rfl rfl
theorem Td7 : (Try.T 7).desc = .struct [(2, 0, true), (3, 1, true), (4, 2, true), (6, 3, true)] := rfl
theorem Tz7 : (Try.T 7).zero = [.int .i64 0, .int .i64 0, .bool false, .int .u8 0] := rfl
theorem ld7 : loadA Try.T h 7 (.ptr (some (i, o))) = rdN o 4 (h.get i) := ld_n rfl rfl rfl
theorem li7 : loadA Try.T h 7 (.iptr row o) = (cut row o 4).map .agg := ldi_n rfl rfl rfl
theorem st7 : storeA Try.T h 7 (.ptr (some (i, o))) v = stC h i o 4 v.cells := st_n rfl rfl
theorem lE7 [Inhabited α] (p : Sl E h i a l) (h0 : 0 ≤ j) (h1 : j < l.length) (h4 : Seen (Nat.beq E.sz 4)) : loadA Try.T h 7 (a.at E.sz 0 j) = some (.agg (E.f (l[j.toNat]!))) := p.ldn h0 h1 rfl rfl (Nat.eq_of_beq_eq_true h4.eq).symm
theorem bd7 {l : List (Nat × AV)} : bldR Try.T 7 (some l) = (fillA (plA Try.T 7) (Try.T 7).zero l).map .agg := bld_eq rfl
theorem pl7_0 : plA Try.T 7 0 = some (0, 1) := rfl
theorem pl7_1 : plA Try.T 7 1 = some (1, 1) := rfl
theorem pl7_2 : plA Try.T 7 2 = some (2, 1) := rfl
theorem pl7_3 : plA Try.T 7 3 = some (3, 1) := rfl
theorem fa7_0 : faR Try.T 7 0 (some (.ptr (some (i, o)))) = some (.ptr (some (i, o + 0))) := fa_ptr rfl (by decide) rfl
theorem fi7_0 : faR Try.T 7 0 (some (.iptr row o)) = some (.iptr row (o + 0)) := fa_iptr rfl (by decide) rfl
theorem fE7_0 (p : Sl E h i a l) (h0 : 0 ≤ j) (h1 : j < l.length) : faR Try.T 7 0 (some (a.at E.sz off0 j)) = some (a.at E.sz (off0 + 0) j) := p.fa h0 h1 rfl (by decide) rfl
theorem fl7_0 : fldR Try.T 7 0 (some (.agg cs)) = cs[0]? := fld_1 rfl rfl rfl
theorem fa7_1 : faR Try.T 7 1 (some (.ptr (some (i, o)))) = some (.ptr (some (i, o + 1))) := fa_ptr rfl (by decide) rfl
theorem fi7_1 : faR Try.T 7 1 (some (.iptr row o)) = some (.iptr row (o + 1)) := fa_iptr rfl (by decide) rfl
theorem fE7_1 (p : Sl E h i a l) (h0 : 0 ≤ j) (h1 : j < l.length) : faR Try.T 7 1 (some (a.at E.sz off0 j)) = some (a.at E.sz (off0 + 1) j) := p.fa h0 h1 rfl (by decide) rfl
theorem fl7_1 : fldR Try.T 7 1 (some (.agg cs)) = cs[1]? := fld_1 rfl rfl rfl
theorem fa7_2 : faR Try.T 7 2 (some (.ptr (some (i, o)))) = some (.ptr (some (i, o + 2))) := fa_ptr rfl (by decide) rfl
theorem fi7_2 : faR Try.T 7 2 (some (.iptr row o)) = some (.iptr row (o + 2)) := fa_iptr rfl (by decide) rfl
theorem fE7_2 (p : Sl E h i a l) (h0 : 0 ≤ j) (h1 : j < l.length) : faR Try.T 7 2 (some (a.at E.sz off0 j)) = some (a.at E.sz (off0 + 2) j) := p.fa h0 h1 rfl (by decide) rfl
theorem fl7_2 : fldR Try.T 7 2 (some (.agg cs)) = cs[2]? := fld_1 rfl rfl rfl
theorem fa7_3 : faR Try.T 7 3 (some (.ptr (some (i, o)))) = some (.ptr (some (i, o + 3))) := fa_ptr rfl (by decide) rfl
theorem fi7_3 : faR Try.T 7 3 (some (.iptr row o)) = some (.iptr row (o + 3)) := fa_iptr rfl (by decide) rfl
theorem fE7_3 (p : Sl E h i a l) (h0 : 0 ≤ j) (h1 : j < l.length) : faR Try.T 7 3 (some (a.at E.sz off0 j)) = some (a.at E.sz (off0 + 3) j) := p.fa h0 h1 rfl (by decide) rfl
theorem fl7_3 : fldR Try.T 7 3 (some (.agg cs)) = cs[3]? := fld_1 rfl rfl rfl
theorem Td8 : (Try.T 8).desc = .struct [(2, 0, true), (3, 1, true), (4, 2, true), (6, 3, true)] := rfl
theorem Tz8 : (Try.T 8).zero = [.int .i64 0, .int .i64 0, .bool false, .int .u8 0] := rfl
theorem ld8 : loadA Try.T h 8 (.ptr (some (i, o))) = rdN o 4 (h.get i) := ld_n rfl rfl rfl
theorem li8 : loadA Try.T h 8 (.iptr row o) = (cut row o 4).map .agg := ldi_n rfl rfl rfl
theorem st8 : storeA Try.T h 8 (.ptr (some (i, o))) v = stC h i o 4 v.cells := st_n rfl rfl
theorem lE8 [Inhabited α] (p : Sl E h i a l) (h0 : 0 ≤ j) (h1 : j < l.length) (h4 : Seen (Nat.beq E.sz 4)) : loadA Try.T h 8 (a.at E.sz 0 j) = some (.agg (E.f (l[j.toNat]!))) := p.ldn h0 h1 rfl rfl (Nat.eq_of_beq_eq_true h4.eq).symm
theorem bd8 {l : List (Nat × AV)} : bldR Try.T 8 (some l) = (fillA (plA Try.T 8) (Try.T 8).zero l).map .agg := bld_eq rfl
theorem pl8_0 : plA Try.T 8 0 = some (0, 1) := rfl
theorem pl8_1 : plA Try.T 8 1 = some (1, 1) := rfl
theorem pl8_2 : plA Try.T 8 2 = some (2, 1) := rfl
theorem pl8_3 : plA Try.T 8 3 = some (3, 1) := rfl
theorem fa8_0 : faR Try.T 8 0 (some (.ptr (some (i, o)))) = some (.ptr (some (i, o + 0))) := fa_ptr rfl (by decide) rfl
theorem fi8_0 : faR Try.T 8 0 (some (.iptr row o)) = some (.iptr row (o + 0)) := fa_iptr rfl (by decide) rfl
theorem fE8_0 (p : Sl E h i a l) (h0 : 0 ≤ j) (h1 : j < l.length) : faR Try.T 8 0 (some (a.at E.sz off0 j)) = some (a.at E.sz (off0 + 0) j) := p.fa h0 h1 rfl (by decide) rfl
theorem fl8_0 : fldR Try.T 8 0 (some (.agg cs)) = cs[0]? := fld_1 rfl rfl rfl
theorem fa8_1 : faR Try.T 8 1 (some (.ptr (some (i, o)))) = some (.ptr (some (i, o + 1))) := fa_ptr rfl (by decide) rfl
theorem fi8_1 : faR Try.T 8 1 (some (.iptr row o)) = some (.iptr row (o + 1)) := fa_iptr rfl (by decide) rfl
theorem fE8_1 (p : Sl E h i a l) (h0 : 0 ≤ j) (h1 : j < l.length) : faR Try.T 8 1 (some (a.at E.sz off0 j)) = some (a.at E.sz (off0 + 1) j) := p.fa h0 h1 rfl (by decide) rfl
theorem fl8_1 : fldR Try.T 8 1 (some (.agg cs)) = cs[1]? := fld_1 rfl rfl rfl
theorem fa8_2 : faR Try.T 8 2 (some (.ptr (some (i, o)))) = some (.ptr (some (i, o + 2))) := fa_ptr rfl (by decide) rfl
theorem fi8_2 : faR Try.T 8 2 (some (.iptr row o)) = some (.iptr row (o + 2)) := fa_iptr rfl (by decide) rfl
theorem fE8_2 (p : Sl E h i a l) (h0 : 0 ≤ j) (h1 : j < l.length) : faR Try.T 8 2 (some (a.at E.sz off0 j)) = some (a.at E.sz (off0 + 2) j) := p.fa h0 h1 rfl (by decide) rfl
theorem fl8_2 : fldR Try.T 8 2 (some (.agg cs)) = cs[2]? := fld_1 rfl rfl rfl
theorem fa8_3 : faR Try.T 8 3 (some (.ptr (some (i, o)))) = some (.ptr (some (i, o + 3))) := fa_ptr rfl (by decide) rfl
theorem fi8_3 : faR Try.T 8 3 (some (.iptr row o)) = some (.iptr row (o + 3)) := fa_iptr rfl (by decide) rfl
theorem fE8_3 (p : Sl E h i a l) (h0 : 0 ≤ j) (h1 : j < l.length) : faR Try.T 8 3 (some (a.at E.sz off0 j)) = some (a.at E.sz (off0 + 3) j) := p.fa h0 h1 rfl (by decide) rfl
theorem fl8_3 : fldR Try.T 8 3 (some (.agg cs)) = cs[3]? := fld_1 rfl rfl rfl
theorem Td9 : (Try.T 9).desc = .string := rfl
theorem Tz9 : (Try.T 9).zero = [.str []] := rfl
theorem ld9 : loadA Try.T h 9 (.ptr (some (i, o))) = rd1 o (h.get i) := ld_1 rfl rfl
theorem li9 : loadA Try.T h 9 (.iptr row o) = row[o]? := ldi_1 rfl rfl
theorem st9 : storeA Try.T h 9 (.ptr (some (i, o))) v = stC h i o 1 v.cells := st_n rfl rfl
theorem ssn9 (h0 : 0 ≤ y) (h1 : y ≤ s.length) : sliceA Try.T 9 (.str s) none (some y) none = some (.str (s.take y.toNat)) := ss_n rfl h0 h1
theorem ssl9 (h0 : 0 ≤ x) (h1 : x ≤ s.length) : sliceA Try.T 9 (.str s) (some x) none none = some (.str (s.drop x.toNat)) := ss_l rfl h0 h1
theorem ssb9 (h0 : 0 ≤ x) (h1 : x ≤ y) (h2 : y ≤ s.length) : sliceA Try.T 9 (.str s) (some x) (some y) none = some (.str ((s.drop x.toNat).take (y.toNat - x.toNat))) := ss_b rfl h0 h1 h2
theorem len9 : builtinA Try.T h .len [9] [.str s] = some (.int .i64 (s.length : Int), h) := len_str .mk
theorem ix9 (h0 : 0 ≤ j) (h1 : j < s.length) : ixR Try.T 9 (some (.str s)) (some (.int k j)) = some (.int .u8 ((s[j.toNat]!).toNat : Int)) := ix_str .mk h0 h1
theorem Td10 : (Try.T 10).desc = .string := rfl
theorem Tz10 : (Try.T 10).zero = [.str []] := rfl
theorem ld10 : loadA Try.T h 10 (.ptr (some (i, o))) = rd1 o (h.get i) := ld_1 rfl rfl
theorem li10 : loadA Try.T h 10 (.iptr row o) = row[o]? := ldi_1 rfl rfl
theorem st10 : storeA Try.T h 10 (.ptr (some (i, o))) v = stC h i o 1 v.cells := st_n rfl rfl
theorem ssn10 (h0 : 0 ≤ y) (h1 : y ≤ s.length) : sliceA Try.T 10 (.str s) none (some y) none = some (.str (s.take y.toNat)) := ss_n rfl h0 h1
theorem ssl10 (h0 : 0 ≤ x) (h1 : x ≤ s.length) : sliceA Try.T 10 (.str s) (some x) none none = some (.str (s.drop x.toNat)) := ss_l rfl h0 h1
theorem ssb10 (h0 : 0 ≤ x) (h1 : x ≤ y) (h2 : y ≤ s.length) : sliceA Try.T 10 (.str s) (some x) (some y) none = some (.str ((s.drop x.toNat).take (y.toNat - x.toNat))) := ss_b rfl h0 h1 h2
theorem len10 : builtinA Try.T h .len [10] [.str s] = some (.int .i64 (s.length : Int), h) := len_str .mk
theorem ix10 (h0 : 0 ≤ j) (h1 : j < s.length) : ixR Try.T 10 (some (.str s)) (some (.int k j)) = some (.int .u8 ((s[j.toNat]!).toNat : Int)) := ix_str .mk h0 h1
theorem Td11 : (Try.T 11).desc = .string := rfl
theorem Tz11 : (Try.T 11).zero = [.str []] := rfl
theorem ld11 : loadA Try.T h 11 (.ptr (some (i, o))) = rd1 o (h.get i) := ld_1 rfl rfl
theorem li11 : loadA Try.T h 11 (.iptr row o) = row[o]? := ldi_1 rfl rfl
theorem st11 : storeA Try.T h 11 (.ptr (some (i, o))) v = stC h i o 1 v.cells := st_n rfl rfl
theorem ssn11 (h0 : 0 ≤ y) (h1 : y ≤ s.length) : sliceA Try.T 11 (.str s) none (some y) none = some (.str (s.take y.toNat)) := ss_n rfl h0 h1
theorem ssl11 (h0 : 0 ≤ x) (h1 : x ≤ s.length) : sliceA Try.T 11 (.str s) (some x) none none = some (.str (s.drop x.toNat)) := ss_l rfl h0 h1
theorem ssb11 (h0 : 0 ≤ x) (h1 : x ≤ y) (h2 : y ≤ s.length) : sliceA Try.T 11 (.str s) (some x) (some y) none = some (.str ((s.drop x.toNat).take (y.toNat - x.toNat))) := ss_b rfl h0 h1 h2
theorem len11 : builtinA Try.T h .len [11] [.str s] = some (.int .i64 (s.length : Int), h) := len_str .mk
theorem ix11 (h0 : 0 ≤ j) (h1 : j < s.length) : ixR Try.T 11 (some (.str s)) (some (.int k j)) = some (.int .u8 ((s[j.toNat]!).toNat : Int)) := ix_str .mk h0 h1
theorem Td12 : (Try.T 12).desc = .int .u64 := rfl
theorem Tz12 : (Try.T 12).zero = [.int .u64 0] := rfl
theorem ld12 : loadA Try.T h 12 (.ptr (some (i, o))) = rd1 o (h.get i) := ld_1 rfl rfl
theorem li12 : loadA Try.T h 12 (.iptr row o) = row[o]? := ldi_1 rfl rfl
theorem st12 : storeA Try.T h 12 (.ptr (some (i, o))) v = stC h i o 1 v.cells := st_n rfl rfl
theorem Td13 : (Try.T 13).desc = .struct [(9, 0, true), (12, 1, true)] := rfl
theorem Tz13 : (Try.T 13).zero = [.str [], .int .u64 0] := rfl
theorem ld13 : loadA Try.T h 13 (.ptr (some (i, o))) = rdN o 2 (h.get i) := ld_n rfl rfl rfl
theorem li13 : loadA Try.T h 13 (.iptr row o) = (cut row o 2).map .agg := ldi_n rfl rfl rfl
theorem st13 : storeA Try.T h 13 (.ptr (some (i, o))) v = stC h i o 2 v.cells := st_n rfl rfl
theorem lE13 [Inhabited α] (p : Sl E h i a l) (h0 : 0 ≤ j) (h1 : j < l.length) (h4 : Seen (Nat.beq E.sz 2)) : loadA Try.T h 13 (a.at E.sz 0 j) = some (.agg (E.f (l[j.toNat]!))) := p.ldn h0 h1 rfl rfl (Nat.eq_of_beq_eq_true h4.eq).symm
theorem bd13 {l : List (Nat × AV)} : bldR Try.T 13 (some l) = (fillA (plA Try.T 13) (Try.T 13).zero l).map .agg := bld_eq rfl
theorem pl13_0 : plA Try.T 13 0 = some (0, 1) := rfl
theorem pl13_1 : plA Try.T 13 1 = some (1, 1) := rfl
theorem fa13_0 : faR Try.T 13 0 (some (.ptr (some (i, o)))) = some (.ptr (some (i, o + 0))) := fa_ptr rfl (by decide) rfl
theorem fi13_0 : faR Try.T 13 0 (some (.iptr row o)) = some (.iptr row (o + 0)) := fa_iptr rfl (by decide) rfl
theorem fE13_0 (p : Sl E h i a l) (h0 : 0 ≤ j) (h1 : j < l.length) : faR Try.T 13 0 (some (a.at E.sz off0 j)) = some (a.at E.sz (off0 + 0) j) := p.fa h0 h1 rfl (by decide) rfl
theorem fl13_0 : fldR Try.T 13 0 (some (.agg cs)) = cs[0]? := fld_1 rfl rfl rfl
theorem fa13_1 : faR Try.T 13 1 (some (.ptr (some (i, o)))) = some (.ptr (some (i, o + 1))) := fa_ptr rfl (by decide) rfl
theorem fi13_1 : faR Try.T 13 1 (some (.iptr row o)) = some (.iptr row (o + 1)) := fa_iptr rfl (by decide) rfl
theorem fE13_1 (p : Sl E h i a l) (h0 : 0 ≤ j) (h1 : j < l.length) : faR Try.T 13 1 (some (a.at E.sz off0 j)) = some (a.at E.sz (off0 + 1) j) := p.fa h0 h1 rfl (by decide) rfl
theorem fl13_1 : fldR Try.T 13 1 (some (.agg cs)) = cs[1]? := fld_1 rfl rfl rfl
theorem Td14 : (Try.T 14).desc = .struct [(9, 0, true), (12, 1, true)] := rfl
theorem Tz14 : (Try.T 14).zero = [.str [], .int .u64 0] := rfl
theorem ld14 : loadA Try.T h 14 (.ptr (some (i, o))) = rdN o 2 (h.get i) := ld_n rfl rfl rfl
theorem li14 : loadA Try.T h 14 (.iptr row o) = (cut row o 2).map .agg := ldi_n rfl rfl rfl
theorem st14 : storeA Try.T h 14 (.ptr (some (i, o))) v = stC h i o 2 v.cells := st_n rfl rfl
theorem lE14 [Inhabited α] (p : Sl E h i a l) (h0 : 0 ≤ j) (h1 : j < l.length) (h4 : Seen (Nat.beq E.sz 2)) : loadA Try.T h 14 (a.at E.sz 0 j) = some (.agg (E.f (l[j.toNat]!))) := p.ldn h0 h1 rfl rfl (Nat.eq_of_beq_eq_true h4.eq).symm
theorem bd14 {l : List (Nat × AV)} : bldR Try.T 14 (some l) = (fillA (plA Try.T 14) (Try.T 14).zero l).map .agg := bld_eq rfl
theorem pl14_0 : plA Try.T 14 0 = some (0, 1) := rfl
theorem pl14_1 : plA Try.T 14 1 = some (1, 1) := rfl
theorem fa14_0 : faR Try.T 14 0 (some (.ptr (some (i, o)))) = some (.ptr (some (i, o + 0))) := fa_ptr rfl (by decide) rfl
theorem fi14_0 : faR Try.T 14 0 (some (.iptr row o)) = some (.iptr row (o + 0)) := fa_iptr rfl (by decide) rfl
theorem fE14_0 (p : Sl E h i a l) (h0 : 0 ≤ j) (h1 : j < l.length) : faR Try.T 14 0 (some (a.at E.sz off0 j)) = some (a.at E.sz (off0 + 0) j) := p.fa h0 h1 rfl (by decide) rfl
theorem fl14_0 : fldR Try.T 14 0 (some (.agg cs)) = cs[0]? := fld_1 rfl rfl rfl
theorem fa14_1 : faR Try.T 14 1 (some (.ptr (some (i, o)))) = some (.ptr (some (i, o + 1))) := fa_ptr rfl (by decide) rfl
theorem fi14_1 : faR Try.T 14 1 (some (.iptr row o)) = some (.iptr row (o + 1)) := fa_iptr rfl (by decide) rfl
theorem fE14_1 (p : Sl E h i a l) (h0 : 0 ≤ j) (h1 : j < l.length) : faR Try.T 14 1 (some (a.at E.sz off0 j)) = some (a.at E.sz (off0 + 1) j) := p.fa h0 h1 rfl (by decide) rfl
theorem fl14_1 : fldR Try.T 14 1 (some (.agg cs)) = cs[1]? := fld_1 rfl rfl rfl
theorem Td15 : (Try.T 15).desc = .pointer 65 := rfl
theorem Tz15 : (Try.T 15).zero = [.ptr none] := rfl
theorem ld15 : loadA Try.T h 15 (.ptr (some (i, o))) = rd1 o (h.get i) := ld_1 rfl rfl
theorem li15 : loadA Try.T h 15 (.iptr row o) = row[o]? := ldi_1 rfl rfl
theorem st15 : storeA Try.T h 15 (.ptr (some (i, o))) v = stC h i o 1 v.cells := st_n rfl rfl
theorem peqn15 : binA Try.T .eql 15 (.ptr none) (.ptr none) = some (.bool true) := pt_eqn rfl
theorem peqs15 {p : Nat × Nat} : binA Try.T .eql 15 (.ptr (some p)) (.ptr none) = some (.bool false) := pt_eqs rfl
theorem pnen15 : binA Try.T .neq 15 (.ptr none) (.ptr none) = some (.bool false) := pt_nen rfl
theorem pnes15 {p : Nat × Nat} : binA Try.T .neq 15 (.ptr (some p)) (.ptr none) = some (.bool true) := pt_nes rfl
theorem Td16 : (Try.T 16).desc = .pointer 68 := rfl
theorem Tz16 : (Try.T 16).zero = [.ptr none] := rfl
theorem ld16 : loadA Try.T h 16 (.ptr (some (i, o))) = rd1 o (h.get i) := ld_1 rfl rfl
theorem li16 : loadA Try.T h 16 (.iptr row o) = row[o]? := ldi_1 rfl rfl
theorem st16 : storeA Try.T h 16 (.ptr (some (i, o))) v = stC h i o 1 v.cells := st_n rfl rfl
theorem peqn16 : binA Try.T .eql 16 (.ptr none) (.ptr none) = some (.bool true) := pt_eqn rfl
theorem peqs16 {p : Nat × Nat} : binA Try.T .eql 16 (.ptr (some p)) (.ptr none) = some (.bool false) := pt_eqs rfl
theorem pnen16 : binA Try.T .neq 16 (.ptr none) (.ptr none) = some (.bool false) := pt_nen rfl
theorem pnes16 {p : Nat × Nat} : binA Try.T .neq 16 (.ptr (some p)) (.ptr none) = some (.bool true) := pt_nes rfl
theorem Td17 : (Try.T 17).desc = .pointer 77 := rfl
theorem Tz17 : (Try.T 17).zero = [.ptr none] := rfl
theorem ld17 : loadA Try.T h 17 (.ptr (some (i, o))) = rd1 o (h.get i) := ld_1 rfl rfl
theorem li17 : loadA Try.T h 17 (.iptr row o) = row[o]? := ldi_1 rfl rfl
theorem st17 : storeA Try.T h 17 (.ptr (some (i, o))) v = stC h i o 1 v.cells := st_n rfl rfl
theorem peqn17 : binA Try.T .eql 17 (.ptr none) (.ptr none) = some (.bool true) := pt_eqn rfl
theorem peqs17 {p : Nat × Nat} : binA Try.T .eql 17 (.ptr (some p)) (.ptr none) = some (.bool false) := pt_eqs rfl
theorem pnen17 : binA Try.T .neq 17 (.ptr none) (.ptr none) = some (.bool false) := pt_nen rfl
theorem pnes17 {p : Nat × Nat} : binA Try.T .neq 17 (.ptr (some p)) (.ptr none) = some (.bool true) := pt_nes rfl
theorem Td18 : (Try.T 18).desc = .struct [(17, 0, true)] := rfl
theorem Tz18 : (Try.T 18).zero = [.ptr none] := rfl
theorem ld18 : loadA Try.T h 18 (.ptr (some (i, o))) = rdN o 1 (h.get i) := ld_n rfl rfl rfl
theorem li18 : loadA Try.T h 18 (.iptr row o) = (cut row o 1).map .agg := ldi_n rfl rfl rfl
theorem st18 : storeA Try.T h 18 (.ptr (some (i, o))) v = stC h i o 1 v.cells := st_n rfl rfl
theorem lE18 [Inhabited α] (p : Sl E h i a l) (h0 : 0 ≤ j) (h1 : j < l.length) (h4 : Seen (Nat.beq E.sz 1)) : loadA Try.T h 18 (a.at E.sz 0 j) = some (.agg (E.f (l[j.toNat]!))) := p.ldn h0 h1 rfl rfl (Nat.eq_of_beq_eq_true h4.eq).symm
theorem bd18 {l : List (Nat × AV)} : bldR Try.T 18 (some l) = (fillA (plA Try.T 18) (Try.T 18).zero l).map .agg := bld_eq rfl
theorem pl18_0 : plA Try.T 18 0 = some (0, 1) := rfl
theorem fa18_0 : faR Try.T 18 0 (some (.ptr (some (i, o)))) = some (.ptr (some (i, o + 0))) := fa_ptr rfl (by decide) rfl
theorem fi18_0 : faR Try.T 18 0 (some (.iptr row o)) = some (.iptr row (o + 0)) := fa_iptr rfl (by decide) rfl
theorem fE18_0 (p : Sl E h i a l) (h0 : 0 ≤ j) (h1 : j < l.length) : faR Try.T 18 0 (some (a.at E.sz off0 j)) = some (a.at E.sz (off0 + 0) j) := p.fa h0 h1 rfl (by decide) rfl
theorem fl18_0 : fldR Try.T 18 0 (some (.agg cs)) = cs[0]? := fld_1 rfl rfl rfl
theorem Td19 : (Try.T 19).desc = .struct [(17, 0, true)] := rfl
theorem Tz19 : (Try.T 19).zero = [.ptr none] := rfl
theorem ld19 : loadA Try.T h 19 (.ptr (some (i, o))) = rdN o 1 (h.get i) := ld_n rfl rfl rfl
theorem li19 : loadA Try.T h 19 (.iptr row o) = (cut row o 1).map .agg := ldi_n rfl rfl rfl
theorem st19 : storeA Try.T h 19 (.ptr (some (i, o))) v = stC h i o 1 v.cells := st_n rfl rfl
theorem lE19 [Inhabited α] (p : Sl E h i a l) (h0 : 0 ≤ j) (h1 : j < l.length) (h4 : Seen (Nat.beq E.sz 1)) : loadA Try.T h 19 (a.at E.sz 0 j) = some (.agg (E.f (l[j.toNat]!))) := p.ldn h0 h1 rfl rfl (Nat.eq_of_beq_eq_true h4.eq).symm
theorem bd19 {l : List (Nat × AV)} : bldR Try.T 19 (some l) = (fillA (plA Try.T 19) (Try.T 19).zero l).map .agg := bld_eq rfl
theorem pl19_0 : plA Try.T 19 0 = some (0, 1) := rfl
theorem fa19_0 : faR Try.T 19 0 (some (.ptr (some (i, o)))) = some (.ptr (some (i, o + 0))) := fa_ptr rfl (by decide) rfl
theorem fi19_0 : faR Try.T 19 0 (some (.iptr row o)) = some (.iptr row (o + 0)) := fa_iptr rfl (by decide) rfl
theorem fE19_0 (p : Sl E h i a l) (h0 : 0 ≤ j) (h1 : j < l.length) : faR Try.T 19 0 (some (a.at E.sz off0 j)) = some (a.at E.sz (off0 + 0) j) := p.fa h0 h1 rfl (by decide) rfl
theorem fl19_0 : fldR Try.T 19 0 (some (.agg cs)) = cs[0]? := fld_1 rfl rfl rfl
theorem Td21 : (Try.T 21).desc = .int .i32 := rfl
theorem Tz21 : (Try.T 21).zero = [.int .i32 0] := rfl
theorem ld21 : loadA Try.T h 21 (.ptr (some (i, o))) = rd1 o (h.get i) := ld_1 rfl rfl
theorem li21 : loadA Try.T h 21 (.iptr row o) = row[o]? := ldi_1 rfl rfl
theorem st21 : storeA Try.T h 21 (.ptr (some (i, o))) v = stC h i o 1 v.cells := st_n rfl rfl
theorem Td22 : (Try.T 22).desc = .slice 33 := rfl
theorem Tz22 : (Try.T 22).zero = [.slice none 0 0 0 true] := rfl
theorem ld22 : loadA Try.T h 22 (.ptr (some (i, o))) = rd1 o (h.get i) := ld_1 rfl rfl
theorem li22 : loadA Try.T h 22 (.iptr row o) = row[o]? := ldi_1 rfl rfl
theorem st22 : storeA Try.T h 22 (.ptr (some (i, o))) v = stC h i o 1 v.cells := st_n rfl rfl
theorem len22 (p : Sl E h i a l) : builtinA Try.T h' .len [22] [a] = some (.int .i64 (l.length : Int), h') := p.len rfl
theorem ix22 (p : Sl E h i a l) (h0 : 0 ≤ j) (h1 : j < l.length) (h2 : Seen (Nat.beq E.sz 4)) : idxA Try.T 22 a (.int k j) = some (a.at E.sz 0 j) := p.idx h0 h1 rfl rfl (Nat.eq_of_beq_eq_true h2.eq).symm
theorem wr33 {P : Program} {ops : Array Oper} {L : List Oper} {K : Tm → AH → Prop} {d : Option Nat} {tm : Tm} (p : Ow E h i a l) (x : α) (hx : v.cells = E.f x) (h0 : 0 ≤ j) (h1 : j < l.length) (h2 : Seen (Nat.beq E.sz 4)) (hk : ∀ h', Ow E h' i a (l.set j.toNat x) → h'.size = h.size → (∀ b, ¬ b = i → h'.get b = h.get b) → putM P Try.T ops L K d tm undefA h') : ansM P Try.T ops L K d tm h ((storeA Try.T h 33 (a.at E.sz 0 j) v).map fun h' => .val undefA h') :=
  ans_wr p x hx h0 h1 rfl (Nat.eq_of_beq_eq_true h2.eq).symm hk
theorem w33_0_3 {P : Program} {ops : Array Oper} {L : List Oper} {K : Tm → AH → Prop} {d : Option Nat} {tm : Tm} [Inhabited α] (p : Ow E h i a l) (x : α) (hx : E.f x = (E.f (l[j.toNat]!)).set 0 v) (hv : v.cells = [v]) (hv1 : v.one = true) (h0 : 0 ≤ j) (h1 : j < l.length) (h2 : Seen (Nat.blt 0 E.sz)) (hk : ∀ h', Ow E h' i a (l.set j.toNat x) → h'.size = h.size → (∀ b, ¬ b = i → h'.get b = h.get b) → putM P Try.T ops L K d tm undefA h') : ansM P Try.T ops L K d tm h ((storeA Try.T h 3 (a.at E.sz 0 j) v).map fun h' => .val undefA h') :=
  ans_wr1 p x hx hv hv1 (by simpa [Nat.blt_eq] using h2.eq) h0 h1 rfl rfl hk
theorem w33_1_9 {P : Program} {ops : Array Oper} {L : List Oper} {K : Tm → AH → Prop} {d : Option Nat} {tm : Tm} [Inhabited α] (p : Ow E h i a l) (x : α) (hx : E.f x = (E.f (l[j.toNat]!)).set 1 v) (hv : v.cells = [v]) (hv1 : v.one = true) (h0 : 0 ≤ j) (h1 : j < l.length) (h2 : Seen (Nat.blt 1 E.sz)) (hk : ∀ h', Ow E h' i a (l.set j.toNat x) → h'.size = h.size → (∀ b, ¬ b = i → h'.get b = h.get b) → putM P Try.T ops L K d tm undefA h') : ansM P Try.T ops L K d tm h ((storeA Try.T h 9 (a.at E.sz 1 j) v).map fun h' => .val undefA h') :=
  ans_wr1 p x hx hv hv1 (by simpa [Nat.blt_eq] using h2.eq) h0 h1 rfl rfl hk
theorem w33_2_9 {P : Program} {ops : Array Oper} {L : List Oper} {K : Tm → AH → Prop} {d : Option Nat} {tm : Tm} [Inhabited α] (p : Ow E h i a l) (x : α) (hx : E.f x = (E.f (l[j.toNat]!)).set 2 v) (hv : v.cells = [v]) (hv1 : v.one = true) (h0 : 0 ≤ j) (h1 : j < l.length) (h2 : Seen (Nat.blt 2 E.sz)) (hk : ∀ h', Ow E h' i a (l.set j.toNat x) → h'.size = h.size → (∀ b, ¬ b = i → h'.get b = h.get b) → putM P Try.T ops L K d tm undefA h') : ansM P Try.T ops L K d tm h ((storeA Try.T h 9 (a.at E.sz 2 j) v).map fun h' => .val undefA h') :=
  ans_wr1 p x hx hv hv1 (by simpa [Nat.blt_eq] using h2.eq) h0 h1 rfl rfl hk
theorem w33_3_3 {P : Program} {ops : Array Oper} {L : List Oper} {K : Tm → AH → Prop} {d : Option Nat} {tm : Tm} [Inhabited α] (p : Ow E h i a l) (x : α) (hx : E.f x = (E.f (l[j.toNat]!)).set 3 v) (hv : v.cells = [v]) (hv1 : v.one = true) (h0 : 0 ≤ j) (h1 : j < l.length) (h2 : Seen (Nat.blt 3 E.sz)) (hk : ∀ h', Ow E h' i a (l.set j.toNat x) → h'.size = h.size → (∀ b, ¬ b = i → h'.get b = h.get b) → putM P Try.T ops L K d tm undefA h') : ansM P Try.T ops L K d tm h ((storeA Try.T h 3 (a.at E.sz 3 j) v).map fun h' => .val undefA h') :=
  ans_wr1 p x hx hv hv1 (by simpa [Nat.blt_eq] using h2.eq) h0 h1 rfl rfl hk
theorem sl22 (p : Sl E h i a l) (h0 : 0 ≤ x) (h1 : x ≤ y) (h2 : y ≤ l.length) (h3 : Seen (Nat.beq E.sz 4)) : sliceA Try.T 22 a (some x) (some y) none = some (a.part x y) := p.slc h0 h1 h2 rfl rfl (Nat.eq_of_beq_eq_true h3.eq).symm
theorem sm22 (p : Sl E h i a l) (h1 : 0 ≤ y) (h2 : y ≤ l.length) (h3 : Seen (Nat.beq E.sz 4)) : sliceA Try.T 22 a none (some y) none = some (a.part 0 y) := p.slc (lo := none) (Int.le_refl _) h1 h2 rfl rfl (Nat.eq_of_beq_eq_true h3.eq).symm
theorem sn22 (p : Sl E h i a l) (h0 : 0 ≤ x) (h1 : x ≤ l.length) (h3 : Seen (Nat.beq E.sz 4)) : sliceA Try.T 22 a (some x) none none = some (a.part x l.length) := p.slc (hi := none) h0 h1 (Int.le_refl _) rfl rfl (Nat.eq_of_beq_eq_true h3.eq).symm
theorem ap22 {P : Program} {ops : Array Oper} {L : List Oper} {K : Tm → AH → Prop} {d : Option Nat} {tm : Tm} {x : AV} {new : List α} {ix : Nat} (p : Ow E h i a l) (hx : Sl E h ix x new) (h2 : Seen (Nat.beq E.sz 4)) (hr : (l.length + new.length) * 48 ≤ 140737488355328) (hk : ∀ z h' i', Ow E h' i' z (l ++ new) → (i' = i ∨ h.size ≤ i') → h.size ≤ h'.size → (∀ j, j < h.size → ¬ j = i → h'.get j = h.get j) → putM P Try.T ops L K d tm z h') : ansM P Try.T ops L K d tm h (pairR (appendA Try.T h 22 22 a x)) :=
  ans_app p hx rfl ⟨_, rfl⟩ rfl (Nat.eq_of_beq_eq_true h2.eq).symm (Nat.eq_of_beq_eq_true h2.eq).symm (by decide) hr hk
theorem al22 {P : Program} {ops : Array Oper} {L : List Oper} {K : Tm → AH → Prop} {d : Option Nat} {tm : Tm} {sz : Nat} (x : α) (p : Ow E h i a l) (hx : cs = E.f x) (hs : sz = E.sz) (h2 : Seen (Nat.beq E.sz 4)) (hr : (l.length + 1) * 48 ≤ 140737488355328) (hk : ∀ z h' i', Ow E h' i' z (l ++ [x]) → (i' = i ∨ h.size ≤ i') → h.size ≤ h'.size → (∀ j, j < h.size → ¬ j = i → h'.get j = h.get j) → putM P Try.T ops L K d tm z h') : ansM P Try.T ops L K d tm (h.push (.cells cs)) (pairR (appendA Try.T (h.push (.cells cs)) 22 22 a (.slice (some (h.size, 0)) 1 1 sz true))) :=
  ans_app1 p x hx hs rfl rfl (Nat.eq_of_beq_eq_true h2.eq).symm (Nat.eq_of_beq_eq_true h2.eq).symm (by decide) hr hk
theorem eqn22 {l1 c1 z1 l2 c2 z2 : Nat} {x1 x2 : Bool} : binA Try.T .eql 22 (.slice none l1 c1 z1 x1) (.slice none l2 c2 z2 x2) = some (.bool true) := sl_eqn rfl
theorem eqs22 {l1 c1 z1 l2 c2 z2 : Nat} {x1 x2 : Bool} {p : Nat × Nat} : binA Try.T .eql 22 (.slice (some p) l1 c1 z1 x1) (.slice none l2 c2 z2 x2) = some (.bool false) := sl_eqs rfl
theorem eqi22 {l2 c2 z2 a1 b1 c1 d1 : Nat} {x2 : Bool} : binA Try.T .eql 22 (.islice row a1 b1 c1 d1) (.slice none l2 c2 z2 x2) = some (.bool false) := sl_eqi rfl
theorem Td23 : (Try.T 23).desc = .func := rfl
theorem Tz23 : (Try.T 23).zero = [.nilFunc] := rfl
theorem ld23 : loadA Try.T h 23 (.ptr (some (i, o))) = rd1 o (h.get i) := ld_1 rfl rfl
theorem li23 : loadA Try.T h 23 (.iptr row o) = row[o]? := ldi_1 rfl rfl
theorem st23 : storeA Try.T h 23 (.ptr (some (i, o))) v = stC h i o 1 v.cells := st_n rfl rfl
theorem feqs23 {f : FuncId} : binA Try.T .eql 23 (.func f cs) .nilFunc = some (.bool false) := fn_eqs rfl
theorem feqn23 : binA Try.T .eql 23 .nilFunc .nilFunc = some (.bool true) := fn_eqn rfl
theorem Td24 : (Try.T 24).desc = .pointer 56 := rfl
theorem Tz24 : (Try.T 24).zero = [.ptr none] := rfl
theorem ld24 : loadA Try.T h 24 (.ptr (some (i, o))) = rd1 o (h.get i) := ld_1 rfl rfl
theorem li24 : loadA Try.T h 24 (.iptr row o) = row[o]? := ldi_1 rfl rfl
theorem st24 : storeA Try.T h 24 (.ptr (some (i, o))) v = stC h i o 1 v.cells := st_n rfl rfl
theorem peqn24 : binA Try.T .eql 24 (.ptr none) (.ptr none) = some (.bool true) := pt_eqn rfl
theorem peqs24 {p : Nat × Nat} : binA Try.T .eql 24 (.ptr (some p)) (.ptr none) = some (.bool false) := pt_eqs rfl
theorem pnen24 : binA Try.T .neq 24 (.ptr none) (.ptr none) = some (.bool false) := pt_nen rfl
theorem pnes24 {p : Nat × Nat} : binA Try.T .neq 24 (.ptr (some p)) (.ptr none) = some (.bool true) := pt_nes rfl
theorem Td25 : (Try.T 25).desc = .int .i64 := rfl
theorem Tz25 : (Try.T 25).zero = [.int .i64 0] := rfl
theorem ld25 : loadA Try.T h 25 (.ptr (some (i, o))) = rd1 o (h.get i) := ld_1 rfl rfl
theorem li25 : loadA Try.T h 25 (.iptr row o) = row[o]? := ldi_1 rfl rfl
theorem st25 : storeA Try.T h 25 (.ptr (some (i, o))) v = stC h i o 1 v.cells := st_n rfl rfl
theorem lI25 {l : List Int} (p : Sl EI h i a l) (h0 : 0 ≤ j) (h1 : j < l.length) : loadA Try.T h 25 (a.at EI.sz 0 j) = some (.int .i64 (l[j.toNat]!)) := p.ldI h0 h1 rfl rfl
theorem Td27 : (Try.T 27).desc = .func := rfl
theorem Tz27 : (Try.T 27).zero = [.nilFunc] := rfl
theorem ld27 : loadA Try.T h 27 (.ptr (some (i, o))) = rd1 o (h.get i) := ld_1 rfl rfl
theorem li27 : loadA Try.T h 27 (.iptr row o) = row[o]? := ldi_1 rfl rfl
theorem st27 : storeA Try.T h 27 (.ptr (some (i, o))) v = stC h i o 1 v.cells := st_n rfl rfl
theorem feqs27 {f : FuncId} : binA Try.T .eql 27 (.func f cs) .nilFunc = some (.bool false) := fn_eqs rfl
theorem feqn27 : binA Try.T .eql 27 .nilFunc .nilFunc = some (.bool true) := fn_eqn rfl
theorem Td28 : (Try.T 28).desc = .pointer 40 := rfl
theorem Tz28 : (Try.T 28).zero = [.ptr none] := rfl
theorem ld28 : loadA Try.T h 28 (.ptr (some (i, o))) = rd1 o (h.get i) := ld_1 rfl rfl
theorem li28 : loadA Try.T h 28 (.iptr row o) = row[o]? := ldi_1 rfl rfl
theorem st28 : storeA Try.T h 28 (.ptr (some (i, o))) v = stC h i o 1 v.cells := st_n rfl rfl
theorem peqn28 : binA Try.T .eql 28 (.ptr none) (.ptr none) = some (.bool true) := pt_eqn rfl
theorem peqs28 {p : Nat × Nat} : binA Try.T .eql 28 (.ptr (some p)) (.ptr none) = some (.bool false) := pt_eqs rfl
theorem pnen28 : binA Try.T .neq 28 (.ptr none) (.ptr none) = some (.bool false) := pt_nen rfl
theorem pnes28 {p : Nat × Nat} : binA Try.T .neq 28 (.ptr (some p)) (.ptr none) = some (.bool true) := pt_nes rfl
theorem Td30 : (Try.T 30).desc = .func := rfl
theorem Tz30 : (Try.T 30).zero = [.nilFunc] := rfl
theorem ld30 : loadA Try.T h 30 (.ptr (some (i, o))) = rd1 o (h.get i) := ld_1 rfl rfl
theorem li30 : loadA Try.T h 30 (.iptr row o) = row[o]? := ldi_1 rfl rfl
theorem st30 : storeA Try.T h 30 (.ptr (some (i, o))) v = stC h i o 1 v.cells := st_n rfl rfl
theorem feqs30 {f : FuncId} : binA Try.T .eql 30 (.func f cs) .nilFunc = some (.bool false) := fn_eqs rfl
theorem feqn30 : binA Try.T .eql 30 .nilFunc .nilFunc = some (.bool true) := fn_eqn rfl
theorem Td31 : (Try.T 31).desc = .func := rfl
theorem Tz31 : (Try.T 31).zero = [.nilFunc] := rfl
theorem ld31 : loadA Try.T h 31 (.ptr (some (i, o))) = rd1 o (h.get i) := ld_1 rfl rfl
theorem li31 : loadA Try.T h 31 (.iptr row o) = row[o]? := ldi_1 rfl rfl
theorem st31 : storeA Try.T h 31 (.ptr (some (i, o))) v = stC h i o 1 v.cells := st_n rfl rfl
theorem feqs31 {f : FuncId} : binA Try.T .eql 31 (.func f cs) .nilFunc = some (.bool false) := fn_eqs rfl
theorem feqn31 : binA Try.T .eql 31 .nilFunc .nilFunc = some (.bool true) := fn_eqn rfl
theorem Td32 : (Try.T 32).desc = .struct [(3, 0, true), (9, 1, true), (9, 2, true), (3, 3, true)] := rfl
theorem Tz32 : (Try.T 32).zero = [.int .i64 0, .str [], .str [], .int .i64 0] := rfl
theorem ld32 : loadA Try.T h 32 (.ptr (some (i, o))) = rdN o 4 (h.get i) := ld_n rfl rfl rfl
theorem li32 : loadA Try.T h 32 (.iptr row o) = (cut row o 4).map .agg := ldi_n rfl rfl rfl
theorem st32 : storeA Try.T h 32 (.ptr (some (i, o))) v = stC h i o 4 v.cells := st_n rfl rfl
theorem lE32 [Inhabited α] (p : Sl E h i a l) (h0 : 0 ≤ j) (h1 : j < l.length) (h4 : Seen (Nat.beq E.sz 4)) : loadA Try.T h 32 (a.at E.sz 0 j) = some (.agg (E.f (l[j.toNat]!))) := p.ldn h0 h1 rfl rfl (Nat.eq_of_beq_eq_true h4.eq).symm
theorem bd32 {l : List (Nat × AV)} : bldR Try.T 32 (some l) = (fillA (plA Try.T 32) (Try.T 32).zero l).map .agg := bld_eq rfl
theorem pl32_0 : plA Try.T 32 0 = some (0, 1) := rfl
theorem pl32_1 : plA Try.T 32 1 = some (1, 1) := rfl
theorem pl32_2 : plA Try.T 32 2 = some (2, 1) := rfl
theorem pl32_3 : plA Try.T 32 3 = some (3, 1) := rfl
theorem fa32_0 : faR Try.T 32 0 (some (.ptr (some (i, o)))) = some (.ptr (some (i, o + 0))) := fa_ptr rfl (by decide) rfl
theorem fi32_0 : faR Try.T 32 0 (some (.iptr row o)) = some (.iptr row (o + 0)) := fa_iptr rfl (by decide) rfl
theorem fE32_0 (p : Sl E h i a l) (h0 : 0 ≤ j) (h1 : j < l.length) : faR Try.T 32 0 (some (a.at E.sz off0 j)) = some (a.at E.sz (off0 + 0) j) := p.fa h0 h1 rfl (by decide) rfl
theorem fl32_0 : fldR Try.T 32 0 (some (.agg cs)) = cs[0]? := fld_1 rfl rfl rfl
theorem fa32_1 : faR Try.T 32 1 (some (.ptr (some (i, o)))) = some (.ptr (some (i, o + 1))) := fa_ptr rfl (by decide) rfl
theorem fi32_1 : faR Try.T 32 1 (some (.iptr row o)) = some (.iptr row (o + 1)) := fa_iptr rfl (by decide) rfl
theorem fE32_1 (p : Sl E h i a l) (h0 : 0 ≤ j) (h1 : j < l.length) : faR Try.T 32 1 (some (a.at E.sz off0 j)) = some (a.at E.sz (off0 + 1) j) := p.fa h0 h1 rfl (by decide) rfl
theorem fl32_1 : fldR Try.T 32 1 (some (.agg cs)) = cs[1]? := fld_1 rfl rfl rfl
theorem fa32_2 : faR Try.T 32 2 (some (.ptr (some (i, o)))) = some (.ptr (some (i, o + 2))) := fa_ptr rfl (by decide) rfl
theorem fi32_2 : faR Try.T 32 2 (some (.iptr row o)) = some (.iptr row (o + 2)) := fa_iptr rfl (by decide) rfl
theorem fE32_2 (p : Sl E h i a l) (h0 : 0 ≤ j) (h1 : j < l.length) : faR Try.T 32 2 (some (a.at E.sz off0 j)) = some (a.at E.sz (off0 + 2) j) := p.fa h0 h1 rfl (by decide) rfl
theorem fl32_2 : fldR Try.T 32 2 (some (.agg cs)) = cs[2]? := fld_1 rfl rfl rfl
theorem fa32_3 : faR Try.T 32 3 (some (.ptr (some (i, o)))) = some (.ptr (some (i, o + 3))) := fa_ptr rfl (by decide) rfl
theorem fi32_3 : faR Try.T 32 3 (some (.iptr row o)) = some (.iptr row (o + 3)) := fa_iptr rfl (by decide) rfl
theorem fE32_3 (p : Sl E h i a l) (h0 : 0 ≤ j) (h1 : j < l.length) : faR Try.T 32 3 (some (a.at E.sz off0 j)) = some (a.at E.sz (off0 + 3) j) := p.fa h0 h1 rfl (by decide) rfl
theorem fl32_3 : fldR Try.T 32 3 (some (.agg cs)) = cs[3]? := fld_1 rfl rfl rfl
theorem Td33 : (Try.T 33).desc = .struct [(3, 0, true), (9, 1, true), (9, 2, true), (3, 3, true)] := rfl
theorem Tz33 : (Try.T 33).zero = [.int .i64 0, .str [], .str [], .int .i64 0] := rfl
theorem ld33 : loadA Try.T h 33 (.ptr (some (i, o))) = rdN o 4 (h.get i) := ld_n rfl rfl rfl
theorem li33 : loadA Try.T h 33 (.iptr row o) = (cut row o 4).map .agg := ldi_n rfl rfl rfl
theorem st33 : storeA Try.T h 33 (.ptr (some (i, o))) v = stC h i o 4 v.cells := st_n rfl rfl
theorem lE33 [Inhabited α] (p : Sl E h i a l) (h0 : 0 ≤ j) (h1 : j < l.length) (h4 : Seen (Nat.beq E.sz 4)) : loadA Try.T h 33 (a.at E.sz 0 j) = some (.agg (E.f (l[j.toNat]!))) := p.ldn h0 h1 rfl rfl (Nat.eq_of_beq_eq_true h4.eq).symm
theorem bd33 {l : List (Nat × AV)} : bldR Try.T 33 (some l) = (fillA (plA Try.T 33) (Try.T 33).zero l).map .agg := bld_eq rfl
theorem pl33_0 : plA Try.T 33 0 = some (0, 1) := rfl
theorem pl33_1 : plA Try.T 33 1 = some (1, 1) := rfl
theorem pl33_2 : plA Try.T 33 2 = some (2, 1) := rfl
theorem pl33_3 : plA Try.T 33 3 = some (3, 1) := rfl
theorem fa33_0 : faR Try.T 33 0 (some (.ptr (some (i, o)))) = some (.ptr (some (i, o + 0))) := fa_ptr rfl (by decide) rfl
theorem fi33_0 : faR Try.T 33 0 (some (.iptr row o)) = some (.iptr row (o + 0)) := fa_iptr rfl (by decide) rfl
theorem fE33_0 (p : Sl E h i a l) (h0 : 0 ≤ j) (h1 : j < l.length) : faR Try.T 33 0 (some (a.at E.sz off0 j)) = some (a.at E.sz (off0 + 0) j) := p.fa h0 h1 rfl (by decide) rfl
theorem fl33_0 : fldR Try.T 33 0 (some (.agg cs)) = cs[0]? := fld_1 rfl rfl rfl
theorem fa33_1 : faR Try.T 33 1 (some (.ptr (some (i, o)))) = some (.ptr (some (i, o + 1))) := fa_ptr rfl (by decide) rfl
theorem fi33_1 : faR Try.T 33 1 (some (.iptr row o)) = some (.iptr row (o + 1)) := fa_iptr rfl (by decide) rfl
theorem fE33_1 (p : Sl E h i a l) (h0 : 0 ≤ j) (h1 : j < l.length) : faR Try.T 33 1 (some (a.at E.sz off0 j)) = some (a.at E.sz (off0 + 1) j) := p.fa h0 h1 rfl (by decide) rfl
theorem fl33_1 : fldR Try.T 33 1 (some (.agg cs)) = cs[1]? := fld_1 rfl rfl rfl
theorem fa33_2 : faR Try.T 33 2 (some (.ptr (some (i, o)))) = some (.ptr (some (i, o + 2))) := fa_ptr rfl (by decide) rfl
theorem fi33_2 : faR Try.T 33 2 (some (.iptr row o)) = some (.iptr row (o + 2)) := fa_iptr rfl (by decide) rfl
theorem fE33_2 (p : Sl E h i a l) (h0 : 0 ≤ j) (h1 : j < l.length) : faR Try.T 33 2 (some (a.at E.sz off0 j)) = some (a.at E.sz (off0 + 2) j) := p.fa h0 h1 rfl (by decide) rfl
theorem fl33_2 : fldR Try.T 33 2 (some (.agg cs)) = cs[2]? := fld_1 rfl rfl rfl
theorem fa33_3 : faR Try.T 33 3 (some (.ptr (some (i, o)))) = some (.ptr (some (i, o + 3))) := fa_ptr rfl (by decide) rfl
theorem fi33_3 : faR Try.T 33 3 (some (.iptr row o)) = some (.iptr row (o + 3)) := fa_iptr rfl (by decide) rfl
theorem fE33_3 (p : Sl E h i a l) (h0 : 0 ≤ j) (h1 : j < l.length) : faR Try.T 33 3 (some (a.at E.sz off0 j)) = some (a.at E.sz (off0 + 3) j) := p.fa h0 h1 rfl (by decide) rfl
theorem fl33_3 : fldR Try.T 33 3 (some (.agg cs)) = cs[3]? := fld_1 rfl rfl rfl
theorem Td34 : (Try.T 34).desc = .func := rfl
theorem Tz34 : (Try.T 34).zero = [.nilFunc] := rfl
theorem ld34 : loadA Try.T h 34 (.ptr (some (i, o))) = rd1 o (h.get i) := ld_1 rfl rfl
theorem li34 : loadA Try.T h 34 (.iptr row o) = row[o]? := ldi_1 rfl rfl
theorem st34 : storeA Try.T h 34 (.ptr (some (i, o))) v = stC h i o 1 v.cells := st_n rfl rfl
theorem feqs34 {f : FuncId} : binA Try.T .eql 34 (.func f cs) .nilFunc = some (.bool false) := fn_eqs rfl
theorem feqn34 : binA Try.T .eql 34 .nilFunc .nilFunc = some (.bool true) := fn_eqn rfl
theorem Td36 : (Try.T 36).desc = .func := rfl
theorem Tz36 : (Try.T 36).zero = [.nilFunc] := rfl
theorem ld36 : loadA Try.T h 36 (.ptr (some (i, o))) = rd1 o (h.get i) := ld_1 rfl rfl
theorem li36 : loadA Try.T h 36 (.iptr row o) = row[o]? := ldi_1 rfl rfl
theorem st36 : storeA Try.T h 36 (.ptr (some (i, o))) v = stC h i o 1 v.cells := st_n rfl rfl
theorem feqs36 {f : FuncId} : binA Try.T .eql 36 (.func f cs) .nilFunc = some (.bool false) := fn_eqs rfl
theorem feqn36 : binA Try.T .eql 36 .nilFunc .nilFunc = some (.bool true) := fn_eqn rfl
theorem Td37 : (Try.T 37).desc = .func := rfl
theorem Tz37 : (Try.T 37).zero = [.nilFunc] := rfl
theorem ld37 : loadA Try.T h 37 (.ptr (some (i, o))) = rd1 o (h.get i) := ld_1 rfl rfl
theorem li37 : loadA Try.T h 37 (.iptr row o) = row[o]? := ldi_1 rfl rfl
theorem st37 : storeA Try.T h 37 (.ptr (some (i, o))) v = stC h i o 1 v.cells := st_n rfl rfl
theorem feqs37 {f : FuncId} : binA Try.T .eql 37 (.func f cs) .nilFunc = some (.bool false) := fn_eqs rfl
theorem feqn37 : binA Try.T .eql 37 .nilFunc .nilFunc = some (.bool true) := fn_eqn rfl
theorem Td38 : (Try.T 38).desc = .slice 45 := rfl
theorem Tz38 : (Try.T 38).zero = [.slice none 0 0 0 true] := rfl
theorem ld38 : loadA Try.T h 38 (.ptr (some (i, o))) = rd1 o (h.get i) := ld_1 rfl rfl
theorem li38 : loadA Try.T h 38 (.iptr row o) = row[o]? := ldi_1 rfl rfl
theorem st38 : storeA Try.T h 38 (.ptr (some (i, o))) v = stC h i o 1 v.cells := st_n rfl rfl
theorem len38 (p : Sl E h i a l) : builtinA Try.T h' .len [38] [a] = some (.int .i64 (l.length : Int), h') := p.len rfl
theorem ix38 (p : Sl E h i a l) (h0 : 0 ≤ j) (h1 : j < l.length) (h2 : Seen (Nat.beq E.sz 3)) : idxA Try.T 38 a (.int k j) = some (a.at E.sz 0 j) := p.idx h0 h1 rfl rfl (Nat.eq_of_beq_eq_true h2.eq).symm
theorem wr45 {P : Program} {ops : Array Oper} {L : List Oper} {K : Tm → AH → Prop} {d : Option Nat} {tm : Tm} (p : Ow E h i a l) (x : α) (hx : v.cells = E.f x) (h0 : 0 ≤ j) (h1 : j < l.length) (h2 : Seen (Nat.beq E.sz 3)) (hk : ∀ h', Ow E h' i a (l.set j.toNat x) → h'.size = h.size → (∀ b, ¬ b = i → h'.get b = h.get b) → putM P Try.T ops L K d tm undefA h') : ansM P Try.T ops L K d tm h ((storeA Try.T h 45 (a.at E.sz 0 j) v).map fun h' => .val undefA h') :=
  ans_wr p x hx h0 h1 rfl (Nat.eq_of_beq_eq_true h2.eq).symm hk
theorem w45_0_9 {P : Program} {ops : Array Oper} {L : List Oper} {K : Tm → AH → Prop} {d : Option Nat} {tm : Tm} [Inhabited α] (p : Ow E h i a l) (x : α) (hx : E.f x = (E.f (l[j.toNat]!)).set 0 v) (hv : v.cells = [v]) (hv1 : v.one = true) (h0 : 0 ≤ j) (h1 : j < l.length) (h2 : Seen (Nat.blt 0 E.sz)) (hk : ∀ h', Ow E h' i a (l.set j.toNat x) → h'.size = h.size → (∀ b, ¬ b = i → h'.get b = h.get b) → putM P Try.T ops L K d tm undefA h') : ansM P Try.T ops L K d tm h ((storeA Try.T h 9 (a.at E.sz 0 j) v).map fun h' => .val undefA h') :=
  ans_wr1 p x hx hv hv1 (by simpa [Nat.blt_eq] using h2.eq) h0 h1 rfl rfl hk
theorem w45_1_9 {P : Program} {ops : Array Oper} {L : List Oper} {K : Tm → AH → Prop} {d : Option Nat} {tm : Tm} [Inhabited α] (p : Ow E h i a l) (x : α) (hx : E.f x = (E.f (l[j.toNat]!)).set 1 v) (hv : v.cells = [v]) (hv1 : v.one = true) (h0 : 0 ≤ j) (h1 : j < l.length) (h2 : Seen (Nat.blt 1 E.sz)) (hk : ∀ h', Ow E h' i a (l.set j.toNat x) → h'.size = h.size → (∀ b, ¬ b = i → h'.get b = h.get b) → putM P Try.T ops L K d tm undefA h') : ansM P Try.T ops L K d tm h ((storeA Try.T h 9 (a.at E.sz 1 j) v).map fun h' => .val undefA h') :=
  ans_wr1 p x hx hv hv1 (by simpa [Nat.blt_eq] using h2.eq) h0 h1 rfl rfl hk
theorem w45_2_4 {P : Program} {ops : Array Oper} {L : List Oper} {K : Tm → AH → Prop} {d : Option Nat} {tm : Tm} [Inhabited α] (p : Ow E h i a l) (x : α) (hx : E.f x = (E.f (l[j.toNat]!)).set 2 v) (hv : v.cells = [v]) (hv1 : v.one = true) (h0 : 0 ≤ j) (h1 : j < l.length) (h2 : Seen (Nat.blt 2 E.sz)) (hk : ∀ h', Ow E h' i a (l.set j.toNat x) → h'.size = h.size → (∀ b, ¬ b = i → h'.get b = h.get b) → putM P Try.T ops L K d tm undefA h') : ansM P Try.T ops L K d tm h ((storeA Try.T h 4 (a.at E.sz 2 j) v).map fun h' => .val undefA h') :=
  ans_wr1 p x hx hv hv1 (by simpa [Nat.blt_eq] using h2.eq) h0 h1 rfl rfl hk
theorem sl38 (p : Sl E h i a l) (h0 : 0 ≤ x) (h1 : x ≤ y) (h2 : y ≤ l.length) (h3 : Seen (Nat.beq E.sz 3)) : sliceA Try.T 38 a (some x) (some y) none = some (a.part x y) := p.slc h0 h1 h2 rfl rfl (Nat.eq_of_beq_eq_true h3.eq).symm
theorem sm38 (p : Sl E h i a l) (h1 : 0 ≤ y) (h2 : y ≤ l.length) (h3 : Seen (Nat.beq E.sz 3)) : sliceA Try.T 38 a none (some y) none = some (a.part 0 y) := p.slc (lo := none) (Int.le_refl _) h1 h2 rfl rfl (Nat.eq_of_beq_eq_true h3.eq).symm
theorem sn38 (p : Sl E h i a l) (h0 : 0 ≤ x) (h1 : x ≤ l.length) (h3 : Seen (Nat.beq E.sz 3)) : sliceA Try.T 38 a (some x) none none = some (a.part x l.length) := p.slc (hi := none) h0 h1 (Int.le_refl _) rfl rfl (Nat.eq_of_beq_eq_true h3.eq).symm
theorem ap38 {P : Program} {ops : Array Oper} {L : List Oper} {K : Tm → AH → Prop} {d : Option Nat} {tm : Tm} {x : AV} {new : List α} {ix : Nat} (p : Ow E h i a l) (hx : Sl E h ix x new) (h2 : Seen (Nat.beq E.sz 3)) (hr : (l.length + new.length) * 40 ≤ 140737488355328) (hk : ∀ z h' i', Ow E h' i' z (l ++ new) → (i' = i ∨ h.size ≤ i') → h.size ≤ h'.size → (∀ j, j < h.size → ¬ j = i → h'.get j = h.get j) → putM P Try.T ops L K d tm z h') : ansM P Try.T ops L K d tm h (pairR (appendA Try.T h 38 38 a x)) :=
  ans_app p hx rfl ⟨_, rfl⟩ rfl (Nat.eq_of_beq_eq_true h2.eq).symm (Nat.eq_of_beq_eq_true h2.eq).symm (by decide) hr hk
theorem al38 {P : Program} {ops : Array Oper} {L : List Oper} {K : Tm → AH → Prop} {d : Option Nat} {tm : Tm} {sz : Nat} (x : α) (p : Ow E h i a l) (hx : cs = E.f x) (hs : sz = E.sz) (h2 : Seen (Nat.beq E.sz 3)) (hr : (l.length + 1) * 40 ≤ 140737488355328) (hk : ∀ z h' i', Ow E h' i' z (l ++ [x]) → (i' = i ∨ h.size ≤ i') → h.size ≤ h'.size → (∀ j, j < h.size → ¬ j = i → h'.get j = h.get j) → putM P Try.T ops L K d tm z h') : ansM P Try.T ops L K d tm (h.push (.cells cs)) (pairR (appendA Try.T (h.push (.cells cs)) 38 38 a (.slice (some (h.size, 0)) 1 1 sz true))) :=
  ans_app1 p x hx hs rfl rfl (Nat.eq_of_beq_eq_true h2.eq).symm (Nat.eq_of_beq_eq_true h2.eq).symm (by decide) hr hk
theorem eqn38 {l1 c1 z1 l2 c2 z2 : Nat} {x1 x2 : Bool} : binA Try.T .eql 38 (.slice none l1 c1 z1 x1) (.slice none l2 c2 z2 x2) = some (.bool true) := sl_eqn rfl
theorem eqs38 {l1 c1 z1 l2 c2 z2 : Nat} {x1 x2 : Bool} {p : Nat × Nat} : binA Try.T .eql 38 (.slice (some p) l1 c1 z1 x1) (.slice none l2 c2 z2 x2) = some (.bool false) := sl_eqs rfl
theorem eqi38 {l2 c2 z2 a1 b1 c1 d1 : Nat} {x2 : Bool} : binA Try.T .eql 38 (.islice row a1 b1 c1 d1) (.slice none l2 c2 z2 x2) = some (.bool false) := sl_eqi rfl
theorem Td39 : (Try.T 39).desc = .struct [(38, 0, true), (3, 1, true)] := rfl
theorem Tz39 : (Try.T 39).zero = [.slice none 0 0 0 true, .int .i64 0] := rfl
theorem ld39 : loadA Try.T h 39 (.ptr (some (i, o))) = rdN o 2 (h.get i) := ld_n rfl rfl rfl
theorem li39 : loadA Try.T h 39 (.iptr row o) = (cut row o 2).map .agg := ldi_n rfl rfl rfl
theorem st39 : storeA Try.T h 39 (.ptr (some (i, o))) v = stC h i o 2 v.cells := st_n rfl rfl
theorem lE39 [Inhabited α] (p : Sl E h i a l) (h0 : 0 ≤ j) (h1 : j < l.length) (h4 : Seen (Nat.beq E.sz 2)) : loadA Try.T h 39 (a.at E.sz 0 j) = some (.agg (E.f (l[j.toNat]!))) := p.ldn h0 h1 rfl rfl (Nat.eq_of_beq_eq_true h4.eq).symm
theorem bd39 {l : List (Nat × AV)} : bldR Try.T 39 (some l) = (fillA (plA Try.T 39) (Try.T 39).zero l).map .agg := bld_eq rfl
theorem pl39_0 : plA Try.T 39 0 = some (0, 1) := rfl
theorem pl39_1 : plA Try.T 39 1 = some (1, 1) := rfl
theorem fa39_0 : faR Try.T 39 0 (some (.ptr (some (i, o)))) = some (.ptr (some (i, o + 0))) := fa_ptr rfl (by decide) rfl
theorem fi39_0 : faR Try.T 39 0 (some (.iptr row o)) = some (.iptr row (o + 0)) := fa_iptr rfl (by decide) rfl
theorem fE39_0 (p : Sl E h i a l) (h0 : 0 ≤ j) (h1 : j < l.length) : faR Try.T 39 0 (some (a.at E.sz off0 j)) = some (a.at E.sz (off0 + 0) j) := p.fa h0 h1 rfl (by decide) rfl
theorem fl39_0 : fldR Try.T 39 0 (some (.agg cs)) = cs[0]? := fld_1 rfl rfl rfl
theorem fa39_1 : faR Try.T 39 1 (some (.ptr (some (i, o)))) = some (.ptr (some (i, o + 1))) := fa_ptr rfl (by decide) rfl
theorem fi39_1 : faR Try.T 39 1 (some (.iptr row o)) = some (.iptr row (o + 1)) := fa_iptr rfl (by decide) rfl
theorem fE39_1 (p : Sl E h i a l) (h0 : 0 ≤ j) (h1 : j < l.length) : faR Try.T 39 1 (some (a.at E.sz off0 j)) = some (a.at E.sz (off0 + 1) j) := p.fa h0 h1 rfl (by decide) rfl
theorem fl39_1 : fldR Try.T 39 1 (some (.agg cs)) = cs[1]? := fld_1 rfl rfl rfl
theorem Td40 : (Try.T 40).desc = .struct [(38, 0, true), (3, 1, true)] := rfl
theorem Tz40 : (Try.T 40).zero = [.slice none 0 0 0 true, .int .i64 0] := rfl
theorem ld40 : loadA Try.T h 40 (.ptr (some (i, o))) = rdN o 2 (h.get i) := ld_n rfl rfl rfl
theorem li40 : loadA Try.T h 40 (.iptr row o) = (cut row o 2).map .agg := ldi_n rfl rfl rfl
theorem st40 : storeA Try.T h 40 (.ptr (some (i, o))) v = stC h i o 2 v.cells := st_n rfl rfl
theorem lE40 [Inhabited α] (p : Sl E h i a l) (h0 : 0 ≤ j) (h1 : j < l.length) (h4 : Seen (Nat.beq E.sz 2)) : loadA Try.T h 40 (a.at E.sz 0 j) = some (.agg (E.f (l[j.toNat]!))) := p.ldn h0 h1 rfl rfl (Nat.eq_of_beq_eq_true h4.eq).symm
theorem bd40 {l : List (Nat × AV)} : bldR Try.T 40 (some l) = (fillA (plA Try.T 40) (Try.T 40).zero l).map .agg := bld_eq rfl
theorem pl40_0 : plA Try.T 40 0 = some (0, 1) := rfl
theorem pl40_1 : plA Try.T 40 1 = some (1, 1) := rfl
theorem fa40_0 : faR Try.T 40 0 (some (.ptr (some (i, o)))) = some (.ptr (some (i, o + 0))) := fa_ptr rfl (by decide) rfl
theorem fi40_0 : faR Try.T 40 0 (some (.iptr row o)) = some (.iptr row (o + 0)) := fa_iptr rfl (by decide) rfl
theorem fE40_0 (p : Sl E h i a l) (h0 : 0 ≤ j) (h1 : j < l.length) : faR Try.T 40 0 (some (a.at E.sz off0 j)) = some (a.at E.sz (off0 + 0) j) := p.fa h0 h1 rfl (by decide) rfl
theorem fl40_0 : fldR Try.T 40 0 (some (.agg cs)) = cs[0]? := fld_1 rfl rfl rfl
theorem fa40_1 : faR Try.T 40 1 (some (.ptr (some (i, o)))) = some (.ptr (some (i, o + 1))) := fa_ptr rfl (by decide) rfl
theorem fi40_1 : faR Try.T 40 1 (some (.iptr row o)) = some (.iptr row (o + 1)) := fa_iptr rfl (by decide) rfl
theorem fE40_1 (p : Sl E h i a l) (h0 : 0 ≤ j) (h1 : j < l.length) : faR Try.T 40 1 (some (a.at E.sz off0 j)) = some (a.at E.sz (off0 + 1) j) := p.fa h0 h1 rfl (by decide) rfl
theorem fl40_1 : fldR Try.T 40 1 (some (.agg cs)) = cs[1]? := fld_1 rfl rfl rfl
theorem Td41 : (Try.T 41).desc = .func := rfl
theorem Tz41 : (Try.T 41).zero = [.nilFunc] := rfl
theorem ld41 : loadA Try.T h 41 (.ptr (some (i, o))) = rd1 o (h.get i) := ld_1 rfl rfl
theorem li41 : loadA Try.T h 41 (.iptr row o) = row[o]? := ldi_1 rfl rfl
theorem st41 : storeA Try.T h 41 (.ptr (some (i, o))) v = stC h i o 1 v.cells := st_n rfl rfl
theorem feqs41 {f : FuncId} : binA Try.T .eql 41 (.func f cs) .nilFunc = some (.bool false) := fn_eqs rfl
theorem feqn41 : binA Try.T .eql 41 .nilFunc .nilFunc = some (.bool true) := fn_eqn rfl
theorem Td42 : (Try.T 42).desc = .func := rfl
theorem Tz42 : (Try.T 42).zero = [.nilFunc] := rfl
theorem ld42 : loadA Try.T h 42 (.ptr (some (i, o))) = rd1 o (h.get i) := ld_1 rfl rfl
theorem li42 : loadA Try.T h 42 (.iptr row o) = row[o]? := ldi_1 rfl rfl
theorem st42 : storeA Try.T h 42 (.ptr (some (i, o))) v = stC h i o 1 v.cells := st_n rfl rfl
theorem feqs42 {f : FuncId} : binA Try.T .eql 42 (.func f cs) .nilFunc = some (.bool false) := fn_eqs rfl
theorem feqn42 : binA Try.T .eql 42 .nilFunc .nilFunc = some (.bool true) := fn_eqn rfl
theorem Td43 : (Try.T 43).desc = .func := rfl
theorem Tz43 : (Try.T 43).zero = [.nilFunc] := rfl
theorem ld43 : loadA Try.T h 43 (.ptr (some (i, o))) = rd1 o (h.get i) := ld_1 rfl rfl
theorem li43 : loadA Try.T h 43 (.iptr row o) = row[o]? := ldi_1 rfl rfl
theorem st43 : storeA Try.T h 43 (.ptr (some (i, o))) v = stC h i o 1 v.cells := st_n rfl rfl
theorem feqs43 {f : FuncId} : binA Try.T .eql 43 (.func f cs) .nilFunc = some (.bool false) := fn_eqs rfl
theorem feqn43 : binA Try.T .eql 43 .nilFunc .nilFunc = some (.bool true) := fn_eqn rfl
theorem Td44 : (Try.T 44).desc = .struct [(9, 0, true), (9, 1, true), (4, 2, true)] := rfl
theorem Tz44 : (Try.T 44).zero = [.str [], .str [], .bool false] := rfl
theorem ld44 : loadA Try.T h 44 (.ptr (some (i, o))) = rdN o 3 (h.get i) := ld_n rfl rfl rfl
theorem li44 : loadA Try.T h 44 (.iptr row o) = (cut row o 3).map .agg := ldi_n rfl rfl rfl
theorem st44 : storeA Try.T h 44 (.ptr (some (i, o))) v = stC h i o 3 v.cells := st_n rfl rfl
theorem lE44 [Inhabited α] (p : Sl E h i a l) (h0 : 0 ≤ j) (h1 : j < l.length) (h4 : Seen (Nat.beq E.sz 3)) : loadA Try.T h 44 (a.at E.sz 0 j) = some (.agg (E.f (l[j.toNat]!))) := p.ldn h0 h1 rfl rfl (Nat.eq_of_beq_eq_true h4.eq).symm
theorem bd44 {l : List (Nat × AV)} : bldR Try.T 44 (some l) = (fillA (plA Try.T 44) (Try.T 44).zero l).map .agg := bld_eq rfl
theorem pl44_0 : plA Try.T 44 0 = some (0, 1) := rfl
theorem pl44_1 : plA Try.T 44 1 = some (1, 1) := rfl
theorem pl44_2 : plA Try.T 44 2 = some (2, 1) := rfl
theorem fa44_0 : faR Try.T 44 0 (some (.ptr (some (i, o)))) = some (.ptr (some (i, o + 0))) := fa_ptr rfl (by decide) rfl
theorem fi44_0 : faR Try.T 44 0 (some (.iptr row o)) = some (.iptr row (o + 0)) := fa_iptr rfl (by decide) rfl
theorem fE44_0 (p : Sl E h i a l) (h0 : 0 ≤ j) (h1 : j < l.length) : faR Try.T 44 0 (some (a.at E.sz off0 j)) = some (a.at E.sz (off0 + 0) j) := p.fa h0 h1 rfl (by decide) rfl
theorem fl44_0 : fldR Try.T 44 0 (some (.agg cs)) = cs[0]? := fld_1 rfl rfl rfl
theorem fa44_1 : faR Try.T 44 1 (some (.ptr (some (i, o)))) = some (.ptr (some (i, o + 1))) := fa_ptr rfl (by decide) rfl
theorem fi44_1 : faR Try.T 44 1 (some (.iptr row o)) = some (.iptr row (o + 1)) := fa_iptr rfl (by decide) rfl
theorem fE44_1 (p : Sl E h i a l) (h0 : 0 ≤ j) (h1 : j < l.length) : faR Try.T 44 1 (some (a.at E.sz off0 j)) = some (a.at E.sz (off0 + 1) j) := p.fa h0 h1 rfl (by decide) rfl
theorem fl44_1 : fldR Try.T 44 1 (some (.agg cs)) = cs[1]? := fld_1 rfl rfl rfl
theorem fa44_2 : faR Try.T 44 2 (some (.ptr (some (i, o)))) = some (.ptr (some (i, o + 2))) := fa_ptr rfl (by decide) rfl
theorem fi44_2 : faR Try.T 44 2 (some (.iptr row o)) = some (.iptr row (o + 2)) := fa_iptr rfl (by decide) rfl
theorem fE44_2 (p : Sl E h i a l) (h0 : 0 ≤ j) (h1 : j < l.length) : faR Try.T 44 2 (some (a.at E.sz off0 j)) = some (a.at E.sz (off0 + 2) j) := p.fa h0 h1 rfl (by decide) rfl
theorem fl44_2 : fldR Try.T 44 2 (some (.agg cs)) = cs[2]? := fld_1 rfl rfl rfl
theorem Td45 : (Try.T 45).desc = .struct [(9, 0, true), (9, 1, true), (4, 2, true)] := rfl
theorem Tz45 : (Try.T 45).zero = [.str [], .str [], .bool false] := rfl
theorem ld45 : loadA Try.T h 45 (.ptr (some (i, o))) = rdN o 3 (h.get i) := ld_n rfl rfl rfl
theorem li45 : loadA Try.T h 45 (.iptr row o) = (cut row o 3).map .agg := ldi_n rfl rfl rfl
theorem st45 : storeA Try.T h 45 (.ptr (some (i, o))) v = stC h i o 3 v.cells := st_n rfl rfl
theorem lE45 [Inhabited α] (p : Sl E h i a l) (h0 : 0 ≤ j) (h1 : j < l.length) (h4 : Seen (Nat.beq E.sz 3)) : loadA Try.T h 45 (a.at E.sz 0 j) = some (.agg (E.f (l[j.toNat]!))) := p.ldn h0 h1 rfl rfl (Nat.eq_of_beq_eq_true h4.eq).symm
theorem bd45 {l : List (Nat × AV)} : bldR Try.T 45 (some l) = (fillA (plA Try.T 45) (Try.T 45).zero l).map .agg := bld_eq rfl
theorem pl45_0 : plA Try.T 45 0 = some (0, 1) := rfl
theorem pl45_1 : plA Try.T 45 1 = some (1, 1) := rfl
theorem pl45_2 : plA Try.T 45 2 = some (2, 1) := rfl
theorem fa45_0 : faR Try.T 45 0 (some (.ptr (some (i, o)))) = some (.ptr (some (i, o + 0))) := fa_ptr rfl (by decide) rfl
theorem fi45_0 : faR Try.T 45 0 (some (.iptr row o)) = some (.iptr row (o + 0)) := fa_iptr rfl (by decide) rfl
theorem fE45_0 (p : Sl E h i a l) (h0 : 0 ≤ j) (h1 : j < l.length) : faR Try.T 45 0 (some (a.at E.sz off0 j)) = some (a.at E.sz (off0 + 0) j) := p.fa h0 h1 rfl (by decide) rfl
theorem fl45_0 : fldR Try.T 45 0 (some (.agg cs)) = cs[0]? := fld_1 rfl rfl rfl
theorem fa45_1 : faR Try.T 45 1 (some (.ptr (some (i, o)))) = some (.ptr (some (i, o + 1))) := fa_ptr rfl (by decide) rfl
theorem fi45_1 : faR Try.T 45 1 (some (.iptr row o)) = some (.iptr row (o + 1)) := fa_iptr rfl (by decide) rfl
theorem fE45_1 (p : Sl E h i a l) (h0 : 0 ≤ j) (h1 : j < l.length) : faR Try.T 45 1 (some (a.at E.sz off0 j)) = some (a.at E.sz (off0 + 1) j) := p.fa h0 h1 rfl (by decide) rfl
theorem fl45_1 : fldR Try.T 45 1 (some (.agg cs)) = cs[1]? := fld_1 rfl rfl rfl
theorem fa45_2 : faR Try.T 45 2 (some (.ptr (some (i, o)))) = some (.ptr (some (i, o + 2))) := fa_ptr rfl (by decide) rfl
theorem fi45_2 : faR Try.T 45 2 (some (.iptr row o)) = some (.iptr row (o + 2)) := fa_iptr rfl (by decide) rfl
theorem fE45_2 (p : Sl E h i a l) (h0 : 0 ≤ j) (h1 : j < l.length) : faR Try.T 45 2 (some (a.at E.sz off0 j)) = some (a.at E.sz (off0 + 2) j) := p.fa h0 h1 rfl (by decide) rfl
theorem fl45_2 : fldR Try.T 45 2 (some (.agg cs)) = cs[2]? := fld_1 rfl rfl rfl
theorem Td46 : (Try.T 46).desc = .func := rfl
theorem Tz46 : (Try.T 46).zero = [.nilFunc] := rfl
theorem ld46 : loadA Try.T h 46 (.ptr (some (i, o))) = rd1 o (h.get i) := ld_1 rfl rfl
theorem li46 : loadA Try.T h 46 (.iptr row o) = row[o]? := ldi_1 rfl rfl
theorem st46 : storeA Try.T h 46 (.ptr (some (i, o))) v = stC h i o 1 v.cells := st_n rfl rfl
theorem feqs46 {f : FuncId} : binA Try.T .eql 46 (.func f cs) .nilFunc = some (.bool false) := fn_eqs rfl
theorem feqn46 : binA Try.T .eql 46 .nilFunc .nilFunc = some (.bool true) := fn_eqn rfl
theorem Td47 : (Try.T 47).desc = .func := rfl
theorem Tz47 : (Try.T 47).zero = [.nilFunc] := rfl
theorem ld47 : loadA Try.T h 47 (.ptr (some (i, o))) = rd1 o (h.get i) := ld_1 rfl rfl
theorem li47 : loadA Try.T h 47 (.iptr row o) = row[o]? := ldi_1 rfl rfl
theorem st47 : storeA Try.T h 47 (.ptr (some (i, o))) v = stC h i o 1 v.cells := st_n rfl rfl
theorem feqs47 {f : FuncId} : binA Try.T .eql 47 (.func f cs) .nilFunc = some (.bool false) := fn_eqs rfl
theorem feqn47 : binA Try.T .eql 47 .nilFunc .nilFunc = some (.bool true) := fn_eqn rfl
theorem Td48 : (Try.T 48).desc = .func := rfl
theorem Tz48 : (Try.T 48).zero = [.nilFunc] := rfl
theorem ld48 : loadA Try.T h 48 (.ptr (some (i, o))) = rd1 o (h.get i) := ld_1 rfl rfl
theorem li48 : loadA Try.T h 48 (.iptr row o) = row[o]? := ldi_1 rfl rfl
theorem st48 : storeA Try.T h 48 (.ptr (some (i, o))) v = stC h i o 1 v.cells := st_n rfl rfl
theorem feqs48 {f : FuncId} : binA Try.T .eql 48 (.func f cs) .nilFunc = some (.bool false) := fn_eqs rfl
theorem feqn48 : binA Try.T .eql 48 .nilFunc .nilFunc = some (.bool true) := fn_eqn rfl
theorem Td50 : (Try.T 50).desc = .func := rfl
theorem Tz50 : (Try.T 50).zero = [.nilFunc] := rfl
theorem ld50 : loadA Try.T h 50 (.ptr (some (i, o))) = rd1 o (h.get i) := ld_1 rfl rfl
theorem li50 : loadA Try.T h 50 (.iptr row o) = row[o]? := ldi_1 rfl rfl
theorem st50 : storeA Try.T h 50 (.ptr (some (i, o))) v = stC h i o 1 v.cells := st_n rfl rfl
theorem feqs50 {f : FuncId} : binA Try.T .eql 50 (.func f cs) .nilFunc = some (.bool false) := fn_eqs rfl
theorem feqn50 : binA Try.T .eql 50 .nilFunc .nilFunc = some (.bool true) := fn_eqn rfl
theorem Td51 : (Try.T 51).desc = .func := rfl
theorem Tz51 : (Try.T 51).zero = [.nilFunc] := rfl
theorem ld51 : loadA Try.T h 51 (.ptr (some (i, o))) = rd1 o (h.get i) := ld_1 rfl rfl
theorem li51 : loadA Try.T h 51 (.iptr row o) = row[o]? := ldi_1 rfl rfl
theorem st51 : storeA Try.T h 51 (.ptr (some (i, o))) v = stC h i o 1 v.cells := st_n rfl rfl
theorem feqs51 {f : FuncId} : binA Try.T .eql 51 (.func f cs) .nilFunc = some (.bool false) := fn_eqs rfl
theorem feqn51 : binA Try.T .eql 51 .nilFunc .nilFunc = some (.bool true) := fn_eqn rfl
theorem Td52 : (Try.T 52).desc = .slice 9 := rfl
theorem Tz52 : (Try.T 52).zero = [.slice none 0 0 0 true] := rfl
theorem ld52 : loadA Try.T h 52 (.ptr (some (i, o))) = rd1 o (h.get i) := ld_1 rfl rfl
theorem li52 : loadA Try.T h 52 (.iptr row o) = row[o]? := ldi_1 rfl rfl
theorem st52 : storeA Try.T h 52 (.ptr (some (i, o))) v = stC h i o 1 v.cells := st_n rfl rfl
theorem len52 (p : Sl E h i a l) : builtinA Try.T h' .len [52] [a] = some (.int .i64 (l.length : Int), h') := p.len rfl
theorem ix52 (p : Sl E h i a l) (h0 : 0 ≤ j) (h1 : j < l.length) (h2 : Seen (Nat.beq E.sz 1)) : idxA Try.T 52 a (.int k j) = some (a.at E.sz 0 j) := p.idx h0 h1 rfl rfl (Nat.eq_of_beq_eq_true h2.eq).symm
theorem wr9 {P : Program} {ops : Array Oper} {L : List Oper} {K : Tm → AH → Prop} {d : Option Nat} {tm : Tm} (p : Ow E h i a l) (x : α) (hx : v.cells = E.f x) (h0 : 0 ≤ j) (h1 : j < l.length) (h2 : Seen (Nat.beq E.sz 1)) (hk : ∀ h', Ow E h' i a (l.set j.toNat x) → h'.size = h.size → (∀ b, ¬ b = i → h'.get b = h.get b) → putM P Try.T ops L K d tm undefA h') : ansM P Try.T ops L K d tm h ((storeA Try.T h 9 (a.at E.sz 0 j) v).map fun h' => .val undefA h') :=
  ans_wr p x hx h0 h1 rfl (Nat.eq_of_beq_eq_true h2.eq).symm hk
theorem br52 {n : Nat} {l : List (Nat × AV)} (hn : Seen (Nat.beq l.length n && (Nat.ble n 10000 && bsOk 0 l))) : bsR Try.T h 52 n (some l) = some (.val (.slice (some (h.size, 0)) n n 1 true) (h.push (.cells (l.map (·.2))))) := bs_row rfl rfl rfl rfl hn
theorem bs52 (hv : Seen (match v with | .agg _ | .tuple _ => false | _ => true)) : bsR Try.T h 52 1 (some [(0, v)]) = some (.val (.slice (some (h.size, 0)) 1 1 1 true) (h.push (.cells [v]))) := bs_one rfl rfl rfl rfl hv
theorem sl52 (p : Sl E h i a l) (h0 : 0 ≤ x) (h1 : x ≤ y) (h2 : y ≤ l.length) (h3 : Seen (Nat.beq E.sz 1)) : sliceA Try.T 52 a (some x) (some y) none = some (a.part x y) := p.slc h0 h1 h2 rfl rfl (Nat.eq_of_beq_eq_true h3.eq).symm
theorem sm52 (p : Sl E h i a l) (h1 : 0 ≤ y) (h2 : y ≤ l.length) (h3 : Seen (Nat.beq E.sz 1)) : sliceA Try.T 52 a none (some y) none = some (a.part 0 y) := p.slc (lo := none) (Int.le_refl _) h1 h2 rfl rfl (Nat.eq_of_beq_eq_true h3.eq).symm
theorem sn52 (p : Sl E h i a l) (h0 : 0 ≤ x) (h1 : x ≤ l.length) (h3 : Seen (Nat.beq E.sz 1)) : sliceA Try.T 52 a (some x) none none = some (a.part x l.length) := p.slc (hi := none) h0 h1 (Int.le_refl _) rfl rfl (Nat.eq_of_beq_eq_true h3.eq).symm
theorem ap52 {P : Program} {ops : Array Oper} {L : List Oper} {K : Tm → AH → Prop} {d : Option Nat} {tm : Tm} {x : AV} {new : List α} {ix : Nat} (p : Ow E h i a l) (hx : Sl E h ix x new) (h2 : Seen (Nat.beq E.sz 1)) (hr : (l.length + new.length) * 16 ≤ 140737488355328) (hk : ∀ z h' i', Ow E h' i' z (l ++ new) → (i' = i ∨ h.size ≤ i') → h.size ≤ h'.size → (∀ j, j < h.size → ¬ j = i → h'.get j = h.get j) → putM P Try.T ops L K d tm z h') : ansM P Try.T ops L K d tm h (pairR (appendA Try.T h 52 52 a x)) :=
  ans_app p hx rfl ⟨_, rfl⟩ rfl (Nat.eq_of_beq_eq_true h2.eq).symm (Nat.eq_of_beq_eq_true h2.eq).symm (by decide) hr hk
theorem al52 {P : Program} {ops : Array Oper} {L : List Oper} {K : Tm → AH → Prop} {d : Option Nat} {tm : Tm} {sz : Nat} (x : α) (p : Ow E h i a l) (hx : cs = E.f x) (hs : sz = E.sz) (h2 : Seen (Nat.beq E.sz 1)) (hr : (l.length + 1) * 16 ≤ 140737488355328) (hk : ∀ z h' i', Ow E h' i' z (l ++ [x]) → (i' = i ∨ h.size ≤ i') → h.size ≤ h'.size → (∀ j, j < h.size → ¬ j = i → h'.get j = h.get j) → putM P Try.T ops L K d tm z h') : ansM P Try.T ops L K d tm (h.push (.cells cs)) (pairR (appendA Try.T (h.push (.cells cs)) 52 52 a (.slice (some (h.size, 0)) 1 1 sz true))) :=
  ans_app1 p x hx hs rfl rfl (Nat.eq_of_beq_eq_true h2.eq).symm (Nat.eq_of_beq_eq_true h2.eq).symm (by decide) hr hk
theorem eqn52 {l1 c1 z1 l2 c2 z2 : Nat} {x1 x2 : Bool} : binA Try.T .eql 52 (.slice none l1 c1 z1 x1) (.slice none l2 c2 z2 x2) = some (.bool true) := sl_eqn rfl
theorem eqs52 {l1 c1 z1 l2 c2 z2 : Nat} {x1 x2 : Bool} {p : Nat × Nat} : binA Try.T .eql 52 (.slice (some p) l1 c1 z1 x1) (.slice none l2 c2 z2 x2) = some (.bool false) := sl_eqs rfl
theorem eqi52 {l2 c2 z2 a1 b1 c1 d1 : Nat} {x2 : Bool} : binA Try.T .eql 52 (.islice row a1 b1 c1 d1) (.slice none l2 c2 z2 x2) = some (.bool false) := sl_eqi rfl
theorem Td53 : (Try.T 53).desc = .func := rfl
theorem Tz53 : (Try.T 53).zero = [.nilFunc] := rfl
theorem ld53 : loadA Try.T h 53 (.ptr (some (i, o))) = rd1 o (h.get i) := ld_1 rfl rfl
theorem li53 : loadA Try.T h 53 (.iptr row o) = row[o]? := ldi_1 rfl rfl
theorem st53 : storeA Try.T h 53 (.ptr (some (i, o))) v = stC h i o 1 v.cells := st_n rfl rfl
theorem feqs53 {f : FuncId} : binA Try.T .eql 53 (.func f cs) .nilFunc = some (.bool false) := fn_eqs rfl
theorem feqn53 : binA Try.T .eql 53 .nilFunc .nilFunc = some (.bool true) := fn_eqn rfl
theorem Td54 : (Try.T 54).desc = .func := rfl
theorem Tz54 : (Try.T 54).zero = [.nilFunc] := rfl
theorem ld54 : loadA Try.T h 54 (.ptr (some (i, o))) = rd1 o (h.get i) := ld_1 rfl rfl
theorem li54 : loadA Try.T h 54 (.iptr row o) = row[o]? := ldi_1 rfl rfl
theorem st54 : storeA Try.T h 54 (.ptr (some (i, o))) v = stC h i o 1 v.cells := st_n rfl rfl
theorem feqs54 {f : FuncId} : binA Try.T .eql 54 (.func f cs) .nilFunc = some (.bool false) := fn_eqs rfl
theorem feqn54 : binA Try.T .eql 54 .nilFunc .nilFunc = some (.bool true) := fn_eqn rfl
theorem Td55 : (Try.T 55).desc = .struct [(3, 0, true), (3, 1, true), (38, 2, true)] := rfl
theorem Tz55 : (Try.T 55).zero = [.int .i64 0, .int .i64 0, .slice none 0 0 0 true] := rfl
theorem ld55 : loadA Try.T h 55 (.ptr (some (i, o))) = rdN o 3 (h.get i) := ld_n rfl rfl rfl
theorem li55 : loadA Try.T h 55 (.iptr row o) = (cut row o 3).map .agg := ldi_n rfl rfl rfl
theorem st55 : storeA Try.T h 55 (.ptr (some (i, o))) v = stC h i o 3 v.cells := st_n rfl rfl
theorem lE55 [Inhabited α] (p : Sl E h i a l) (h0 : 0 ≤ j) (h1 : j < l.length) (h4 : Seen (Nat.beq E.sz 3)) : loadA Try.T h 55 (a.at E.sz 0 j) = some (.agg (E.f (l[j.toNat]!))) := p.ldn h0 h1 rfl rfl (Nat.eq_of_beq_eq_true h4.eq).symm
theorem bd55 {l : List (Nat × AV)} : bldR Try.T 55 (some l) = (fillA (plA Try.T 55) (Try.T 55).zero l).map .agg := bld_eq rfl
theorem pl55_0 : plA Try.T 55 0 = some (0, 1) := rfl
theorem pl55_1 : plA Try.T 55 1 = some (1, 1) := rfl
theorem pl55_2 : plA Try.T 55 2 = some (2, 1) := rfl
theorem fa55_0 : faR Try.T 55 0 (some (.ptr (some (i, o)))) = some (.ptr (some (i, o + 0))) := fa_ptr rfl (by decide) rfl
theorem fi55_0 : faR Try.T 55 0 (some (.iptr row o)) = some (.iptr row (o + 0)) := fa_iptr rfl (by decide) rfl
theorem fE55_0 (p : Sl E h i a l) (h0 : 0 ≤ j) (h1 : j < l.length) : faR Try.T 55 0 (some (a.at E.sz off0 j)) = some (a.at E.sz (off0 + 0) j) := p.fa h0 h1 rfl (by decide) rfl
theorem fl55_0 : fldR Try.T 55 0 (some (.agg cs)) = cs[0]? := fld_1 rfl rfl rfl
theorem fa55_1 : faR Try.T 55 1 (some (.ptr (some (i, o)))) = some (.ptr (some (i, o + 1))) := fa_ptr rfl (by decide) rfl
theorem fi55_1 : faR Try.T 55 1 (some (.iptr row o)) = some (.iptr row (o + 1)) := fa_iptr rfl (by decide) rfl
theorem fE55_1 (p : Sl E h i a l) (h0 : 0 ≤ j) (h1 : j < l.length) : faR Try.T 55 1 (some (a.at E.sz off0 j)) = some (a.at E.sz (off0 + 1) j) := p.fa h0 h1 rfl (by decide) rfl
theorem fl55_1 : fldR Try.T 55 1 (some (.agg cs)) = cs[1]? := fld_1 rfl rfl rfl
theorem fa55_2 : faR Try.T 55 2 (some (.ptr (some (i, o)))) = some (.ptr (some (i, o + 2))) := fa_ptr rfl (by decide) rfl
theorem fi55_2 : faR Try.T 55 2 (some (.iptr row o)) = some (.iptr row (o + 2)) := fa_iptr rfl (by decide) rfl
theorem fE55_2 (p : Sl E h i a l) (h0 : 0 ≤ j) (h1 : j < l.length) : faR Try.T 55 2 (some (a.at E.sz off0 j)) = some (a.at E.sz (off0 + 2) j) := p.fa h0 h1 rfl (by decide) rfl
theorem fl55_2 : fldR Try.T 55 2 (some (.agg cs)) = cs[2]? := fld_1 rfl rfl rfl
theorem Td56 : (Try.T 56).desc = .struct [(3, 0, true), (3, 1, true), (38, 2, true)] := rfl
theorem Tz56 : (Try.T 56).zero = [.int .i64 0, .int .i64 0, .slice none 0 0 0 true] := rfl
theorem ld56 : loadA Try.T h 56 (.ptr (some (i, o))) = rdN o 3 (h.get i) := ld_n rfl rfl rfl
theorem li56 : loadA Try.T h 56 (.iptr row o) = (cut row o 3).map .agg := ldi_n rfl rfl rfl
theorem st56 : storeA Try.T h 56 (.ptr (some (i, o))) v = stC h i o 3 v.cells := st_n rfl rfl
theorem lE56 [Inhabited α] (p : Sl E h i a l) (h0 : 0 ≤ j) (h1 : j < l.length) (h4 : Seen (Nat.beq E.sz 3)) : loadA Try.T h 56 (a.at E.sz 0 j) = some (.agg (E.f (l[j.toNat]!))) := p.ldn h0 h1 rfl rfl (Nat.eq_of_beq_eq_true h4.eq).symm
theorem bd56 {l : List (Nat × AV)} : bldR Try.T 56 (some l) = (fillA (plA Try.T 56) (Try.T 56).zero l).map .agg := bld_eq rfl
theorem pl56_0 : plA Try.T 56 0 = some (0, 1) := rfl
theorem pl56_1 : plA Try.T 56 1 = some (1, 1) := rfl
theorem pl56_2 : plA Try.T 56 2 = some (2, 1) := rfl
theorem fa56_0 : faR Try.T 56 0 (some (.ptr (some (i, o)))) = some (.ptr (some (i, o + 0))) := fa_ptr rfl (by decide) rfl
theorem fi56_0 : faR Try.T 56 0 (some (.iptr row o)) = some (.iptr row (o + 0)) := fa_iptr rfl (by decide) rfl
theorem fE56_0 (p : Sl E h i a l) (h0 : 0 ≤ j) (h1 : j < l.length) : faR Try.T 56 0 (some (a.at E.sz off0 j)) = some (a.at E.sz (off0 + 0) j) := p.fa h0 h1 rfl (by decide) rfl
theorem fl56_0 : fldR Try.T 56 0 (some (.agg cs)) = cs[0]? := fld_1 rfl rfl rfl
theorem fa56_1 : faR Try.T 56 1 (some (.ptr (some (i, o)))) = some (.ptr (some (i, o + 1))) := fa_ptr rfl (by decide) rfl
theorem fi56_1 : faR Try.T 56 1 (some (.iptr row o)) = some (.iptr row (o + 1)) := fa_iptr rfl (by decide) rfl
theorem fE56_1 (p : Sl E h i a l) (h0 : 0 ≤ j) (h1 : j < l.length) : faR Try.T 56 1 (some (a.at E.sz off0 j)) = some (a.at E.sz (off0 + 1) j) := p.fa h0 h1 rfl (by decide) rfl
theorem fl56_1 : fldR Try.T 56 1 (some (.agg cs)) = cs[1]? := fld_1 rfl rfl rfl
theorem fa56_2 : faR Try.T 56 2 (some (.ptr (some (i, o)))) = some (.ptr (some (i, o + 2))) := fa_ptr rfl (by decide) rfl
theorem fi56_2 : faR Try.T 56 2 (some (.iptr row o)) = some (.iptr row (o + 2)) := fa_iptr rfl (by decide) rfl
theorem fE56_2 (p : Sl E h i a l) (h0 : 0 ≤ j) (h1 : j < l.length) : faR Try.T 56 2 (some (a.at E.sz off0 j)) = some (a.at E.sz (off0 + 2) j) := p.fa h0 h1 rfl (by decide) rfl
theorem fl56_2 : fldR Try.T 56 2 (some (.agg cs)) = cs[2]? := fld_1 rfl rfl rfl
theorem Td57 : (Try.T 57).desc = .func := rfl
theorem Tz57 : (Try.T 57).zero = [.nilFunc] := rfl
theorem ld57 : loadA Try.T h 57 (.ptr (some (i, o))) = rd1 o (h.get i) := ld_1 rfl rfl
theorem li57 : loadA Try.T h 57 (.iptr row o) = row[o]? := ldi_1 rfl rfl
theorem st57 : storeA Try.T h 57 (.ptr (some (i, o))) v = stC h i o 1 v.cells := st_n rfl rfl
theorem feqs57 {f : FuncId} : binA Try.T .eql 57 (.func f cs) .nilFunc = some (.bool false) := fn_eqs rfl
theorem feqn57 : binA Try.T .eql 57 .nilFunc .nilFunc = some (.bool true) := fn_eqn rfl
theorem Td58 : (Try.T 58).desc = .func := rfl
theorem Tz58 : (Try.T 58).zero = [.nilFunc] := rfl
theorem ld58 : loadA Try.T h 58 (.ptr (some (i, o))) = rd1 o (h.get i) := ld_1 rfl rfl
theorem li58 : loadA Try.T h 58 (.iptr row o) = row[o]? := ldi_1 rfl rfl
theorem st58 : storeA Try.T h 58 (.ptr (some (i, o))) v = stC h i o 1 v.cells := st_n rfl rfl
theorem feqs58 {f : FuncId} : binA Try.T .eql 58 (.func f cs) .nilFunc = some (.bool false) := fn_eqs rfl
theorem feqn58 : binA Try.T .eql 58 .nilFunc .nilFunc = some (.bool true) := fn_eqn rfl
theorem Td59 : (Try.T 59).desc = .func := rfl
theorem Tz59 : (Try.T 59).zero = [.nilFunc] := rfl
theorem ld59 : loadA Try.T h 59 (.ptr (some (i, o))) = rd1 o (h.get i) := ld_1 rfl rfl
theorem li59 : loadA Try.T h 59 (.iptr row o) = row[o]? := ldi_1 rfl rfl
theorem st59 : storeA Try.T h 59 (.ptr (some (i, o))) v = stC h i o 1 v.cells := st_n rfl rfl
theorem feqs59 {f : FuncId} : binA Try.T .eql 59 (.func f cs) .nilFunc = some (.bool false) := fn_eqs rfl
theorem feqn59 : binA Try.T .eql 59 .nilFunc .nilFunc = some (.bool true) := fn_eqn rfl
theorem Td60 : (Try.T 60).desc = .func := rfl
theorem Tz60 : (Try.T 60).zero = [.nilFunc] := rfl
theorem ld60 : loadA Try.T h 60 (.ptr (some (i, o))) = rd1 o (h.get i) := ld_1 rfl rfl
theorem li60 : loadA Try.T h 60 (.iptr row o) = row[o]? := ldi_1 rfl rfl
theorem st60 : storeA Try.T h 60 (.ptr (some (i, o))) v = stC h i o 1 v.cells := st_n rfl rfl
theorem feqs60 {f : FuncId} : binA Try.T .eql 60 (.func f cs) .nilFunc = some (.bool false) := fn_eqs rfl
theorem feqn60 : binA Try.T .eql 60 .nilFunc .nilFunc = some (.bool true) := fn_eqn rfl
theorem Td61 : (Try.T 61).desc = .func := rfl
theorem Tz61 : (Try.T 61).zero = [.nilFunc] := rfl
theorem ld61 : loadA Try.T h 61 (.ptr (some (i, o))) = rd1 o (h.get i) := ld_1 rfl rfl
theorem li61 : loadA Try.T h 61 (.iptr row o) = row[o]? := ldi_1 rfl rfl
theorem st61 : storeA Try.T h 61 (.ptr (some (i, o))) v = stC h i o 1 v.cells := st_n rfl rfl
theorem feqs61 {f : FuncId} : binA Try.T .eql 61 (.func f cs) .nilFunc = some (.bool false) := fn_eqs rfl
theorem feqn61 : binA Try.T .eql 61 .nilFunc .nilFunc = some (.bool true) := fn_eqn rfl
theorem Td62 : (Try.T 62).desc = .func := rfl
theorem Tz62 : (Try.T 62).zero = [.nilFunc] := rfl
theorem ld62 : loadA Try.T h 62 (.ptr (some (i, o))) = rd1 o (h.get i) := ld_1 rfl rfl
theorem li62 : loadA Try.T h 62 (.iptr row o) = row[o]? := ldi_1 rfl rfl
theorem st62 : storeA Try.T h 62 (.ptr (some (i, o))) v = stC h i o 1 v.cells := st_n rfl rfl
theorem feqs62 {f : FuncId} : binA Try.T .eql 62 (.func f cs) .nilFunc = some (.bool false) := fn_eqs rfl
theorem feqn62 : binA Try.T .eql 62 .nilFunc .nilFunc = some (.bool true) := fn_eqn rfl
theorem Td63 : (Try.T 63).desc = .func := rfl
theorem Tz63 : (Try.T 63).zero = [.nilFunc] := rfl
theorem ld63 : loadA Try.T h 63 (.ptr (some (i, o))) = rd1 o (h.get i) := ld_1 rfl rfl
theorem li63 : loadA Try.T h 63 (.iptr row o) = row[o]? := ldi_1 rfl rfl
theorem st63 : storeA Try.T h 63 (.ptr (some (i, o))) v = stC h i o 1 v.cells := st_n rfl rfl
theorem feqs63 {f : FuncId} : binA Try.T .eql 63 (.func f cs) .nilFunc = some (.bool false) := fn_eqs rfl
theorem feqn63 : binA Try.T .eql 63 .nilFunc .nilFunc = some (.bool true) := fn_eqn rfl
theorem Td64 : (Try.T 64).desc = .struct [(17, 0, true), (17, 1, true), (17, 2, true), (9, 3, true)] := rfl
theorem Tz64 : (Try.T 64).zero = [.ptr none, .ptr none, .ptr none, .str []] := rfl
theorem ld64 : loadA Try.T h 64 (.ptr (some (i, o))) = rdN o 4 (h.get i) := ld_n rfl rfl rfl
theorem li64 : loadA Try.T h 64 (.iptr row o) = (cut row o 4).map .agg := ldi_n rfl rfl rfl
theorem st64 : storeA Try.T h 64 (.ptr (some (i, o))) v = stC h i o 4 v.cells := st_n rfl rfl
theorem lE64 [Inhabited α] (p : Sl E h i a l) (h0 : 0 ≤ j) (h1 : j < l.length) (h4 : Seen (Nat.beq E.sz 4)) : loadA Try.T h 64 (a.at E.sz 0 j) = some (.agg (E.f (l[j.toNat]!))) := p.ldn h0 h1 rfl rfl (Nat.eq_of_beq_eq_true h4.eq).symm
theorem bd64 {l : List (Nat × AV)} : bldR Try.T 64 (some l) = (fillA (plA Try.T 64) (Try.T 64).zero l).map .agg := bld_eq rfl
theorem pl64_0 : plA Try.T 64 0 = some (0, 1) := rfl
theorem pl64_1 : plA Try.T 64 1 = some (1, 1) := rfl
theorem pl64_2 : plA Try.T 64 2 = some (2, 1) := rfl
theorem pl64_3 : plA Try.T 64 3 = some (3, 1) := rfl
theorem fa64_0 : faR Try.T 64 0 (some (.ptr (some (i, o)))) = some (.ptr (some (i, o + 0))) := fa_ptr rfl (by decide) rfl
theorem fi64_0 : faR Try.T 64 0 (some (.iptr row o)) = some (.iptr row (o + 0)) := fa_iptr rfl (by decide) rfl
theorem fE64_0 (p : Sl E h i a l) (h0 : 0 ≤ j) (h1 : j < l.length) : faR Try.T 64 0 (some (a.at E.sz off0 j)) = some (a.at E.sz (off0 + 0) j) := p.fa h0 h1 rfl (by decide) rfl
theorem fl64_0 : fldR Try.T 64 0 (some (.agg cs)) = cs[0]? := fld_1 rfl rfl rfl
theorem fa64_1 : faR Try.T 64 1 (some (.ptr (some (i, o)))) = some (.ptr (some (i, o + 1))) := fa_ptr rfl (by decide) rfl
theorem fi64_1 : faR Try.T 64 1 (some (.iptr row o)) = some (.iptr row (o + 1)) := fa_iptr rfl (by decide) rfl
theorem fE64_1 (p : Sl E h i a l) (h0 : 0 ≤ j) (h1 : j < l.length) : faR Try.T 64 1 (some (a.at E.sz off0 j)) = some (a.at E.sz (off0 + 1) j) := p.fa h0 h1 rfl (by decide) rfl
theorem fl64_1 : fldR Try.T 64 1 (some (.agg cs)) = cs[1]? := fld_1 rfl rfl rfl
theorem fa64_2 : faR Try.T 64 2 (some (.ptr (some (i, o)))) = some (.ptr (some (i, o + 2))) := fa_ptr rfl (by decide) rfl
theorem fi64_2 : faR Try.T 64 2 (some (.iptr row o)) = some (.iptr row (o + 2)) := fa_iptr rfl (by decide) rfl
theorem fE64_2 (p : Sl E h i a l) (h0 : 0 ≤ j) (h1 : j < l.length) : faR Try.T 64 2 (some (a.at E.sz off0 j)) = some (a.at E.sz (off0 + 2) j) := p.fa h0 h1 rfl (by decide) rfl
theorem fl64_2 : fldR Try.T 64 2 (some (.agg cs)) = cs[2]? := fld_1 rfl rfl rfl
theorem fa64_3 : faR Try.T 64 3 (some (.ptr (some (i, o)))) = some (.ptr (some (i, o + 3))) := fa_ptr rfl (by decide) rfl
theorem fi64_3 : faR Try.T 64 3 (some (.iptr row o)) = some (.iptr row (o + 3)) := fa_iptr rfl (by decide) rfl
theorem fE64_3 (p : Sl E h i a l) (h0 : 0 ≤ j) (h1 : j < l.length) : faR Try.T 64 3 (some (a.at E.sz off0 j)) = some (a.at E.sz (off0 + 3) j) := p.fa h0 h1 rfl (by decide) rfl
theorem fl64_3 : fldR Try.T 64 3 (some (.agg cs)) = cs[3]? := fld_1 rfl rfl rfl
theorem Td65 : (Try.T 65).desc = .struct [(17, 0, true), (17, 1, true), (17, 2, true), (9, 3, true)] := rfl
theorem Tz65 : (Try.T 65).zero = [.ptr none, .ptr none, .ptr none, .str []] := rfl
theorem ld65 : loadA Try.T h 65 (.ptr (some (i, o))) = rdN o 4 (h.get i) := ld_n rfl rfl rfl
theorem li65 : loadA Try.T h 65 (.iptr row o) = (cut row o 4).map .agg := ldi_n rfl rfl rfl
theorem st65 : storeA Try.T h 65 (.ptr (some (i, o))) v = stC h i o 4 v.cells := st_n rfl rfl
theorem lE65 [Inhabited α] (p : Sl E h i a l) (h0 : 0 ≤ j) (h1 : j < l.length) (h4 : Seen (Nat.beq E.sz 4)) : loadA Try.T h 65 (a.at E.sz 0 j) = some (.agg (E.f (l[j.toNat]!))) := p.ldn h0 h1 rfl rfl (Nat.eq_of_beq_eq_true h4.eq).symm
theorem bd65 {l : List (Nat × AV)} : bldR Try.T 65 (some l) = (fillA (plA Try.T 65) (Try.T 65).zero l).map .agg := bld_eq rfl
theorem pl65_0 : plA Try.T 65 0 = some (0, 1) := rfl
theorem pl65_1 : plA Try.T 65 1 = some (1, 1) := rfl
theorem pl65_2 : plA Try.T 65 2 = some (2, 1) := rfl
theorem pl65_3 : plA Try.T 65 3 = some (3, 1) := rfl
theorem fa65_0 : faR Try.T 65 0 (some (.ptr (some (i, o)))) = some (.ptr (some (i, o + 0))) := fa_ptr rfl (by decide) rfl
theorem fi65_0 : faR Try.T 65 0 (some (.iptr row o)) = some (.iptr row (o + 0)) := fa_iptr rfl (by decide) rfl
theorem fE65_0 (p : Sl E h i a l) (h0 : 0 ≤ j) (h1 : j < l.length) : faR Try.T 65 0 (some (a.at E.sz off0 j)) = some (a.at E.sz (off0 + 0) j) := p.fa h0 h1 rfl (by decide) rfl
theorem fl65_0 : fldR Try.T 65 0 (some (.agg cs)) = cs[0]? := fld_1 rfl rfl rfl
theorem fa65_1 : faR Try.T 65 1 (some (.ptr (some (i, o)))) = some (.ptr (some (i, o + 1))) := fa_ptr rfl (by decide) rfl
theorem fi65_1 : faR Try.T 65 1 (some (.iptr row o)) = some (.iptr row (o + 1)) := fa_iptr rfl (by decide) rfl
theorem fE65_1 (p : Sl E h i a l) (h0 : 0 ≤ j) (h1 : j < l.length) : faR Try.T 65 1 (some (a.at E.sz off0 j)) = some (a.at E.sz (off0 + 1) j) := p.fa h0 h1 rfl (by decide) rfl
theorem fl65_1 : fldR Try.T 65 1 (some (.agg cs)) = cs[1]? := fld_1 rfl rfl rfl
theorem fa65_2 : faR Try.T 65 2 (some (.ptr (some (i, o)))) = some (.ptr (some (i, o + 2))) := fa_ptr rfl (by decide) rfl
theorem fi65_2 : faR Try.T 65 2 (some (.iptr row o)) = some (.iptr row (o + 2)) := fa_iptr rfl (by decide) rfl
theorem fE65_2 (p : Sl E h i a l) (h0 : 0 ≤ j) (h1 : j < l.length) : faR Try.T 65 2 (some (a.at E.sz off0 j)) = some (a.at E.sz (off0 + 2) j) := p.fa h0 h1 rfl (by decide) rfl
theorem fl65_2 : fldR Try.T 65 2 (some (.agg cs)) = cs[2]? := fld_1 rfl rfl rfl
theorem fa65_3 : faR Try.T 65 3 (some (.ptr (some (i, o)))) = some (.ptr (some (i, o + 3))) := fa_ptr rfl (by decide) rfl
theorem fi65_3 : faR Try.T 65 3 (some (.iptr row o)) = some (.iptr row (o + 3)) := fa_iptr rfl (by decide) rfl
theorem fE65_3 (p : Sl E h i a l) (h0 : 0 ≤ j) (h1 : j < l.length) : faR Try.T 65 3 (some (a.at E.sz off0 j)) = some (a.at E.sz (off0 + 3) j) := p.fa h0 h1 rfl (by decide) rfl
theorem fl65_3 : fldR Try.T 65 3 (some (.agg cs)) = cs[3]? := fld_1 rfl rfl rfl
theorem Td66 : (Try.T 66).desc = .array 0 16 := rfl
theorem Tz66 : (Try.T 66).zero = [] := rfl
theorem ld66 : loadA Try.T h 66 (.ptr (some (i, o))) = rdN o 0 (h.get i) := ld_n rfl rfl rfl
theorem li66 : loadA Try.T h 66 (.iptr row o) = (cut row o 0).map .agg := ldi_n rfl rfl rfl
theorem st66 : storeA Try.T h 66 (.ptr (some (i, o))) v = stC h i o 0 v.cells := st_n rfl rfl
theorem lE66 [Inhabited α] (p : Sl E h i a l) (h0 : 0 ≤ j) (h1 : j < l.length) (h4 : Seen (Nat.beq E.sz 0)) : loadA Try.T h 66 (a.at E.sz 0 j) = some (.agg (E.f (l[j.toNat]!))) := p.ldn h0 h1 rfl rfl (Nat.eq_of_beq_eq_true h4.eq).symm
theorem Td67 : (Try.T 67).desc = .struct [(66, 0, false)] := rfl
theorem Tz67 : (Try.T 67).zero = [] := rfl
theorem ld67 : loadA Try.T h 67 (.ptr (some (i, o))) = rdN o 0 (h.get i) := ld_n rfl rfl rfl
theorem li67 : loadA Try.T h 67 (.iptr row o) = (cut row o 0).map .agg := ldi_n rfl rfl rfl
theorem st67 : storeA Try.T h 67 (.ptr (some (i, o))) v = stC h i o 0 v.cells := st_n rfl rfl
theorem lE67 [Inhabited α] (p : Sl E h i a l) (h0 : 0 ≤ j) (h1 : j < l.length) (h4 : Seen (Nat.beq E.sz 0)) : loadA Try.T h 67 (a.at E.sz 0 j) = some (.agg (E.f (l[j.toNat]!))) := p.ldn h0 h1 rfl rfl (Nat.eq_of_beq_eq_true h4.eq).symm
theorem bd67 {l : List (Nat × AV)} : bldR Try.T 67 (some l) = (fillA (plA Try.T 67) (Try.T 67).zero l).map .agg := bld_eq rfl
theorem pl67_0 : plA Try.T 67 0 = some (0, 0) := rfl
theorem Td68 : (Try.T 68).desc = .struct [(66, 0, false)] := rfl
theorem Tz68 : (Try.T 68).zero = [] := rfl
theorem ld68 : loadA Try.T h 68 (.ptr (some (i, o))) = rdN o 0 (h.get i) := ld_n rfl rfl rfl
theorem li68 : loadA Try.T h 68 (.iptr row o) = (cut row o 0).map .agg := ldi_n rfl rfl rfl
theorem st68 : storeA Try.T h 68 (.ptr (some (i, o))) v = stC h i o 0 v.cells := st_n rfl rfl
theorem lE68 [Inhabited α] (p : Sl E h i a l) (h0 : 0 ≤ j) (h1 : j < l.length) (h4 : Seen (Nat.beq E.sz 0)) : loadA Try.T h 68 (a.at E.sz 0 j) = some (.agg (E.f (l[j.toNat]!))) := p.ldn h0 h1 rfl rfl (Nat.eq_of_beq_eq_true h4.eq).symm
theorem bd68 {l : List (Nat × AV)} : bldR Try.T 68 (some l) = (fillA (plA Try.T 68) (Try.T 68).zero l).map .agg := bld_eq rfl
theorem pl68_0 : plA Try.T 68 0 = some (0, 0) := rfl
theorem Td69 : (Try.T 69).desc = .int .u32 := rfl
theorem Tz69 : (Try.T 69).zero = [.int .u32 0] := rfl
theorem ld69 : loadA Try.T h 69 (.ptr (some (i, o))) = rd1 o (h.get i) := ld_1 rfl rfl
theorem li69 : loadA Try.T h 69 (.iptr row o) = row[o]? := ldi_1 rfl rfl
theorem st69 : storeA Try.T h 69 (.ptr (some (i, o))) v = stC h i o 1 v.cells := st_n rfl rfl
theorem Td70 : (Try.T 70).desc = .int .u8 := rfl
theorem Tz70 : (Try.T 70).zero = [.int .u8 0] := rfl
theorem ld70 : loadA Try.T h 70 (.ptr (some (i, o))) = rd1 o (h.get i) := ld_1 rfl rfl
theorem li70 : loadA Try.T h 70 (.iptr row o) = row[o]? := ldi_1 rfl rfl
theorem st70 : storeA Try.T h 70 (.ptr (some (i, o))) v = stC h i o 1 v.cells := st_n rfl rfl
theorem l870 {l : List UInt8} (p : Sl E8 h i a l) (h0 : 0 ≤ j) (h1 : j < l.length) : loadA Try.T h 70 (a.at E8.sz 0 j) = some (.int .u8 ((l[j.toNat]!).toNat : Int)) := p.ld8 h0 h1 rfl rfl
theorem Td71 : (Try.T 71).desc = .int .u8 := rfl
theorem Tz71 : (Try.T 71).zero = [.int .u8 0] := rfl
theorem ld71 : loadA Try.T h 71 (.ptr (some (i, o))) = rd1 o (h.get i) := ld_1 rfl rfl
theorem li71 : loadA Try.T h 71 (.iptr row o) = row[o]? := ldi_1 rfl rfl
theorem st71 : storeA Try.T h 71 (.ptr (some (i, o))) v = stC h i o 1 v.cells := st_n rfl rfl
theorem l871 {l : List UInt8} (p : Sl E8 h i a l) (h0 : 0 ≤ j) (h1 : j < l.length) : loadA Try.T h 71 (a.at E8.sz 0 j) = some (.int .u8 ((l[j.toNat]!).toNat : Int)) := p.ld8 h0 h1 rfl rfl
theorem Td72 : (Try.T 72).desc = .func := rfl
theorem Tz72 : (Try.T 72).zero = [.nilFunc] := rfl
theorem ld72 : loadA Try.T h 72 (.ptr (some (i, o))) = rd1 o (h.get i) := ld_1 rfl rfl
theorem li72 : loadA Try.T h 72 (.iptr row o) = row[o]? := ldi_1 rfl rfl
theorem st72 : storeA Try.T h 72 (.ptr (some (i, o))) v = stC h i o 1 v.cells := st_n rfl rfl
theorem feqs72 {f : FuncId} : binA Try.T .eql 72 (.func f cs) .nilFunc = some (.bool false) := fn_eqs rfl
theorem feqn72 : binA Try.T .eql 72 .nilFunc .nilFunc = some (.bool true) := fn_eqn rfl
theorem Td73 : (Try.T 73).desc = .pointer 5 := rfl
theorem Tz73 : (Try.T 73).zero = [.ptr none] := rfl
theorem ld73 : loadA Try.T h 73 (.ptr (some (i, o))) = rd1 o (h.get i) := ld_1 rfl rfl
theorem li73 : loadA Try.T h 73 (.iptr row o) = row[o]? := ldi_1 rfl rfl
theorem st73 : storeA Try.T h 73 (.ptr (some (i, o))) v = stC h i o 1 v.cells := st_n rfl rfl
theorem peqn73 : binA Try.T .eql 73 (.ptr none) (.ptr none) = some (.bool true) := pt_eqn rfl
theorem peqs73 {p : Nat × Nat} : binA Try.T .eql 73 (.ptr (some p)) (.ptr none) = some (.bool false) := pt_eqs rfl
theorem pnen73 : binA Try.T .neq 73 (.ptr none) (.ptr none) = some (.bool false) := pt_nen rfl
theorem pnes73 {p : Nat × Nat} : binA Try.T .neq 73 (.ptr (some p)) (.ptr none) = some (.bool true) := pt_nes rfl
theorem Td74 : (Try.T 74).desc = .int .i32 := rfl
theorem Tz74 : (Try.T 74).zero = [.int .i32 0] := rfl
theorem ld74 : loadA Try.T h 74 (.ptr (some (i, o))) = rd1 o (h.get i) := ld_1 rfl rfl
theorem li74 : loadA Try.T h 74 (.iptr row o) = row[o]? := ldi_1 rfl rfl
theorem st74 : storeA Try.T h 74 (.ptr (some (i, o))) v = stC h i o 1 v.cells := st_n rfl rfl
theorem Td75 : (Try.T 75).desc = .int .i32 := rfl
theorem Tz75 : (Try.T 75).zero = [.int .i32 0] := rfl
theorem ld75 : loadA Try.T h 75 (.ptr (some (i, o))) = rd1 o (h.get i) := ld_1 rfl rfl
theorem li75 : loadA Try.T h 75 (.iptr row o) = row[o]? := ldi_1 rfl rfl
theorem st75 : storeA Try.T h 75 (.ptr (some (i, o))) v = stC h i o 1 v.cells := st_n rfl rfl
theorem Td76 : (Try.T 76).desc = .struct [(12, 0, true), (12, 1, true), (69, 2, true), (70, 3, true), (5, 4, true), (5, 5, true), (71, 6, true), (72, 7, true), (73, 8, true), (74, 9, true), (75, 10, true)] := rfl
theorem Tz76 : (Try.T 76).zero = [.int .u64 0, .int .u64 0, .int .u32 0, .int .u8 0, .int .u8 0, .int .u8 0, .int .u8 0, .nilFunc, .ptr none, .int .i32 0, .int .i32 0] := rfl
theorem ld76 : loadA Try.T h 76 (.ptr (some (i, o))) = rdN o 11 (h.get i) := ld_n rfl rfl rfl
theorem li76 : loadA Try.T h 76 (.iptr row o) = (cut row o 11).map .agg := ldi_n rfl rfl rfl
theorem st76 : storeA Try.T h 76 (.ptr (some (i, o))) v = stC h i o 11 v.cells := st_n rfl rfl
theorem lE76 [Inhabited α] (p : Sl E h i a l) (h0 : 0 ≤ j) (h1 : j < l.length) (h4 : Seen (Nat.beq E.sz 11)) : loadA Try.T h 76 (a.at E.sz 0 j) = some (.agg (E.f (l[j.toNat]!))) := p.ldn h0 h1 rfl rfl (Nat.eq_of_beq_eq_true h4.eq).symm
theorem bd76 {l : List (Nat × AV)} : bldR Try.T 76 (some l) = (fillA (plA Try.T 76) (Try.T 76).zero l).map .agg := bld_eq rfl
theorem pl76_0 : plA Try.T 76 0 = some (0, 1) := rfl
theorem pl76_1 : plA Try.T 76 1 = some (1, 1) := rfl
theorem pl76_2 : plA Try.T 76 2 = some (2, 1) := rfl
theorem pl76_3 : plA Try.T 76 3 = some (3, 1) := rfl
theorem pl76_4 : plA Try.T 76 4 = some (4, 1) := rfl
theorem pl76_5 : plA Try.T 76 5 = some (5, 1) := rfl
theorem pl76_6 : plA Try.T 76 6 = some (6, 1) := rfl
theorem pl76_7 : plA Try.T 76 7 = some (7, 1) := rfl
theorem pl76_8 : plA Try.T 76 8 = some (8, 1) := rfl
theorem pl76_9 : plA Try.T 76 9 = some (9, 1) := rfl
theorem pl76_10 : plA Try.T 76 10 = some (10, 1) := rfl
theorem fa76_0 : faR Try.T 76 0 (some (.ptr (some (i, o)))) = some (.ptr (some (i, o + 0))) := fa_ptr rfl (by decide) rfl
theorem fi76_0 : faR Try.T 76 0 (some (.iptr row o)) = some (.iptr row (o + 0)) := fa_iptr rfl (by decide) rfl
theorem fE76_0 (p : Sl E h i a l) (h0 : 0 ≤ j) (h1 : j < l.length) : faR Try.T 76 0 (some (a.at E.sz off0 j)) = some (a.at E.sz (off0 + 0) j) := p.fa h0 h1 rfl (by decide) rfl
theorem fl76_0 : fldR Try.T 76 0 (some (.agg cs)) = cs[0]? := fld_1 rfl rfl rfl
theorem fa76_1 : faR Try.T 76 1 (some (.ptr (some (i, o)))) = some (.ptr (some (i, o + 1))) := fa_ptr rfl (by decide) rfl
theorem fi76_1 : faR Try.T 76 1 (some (.iptr row o)) = some (.iptr row (o + 1)) := fa_iptr rfl (by decide) rfl
theorem fE76_1 (p : Sl E h i a l) (h0 : 0 ≤ j) (h1 : j < l.length) : faR Try.T 76 1 (some (a.at E.sz off0 j)) = some (a.at E.sz (off0 + 1) j) := p.fa h0 h1 rfl (by decide) rfl
theorem fl76_1 : fldR Try.T 76 1 (some (.agg cs)) = cs[1]? := fld_1 rfl rfl rfl
theorem fa76_2 : faR Try.T 76 2 (some (.ptr (some (i, o)))) = some (.ptr (some (i, o + 2))) := fa_ptr rfl (by decide) rfl
theorem fi76_2 : faR Try.T 76 2 (some (.iptr row o)) = some (.iptr row (o + 2)) := fa_iptr rfl (by decide) rfl
theorem fE76_2 (p : Sl E h i a l) (h0 : 0 ≤ j) (h1 : j < l.length) : faR Try.T 76 2 (some (a.at E.sz off0 j)) = some (a.at E.sz (off0 + 2) j) := p.fa h0 h1 rfl (by decide) rfl
theorem fl76_2 : fldR Try.T 76 2 (some (.agg cs)) = cs[2]? := fld_1 rfl rfl rfl
theorem fa76_3 : faR Try.T 76 3 (some (.ptr (some (i, o)))) = some (.ptr (some (i, o + 3))) := fa_ptr rfl (by decide) rfl
theorem fi76_3 : faR Try.T 76 3 (some (.iptr row o)) = some (.iptr row (o + 3)) := fa_iptr rfl (by decide) rfl
theorem fE76_3 (p : Sl E h i a l) (h0 : 0 ≤ j) (h1 : j < l.length) : faR Try.T 76 3 (some (a.at E.sz off0 j)) = some (a.at E.sz (off0 + 3) j) := p.fa h0 h1 rfl (by decide) rfl
theorem fl76_3 : fldR Try.T 76 3 (some (.agg cs)) = cs[3]? := fld_1 rfl rfl rfl
theorem fa76_4 : faR Try.T 76 4 (some (.ptr (some (i, o)))) = some (.ptr (some (i, o + 4))) := fa_ptr rfl (by decide) rfl
theorem fi76_4 : faR Try.T 76 4 (some (.iptr row o)) = some (.iptr row (o + 4)) := fa_iptr rfl (by decide) rfl
theorem fE76_4 (p : Sl E h i a l) (h0 : 0 ≤ j) (h1 : j < l.length) : faR Try.T 76 4 (some (a.at E.sz off0 j)) = some (a.at E.sz (off0 + 4) j) := p.fa h0 h1 rfl (by decide) rfl
theorem fl76_4 : fldR Try.T 76 4 (some (.agg cs)) = cs[4]? := fld_1 rfl rfl rfl
theorem fa76_5 : faR Try.T 76 5 (some (.ptr (some (i, o)))) = some (.ptr (some (i, o + 5))) := fa_ptr rfl (by decide) rfl
theorem fi76_5 : faR Try.T 76 5 (some (.iptr row o)) = some (.iptr row (o + 5)) := fa_iptr rfl (by decide) rfl
theorem fE76_5 (p : Sl E h i a l) (h0 : 0 ≤ j) (h1 : j < l.length) : faR Try.T 76 5 (some (a.at E.sz off0 j)) = some (a.at E.sz (off0 + 5) j) := p.fa h0 h1 rfl (by decide) rfl
theorem fl76_5 : fldR Try.T 76 5 (some (.agg cs)) = cs[5]? := fld_1 rfl rfl rfl
theorem fa76_6 : faR Try.T 76 6 (some (.ptr (some (i, o)))) = some (.ptr (some (i, o + 6))) := fa_ptr rfl (by decide) rfl
theorem fi76_6 : faR Try.T 76 6 (some (.iptr row o)) = some (.iptr row (o + 6)) := fa_iptr rfl (by decide) rfl
theorem fE76_6 (p : Sl E h i a l) (h0 : 0 ≤ j) (h1 : j < l.length) : faR Try.T 76 6 (some (a.at E.sz off0 j)) = some (a.at E.sz (off0 + 6) j) := p.fa h0 h1 rfl (by decide) rfl
theorem fl76_6 : fldR Try.T 76 6 (some (.agg cs)) = cs[6]? := fld_1 rfl rfl rfl
theorem fa76_7 : faR Try.T 76 7 (some (.ptr (some (i, o)))) = some (.ptr (some (i, o + 7))) := fa_ptr rfl (by decide) rfl
theorem fi76_7 : faR Try.T 76 7 (some (.iptr row o)) = some (.iptr row (o + 7)) := fa_iptr rfl (by decide) rfl
theorem fE76_7 (p : Sl E h i a l) (h0 : 0 ≤ j) (h1 : j < l.length) : faR Try.T 76 7 (some (a.at E.sz off0 j)) = some (a.at E.sz (off0 + 7) j) := p.fa h0 h1 rfl (by decide) rfl
theorem fl76_7 : fldR Try.T 76 7 (some (.agg cs)) = cs[7]? := fld_1 rfl rfl rfl
theorem fa76_8 : faR Try.T 76 8 (some (.ptr (some (i, o)))) = some (.ptr (some (i, o + 8))) := fa_ptr rfl (by decide) rfl
theorem fi76_8 : faR Try.T 76 8 (some (.iptr row o)) = some (.iptr row (o + 8)) := fa_iptr rfl (by decide) rfl
theorem fE76_8 (p : Sl E h i a l) (h0 : 0 ≤ j) (h1 : j < l.length) : faR Try.T 76 8 (some (a.at E.sz off0 j)) = some (a.at E.sz (off0 + 8) j) := p.fa h0 h1 rfl (by decide) rfl
theorem fl76_8 : fldR Try.T 76 8 (some (.agg cs)) = cs[8]? := fld_1 rfl rfl rfl
theorem fa76_9 : faR Try.T 76 9 (some (.ptr (some (i, o)))) = some (.ptr (some (i, o + 9))) := fa_ptr rfl (by decide) rfl
theorem fi76_9 : faR Try.T 76 9 (some (.iptr row o)) = some (.iptr row (o + 9)) := fa_iptr rfl (by decide) rfl
theorem fE76_9 (p : Sl E h i a l) (h0 : 0 ≤ j) (h1 : j < l.length) : faR Try.T 76 9 (some (a.at E.sz off0 j)) = some (a.at E.sz (off0 + 9) j) := p.fa h0 h1 rfl (by decide) rfl
theorem fl76_9 : fldR Try.T 76 9 (some (.agg cs)) = cs[9]? := fld_1 rfl rfl rfl
theorem fa76_10 : faR Try.T 76 10 (some (.ptr (some (i, o)))) = some (.ptr (some (i, o + 10))) := fa_ptr rfl (by decide) rfl
theorem fi76_10 : faR Try.T 76 10 (some (.iptr row o)) = some (.iptr row (o + 10)) := fa_iptr rfl (by decide) rfl
theorem fE76_10 (p : Sl E h i a l) (h0 : 0 ≤ j) (h1 : j < l.length) : faR Try.T 76 10 (some (a.at E.sz off0 j)) = some (a.at E.sz (off0 + 10) j) := p.fa h0 h1 rfl (by decide) rfl
theorem fl76_10 : fldR Try.T 76 10 (some (.agg cs)) = cs[10]? := fld_1 rfl rfl rfl
theorem Td77 : (Try.T 77).desc = .struct [(12, 0, true), (12, 1, true), (69, 2, true), (70, 3, true), (5, 4, true), (5, 5, true), (71, 6, true), (72, 7, true), (73, 8, true), (74, 9, true), (75, 10, true)] := rfl
theorem Tz77 : (Try.T 77).zero = [.int .u64 0, .int .u64 0, .int .u32 0, .int .u8 0, .int .u8 0, .int .u8 0, .int .u8 0, .nilFunc, .ptr none, .int .i32 0, .int .i32 0] := rfl
theorem ld77 : loadA Try.T h 77 (.ptr (some (i, o))) = rdN o 11 (h.get i) := ld_n rfl rfl rfl
theorem li77 : loadA Try.T h 77 (.iptr row o) = (cut row o 11).map .agg := ldi_n rfl rfl rfl
theorem st77 : storeA Try.T h 77 (.ptr (some (i, o))) v = stC h i o 11 v.cells := st_n rfl rfl
theorem lE77 [Inhabited α] (p : Sl E h i a l) (h0 : 0 ≤ j) (h1 : j < l.length) (h4 : Seen (Nat.beq E.sz 11)) : loadA Try.T h 77 (a.at E.sz 0 j) = some (.agg (E.f (l[j.toNat]!))) := p.ldn h0 h1 rfl rfl (Nat.eq_of_beq_eq_true h4.eq).symm
theorem bd77 {l : List (Nat × AV)} : bldR Try.T 77 (some l) = (fillA (plA Try.T 77) (Try.T 77).zero l).map .agg := bld_eq rfl
theorem pl77_0 : plA Try.T 77 0 = some (0, 1) := rfl
theorem pl77_1 : plA Try.T 77 1 = some (1, 1) := rfl
theorem pl77_2 : plA Try.T 77 2 = some (2, 1) := rfl
theorem pl77_3 : plA Try.T 77 3 = some (3, 1) := rfl
theorem pl77_4 : plA Try.T 77 4 = some (4, 1) := rfl
theorem pl77_5 : plA Try.T 77 5 = some (5, 1) := rfl
theorem pl77_6 : plA Try.T 77 6 = some (6, 1) := rfl
theorem pl77_7 : plA Try.T 77 7 = some (7, 1) := rfl
theorem pl77_8 : plA Try.T 77 8 = some (8, 1) := rfl
theorem pl77_9 : plA Try.T 77 9 = some (9, 1) := rfl
theorem pl77_10 : plA Try.T 77 10 = some (10, 1) := rfl
theorem fa77_0 : faR Try.T 77 0 (some (.ptr (some (i, o)))) = some (.ptr (some (i, o + 0))) := fa_ptr rfl (by decide) rfl
theorem fi77_0 : faR Try.T 77 0 (some (.iptr row o)) = some (.iptr row (o + 0)) := fa_iptr rfl (by decide) rfl
theorem fE77_0 (p : Sl E h i a l) (h0 : 0 ≤ j) (h1 : j < l.length) : faR Try.T 77 0 (some (a.at E.sz off0 j)) = some (a.at E.sz (off0 + 0) j) := p.fa h0 h1 rfl (by decide) rfl
theorem fl77_0 : fldR Try.T 77 0 (some (.agg cs)) = cs[0]? := fld_1 rfl rfl rfl
theorem fa77_1 : faR Try.T 77 1 (some (.ptr (some (i, o)))) = some (.ptr (some (i, o + 1))) := fa_ptr rfl (by decide) rfl
theorem fi77_1 : faR Try.T 77 1 (some (.iptr row o)) = some (.iptr row (o + 1)) := fa_iptr rfl (by decide) rfl
theorem fE77_1 (p : Sl E h i a l) (h0 : 0 ≤ j) (h1 : j < l.length) : faR Try.T 77 1 (some (a.at E.sz off0 j)) = some (a.at E.sz (off0 + 1) j) := p.fa h0 h1 rfl (by decide) rfl
theorem fl77_1 : fldR Try.T 77 1 (some (.agg cs)) = cs[1]? := fld_1 rfl rfl rfl
theorem fa77_2 : faR Try.T 77 2 (some (.ptr (some (i, o)))) = some (.ptr (some (i, o + 2))) := fa_ptr rfl (by decide) rfl
theorem fi77_2 : faR Try.T 77 2 (some (.iptr row o)) = some (.iptr row (o + 2)) := fa_iptr rfl (by decide) rfl
theorem fE77_2 (p : Sl E h i a l) (h0 : 0 ≤ j) (h1 : j < l.length) : faR Try.T 77 2 (some (a.at E.sz off0 j)) = some (a.at E.sz (off0 + 2) j) := p.fa h0 h1 rfl (by decide) rfl
theorem fl77_2 : fldR Try.T 77 2 (some (.agg cs)) = cs[2]? := fld_1 rfl rfl rfl
theorem fa77_3 : faR Try.T 77 3 (some (.ptr (some (i, o)))) = some (.ptr (some (i, o + 3))) := fa_ptr rfl (by decide) rfl
theorem fi77_3 : faR Try.T 77 3 (some (.iptr row o)) = some (.iptr row (o + 3)) := fa_iptr rfl (by decide) rfl
theorem fE77_3 (p : Sl E h i a l) (h0 : 0 ≤ j) (h1 : j < l.length) : faR Try.T 77 3 (some (a.at E.sz off0 j)) = some (a.at E.sz (off0 + 3) j) := p.fa h0 h1 rfl (by decide) rfl
theorem fl77_3 : fldR Try.T 77 3 (some (.agg cs)) = cs[3]? := fld_1 rfl rfl rfl
theorem fa77_4 : faR Try.T 77 4 (some (.ptr (some (i, o)))) = some (.ptr (some (i, o + 4))) := fa_ptr rfl (by decide) rfl
theorem fi77_4 : faR Try.T 77 4 (some (.iptr row o)) = some (.iptr row (o + 4)) := fa_iptr rfl (by decide) rfl
theorem fE77_4 (p : Sl E h i a l) (h0 : 0 ≤ j) (h1 : j < l.length) : faR Try.T 77 4 (some (a.at E.sz off0 j)) = some (a.at E.sz (off0 + 4) j) := p.fa h0 h1 rfl (by decide) rfl
theorem fl77_4 : fldR Try.T 77 4 (some (.agg cs)) = cs[4]? := fld_1 rfl rfl rfl
theorem fa77_5 : faR Try.T 77 5 (some (.ptr (some (i, o)))) = some (.ptr (some (i, o + 5))) := fa_ptr rfl (by decide) rfl
theorem fi77_5 : faR Try.T 77 5 (some (.iptr row o)) = some (.iptr row (o + 5)) := fa_iptr rfl (by decide) rfl
theorem fE77_5 (p : Sl E h i a l) (h0 : 0 ≤ j) (h1 : j < l.length) : faR Try.T 77 5 (some (a.at E.sz off0 j)) = some (a.at E.sz (off0 + 5) j) := p.fa h0 h1 rfl (by decide) rfl
theorem fl77_5 : fldR Try.T 77 5 (some (.agg cs)) = cs[5]? := fld_1 rfl rfl rfl
theorem fa77_6 : faR Try.T 77 6 (some (.ptr (some (i, o)))) = some (.ptr (some (i, o + 6))) := fa_ptr rfl (by decide) rfl
theorem fi77_6 : faR Try.T 77 6 (some (.iptr row o)) = some (.iptr row (o + 6)) := fa_iptr rfl (by decide) rfl
theorem fE77_6 (p : Sl E h i a l) (h0 : 0 ≤ j) (h1 : j < l.length) : faR Try.T 77 6 (some (a.at E.sz off0 j)) = some (a.at E.sz (off0 + 6) j) := p.fa h0 h1 rfl (by decide) rfl
theorem fl77_6 : fldR Try.T 77 6 (some (.agg cs)) = cs[6]? := fld_1 rfl rfl rfl
theorem fa77_7 : faR Try.T 77 7 (some (.ptr (some (i, o)))) = some (.ptr (some (i, o + 7))) := fa_ptr rfl (by decide) rfl
theorem fi77_7 : faR Try.T 77 7 (some (.iptr row o)) = some (.iptr row (o + 7)) := fa_iptr rfl (by decide) rfl
theorem fE77_7 (p : Sl E h i a l) (h0 : 0 ≤ j) (h1 : j < l.length) : faR Try.T 77 7 (some (a.at E.sz off0 j)) = some (a.at E.sz (off0 + 7) j) := p.fa h0 h1 rfl (by decide) rfl
theorem fl77_7 : fldR Try.T 77 7 (some (.agg cs)) = cs[7]? := fld_1 rfl rfl rfl
theorem fa77_8 : faR Try.T 77 8 (some (.ptr (some (i, o)))) = some (.ptr (some (i, o + 8))) := fa_ptr rfl (by decide) rfl
theorem fi77_8 : faR Try.T 77 8 (some (.iptr row o)) = some (.iptr row (o + 8)) := fa_iptr rfl (by decide) rfl
theorem fE77_8 (p : Sl E h i a l) (h0 : 0 ≤ j) (h1 : j < l.length) : faR Try.T 77 8 (some (a.at E.sz off0 j)) = some (a.at E.sz (off0 + 8) j) := p.fa h0 h1 rfl (by decide) rfl
theorem fl77_8 : fldR Try.T 77 8 (some (.agg cs)) = cs[8]? := fld_1 rfl rfl rfl
theorem fa77_9 : faR Try.T 77 9 (some (.ptr (some (i, o)))) = some (.ptr (some (i, o + 9))) := fa_ptr rfl (by decide) rfl
theorem fi77_9 : faR Try.T 77 9 (some (.iptr row o)) = some (.iptr row (o + 9)) := fa_iptr rfl (by decide) rfl
theorem fE77_9 (p : Sl E h i a l) (h0 : 0 ≤ j) (h1 : j < l.length) : faR Try.T 77 9 (some (a.at E.sz off0 j)) = some (a.at E.sz (off0 + 9) j) := p.fa h0 h1 rfl (by decide) rfl
theorem fl77_9 : fldR Try.T 77 9 (some (.agg cs)) = cs[9]? := fld_1 rfl rfl rfl
theorem fa77_10 : faR Try.T 77 10 (some (.ptr (some (i, o)))) = some (.ptr (some (i, o + 10))) := fa_ptr rfl (by decide) rfl
theorem fi77_10 : faR Try.T 77 10 (some (.iptr row o)) = some (.iptr row (o + 10)) := fa_iptr rfl (by decide) rfl
theorem fE77_10 (p : Sl E h i a l) (h0 : 0 ≤ j) (h1 : j < l.length) : faR Try.T 77 10 (some (a.at E.sz off0 j)) = some (a.at E.sz (off0 + 10) j) := p.fa h0 h1 rfl (by decide) rfl
theorem fl77_10 : fldR Try.T 77 10 (some (.agg cs)) = cs[10]? := fld_1 rfl rfl rfl
theorem ci2 {a : Nat} : convA Try.T h a 2 (.int k x) = cvI (Try.T a).desc (.int .i64) h x := conv_i rfl
theorem ci3 {a : Nat} : convA Try.T h a 3 (.int k x) = cvI (Try.T a).desc (.int .i64) h x := conv_i rfl
theorem ci5 {a : Nat} : convA Try.T h a 5 (.int k x) = cvI (Try.T a).desc (.int .u8) h x := conv_i rfl
theorem ci6 {a : Nat} : convA Try.T h a 6 (.int k x) = cvI (Try.T a).desc (.int .u8) h x := conv_i rfl
theorem ci12 {a : Nat} : convA Try.T h a 12 (.int k x) = cvI (Try.T a).desc (.int .u64) h x := conv_i rfl
theorem ci21 {a : Nat} : convA Try.T h a 21 (.int k x) = cvI (Try.T a).desc (.int .i32) h x := conv_i rfl
theorem ci25 {a : Nat} : convA Try.T h a 25 (.int k x) = cvI (Try.T a).desc (.int .i64) h x := conv_i rfl
theorem ci69 {a : Nat} : convA Try.T h a 69 (.int k x) = cvI (Try.T a).desc (.int .u32) h x := conv_i rfl
theorem ci70 {a : Nat} : convA Try.T h a 70 (.int k x) = cvI (Try.T a).desc (.int .u8) h x := conv_i rfl
theorem ci71 {a : Nat} : convA Try.T h a 71 (.int k x) = cvI (Try.T a).desc (.int .u8) h x := conv_i rfl
theorem ci74 {a : Nat} : convA Try.T h a 74 (.int k x) = cvI (Try.T a).desc (.int .i32) h x := conv_i rfl
theorem ci75 {a : Nat} : convA Try.T h a 75 (.int k x) = cvI (Try.T a).desc (.int .i32) h x := conv_i rfl
end tf
attribute [go_sem] Td1 Tz1 ld1 li1 st1 feqs1 feqn1 Td2 Tz2 ld2 li2 st2 lI2 Td3 Tz3 ld3 li3 st3 lI3 Td4 Tz4 ld4 li4 st4 beql4 bneq4 Td5 Tz5 ld5 li5 st5 l85 Td6 Tz6 ld6 li6 st6 l86 Td7 Tz7
attribute [go_sem] ld7 li7 st7 lE7 bd7 pl7_0 pl7_1 pl7_2 pl7_3 fa7_0 fi7_0 fE7_0 fl7_0 fa7_1 fi7_1 fE7_1 fl7_1 fa7_2 fi7_2 fE7_2 fl7_2 fa7_3 fi7_3 fE7_3 fl7_3 Td8 Tz8 ld8 li8 st8 lE8 bd8 pl8_0 pl8_1 pl8_2 pl8_3 fa8_0 fi8_0 fE8_0 fl8_0
attribute [go_sem] fa8_1 fi8_1 fE8_1 fl8_1 fa8_2 fi8_2 fE8_2 fl8_2 fa8_3 fi8_3 fE8_3 fl8_3 Td9 Tz9 ld9 li9 st9 ssn9 ssl9 ssb9 len9 ix9 Td10 Tz10 ld10 li10 st10 ssn10 ssl10 ssb10 len10 ix10 Td11 Tz11 ld11 li11 st11 ssn11 ssl11 ssb11
attribute [go_sem] len11 ix11 Td12 Tz12 ld12 li12 st12 Td13 Tz13 ld13 li13 st13 lE13 bd13 pl13_0 pl13_1 fa13_0 fi13_0 fE13_0 fl13_0 fa13_1 fi13_1 fE13_1 fl13_1 Td14 Tz14 ld14 li14 st14 lE14 bd14 pl14_0 pl14_1 fa14_0 fi14_0 fE14_0 fl14_0 fa14_1 fi14_1 fE14_1
attribute [go_sem] fl14_1 Td15 Tz15 ld15 li15 st15 peqn15 peqs15 pnen15 pnes15 Td16 Tz16 ld16 li16 st16 peqn16 peqs16 pnen16 pnes16 Td17 Tz17 ld17 li17 st17 peqn17 peqs17 pnen17 pnes17 Td18 Tz18 ld18 li18 st18 lE18 bd18 pl18_0 fa18_0 fi18_0 fE18_0 fl18_0
attribute [go_sem] Td19 Tz19 ld19 li19 st19 lE19 bd19 pl19_0 fa19_0 fi19_0 fE19_0 fl19_0 Td21 Tz21 ld21 li21 st21 Td22 Tz22 ld22 li22 st22 len22 ix22 sl22 sm22 sn22 eqn22 eqs22 eqi22 Td23 Tz23 ld23 li23 st23 feqs23 feqn23 Td24 Tz24 ld24
attribute [go_sem] li24 st24 peqn24 peqs24 pnen24 pnes24 Td25 Tz25 ld25 li25 st25 lI25 Td27 Tz27 ld27 li27 st27 feqs27 feqn27 Td28 Tz28 ld28 li28 st28 peqn28 peqs28 pnen28 pnes28 Td30 Tz30 ld30 li30 st30 feqs30 feqn30 Td31 Tz31 ld31 li31 st31
attribute [go_sem] feqs31 feqn31 Td32 Tz32 ld32 li32 st32 lE32 bd32 pl32_0 pl32_1 pl32_2 pl32_3 fa32_0 fi32_0 fE32_0 fl32_0 fa32_1 fi32_1 fE32_1 fl32_1 fa32_2 fi32_2 fE32_2 fl32_2 fa32_3 fi32_3 fE32_3 fl32_3 Td33 Tz33 ld33 li33 st33 lE33 bd33 pl33_0 pl33_1 pl33_2 pl33_3
attribute [go_sem] fa33_0 fi33_0 fE33_0 fl33_0 fa33_1 fi33_1 fE33_1 fl33_1 fa33_2 fi33_2 fE33_2 fl33_2 fa33_3 fi33_3 fE33_3 fl33_3 Td34 Tz34 ld34 li34 st34 feqs34 feqn34 Td36 Tz36 ld36 li36 st36 feqs36 feqn36 Td37 Tz37 ld37 li37 st37 feqs37 feqn37 Td38 Tz38 ld38
attribute [go_sem] li38 st38 len38 ix38 sl38 sm38 sn38 eqn38 eqs38 eqi38 Td39 Tz39 ld39 li39 st39 lE39 bd39 pl39_0 pl39_1 fa39_0 fi39_0 fE39_0 fl39_0 fa39_1 fi39_1 fE39_1 fl39_1 Td40 Tz40 ld40 li40 st40 lE40 bd40 pl40_0 pl40_1 fa40_0 fi40_0 fE40_0 fl40_0
attribute [go_sem] fa40_1 fi40_1 fE40_1 fl40_1 Td41 Tz41 ld41 li41 st41 feqs41 feqn41 Td42 Tz42 ld42 li42 st42 feqs42 feqn42 Td43 Tz43 ld43 li43 st43 feqs43 feqn43 Td44 Tz44 ld44 li44 st44 lE44 bd44 pl44_0 pl44_1 pl44_2 fa44_0 fi44_0 fE44_0 fl44_0 fa44_1
attribute [go_sem] fi44_1 fE44_1 fl44_1 fa44_2 fi44_2 fE44_2 fl44_2 Td45 Tz45 ld45 li45 st45 lE45 bd45 pl45_0 pl45_1 pl45_2 fa45_0 fi45_0 fE45_0 fl45_0 fa45_1 fi45_1 fE45_1 fl45_1 fa45_2 fi45_2 fE45_2 fl45_2 Td46 Tz46 ld46 li46 st46 feqs46 feqn46 Td47 Tz47 ld47 li47
attribute [go_sem] st47 feqs47 feqn47 Td48 Tz48 ld48 li48 st48 feqs48 feqn48 Td50 Tz50 ld50 li50 st50 feqs50 feqn50 Td51 Tz51 ld51 li51 st51 feqs51 feqn51 Td52 Tz52 ld52 li52 st52 len52 ix52 br52 bs52 sl52 sm52 sn52 eqn52 eqs52 eqi52 Td53
attribute [go_sem] Tz53 ld53 li53 st53 feqs53 feqn53 Td54 Tz54 ld54 li54 st54 feqs54 feqn54 Td55 Tz55 ld55 li55 st55 lE55 bd55 pl55_0 pl55_1 pl55_2 fa55_0 fi55_0 fE55_0 fl55_0 fa55_1 fi55_1 fE55_1 fl55_1 fa55_2 fi55_2 fE55_2 fl55_2 Td56 Tz56 ld56 li56 st56
attribute [go_sem] lE56 bd56 pl56_0 pl56_1 pl56_2 fa56_0 fi56_0 fE56_0 fl56_0 fa56_1 fi56_1 fE56_1 fl56_1 fa56_2 fi56_2 fE56_2 fl56_2 Td57 Tz57 ld57 li57 st57 feqs57 feqn57 Td58 Tz58 ld58 li58 st58 feqs58 feqn58 Td59 Tz59 ld59 li59 st59 feqs59 feqn59 Td60 Tz60
attribute [go_sem] ld60 li60 st60 feqs60 feqn60 Td61 Tz61 ld61 li61 st61 feqs61 feqn61 Td62 Tz62 ld62 li62 st62 feqs62 feqn62 Td63 Tz63 ld63 li63 st63 feqs63 feqn63 Td64 Tz64 ld64 li64 st64 lE64 bd64 pl64_0 pl64_1 pl64_2 pl64_3 fa64_0 fi64_0 fE64_0
attribute [go_sem] fl64_0 fa64_1 fi64_1 fE64_1 fl64_1 fa64_2 fi64_2 fE64_2 fl64_2 fa64_3 fi64_3 fE64_3 fl64_3 Td65 Tz65 ld65 li65 st65 lE65 bd65 pl65_0 pl65_1 pl65_2 pl65_3 fa65_0 fi65_0 fE65_0 fl65_0 fa65_1 fi65_1 fE65_1 fl65_1 fa65_2 fi65_2 fE65_2 fl65_2 fa65_3 fi65_3 fE65_3 fl65_3
attribute [go_sem] Td66 Tz66 ld66 li66 st66 lE66 Td67 Tz67 ld67 li67 st67 lE67 bd67 pl67_0 Td68 Tz68 ld68 li68 st68 lE68 bd68 pl68_0 Td69 Tz69 ld69 li69 st69 Td70 Tz70 ld70 li70 st70 l870 Td71 Tz71 ld71 li71 st71 l871 Td72
attribute [go_sem] Tz72 ld72 li72 st72 feqs72 feqn72 Td73 Tz73 ld73 li73 st73 peqn73 peqs73 pnen73 pnes73 Td74 Tz74 ld74 li74 st74 Td75 Tz75 ld75 li75 st75 Td76 Tz76 ld76 li76 st76 lE76 bd76 pl76_0 pl76_1 pl76_2 pl76_3 pl76_4 pl76_5 pl76_6 pl76_7
attribute [go_sem] pl76_8 pl76_9 pl76_10 fa76_0 fi76_0 fE76_0 fl76_0 fa76_1 fi76_1 fE76_1 fl76_1 fa76_2 fi76_2 fE76_2 fl76_2 fa76_3 fi76_3 fE76_3 fl76_3 fa76_4 fi76_4 fE76_4 fl76_4 fa76_5 fi76_5 fE76_5 fl76_5 fa76_6 fi76_6 fE76_6 fl76_6 fa76_7 fi76_7 fE76_7 fl76_7 fa76_8 fi76_8 fE76_8 fl76_8 fa76_9
attribute [go_sem] fi76_9 fE76_9 fl76_9 fa76_10 fi76_10 fE76_10 fl76_10 Td77 Tz77 ld77 li77 st77 lE77 bd77 pl77_0 pl77_1 pl77_2 pl77_3 pl77_4 pl77_5 pl77_6 pl77_7 pl77_8 pl77_9 pl77_10 fa77_0 fi77_0 fE77_0 fl77_0 fa77_1 fi77_1 fE77_1 fl77_1 fa77_2 fi77_2 fE77_2 fl77_2 fa77_3 fi77_3 fE77_3
attribute [go_sem] fl77_3 fa77_4 fi77_4 fE77_4 fl77_4 fa77_5 fi77_5 fE77_5 fl77_5 fa77_6 fi77_6 fE77_6 fl77_6 fa77_7 fi77_7 fE77_7 fl77_7 fa77_8 fi77_8 fE77_8 fl77_8 fa77_9 fi77_9 fE77_9 fl77_9 fa77_10 fi77_10 fE77_10 fl77_10 ci2 ci3 ci5 ci6 ci12 ci21 ci25 ci69 ci70 ci71 ci74
attribute [go_sem] ci75
end Try
end Go.Proofs
