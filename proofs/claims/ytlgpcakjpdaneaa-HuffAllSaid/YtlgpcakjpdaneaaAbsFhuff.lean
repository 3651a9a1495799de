/- The types of the program as rewriting rules: written by a program (mkf.py). -/
import Derived.Test.YtlgpcakjpdaneaaAbsLoose
import Derived.Test.YtlgpcakjpdaneaaAbsThuff
set_option linter.unusedVariables false
namespace Go.Proofs
open Go.Abs
namespace Try
section tf
variable {h h' : AH} {i o : Nat} {v a : AV} {row cs : List AV} {α : Type} {E : Enc α} {l : List α} {j : Int} {off0 : Nat} {k : IntKind} {s : List UInt8} {x y : Int}
theorem Td1 : (Try.T 1).desc = .func := rfl
theorem Tz1 : (Try.T 1).zero = [.nilFunc] := rfl
theorem ld1 : loadA Try.T h 1 (.ptr (some (i, o))) = rd1 o (h.get i) := ld_1 rfl rfl
theorem li1 : loadA Try.T h 1 (.iptr row o) = row[o]? := ldi_1 rfl rfl
theorem st1 : storeA Try.T h 1 (.ptr (some (i, o))) v = stC h i o 1 v.cells := st_n rfl rfl
theorem feqs1 {f : FuncId} : binA Try.T .eql 1 (.func f cs) .nilFunc = some (.bool false) := fn_eqs rfl
theorem feqn1 : binA Try.T .eql 1 .nilFunc .nilFunc = some (.bool true) := fn_eqn rfl
theorem Td2 : (Try.T 2).desc = .int .i64 := rfl
theorem Tz2 : (Try.T 2).zero = [.int .i64 0] := rfl
theorem ld2 : loadA Try.T h 2 (.ptr (some (i, o))) = rd1 o (h.get i) := ld_1 rfl rfl
theorem li2 : loadA Try.T h 2 (.iptr row o) = row[o]? := ldi_1 rfl rfl
theorem st2 : storeA Try.T h 2 (.ptr (some (i, o))) v = stC h i o 1 v.cells := st_n rfl rfl
theorem lI2 {l : List Int} (p : Sl EI h i a l) (h0 : 0 ≤ j) (h1 : j < l.length) : loadA Try.T h 2 (a.at EI.sz 0 j) = some (.int .i64 (l[j.toNat]!)) := p.ldI h0 h1 rfl rfl
theorem Td3 : (Try.T 3).desc = .int .i64 := rfl
theorem Tz3 : (Try.T 3).zero = [.int .i64 0] := rfl
theorem ld3 : loadA Try.T h 3 (.ptr (some (i, o))) = rd1 o (h.get i) := ld_1 rfl rfl
theorem li3 : loadA Try.T h 3 (.iptr row o) = row[o]? := ldi_1 rfl rfl
theorem st3 : storeA Try.T h 3 (.ptr (some (i, o))) v = stC h i o 1 v.cells := st_n rfl rfl
theorem lI3 {l : List Int} (p : Sl EI h i a l) (h0 : 0 ≤ j) (h1 : j < l.length) : loadA Try.T h 3 (a.at EI.sz 0 j) = some (.int .i64 (l[j.toNat]!)) := p.ldI h0 h1 rfl rfl
theorem Td4 : (Try.T 4).desc = .bool := rfl
theorem Tz4 : (Try.T 4).zero = [.bool false] := rfl
theorem ld4 : loadA Try.T h 4 (.ptr (some (i, o))) = rd1 o (h.get i) := ld_1 rfl rfl
theorem li4 : loadA Try.T h 4 (.iptr row o) = row[o]? := ldi_1 rfl rfl
theorem st4 : storeA Try.T h 4 (.ptr (some (i, o))) v = stC h i o 1 v.cells := st_n rfl rfl
theorem beql4 {x y : Bool} : binA Try.T .eql 4 (.bool x) (.bool y) = some (.bool (x == y)) := bool_eql rfl
theorem bneq4 {x y : Bool} : binA Try.T .neq 4 (.bool x) (.bool y) = some (.bool (!(x == y))) := bool_neq rfl
theorem Td5 : (Try.T 5).desc = .int .u8 := rfl
theorem Tz5 : (Try.T 5).zero = [.int .u8 0] := rfl
theorem ld5 : loadA Try.T h 5 (.ptr (some (i, o))) = rd1 o (h.get i) := ld_1 rfl rfl
theorem li5 : loadA Try.T h 5 (.iptr row o) = row[o]? := ldi_1 rfl rfl
theorem st5 : storeA Try.T h 5 (.ptr (some (i, o))) v = stC h i o 1 v.cells := st_n rfl rfl
theorem l85 {l : List UInt8} (p : Sl E8 h i a l) (h0 : 0 ≤ j) (h1 : j < l.length) : loadA Try.T h 5 (a.at E8.sz 0 j) = some (.int .u8 ((l[j.toNat]!).toNat : Int)) := p.ld8 h0 h1 rfl rfl
theorem Td6 : (Try.T 6).desc = .int .u8 := rfl
theorem Tz6 : (Try.T 6).zero = [.int .u8 0] := rfl
theorem ld6 : loadA Try.T h 6 (.ptr (some (i, o))) = rd1 o (h.get i) := ld_1 rfl rfl
theorem li6 : loadA Try.T h 6 (.iptr row o) = row[o]? := ldi_1 rfl rfl
theorem st6 : storeA Try.T h 6 (.ptr (some (i, o))) v = stC h i o 1 v.cells := st_n rfl rfl
theorem l86 {l : List UInt8} (p : Sl E8 h i a l) (h0 : 0 ≤ j) (h1 : j < l.length) : loadA Try.T h 6 (a.at E8.sz 0 j) = some (.int .u8 ((l[j.toNat]!).toNat : Int)) := p.ld8 h0 h1 rfl rfl
theorem Td7 : (Try.T 7).desc = .struct [(2, 0, true), (3, 1, true), (4, 2, true), (6, 3, true)] := rfl
theorem Tz7 : (Try.T 7).zero = [.int .i64 0, .int .i64 0, .bool false, .int .u8 0] := rfl
theorem ld7 : loadA Try.T h 7 (.ptr (some (i, o))) = rdN o 4 (h.get i) := ld_n rfl rfl rfl
theorem li7 : loadA Try.T h 7 (.iptr row o) = (cut row o 4).map .agg := ldi_n rfl rfl rfl
theorem st7 : storeA Try.T h 7 (.ptr (some (i, o))) v = stC h i o 4 v.cells := st_n rfl rfl
theorem lE7 [Inhabited α] (p : Sl E h i a l) (h0 : 0 ≤ j) (h1 : j < l.length) (h4 : Seen (Nat.beq E.sz 4)) : loadA Try.T h 7 (a.at E.sz 0 j) = some (.agg (E.f (l[j.toNat]!))) := p.ldn h0 h1 rfl rfl (Nat.eq_of_beq_eq_true h4.eq).symm
theorem bd7 {l : List (Nat × AV)} : bldR Try.T 7 (some l) = (fillA (plA Try.T 7) (Try.T 7).zero l).map .agg := bld_eq rfl
theorem pl7_0 : plA Try.T 7 0 = some (0, 1) := rfl
theorem pl7_1 : plA Try.T 7 1 = some (1, 1) := rfl
theorem pl7_2 : plA Try.T 7 2 = some (2, 1) := rfl
theorem pl7_3 : plA Try.T 7 3 = some (3, 1) := rfl
theorem fa7_0 : faR Try.T 7 0 (some (.ptr (some (i, o)))) = some (.ptr (some (i, o + 0))) := fa_ptr rfl (by decide) rfl
theorem fi7_0 : faR Try.T 7 0 (some (.iptr row o)) = some (.iptr row (o + 0)) := fa_iptr rfl (by decide) rfl
theorem fE7_0 (p : Sl E h i a l) (h0 : 0 ≤ j) (h1 : j < l.length) : faR Try.T 7 0 (some (a.at E.sz off0 j)) = some (a.at E.sz (off0 + 0) j) := p.fa h0 h1 rfl (by decide) rfl
theorem fl7_0 : fldR Try.T 7 0 (some (.agg cs)) = cs[0]? := fld_1 rfl rfl rfl
theorem fa7_1 : faR Try.T 7 1 (some (.ptr (some (i, o)))) = some (.ptr (some (i, o + 1))) := fa_ptr rfl (by decide) rfl
theorem fi7_1 : faR Try.T 7 1 (some (.iptr row o)) = some (.iptr row (o + 1)) := fa_iptr rfl (by decide) rfl
theorem fE7_1 (p : Sl E h i a l) (h0 : 0 ≤ j) (h1 : j < l.length) : faR Try.T 7 1 (some (a.at E.sz off0 j)) = some (a.at E.sz (off0 + 1) j) := p.fa h0 h1 rfl (by decide) rfl
theorem fl7_1 : fldR Try.T 7 1 (some (.agg cs)) = cs[1]? := fld_1 rfl rfl rfl
theorem fa7_2 : faR Try.T 7 2 (some (.ptr (some (i, o)))) = some (.ptr (some (i, o + 2))) := fa_ptr rfl (by decide) rfl
theorem fi7_2 : faR Try.T 7 2 (some (.iptr row o)) = some (.iptr row (o + 2)) := fa_iptr rfl (by decide) rfl
theorem fE7_2 (p : Sl E h i a l) (h0 : 0 ≤ j) (h1 : j < l.length) : faR Try.T 7 2 (some (a.at E.sz off0 j)) = some (a.at E.sz (off0 + 2) j) := p.fa h0 h1 rfl (by decide) rfl
theorem fl7_2 : fldR Try.T 7 2 (some (.agg cs)) = cs[2]? := fld_1 rfl rfl rfl
theorem fa7_3 : faR Try.T 7 3 (some (.ptr (some (i, o)))) = some (.ptr (some (i, o + 3))) := fa_ptr rfl (by decide) rfl
theorem fi7_3 : faR Try.T 7 3 (some (.iptr row o)) = some (.iptr row (o + 3)) := fa_iptr rfl (by decide) rfl
theorem fE7_3 (p : Sl E h i a l) (h0 : 0 ≤ j) (h1 : j < l.length) : faR Try.T 7 3 (some (a.at E.sz off0 j)) = some (a.at E.sz (off0 + 3) j) := p.fa h0 h1 rfl (by decide) rfl
theorem fl7_3 : fldR Try.T 7 3 (some (.agg cs)) = cs[3]? := fld_1 rfl rfl rfl
theorem Td8 : (Try.T 8).desc = .struct [(2, 0, true), (3, 1, true), (4, 2, true), (6, 3, true)] := rfl
theorem Tz8 : (Try.T 8).zero = [.int .i64 0, .int .i64 0, .bool false, .int .u8 0] := rfl
theorem ld8 : loadA Try.T h 8 (.ptr (some (i, o))) = rdN o 4 (h.get i) := ld_n rfl rfl rfl
theorem li8 : loadA Try.T h 8 (.iptr row o) = (cut row o 4).map .agg := ldi_n rfl rfl rfl
theorem st8 : storeA Try.T h 8 (.ptr (some (i, o))) v = stC h i o 4 v.cells := st_n rfl rfl
theorem lE8 [Inhabited α] (p : Sl E h i a l) (h0 : 0 ≤ j) (h1 : j < l.length) (h4 : Seen (Nat.beq E.sz 4)) : loadA Try.T h 8 (a.at E.sz 0 j) = some (.agg (E.f (l[j.toNat]!))) := p.ldn h0 h1 rfl rfl (Nat.eq_of_beq_eq_true h4.eq).symm
theorem bd8 {l : List (Nat × AV)} : bldR Try.T 8 (some l) = (fillA (plA Try.T 8) (Try.T 8).zero l).map .agg := bld_eq rfl
theorem pl8_0 : plA Try.T 8 0 = some (0, 1) := rfl
theorem pl8_1 : plA Try.T 8 1 = some (1, 1) := rfl
theorem pl8_2 : plA Try.T 8 2 = some (2, 1) := rfl
theorem pl8_3 : plA Try.T 8 3 = some (3, 1) := rfl
theorem fa8_0 : faR Try.T 8 0 (some (.ptr (some (i, o)))) = some (.ptr (some (i, o + 0))) := fa_ptr rfl (by decide) rfl
theorem fi8_0 : faR Try.T 8 0 (some (.iptr row o)) = some (.iptr row (o + 0)) := fa_iptr rfl (by decide) rfl
theorem fE8_0 (p : Sl E h i a l) (h0 : 0 ≤ j) (h1 : j < l.length) : faR Try.T 8 0 (some (a.at E.sz off0 j)) = some (a.at E.sz (off0 + 0) j) := p.fa h0 h1 rfl (by decide) rfl
theorem fl8_0 : fldR Try.T 8 0 (some (.agg cs)) = cs[0]? := fld_1 rfl rfl rfl
theorem fa8_1 : faR Try.T 8 1 (some (.ptr (some (i, o)))) = some (.ptr (some (i, o + 1))) := fa_ptr rfl (by decide) rfl
theorem fi8_1 : faR Try.T 8 1 (some (.iptr row o)) = some (.iptr row (o + 1)) := fa_iptr rfl (by decide) rfl
theorem fE8_1 (p : Sl E h i a l) (h0 : 0 ≤ j) (h1 : j < l.length) : faR Try.T 8 1 (some (a.at E.sz off0 j)) = some (a.at E.sz (off0 + 1) j) := p.fa h0 h1 rfl (by decide) rfl
theorem fl8_1 : fldR Try.T 8 1 (some (.agg cs)) = cs[1]? := fld_1 rfl rfl rfl
theorem fa8_2 : faR Try.T 8 2 (some (.ptr (some (i, o)))) = some (.ptr (some (i, o + 2))) := fa_ptr rfl (by decide) rfl
theorem fi8_2 : faR Try.T 8 2 (some (.iptr row o)) = some (.iptr row (o + 2)) := fa_iptr rfl (by decide) rfl
theorem fE8_2 (p : Sl E h i a l) (h0 : 0 ≤ j) (h1 : j < l.length) : faR Try.T 8 2 (some (a.at E.sz off0 j)) = some (a.at E.sz (off0 + 2) j) := p.fa h0 h1 rfl (by decide) rfl
theorem fl8_2 : fldR Try.T 8 2 (some (.agg cs)) = cs[2]? := fld_1 rfl rfl rfl
theorem fa8_3 : faR Try.T 8 3 (some (.ptr (some (i, o)))) = some (.ptr (some (i, o + 3))) := fa_ptr rfl (by decide) rfl
theorem fi8_3 : faR Try.T 8 3 (some (.iptr row o)) = some (.iptr row (o + 3)) := fa_iptr rfl (by decide) rfl
theorem fE8_3 (p : Sl E h i a l) (h0 : 0 ≤ j) (h1 : j < l.length) : faR Try.T 8 3 (some (a.at E.sz off0 j)) = some (a.at E.sz (off0 + 3) j) := p.fa h0 h1 rfl (by decide) rfl
theorem fl8_3 : fldR Try.T 8 3 (some (.agg cs)) = cs[3]? := fld_1 rfl rfl rfl
theorem Td9 : (Try.T 9).desc = .string := rfl
theorem Tz9 : (Try.T 9).zero = [.str []] := rfl
theorem ld9 : loadA Try.T h 9 (.ptr (some (i, o))) = rd1 o (h.get i) := ld_1 rfl rfl
theorem li9 : loadA Try.T h 9 (.iptr row o) = row[o]? := ldi_1 rfl rfl
theorem st9 : storeA Try.T h 9 (.ptr (some (i, o))) v = stC h i o 1 v.cells := st_n rfl rfl
theorem ssn9 (h0 : 0 ≤ y) (h1 : y ≤ s.length) : sliceA Try.T 9 (.str s) none (some y) none = some (.str (s.take y.toNat)) := ss_n rfl h0 h1
theorem ssl9 (h0 : 0 ≤ x) (h1 : x ≤ s.length) : sliceA Try.T 9 (.str s) (some x) none none = some (.str (s.drop x.toNat)) := ss_l rfl h0 h1
theorem ssb9 (h0 : 0 ≤ x) (h1 : x ≤ y) (h2 : y ≤ s.length) : sliceA Try.T 9 (.str s) (some x) (some y) none = some (.str ((s.drop x.toNat).take (y.toNat - x.toNat))) := ss_b rfl h0 h1 h2
theorem len9 : builtinA Try.T h .len [9] [.str s] = some (.int .i64 (s.length : Int), h) := len_str .mk
theorem ix9 (h0 : 0 ≤ j) (h1 : j < s.length) : ixR Try.T 9 (some (.str s)) (some (.int k j)) = some (.int .u8 ((s[j.toNat]!).toNat : Int)) := ix_str .mk h0 h1
theorem Td10 : (Try.T 10).desc = .string := rfl
theorem Tz10 : (Try.T 10).zero = [.str []] := rfl
theorem ld10 : loadA Try.T h 10 (.ptr (some (i, o))) = rd1 o (h.get i) := ld_1 rfl rfl
theorem li10 : loadA Try.T h 10 (.iptr row o) = row[o]? := ldi_1 rfl rfl
theorem st10 : storeA Try.T h 10 (.ptr (some (i, o))) v = stC h i o 1 v.cells := st_n rfl rfl
theorem ssn10 (h0 : 0 ≤ y) (h1 : y ≤ s.length) : sliceA Try.T 10 (.str s) none (some y) none = some (.str (s.take y.toNat)) := ss_n rfl h0 h1
theorem ssl10 (h0 : 0 ≤ x) (h1 : x ≤ s.length) : sliceA Try.T 10 (.str s) (some x) none none = some (.str (s.drop x.toNat)) := ss_l rfl h0 h1
theorem ssb10 (h0 : 0 ≤ x) (h1 : x ≤ y) (h2 : y ≤ s.length) : sliceA Try.T 10 (.str s) (some x) (some y) none = some (.str ((s.drop x.toNat).take (y.toNat - x.toNat))) := ss_b rfl h0 h1 h2
theorem len10 : builtinA Try.T h .len [10] [.str s] = some (.int .i64 (s.length : Int), h) := len_str .mk
theorem ix10 (h0 : 0 ≤ j) (h1 : j < s.length) : ixR Try.T 10 (some (.str s)) (some (.int k j)) = some (.int .u8 ((s[j.toNat]!).toNat : Int)) := ix_str .mk h0 h1
theorem Td11 : (Try.T 11).desc = .string := rfl
theorem Tz11 : (Try.T 11).zero = [.str []] := rfl
theorem ld11 : loadA Try.T h 11 (.ptr (some (i, o))) = rd1 o (h.get i) := ld_1 rfl rfl
theorem li11 : loadA Try.T h 11 (.iptr row o) = row[o]? := ldi_1 rfl rfl
theorem st11 : storeA Try.T h 11 (.ptr (some (i, o))) v = stC h i o 1 v.cells := st_n rfl rfl
theorem ssn11 (h0 : 0 ≤ y) (h1 : y ≤ s.length) : sliceA Try.T 11 (.str s) none (some y) none = some (.str (s.take y.toNat)) := ss_n rfl h0 h1
theorem ssl11 (h0 : 0 ≤ x) (h1 : x ≤ s.length) : sliceA Try.T 11 (.str s) (some x) none none = some (.str (s.drop x.toNat)) := ss_l rfl h0 h1
theorem ssb11 (h0 : 0 ≤ x) (h1 : x ≤ y) (h2 : y ≤ s.length) : sliceA Try.T 11 (.str s) (some x) (some y) none = some (.str ((s.drop x.toNat).take (y.toNat - x.toNat))) := ss_b rfl h0 h1 h2
theorem len11 : builtinA Try.T h .len [11] [.str s] = some (.int .i64 (s.length : Int), h) := len_str .mk
theorem ix11 (h0 : 0 ≤ j) (h1 : j < s.length) : ixR Try.T 11 (some (.str s)) (some (.int k j)) = some (.int .u8 ((s[j.toNat]!).toNat : Int)) := ix_str .mk h0 h1
theorem Td12 : (Try.T 12).desc = .int .u64 := rfl
theorem Tz12 : (Try.T 12).zero = [.int .u64 0] := rfl
theorem ld12 : loadA Try.T h 12 (.ptr (some (i, o))) = rd1 o (h.get i) := ld_1 rfl rfl
theorem li12 : loadA Try.T h 12 (.iptr row o) = row[o]? := ldi_1 rfl rfl
theorem st12 : storeA Try.T h 12 (.ptr (some (i, o))) v = stC h i o 1 v.cells := st_n rfl rfl
theorem Td13 : (Try.T 13).desc = .struct [(9, 0, true), (12, 1, true)] := rfl
theorem Tz13 : (Try.T 13).zero = [.str [], .int .u64 0] := rfl
theorem ld13 : loadA Try.T h 13 (.ptr (some (i, o))) = rdN o 2 (h.get i) := ld_n rfl rfl rfl
theorem li13 : loadA Try.T h 13 (.iptr row o) = (cut row o 2).map .agg := ldi_n rfl rfl rfl
theorem st13 : storeA Try.T h 13 (.ptr (some (i, o))) v = stC h i o 2 v.cells := st_n rfl rfl
theorem lE13 [Inhabited α] (p : Sl E h i a l) (h0 : 0 ≤ j) (h1 : j < l.length) (h4 : Seen (Nat.beq E.sz 2)) : loadA Try.T h 13 (a.at E.sz 0 j) = some (.agg (E.f (l[j.toNat]!))) := p.ldn h0 h1 rfl rfl (Nat.eq_of_beq_eq_true h4.eq).symm
theorem bd13 {l : List (Nat × AV)} : bldR Try.T 13 (some l) = (fillA (plA Try.T 13) (Try.T 13).zero l).map .agg := bld_eq rfl
theorem pl13_0 : plA Try.T 13 0 = some (0, 1) := rfl
theorem pl13_1 : plA Try.T 13 1 = some (1, 1) := rfl
theorem fa13_0 : faR Try.T 13 0 (some (.ptr (some (i, o)))) = some (.ptr (some (i, o + 0))) := fa_ptr rfl (by decide) rfl
theorem fi13_0 : faR Try.T 13 0 (some (.iptr row o)) = some (.iptr row (o + 0)) := fa_iptr rfl (by decide) rfl
theorem fE13_0 (p : Sl E h i a l) (h0 : 0 ≤ j) (h1 : j < l.length) : faR Try.T 13 0 (some (a.at E.sz off0 j)) = some (a.at E.sz (off0 + 0) j) := p.fa h0 h1 rfl (by decide) rfl
theorem fl13_0 : fldR Try.T 13 0 (some (.agg cs)) = cs[0]? := fld_1 rfl rfl rfl
theorem fa13_1 : faR Try.T 13 1 (some (.ptr (some (i, o)))) = some (.ptr (some (i, o + 1))) := fa_ptr rfl (by decide) rfl
theorem fi13_1 : faR Try.T 13 1 (some (.iptr row o)) = some (.iptr row (o + 1)) := fa_iptr rfl (by decide) rfl
theorem fE13_1 (p : Sl E h i a l) (h0 : 0 ≤ j) (h1 : j < l.length) : faR Try.T 13 1 (some (a.at E.sz off0 j)) = some (a.at E.sz (off0 + 1) j) := p.fa h0 h1 rfl (by decide) rfl
theorem fl13_1 : fldR Try.T 13 1 (some (.agg cs)) = cs[1]? := fld_1 rfl rfl rfl
theorem Td14 : (Try.T 14).desc = .struct [(9, 0, true), (12, 1, true)] := rfl
theorem Tz14 : (Try.T 14).zero = [.str [], .int .u64 0] := rfl
theorem ld14 : loadA Try.T h 14 (.ptr (some (i, o))) = rdN o 2 (h.get i) := ld_n rfl rfl rfl
theorem li14 : loadA Try.T h 14 (.iptr row o) = (cut row o 2).map .agg := ldi_n rfl rfl rfl
theorem st14 : storeA Try.T h 14 (.ptr (some (i, o))) v = stC h i o 2 v.cells := st_n rfl rfl
theorem lE14 [Inhabited α] (p : Sl E h i a l) (h0 : 0 ≤ j) (h1 : j < l.length) (h4 : Seen (Nat.beq E.sz 2)) : loadA Try.T h 14 (a.at E.sz 0 j) = some (.agg (E.f (l[j.toNat]!))) := p.ldn h0 h1 rfl rfl (Nat.eq_of_beq_eq_true h4.eq).symm
theorem bd14 {l : List (Nat × AV)} : bldR Try.T 14 (some l) = (fillA (plA Try.T 14) (Try.T 14).zero l).map .agg := bld_eq rfl
theorem pl14_0 : plA Try.T 14 0 = some (0, 1) := rfl
theorem pl14_1 : plA Try.T 14 1 = some (1, 1) := rfl
theorem fa14_0 : faR Try.T 14 0 (some (.ptr (some (i, o)))) = some (.ptr (some (i, o + 0))) := fa_ptr rfl (by decide) rfl
theorem fi14_0 : faR Try.T 14 0 (some (.iptr row o)) = some (.iptr row (o + 0)) := fa_iptr rfl (by decide) rfl
theorem fE14_0 (p : Sl E h i a l) (h0 : 0 ≤ j) (h1 : j < l.length) : faR Try.T 14 0 (some (a.at E.sz off0 j)) = some (a.at E.sz (off0 + 0) j) := p.fa h0 h1 rfl (by decide) rfl
theorem fl14_0 : fldR Try.T 14 0 (some (.agg cs)) = cs[0]? := fld_1 rfl rfl rfl
theorem fa14_1 : faR Try.T 14 1 (some (.ptr (some (i, o)))) = some (.ptr (some (i, o + 1))) := fa_ptr rfl (by decide) rfl
theorem fi14_1 : faR Try.T 14 1 (some (.iptr row o)) = some (.iptr row (o + 1)) := fa_iptr rfl (by decide) rfl
theorem fE14_1 (p : Sl E h i a l) (h0 : 0 ≤ j) (h1 : j < l.length) : faR Try.T 14 1 (some (a.at E.sz off0 j)) = some (a.at E.sz (off0 + 1) j) := p.fa h0 h1 rfl (by decide) rfl
theorem fl14_1 : fldR Try.T 14 1 (some (.agg cs)) = cs[1]? := fld_1 rfl rfl rfl
theorem Td15 : (Try.T 15).desc = .pointer 62 := rfl
theorem Tz15 : (Try.T 15).zero = [.ptr none] := rfl
theorem ld15 : loadA Try.T h 15 (.ptr (some (i, o))) = rd1 o (h.get i) := ld_1 rfl rfl
theorem li15 : loadA Try.T h 15 (.iptr row o) = row[o]? := ldi_1 rfl rfl
theorem st15 : storeA Try.T h 15 (.ptr (some (i, o))) v = stC h i o 1 v.cells := st_n rfl rfl
theorem peqn15 : binA Try.T .eql 15 (.ptr none) (.ptr none) = some (.bool true) := pt_eqn rfl
theorem peqs15 {p : Nat × Nat} : binA Try.T .eql 15 (.ptr (some p)) (.ptr none) = some (.bool false) := pt_eqs rfl
theorem pnen15 : binA Try.T .neq 15 (.ptr none) (.ptr none) = some (.bool false) := pt_nen rfl
theorem pnes15 {p : Nat × Nat} : binA Try.T .neq 15 (.ptr (some p)) (.ptr none) = some (.bool true) := pt_nes rfl
theorem Td16 : (Try.T 16).desc = .pointer 65 := rfl
theorem Tz16 : (Try.T 16).zero = [.ptr none] := rfl
theorem ld16 : loadA Try.T h 16 (.ptr (some (i, o))) = rd1 o (h.get i) := ld_1 rfl rfl
theorem li16 : loadA Try.T h 16 (.iptr row o) = row[o]? := ldi_1 rfl rfl
theorem st16 : storeA Try.T h 16 (.ptr (some (i, o))) v = stC h i o 1 v.cells := st_n rfl rfl
theorem peqn16 : binA Try.T .eql 16 (.ptr none) (.ptr none) = some (.bool true) := pt_eqn rfl
theorem peqs16 {p : Nat × Nat} : binA Try.T .eql 16 (.ptr (some p)) (.ptr none) = some (.bool false) := pt_eqs rfl
theorem pnen16 : binA Try.T .neq 16 (.ptr none) (.ptr none) = some (.bool false) := pt_nen rfl
theorem pnes16 {p : Nat × Nat} : binA Try.T .neq 16 (.ptr (some p)) (.ptr none) = some (.bool true) := pt_nes rfl
theorem Td17 : (Try.T 17).desc = .pointer 75 := rfl
theorem Tz17 : (Try.T 17).zero = [.ptr none] := rfl
theorem ld17 : loadA Try.T h 17 (.ptr (some (i, o))) = rd1 o (h.get i) := ld_1 rfl rfl
theorem li17 : loadA Try.T h 17 (.iptr row o) = row[o]? := ldi_1 rfl rfl
theorem st17 : storeA Try.T h 17 (.ptr (some (i, o))) v = stC h i o 1 v.cells := st_n rfl rfl
theorem peqn17 : binA Try.T .eql 17 (.ptr none) (.ptr none) = some (.bool true) := pt_eqn rfl
theorem peqs17 {p : Nat × Nat} : binA Try.T .eql 17 (.ptr (some p)) (.ptr none) = some (.bool false) := pt_eqs rfl
theorem pnen17 : binA Try.T .neq 17 (.ptr none) (.ptr none) = some (.bool false) := pt_nen rfl
theorem pnes17 {p : Nat × Nat} : binA Try.T .neq 17 (.ptr (some p)) (.ptr none) = some (.bool true) := pt_nes rfl
theorem Td18 : (Try.T 18).desc = .struct [(17, 0, true)] := rfl
theorem Tz18 : (Try.T 18).zero = [.ptr none] := rfl
theorem ld18 : loadA Try.T h 18 (.ptr (some (i, o))) = rdN o 1 (h.get i) := ld_n rfl rfl rfl
theorem li18 : loadA Try.T h 18 (.iptr row o) = (cut row o 1).map .agg := ldi_n rfl rfl rfl
theorem st18 : storeA Try.T h 18 (.ptr (some (i, o))) v = stC h i o 1 v.cells := st_n rfl rfl
theorem lE18 [Inhabited α] (p : Sl E h i a l) (h0 : 0 ≤ j) (h1 : j < l.length) (h4 : Seen (Nat.beq E.sz 1)) : loadA Try.T h 18 (a.at E.sz 0 j) = some (.agg (E.f (l[j.toNat]!))) := p.ldn h0 h1 rfl rfl (Nat.eq_of_beq_eq_true h4.eq).symm
theorem bd18 {l : List (Nat × AV)} : bldR Try.T 18 (some l) = (fillA (plA Try.T 18) (Try.T 18).zero l).map .agg := bld_eq rfl
theorem pl18_0 : plA Try.T 18 0 = some (0, 1) := rfl
theorem fa18_0 : faR Try.T 18 0 (some (.ptr (some (i, o)))) = some (.ptr (some (i, o + 0))) := fa_ptr rfl (by decide) rfl
theorem fi18_0 : faR Try.T 18 0 (some (.iptr row o)) = some (.iptr row (o + 0)) := fa_iptr rfl (by decide) rfl
theorem fE18_0 (p : Sl E h i a l) (h0 : 0 ≤ j) (h1 : j < l.length) : faR Try.T 18 0 (some (a.at E.sz off0 j)) = some (a.at E.sz (off0 + 0) j) := p.fa h0 h1 rfl (by decide) rfl
theorem fl18_0 : fldR Try.T 18 0 (some (.agg cs)) = cs[0]? := fld_1 rfl rfl rfl
theorem Td19 : (Try.T 19).desc = .struct [(17, 0, true)] := rfl
theorem Tz19 : (Try.T 19).zero = [.ptr none] := rfl
theorem ld19 : loadA Try.T h 19 (.ptr (some (i, o))) = rdN o 1 (h.get i) := ld_n rfl rfl rfl
theorem li19 : loadA Try.T h 19 (.iptr row o) = (cut row o 1).map .agg := ldi_n rfl rfl rfl
theorem st19 : storeA Try.T h 19 (.ptr (some (i, o))) v = stC h i o 1 v.cells := st_n rfl rfl
theorem lE19 [Inhabited α] (p : Sl E h i a l) (h0 : 0 ≤ j) (h1 : j < l.length) (h4 : Seen (Nat.beq E.sz 1)) : loadA Try.T h 19 (a.at E.sz 0 j) = some (.agg (E.f (l[j.toNat]!))) := p.ldn h0 h1 rfl rfl (Nat.eq_of_beq_eq_true h4.eq).symm
theorem bd19 {l : List (Nat × AV)} : bldR Try.T 19 (some l) = (fillA (plA Try.T 19) (Try.T 19).zero l).map .agg := bld_eq rfl
theorem pl19_0 : plA Try.T 19 0 = some (0, 1) := rfl
theorem fa19_0 : faR Try.T 19 0 (some (.ptr (some (i, o)))) = some (.ptr (some (i, o + 0))) := fa_ptr rfl (by decide) rfl
theorem fi19_0 : faR Try.T 19 0 (some (.iptr row o)) = some (.iptr row (o + 0)) := fa_iptr rfl (by decide) rfl
theorem fE19_0 (p : Sl E h i a l) (h0 : 0 ≤ j) (h1 : j < l.length) : faR Try.T 19 0 (some (a.at E.sz off0 j)) = some (a.at E.sz (off0 + 0) j) := p.fa h0 h1 rfl (by decide) rfl
theorem fl19_0 : fldR Try.T 19 0 (some (.agg cs)) = cs[0]? := fld_1 rfl rfl rfl
theorem Td21 : (Try.T 21).desc = .int .i32 := rfl
theorem Tz21 : (Try.T 21).zero = [.int .i32 0] := rfl
theorem ld21 : loadA Try.T h 21 (.ptr (some (i, o))) = rd1 o (h.get i) := ld_1 rfl rfl
theorem li21 : loadA Try.T h 21 (.iptr row o) = row[o]? := ldi_1 rfl rfl
theorem st21 : storeA Try.T h 21 (.ptr (some (i, o))) v = stC h i o 1 v.cells := st_n rfl rfl
theorem Td22 : (Try.T 22).desc = .func := rfl
theorem Tz22 : (Try.T 22).zero = [.nilFunc] := rfl
theorem ld22 : loadA Try.T h 22 (.ptr (some (i, o))) = rd1 o (h.get i) := ld_1 rfl rfl
theorem li22 : loadA Try.T h 22 (.iptr row o) = row[o]? := ldi_1 rfl rfl
theorem st22 : storeA Try.T h 22 (.ptr (some (i, o))) v = stC h i o 1 v.cells := st_n rfl rfl
theorem feqs22 {f : FuncId} : binA Try.T .eql 22 (.func f cs) .nilFunc = some (.bool false) := fn_eqs rfl
theorem feqn22 : binA Try.T .eql 22 .nilFunc .nilFunc = some (.bool true) := fn_eqn rfl
theorem Td23 : (Try.T 23).desc = .func := rfl
theorem Tz23 : (Try.T 23).zero = [.nilFunc] := rfl
theorem ld23 : loadA Try.T h 23 (.ptr (some (i, o))) = rd1 o (h.get i) := ld_1 rfl rfl
theorem li23 : loadA Try.T h 23 (.iptr row o) = row[o]? := ldi_1 rfl rfl
theorem st23 : storeA Try.T h 23 (.ptr (some (i, o))) v = stC h i o 1 v.cells := st_n rfl rfl
theorem feqs23 {f : FuncId} : binA Try.T .eql 23 (.func f cs) .nilFunc = some (.bool false) := fn_eqs rfl
theorem feqn23 : binA Try.T .eql 23 .nilFunc .nilFunc = some (.bool true) := fn_eqn rfl
theorem Td24 : (Try.T 24).desc = .slice 5 := rfl
theorem Tz24 : (Try.T 24).zero = [.slice none 0 0 0 true] := rfl
theorem ld24 : loadA Try.T h 24 (.ptr (some (i, o))) = rd1 o (h.get i) := ld_1 rfl rfl
theorem li24 : loadA Try.T h 24 (.iptr row o) = row[o]? := ldi_1 rfl rfl
theorem st24 : storeA Try.T h 24 (.ptr (some (i, o))) v = stC h i o 1 v.cells := st_n rfl rfl
theorem len24 (p : Sl E h i a l) : builtinA Try.T h' .len [24] [a] = some (.int .i64 (l.length : Int), h') := p.len rfl
theorem ix24 (p : Sl E h i a l) (h0 : 0 ≤ j) (h1 : j < l.length) (h2 : Seen (Nat.beq E.sz 1)) : idxA Try.T 24 a (.int k j) = some (a.at E.sz 0 j) := p.idx h0 h1 rfl rfl (Nat.eq_of_beq_eq_true h2.eq).symm
theorem wr5 {P : Program} {ops : Array Oper} {L : List Oper} {K : Tm → AH → Prop} {d : Option Nat} {tm : Tm} (p : Ow E h i a l) (x : α) (hx : v.cells = E.f x) (h0 : 0 ≤ j) (h1 : j < l.length) (h2 : Seen (Nat.beq E.sz 1)) (hk : ∀ h', Ow E h' i a (l.set j.toNat x) → h'.size = h.size → (∀ b, ¬ b = i → h'.get b = h.get b) → putM P Try.T ops L K d tm undefA h') : ansM P Try.T ops L K d tm h ((storeA Try.T h 5 (a.at E.sz 0 j) v).map fun h' => .val undefA h') :=
  ans_wr p x hx h0 h1 rfl (Nat.eq_of_beq_eq_true h2.eq).symm hk
theorem br24 {n : Nat} {l : List (Nat × AV)} (hn : Seen (Nat.beq l.length n && (Nat.ble n 10000 && bsOk 0 l))) : bsR Try.T h 24 n (some l) = some (.val (.slice (some (h.size, 0)) n n 1 true) (h.push (.cells (l.map (·.2))))) := bs_row rfl rfl rfl rfl hn
theorem bs24 (hv : Seen (match v with | .agg _ | .tuple _ => false | _ => true)) : bsR Try.T h 24 1 (some [(0, v)]) = some (.val (.slice (some (h.size, 0)) 1 1 1 true) (h.push (.cells [v]))) := bs_one rfl rfl rfl rfl hv
theorem sl24 (p : Sl E h i a l) (h0 : 0 ≤ x) (h1 : x ≤ y) (h2 : y ≤ l.length) (h3 : Seen (Nat.beq E.sz 1)) : sliceA Try.T 24 a (some x) (some y) none = some (a.part x y) := p.slc h0 h1 h2 rfl rfl (Nat.eq_of_beq_eq_true h3.eq).symm
theorem sm24 (p : Sl E h i a l) (h1 : 0 ≤ y) (h2 : y ≤ l.length) (h3 : Seen (Nat.beq E.sz 1)) : sliceA Try.T 24 a none (some y) none = some (a.part 0 y) := p.slc (lo := none) (Int.le_refl _) h1 h2 rfl rfl (Nat.eq_of_beq_eq_true h3.eq).symm
theorem sn24 (p : Sl E h i a l) (h0 : 0 ≤ x) (h1 : x ≤ l.length) (h3 : Seen (Nat.beq E.sz 1)) : sliceA Try.T 24 a (some x) none none = some (a.part x l.length) := p.slc (hi := none) h0 h1 (Int.le_refl _) rfl rfl (Nat.eq_of_beq_eq_true h3.eq).symm
theorem ap24 {P : Program} {ops : Array Oper} {L : List Oper} {K : Tm → AH → Prop} {d : Option Nat} {tm : Tm} {x : AV} {new : List α} {ix : Nat} (p : Ow E h i a l) (hx : Sl E h ix x new) (h2 : Seen (Nat.beq E.sz 1)) (hr : (l.length + new.length) * 1 ≤ 140737488355328) (hk : ∀ z h' i', Ow E h' i' z (l ++ new) → (i' = i ∨ h.size ≤ i') → h.size ≤ h'.size → (∀ j, j < h.size → ¬ j = i → h'.get j = h.get j) → putM P Try.T ops L K d tm z h') : ansM P Try.T ops L K d tm h (pairR (appendA Try.T h 24 24 a x)) :=
  ans_app p hx rfl ⟨_, rfl⟩ rfl (Nat.eq_of_beq_eq_true h2.eq).symm (Nat.eq_of_beq_eq_true h2.eq).symm (by decide) hr hk
theorem al24 {P : Program} {ops : Array Oper} {L : List Oper} {K : Tm → AH → Prop} {d : Option Nat} {tm : Tm} {sz : Nat} (x : α) (p : Ow E h i a l) (hx : cs = E.f x) (hs : sz = E.sz) (h2 : Seen (Nat.beq E.sz 1)) (hr : (l.length + 1) * 1 ≤ 140737488355328) (hk : ∀ z h' i', Ow E h' i' z (l ++ [x]) → (i' = i ∨ h.size ≤ i') → h.size ≤ h'.size → (∀ j, j < h.size → ¬ j = i → h'.get j = h.get j) → putM P Try.T ops L K d tm z h') : ansM P Try.T ops L K d tm (h.push (.cells cs)) (pairR (appendA Try.T (h.push (.cells cs)) 24 24 a (.slice (some (h.size, 0)) 1 1 sz true))) :=
  ans_app1 p x hx hs rfl rfl (Nat.eq_of_beq_eq_true h2.eq).symm (Nat.eq_of_beq_eq_true h2.eq).symm (by decide) hr hk
theorem a824 {P : Program} {ops : Array Oper} {L : List Oper} {K : Tm → AH → Prop} {d : Option Nat} {tm : Tm} {l : List UInt8} {e : Int} (p : Ow E8 h i a l) (h0 : 0 ≤ e) (h1 : e < 256) (hr : l.length < 100000000000000) (hk : ∀ z h' i', Ow E8 h' i' z (l ++ [UInt8.ofNat e.toNat]) → (i' = i ∨ h.size ≤ i') → h.size ≤ h'.size → (∀ j, j < h.size → ¬ j = i → h'.get j = h.get j) → putM P Try.T ops L K d tm z h') : ansM P Try.T ops L K d tm (h.push (.cells [.int .u8 e])) (pairR (appendA Try.T (h.push (.cells [.int .u8 e])) 24 24 a (.slice (some (h.size, 0)) 1 1 1 true))) :=
  ans_app1 p (UInt8.ofNat e.toNat) (e8_of h0 h1) rfl rfl rfl rfl rfl (by decide) (by show (l.length + 1) * 1 ≤ _; omega) hk
theorem as24_9 {P : Program} {ops : Array Oper} {L : List Oper} {K : Tm → AH → Prop} {d : Option Nat} {tm : Tm} {l : List UInt8} (p : Ow E8 h i a l) (hr : l.length + s.length < 100000000000000) (hk : ∀ z h' i', Ow E8 h' i' z (l ++ s) → (i' = i ∨ h.size ≤ i') → h.size ≤ h'.size → (∀ j, j < h.size → ¬ j = i → h'.get j = h.get j) → putM P Try.T ops L K d tm z h') : ansM P Try.T ops L K d tm h (pairR (appendA Try.T h 24 9 a (.str s))) :=
  ans_appS p rfl rfl rfl rfl rfl (by decide) (by show (l.length + s.length) * 1 ≤ _; omega) hk
theorem as24_10 {P : Program} {ops : Array Oper} {L : List Oper} {K : Tm → AH → Prop} {d : Option Nat} {tm : Tm} {l : List UInt8} (p : Ow E8 h i a l) (hr : l.length + s.length < 100000000000000) (hk : ∀ z h' i', Ow E8 h' i' z (l ++ s) → (i' = i ∨ h.size ≤ i') → h.size ≤ h'.size → (∀ j, j < h.size → ¬ j = i → h'.get j = h.get j) → putM P Try.T ops L K d tm z h') : ansM P Try.T ops L K d tm h (pairR (appendA Try.T h 24 10 a (.str s))) :=
  ans_appS p rfl rfl rfl rfl rfl (by decide) (by show (l.length + s.length) * 1 ≤ _; omega) hk
theorem as24_11 {P : Program} {ops : Array Oper} {L : List Oper} {K : Tm → AH → Prop} {d : Option Nat} {tm : Tm} {l : List UInt8} (p : Ow E8 h i a l) (hr : l.length + s.length < 100000000000000) (hk : ∀ z h' i', Ow E8 h' i' z (l ++ s) → (i' = i ∨ h.size ≤ i') → h.size ≤ h'.size → (∀ j, j < h.size → ¬ j = i → h'.get j = h.get j) → putM P Try.T ops L K d tm z h') : ansM P Try.T ops L K d tm h (pairR (appendA Try.T h 24 11 a (.str s))) :=
  ans_appS p rfl rfl rfl rfl rfl (by decide) (by show (l.length + s.length) * 1 ≤ _; omega) hk
theorem cs24_9 {l : List UInt8} (p : Sl E8 h i a l) : convA Try.T h 24 9 a = some (.str l, h) := p.conv rfl rfl rfl
theorem cb9_24 (hl : (s.length : Int) ≤ 9223372036854775807) : convA Try.T h 9 24 (.str s) = some (.slice (some (h.size, 0)) s.length s.length 1 false, h.push (.cells (ofBytes s))) := conv_bytes rfl rfl rfl (by omega)
theorem cs24_10 {l : List UInt8} (p : Sl E8 h i a l) : convA Try.T h 24 10 a = some (.str l, h) := p.conv rfl rfl rfl
theorem cb10_24 (hl : (s.length : Int) ≤ 9223372036854775807) : convA Try.T h 10 24 (.str s) = some (.slice (some (h.size, 0)) s.length s.length 1 false, h.push (.cells (ofBytes s))) := conv_bytes rfl rfl rfl (by omega)
theorem cs24_11 {l : List UInt8} (p : Sl E8 h i a l) : convA Try.T h 24 11 a = some (.str l, h) := p.conv rfl rfl rfl
theorem cb11_24 (hl : (s.length : Int) ≤ 9223372036854775807) : convA Try.T h 11 24 (.str s) = some (.slice (some (h.size, 0)) s.length s.length 1 false, h.push (.cells (ofBytes s))) := conv_bytes rfl rfl rfl (by omega)
theorem eqn24 {l1 c1 z1 l2 c2 z2 : Nat} {x1 x2 : Bool} : binA Try.T .eql 24 (.slice none l1 c1 z1 x1) (.slice none l2 c2 z2 x2) = some (.bool true) := sl_eqn rfl
theorem eqs24 {l1 c1 z1 l2 c2 z2 : Nat} {x1 x2 : Bool} {p : Nat × Nat} : binA Try.T .eql 24 (.slice (some p) l1 c1 z1 x1) (.slice none l2 c2 z2 x2) = some (.bool false) := sl_eqs rfl
theorem eqi24 {l2 c2 z2 a1 b1 c1 d1 : Nat} {x2 : Bool} : binA Try.T .eql 24 (.islice row a1 b1 c1 d1) (.slice none l2 c2 z2 x2) = some (.bool false) := sl_eqi rfl
theorem Td25 : (Try.T 25).desc = .func := rfl
theorem Tz25 : (Try.T 25).zero = [.nilFunc] := rfl
theorem ld25 : loadA Try.T h 25 (.ptr (some (i, o))) = rd1 o (h.get i) := ld_1 rfl rfl
theorem li25 : loadA Try.T h 25 (.iptr row o) = row[o]? := ldi_1 rfl rfl
theorem st25 : storeA Try.T h 25 (.ptr (some (i, o))) v = stC h i o 1 v.cells := st_n rfl rfl
theorem feqs25 {f : FuncId} : binA Try.T .eql 25 (.func f cs) .nilFunc = some (.bool false) := fn_eqs rfl
theorem feqn25 : binA Try.T .eql 25 .nilFunc .nilFunc = some (.bool true) := fn_eqn rfl
theorem Td26 : (Try.T 26).desc = .func := rfl
theorem Tz26 : (Try.T 26).zero = [.nilFunc] := rfl
theorem ld26 : loadA Try.T h 26 (.ptr (some (i, o))) = rd1 o (h.get i) := ld_1 rfl rfl
theorem li26 : loadA Try.T h 26 (.iptr row o) = row[o]? := ldi_1 rfl rfl
theorem st26 : storeA Try.T h 26 (.ptr (some (i, o))) v = stC h i o 1 v.cells := st_n rfl rfl
theorem feqs26 {f : FuncId} : binA Try.T .eql 26 (.func f cs) .nilFunc = some (.bool false) := fn_eqs rfl
theorem feqn26 : binA Try.T .eql 26 .nilFunc .nilFunc = some (.bool true) := fn_eqn rfl
theorem Td27 : (Try.T 27).desc = .func := rfl
theorem Tz27 : (Try.T 27).zero = [.nilFunc] := rfl
theorem ld27 : loadA Try.T h 27 (.ptr (some (i, o))) = rd1 o (h.get i) := ld_1 rfl rfl
theorem li27 : loadA Try.T h 27 (.iptr row o) = row[o]? := ldi_1 rfl rfl
theorem st27 : storeA Try.T h 27 (.ptr (some (i, o))) v = stC h i o 1 v.cells := st_n rfl rfl
theorem feqs27 {f : FuncId} : binA Try.T .eql 27 (.func f cs) .nilFunc = some (.bool false) := fn_eqs rfl
theorem feqn27 : binA Try.T .eql 27 .nilFunc .nilFunc = some (.bool true) := fn_eqn rfl
theorem Td28 : (Try.T 28).desc = .int .i64 := rfl
theorem Tz28 : (Try.T 28).zero = [.int .i64 0] := rfl
theorem ld28 : loadA Try.T h 28 (.ptr (some (i, o))) = rd1 o (h.get i) := ld_1 rfl rfl
theorem li28 : loadA Try.T h 28 (.iptr row o) = row[o]? := ldi_1 rfl rfl
theorem st28 : storeA Try.T h 28 (.ptr (some (i, o))) v = stC h i o 1 v.cells := st_n rfl rfl
theorem lI28 {l : List Int} (p : Sl EI h i a l) (h0 : 0 ≤ j) (h1 : j < l.length) : loadA Try.T h 28 (a.at EI.sz 0 j) = some (.int .i64 (l[j.toNat]!)) := p.ldI h0 h1 rfl rfl
theorem Td30 : (Try.T 30).desc = .func := rfl
theorem Tz30 : (Try.T 30).zero = [.nilFunc] := rfl
theorem ld30 : loadA Try.T h 30 (.ptr (some (i, o))) = rd1 o (h.get i) := ld_1 rfl rfl
theorem li30 : loadA Try.T h 30 (.iptr row o) = row[o]? := ldi_1 rfl rfl
theorem st30 : storeA Try.T h 30 (.ptr (some (i, o))) v = stC h i o 1 v.cells := st_n rfl rfl
theorem feqs30 {f : FuncId} : binA Try.T .eql 30 (.func f cs) .nilFunc = some (.bool false) := fn_eqs rfl
theorem feqn30 : binA Try.T .eql 30 .nilFunc .nilFunc = some (.bool true) := fn_eqn rfl
theorem Td31 : (Try.T 31).desc = .func := rfl
theorem Tz31 : (Try.T 31).zero = [.nilFunc] := rfl
theorem ld31 : loadA Try.T h 31 (.ptr (some (i, o))) = rd1 o (h.get i) := ld_1 rfl rfl
theorem li31 : loadA Try.T h 31 (.iptr row o) = row[o]? := ldi_1 rfl rfl
theorem st31 : storeA Try.T h 31 (.ptr (some (i, o))) v = stC h i o 1 v.cells := st_n rfl rfl
theorem feqs31 {f : FuncId} : binA Try.T .eql 31 (.func f cs) .nilFunc = some (.bool false) := fn_eqs rfl
theorem feqn31 : binA Try.T .eql 31 .nilFunc .nilFunc = some (.bool true) := fn_eqn rfl
theorem Td32 : (Try.T 32).desc = .func := rfl
theorem Tz32 : (Try.T 32).zero = [.nilFunc] := rfl
theorem ld32 : loadA Try.T h 32 (.ptr (some (i, o))) = rd1 o (h.get i) := ld_1 rfl rfl
theorem li32 : loadA Try.T h 32 (.iptr row o) = row[o]? := ldi_1 rfl rfl
theorem st32 : storeA Try.T h 32 (.ptr (some (i, o))) v = stC h i o 1 v.cells := st_n rfl rfl
theorem feqs32 {f : FuncId} : binA Try.T .eql 32 (.func f cs) .nilFunc = some (.bool false) := fn_eqs rfl
theorem feqn32 : binA Try.T .eql 32 .nilFunc .nilFunc = some (.bool true) := fn_eqn rfl
theorem Td33 : (Try.T 33).desc = .slice 3 := rfl
theorem Tz33 : (Try.T 33).zero = [.slice none 0 0 0 true] := rfl
theorem ld33 : loadA Try.T h 33 (.ptr (some (i, o))) = rd1 o (h.get i) := ld_1 rfl rfl
theorem li33 : loadA Try.T h 33 (.iptr row o) = row[o]? := ldi_1 rfl rfl
theorem st33 : storeA Try.T h 33 (.ptr (some (i, o))) v = stC h i o 1 v.cells := st_n rfl rfl
theorem len33 (p : Sl E h i a l) : builtinA Try.T h' .len [33] [a] = some (.int .i64 (l.length : Int), h') := p.len rfl
theorem ix33 (p : Sl E h i a l) (h0 : 0 ≤ j) (h1 : j < l.length) (h2 : Seen (Nat.beq E.sz 1)) : idxA Try.T 33 a (.int k j) = some (a.at E.sz 0 j) := p.idx h0 h1 rfl rfl (Nat.eq_of_beq_eq_true h2.eq).symm
theorem wr3 {P : Program} {ops : Array Oper} {L : List Oper} {K : Tm → AH → Prop} {d : Option Nat} {tm : Tm} (p : Ow E h i a l) (x : α) (hx : v.cells = E.f x) (h0 : 0 ≤ j) (h1 : j < l.length) (h2 : Seen (Nat.beq E.sz 1)) (hk : ∀ h', Ow E h' i a (l.set j.toNat x) → h'.size = h.size → (∀ b, ¬ b = i → h'.get b = h.get b) → putM P Try.T ops L K d tm undefA h') : ansM P Try.T ops L K d tm h ((storeA Try.T h 3 (a.at E.sz 0 j) v).map fun h' => .val undefA h') :=
  ans_wr p x hx h0 h1 rfl (Nat.eq_of_beq_eq_true h2.eq).symm hk
theorem br33 {n : Nat} {l : List (Nat × AV)} (hn : Seen (Nat.beq l.length n && (Nat.ble n 10000 && bsOk 0 l))) : bsR Try.T h 33 n (some l) = some (.val (.slice (some (h.size, 0)) n n 1 true) (h.push (.cells (l.map (·.2))))) := bs_row rfl rfl rfl rfl hn
theorem bs33 (hv : Seen (match v with | .agg _ | .tuple _ => false | _ => true)) : bsR Try.T h 33 1 (some [(0, v)]) = some (.val (.slice (some (h.size, 0)) 1 1 1 true) (h.push (.cells [v]))) := bs_one rfl rfl rfl rfl hv
theorem sl33 (p : Sl E h i a l) (h0 : 0 ≤ x) (h1 : x ≤ y) (h2 : y ≤ l.length) (h3 : Seen (Nat.beq E.sz 1)) : sliceA Try.T 33 a (some x) (some y) none = some (a.part x y) := p.slc h0 h1 h2 rfl rfl (Nat.eq_of_beq_eq_true h3.eq).symm
theorem sm33 (p : Sl E h i a l) (h1 : 0 ≤ y) (h2 : y ≤ l.length) (h3 : Seen (Nat.beq E.sz 1)) : sliceA Try.T 33 a none (some y) none = some (a.part 0 y) := p.slc (lo := none) (Int.le_refl _) h1 h2 rfl rfl (Nat.eq_of_beq_eq_true h3.eq).symm
theorem sn33 (p : Sl E h i a l) (h0 : 0 ≤ x) (h1 : x ≤ l.length) (h3 : Seen (Nat.beq E.sz 1)) : sliceA Try.T 33 a (some x) none none = some (a.part x l.length) := p.slc (hi := none) h0 h1 (Int.le_refl _) rfl rfl (Nat.eq_of_beq_eq_true h3.eq).symm
theorem ap33 {P : Program} {ops : Array Oper} {L : List Oper} {K : Tm → AH → Prop} {d : Option Nat} {tm : Tm} {x : AV} {new : List α} {ix : Nat} (p : Ow E h i a l) (hx : Sl E h ix x new) (h2 : Seen (Nat.beq E.sz 1)) (hr : (l.length + new.length) * 8 ≤ 140737488355328) (hk : ∀ z h' i', Ow E h' i' z (l ++ new) → (i' = i ∨ h.size ≤ i') → h.size ≤ h'.size → (∀ j, j < h.size → ¬ j = i → h'.get j = h.get j) → putM P Try.T ops L K d tm z h') : ansM P Try.T ops L K d tm h (pairR (appendA Try.T h 33 33 a x)) :=
  ans_app p hx rfl ⟨_, rfl⟩ rfl (Nat.eq_of_beq_eq_true h2.eq).symm (Nat.eq_of_beq_eq_true h2.eq).symm (by decide) hr hk
theorem al33 {P : Program} {ops : Array Oper} {L : List Oper} {K : Tm → AH → Prop} {d : Option Nat} {tm : Tm} {sz : Nat} (x : α) (p : Ow E h i a l) (hx : cs = E.f x) (hs : sz = E.sz) (h2 : Seen (Nat.beq E.sz 1)) (hr : (l.length + 1) * 8 ≤ 140737488355328) (hk : ∀ z h' i', Ow E h' i' z (l ++ [x]) → (i' = i ∨ h.size ≤ i') → h.size ≤ h'.size → (∀ j, j < h.size → ¬ j = i → h'.get j = h.get j) → putM P Try.T ops L K d tm z h') : ansM P Try.T ops L K d tm (h.push (.cells cs)) (pairR (appendA Try.T (h.push (.cells cs)) 33 33 a (.slice (some (h.size, 0)) 1 1 sz true))) :=
  ans_app1 p x hx hs rfl rfl (Nat.eq_of_beq_eq_true h2.eq).symm (Nat.eq_of_beq_eq_true h2.eq).symm (by decide) hr hk
theorem eqn33 {l1 c1 z1 l2 c2 z2 : Nat} {x1 x2 : Bool} : binA Try.T .eql 33 (.slice none l1 c1 z1 x1) (.slice none l2 c2 z2 x2) = some (.bool true) := sl_eqn rfl
theorem eqs33 {l1 c1 z1 l2 c2 z2 : Nat} {x1 x2 : Bool} {p : Nat × Nat} : binA Try.T .eql 33 (.slice (some p) l1 c1 z1 x1) (.slice none l2 c2 z2 x2) = some (.bool false) := sl_eqs rfl
theorem eqi33 {l2 c2 z2 a1 b1 c1 d1 : Nat} {x2 : Bool} : binA Try.T .eql 33 (.islice row a1 b1 c1 d1) (.slice none l2 c2 z2 x2) = some (.bool false) := sl_eqi rfl
theorem Td34 : (Try.T 34).desc = .func := rfl
theorem Tz34 : (Try.T 34).zero = [.nilFunc] := rfl
theorem ld34 : loadA Try.T h 34 (.ptr (some (i, o))) = rd1 o (h.get i) := ld_1 rfl rfl
theorem li34 : loadA Try.T h 34 (.iptr row o) = row[o]? := ldi_1 rfl rfl
theorem st34 : storeA Try.T h 34 (.ptr (some (i, o))) v = stC h i o 1 v.cells := st_n rfl rfl
theorem feqs34 {f : FuncId} : binA Try.T .eql 34 (.func f cs) .nilFunc = some (.bool false) := fn_eqs rfl
theorem feqn34 : binA Try.T .eql 34 .nilFunc .nilFunc = some (.bool true) := fn_eqn rfl
theorem Td35 : (Try.T 35).desc = .func := rfl
theorem Tz35 : (Try.T 35).zero = [.nilFunc] := rfl
theorem ld35 : loadA Try.T h 35 (.ptr (some (i, o))) = rd1 o (h.get i) := ld_1 rfl rfl
theorem li35 : loadA Try.T h 35 (.iptr row o) = row[o]? := ldi_1 rfl rfl
theorem st35 : storeA Try.T h 35 (.ptr (some (i, o))) v = stC h i o 1 v.cells := st_n rfl rfl
theorem feqs35 {f : FuncId} : binA Try.T .eql 35 (.func f cs) .nilFunc = some (.bool false) := fn_eqs rfl
theorem feqn35 : binA Try.T .eql 35 .nilFunc .nilFunc = some (.bool true) := fn_eqn rfl
theorem Td36 : (Try.T 36).desc = .func := rfl
theorem Tz36 : (Try.T 36).zero = [.nilFunc] := rfl
theorem ld36 : loadA Try.T h 36 (.ptr (some (i, o))) = rd1 o (h.get i) := ld_1 rfl rfl
theorem li36 : loadA Try.T h 36 (.iptr row o) = row[o]? := ldi_1 rfl rfl
theorem st36 : storeA Try.T h 36 (.ptr (some (i, o))) v = stC h i o 1 v.cells := st_n rfl rfl
theorem feqs36 {f : FuncId} : binA Try.T .eql 36 (.func f cs) .nilFunc = some (.bool false) := fn_eqs rfl
theorem feqn36 : binA Try.T .eql 36 .nilFunc .nilFunc = some (.bool true) := fn_eqn rfl
theorem Td37 : (Try.T 37).desc = .func := rfl
theorem Tz37 : (Try.T 37).zero = [.nilFunc] := rfl
theorem ld37 : loadA Try.T h 37 (.ptr (some (i, o))) = rd1 o (h.get i) := ld_1 rfl rfl
theorem li37 : loadA Try.T h 37 (.iptr row o) = row[o]? := ldi_1 rfl rfl
theorem st37 : storeA Try.T h 37 (.ptr (some (i, o))) v = stC h i o 1 v.cells := st_n rfl rfl
theorem feqs37 {f : FuncId} : binA Try.T .eql 37 (.func f cs) .nilFunc = some (.bool false) := fn_eqs rfl
theorem feqn37 : binA Try.T .eql 37 .nilFunc .nilFunc = some (.bool true) := fn_eqn rfl
theorem Td38 : (Try.T 38).desc = .func := rfl
theorem Tz38 : (Try.T 38).zero = [.nilFunc] := rfl
theorem ld38 : loadA Try.T h 38 (.ptr (some (i, o))) = rd1 o (h.get i) := ld_1 rfl rfl
theorem li38 : loadA Try.T h 38 (.iptr row o) = row[o]? := ldi_1 rfl rfl
theorem st38 : storeA Try.T h 38 (.ptr (some (i, o))) v = stC h i o 1 v.cells := st_n rfl rfl
theorem feqs38 {f : FuncId} : binA Try.T .eql 38 (.func f cs) .nilFunc = some (.bool false) := fn_eqs rfl
theorem feqn38 : binA Try.T .eql 38 .nilFunc .nilFunc = some (.bool true) := fn_eqn rfl
theorem Td39 : (Try.T 39).desc = .func := rfl
theorem Tz39 : (Try.T 39).zero = [.nilFunc] := rfl
theorem ld39 : loadA Try.T h 39 (.ptr (some (i, o))) = rd1 o (h.get i) := ld_1 rfl rfl
theorem li39 : loadA Try.T h 39 (.iptr row o) = row[o]? := ldi_1 rfl rfl
theorem st39 : storeA Try.T h 39 (.ptr (some (i, o))) v = stC h i o 1 v.cells := st_n rfl rfl
theorem feqs39 {f : FuncId} : binA Try.T .eql 39 (.func f cs) .nilFunc = some (.bool false) := fn_eqs rfl
theorem feqn39 : binA Try.T .eql 39 .nilFunc .nilFunc = some (.bool true) := fn_eqn rfl
theorem Td41 : (Try.T 41).desc = .func := rfl
theorem Tz41 : (Try.T 41).zero = [.nilFunc] := rfl
theorem ld41 : loadA Try.T h 41 (.ptr (some (i, o))) = rd1 o (h.get i) := ld_1 rfl rfl
theorem li41 : loadA Try.T h 41 (.iptr row o) = row[o]? := ldi_1 rfl rfl
theorem st41 : storeA Try.T h 41 (.ptr (some (i, o))) v = stC h i o 1 v.cells := st_n rfl rfl
theorem feqs41 {f : FuncId} : binA Try.T .eql 41 (.func f cs) .nilFunc = some (.bool false) := fn_eqs rfl
theorem feqn41 : binA Try.T .eql 41 .nilFunc .nilFunc = some (.bool true) := fn_eqn rfl
theorem Td42 : (Try.T 42).desc = .slice 2 := rfl
theorem Tz42 : (Try.T 42).zero = [.slice none 0 0 0 true] := rfl
theorem ld42 : loadA Try.T h 42 (.ptr (some (i, o))) = rd1 o (h.get i) := ld_1 rfl rfl
theorem li42 : loadA Try.T h 42 (.iptr row o) = row[o]? := ldi_1 rfl rfl
theorem st42 : storeA Try.T h 42 (.ptr (some (i, o))) v = stC h i o 1 v.cells := st_n rfl rfl
theorem len42 (p : Sl E h i a l) : builtinA Try.T h' .len [42] [a] = some (.int .i64 (l.length : Int), h') := p.len rfl
theorem ix42 (p : Sl E h i a l) (h0 : 0 ≤ j) (h1 : j < l.length) (h2 : Seen (Nat.beq E.sz 1)) : idxA Try.T 42 a (.int k j) = some (a.at E.sz 0 j) := p.idx h0 h1 rfl rfl (Nat.eq_of_beq_eq_true h2.eq).symm
theorem wr2 {P : Program} {ops : Array Oper} {L : List Oper} {K : Tm → AH → Prop} {d : Option Nat} {tm : Tm} (p : Ow E h i a l) (x : α) (hx : v.cells = E.f x) (h0 : 0 ≤ j) (h1 : j < l.length) (h2 : Seen (Nat.beq E.sz 1)) (hk : ∀ h', Ow E h' i a (l.set j.toNat x) → h'.size = h.size → (∀ b, ¬ b = i → h'.get b = h.get b) → putM P Try.T ops L K d tm undefA h') : ansM P Try.T ops L K d tm h ((storeA Try.T h 2 (a.at E.sz 0 j) v).map fun h' => .val undefA h') :=
  ans_wr p x hx h0 h1 rfl (Nat.eq_of_beq_eq_true h2.eq).symm hk
theorem br42 {n : Nat} {l : List (Nat × AV)} (hn : Seen (Nat.beq l.length n && (Nat.ble n 10000 && bsOk 0 l))) : bsR Try.T h 42 n (some l) = some (.val (.slice (some (h.size, 0)) n n 1 true) (h.push (.cells (l.map (·.2))))) := bs_row rfl rfl rfl rfl hn
theorem bs42 (hv : Seen (match v with | .agg _ | .tuple _ => false | _ => true)) : bsR Try.T h 42 1 (some [(0, v)]) = some (.val (.slice (some (h.size, 0)) 1 1 1 true) (h.push (.cells [v]))) := bs_one rfl rfl rfl rfl hv
theorem sl42 (p : Sl E h i a l) (h0 : 0 ≤ x) (h1 : x ≤ y) (h2 : y ≤ l.length) (h3 : Seen (Nat.beq E.sz 1)) : sliceA Try.T 42 a (some x) (some y) none = some (a.part x y) := p.slc h0 h1 h2 rfl rfl (Nat.eq_of_beq_eq_true h3.eq).symm
theorem sm42 (p : Sl E h i a l) (h1 : 0 ≤ y) (h2 : y ≤ l.length) (h3 : Seen (Nat.beq E.sz 1)) : sliceA Try.T 42 a none (some y) none = some (a.part 0 y) := p.slc (lo := none) (Int.le_refl _) h1 h2 rfl rfl (Nat.eq_of_beq_eq_true h3.eq).symm
theorem sn42 (p : Sl E h i a l) (h0 : 0 ≤ x) (h1 : x ≤ l.length) (h3 : Seen (Nat.beq E.sz 1)) : sliceA Try.T 42 a (some x) none none = some (a.part x l.length) := p.slc (hi := none) h0 h1 (Int.le_refl _) rfl rfl (Nat.eq_of_beq_eq_true h3.eq).symm
theorem ap42 {P : Program} {ops : Array Oper} {L : List Oper} {K : Tm → AH → Prop} {d : Option Nat} {tm : Tm} {x : AV} {new : List α} {ix : Nat} (p : Ow E h i a l) (hx : Sl E h ix x new) (h2 : Seen (Nat.beq E.sz 1)) (hr : (l.length + new.length) * 8 ≤ 140737488355328) (hk : ∀ z h' i', Ow E h' i' z (l ++ new) → (i' = i ∨ h.size ≤ i') → h.size ≤ h'.size → (∀ j, j < h.size → ¬ j = i → h'.get j = h.get j) → putM P Try.T ops L K d tm z h') : ansM P Try.T ops L K d tm h (pairR (appendA Try.T h 42 42 a x)) :=
  ans_app p hx rfl ⟨_, rfl⟩ rfl (Nat.eq_of_beq_eq_true h2.eq).symm (Nat.eq_of_beq_eq_true h2.eq).symm (by decide) hr hk
theorem al42 {P : Program} {ops : Array Oper} {L : List Oper} {K : Tm → AH → Prop} {d : Option Nat} {tm : Tm} {sz : Nat} (x : α) (p : Ow E h i a l) (hx : cs = E.f x) (hs : sz = E.sz) (h2 : Seen (Nat.beq E.sz 1)) (hr : (l.length + 1) * 8 ≤ 140737488355328) (hk : ∀ z h' i', Ow E h' i' z (l ++ [x]) → (i' = i ∨ h.size ≤ i') → h.size ≤ h'.size → (∀ j, j < h.size → ¬ j = i → h'.get j = h.get j) → putM P Try.T ops L K d tm z h') : ansM P Try.T ops L K d tm (h.push (.cells cs)) (pairR (appendA Try.T (h.push (.cells cs)) 42 42 a (.slice (some (h.size, 0)) 1 1 sz true))) :=
  ans_app1 p x hx hs rfl rfl (Nat.eq_of_beq_eq_true h2.eq).symm (Nat.eq_of_beq_eq_true h2.eq).symm (by decide) hr hk
theorem eqn42 {l1 c1 z1 l2 c2 z2 : Nat} {x1 x2 : Bool} : binA Try.T .eql 42 (.slice none l1 c1 z1 x1) (.slice none l2 c2 z2 x2) = some (.bool true) := sl_eqn rfl
theorem eqs42 {l1 c1 z1 l2 c2 z2 : Nat} {x1 x2 : Bool} {p : Nat × Nat} : binA Try.T .eql 42 (.slice (some p) l1 c1 z1 x1) (.slice none l2 c2 z2 x2) = some (.bool false) := sl_eqs rfl
theorem eqi42 {l2 c2 z2 a1 b1 c1 d1 : Nat} {x2 : Bool} : binA Try.T .eql 42 (.islice row a1 b1 c1 d1) (.slice none l2 c2 z2 x2) = some (.bool false) := sl_eqi rfl
theorem Td43 : (Try.T 43).desc = .func := rfl
theorem Tz43 : (Try.T 43).zero = [.nilFunc] := rfl
theorem ld43 : loadA Try.T h 43 (.ptr (some (i, o))) = rd1 o (h.get i) := ld_1 rfl rfl
theorem li43 : loadA Try.T h 43 (.iptr row o) = row[o]? := ldi_1 rfl rfl
theorem st43 : storeA Try.T h 43 (.ptr (some (i, o))) v = stC h i o 1 v.cells := st_n rfl rfl
theorem feqs43 {f : FuncId} : binA Try.T .eql 43 (.func f cs) .nilFunc = some (.bool false) := fn_eqs rfl
theorem feqn43 : binA Try.T .eql 43 .nilFunc .nilFunc = some (.bool true) := fn_eqn rfl
theorem Td44 : (Try.T 44).desc = .func := rfl
theorem Tz44 : (Try.T 44).zero = [.nilFunc] := rfl
theorem ld44 : loadA Try.T h 44 (.ptr (some (i, o))) = rd1 o (h.get i) := ld_1 rfl rfl
theorem li44 : loadA Try.T h 44 (.iptr row o) = row[o]? := ldi_1 rfl rfl
theorem st44 : storeA Try.T h 44 (.ptr (some (i, o))) v = stC h i o 1 v.cells := st_n rfl rfl
theorem feqs44 {f : FuncId} : binA Try.T .eql 44 (.func f cs) .nilFunc = some (.bool false) := fn_eqs rfl
theorem feqn44 : binA Try.T .eql 44 .nilFunc .nilFunc = some (.bool true) := fn_eqn rfl
theorem Td45 : (Try.T 45).desc = .slice 49 := rfl
theorem Tz45 : (Try.T 45).zero = [.slice none 0 0 0 true] := rfl
theorem ld45 : loadA Try.T h 45 (.ptr (some (i, o))) = rd1 o (h.get i) := ld_1 rfl rfl
theorem li45 : loadA Try.T h 45 (.iptr row o) = row[o]? := ldi_1 rfl rfl
theorem st45 : storeA Try.T h 45 (.ptr (some (i, o))) v = stC h i o 1 v.cells := st_n rfl rfl
theorem len45 (p : Sl E h i a l) : builtinA Try.T h' .len [45] [a] = some (.int .i64 (l.length : Int), h') := p.len rfl
theorem ix45 (p : Sl E h i a l) (h0 : 0 ≤ j) (h1 : j < l.length) (h2 : Seen (Nat.beq E.sz 2)) : idxA Try.T 45 a (.int k j) = some (a.at E.sz 0 j) := p.idx h0 h1 rfl rfl (Nat.eq_of_beq_eq_true h2.eq).symm
theorem wr49 {P : Program} {ops : Array Oper} {L : List Oper} {K : Tm → AH → Prop} {d : Option Nat} {tm : Tm} (p : Ow E h i a l) (x : α) (hx : v.cells = E.f x) (h0 : 0 ≤ j) (h1 : j < l.length) (h2 : Seen (Nat.beq E.sz 2)) (hk : ∀ h', Ow E h' i a (l.set j.toNat x) → h'.size = h.size → (∀ b, ¬ b = i → h'.get b = h.get b) → putM P Try.T ops L K d tm undefA h') : ansM P Try.T ops L K d tm h ((storeA Try.T h 49 (a.at E.sz 0 j) v).map fun h' => .val undefA h') :=
  ans_wr p x hx h0 h1 rfl (Nat.eq_of_beq_eq_true h2.eq).symm hk
theorem w49_0_3 {P : Program} {ops : Array Oper} {L : List Oper} {K : Tm → AH → Prop} {d : Option Nat} {tm : Tm} [Inhabited α] (p : Ow E h i a l) (x : α) (hx : E.f x = (E.f (l[j.toNat]!)).set 0 v) (hv : v.cells = [v]) (hv1 : v.one = true) (h0 : 0 ≤ j) (h1 : j < l.length) (h2 : Seen (Nat.blt 0 E.sz)) (hk : ∀ h', Ow E h' i a (l.set j.toNat x) → h'.size = h.size → (∀ b, ¬ b = i → h'.get b = h.get b) → putM P Try.T ops L K d tm undefA h') : ansM P Try.T ops L K d tm h ((storeA Try.T h 3 (a.at E.sz 0 j) v).map fun h' => .val undefA h') :=
  ans_wr1 p x hx hv hv1 (by simpa [Nat.blt_eq] using h2.eq) h0 h1 rfl rfl hk
theorem w49_1_2 {P : Program} {ops : Array Oper} {L : List Oper} {K : Tm → AH → Prop} {d : Option Nat} {tm : Tm} [Inhabited α] (p : Ow E h i a l) (x : α) (hx : E.f x = (E.f (l[j.toNat]!)).set 1 v) (hv : v.cells = [v]) (hv1 : v.one = true) (h0 : 0 ≤ j) (h1 : j < l.length) (h2 : Seen (Nat.blt 1 E.sz)) (hk : ∀ h', Ow E h' i a (l.set j.toNat x) → h'.size = h.size → (∀ b, ¬ b = i → h'.get b = h.get b) → putM P Try.T ops L K d tm undefA h') : ansM P Try.T ops L K d tm h ((storeA Try.T h 2 (a.at E.sz 1 j) v).map fun h' => .val undefA h') :=
  ans_wr1 p x hx hv hv1 (by simpa [Nat.blt_eq] using h2.eq) h0 h1 rfl rfl hk
theorem sl45 (p : Sl E h i a l) (h0 : 0 ≤ x) (h1 : x ≤ y) (h2 : y ≤ l.length) (h3 : Seen (Nat.beq E.sz 2)) : sliceA Try.T 45 a (some x) (some y) none = some (a.part x y) := p.slc h0 h1 h2 rfl rfl (Nat.eq_of_beq_eq_true h3.eq).symm
theorem sm45 (p : Sl E h i a l) (h1 : 0 ≤ y) (h2 : y ≤ l.length) (h3 : Seen (Nat.beq E.sz 2)) : sliceA Try.T 45 a none (some y) none = some (a.part 0 y) := p.slc (lo := none) (Int.le_refl _) h1 h2 rfl rfl (Nat.eq_of_beq_eq_true h3.eq).symm
theorem sn45 (p : Sl E h i a l) (h0 : 0 ≤ x) (h1 : x ≤ l.length) (h3 : Seen (Nat.beq E.sz 2)) : sliceA Try.T 45 a (some x) none none = some (a.part x l.length) := p.slc (hi := none) h0 h1 (Int.le_refl _) rfl rfl (Nat.eq_of_beq_eq_true h3.eq).symm
theorem ap45 {P : Program} {ops : Array Oper} {L : List Oper} {K : Tm → AH → Prop} {d : Option Nat} {tm : Tm} {x : AV} {new : List α} {ix : Nat} (p : Ow E h i a l) (hx : Sl E h ix x new) (h2 : Seen (Nat.beq E.sz 2)) (hr : (l.length + new.length) * 16 ≤ 140737488355328) (hk : ∀ z h' i', Ow E h' i' z (l ++ new) → (i' = i ∨ h.size ≤ i') → h.size ≤ h'.size → (∀ j, j < h.size → ¬ j = i → h'.get j = h.get j) → putM P Try.T ops L K d tm z h') : ansM P Try.T ops L K d tm h (pairR (appendA Try.T h 45 45 a x)) :=
  ans_app p hx rfl ⟨_, rfl⟩ rfl (Nat.eq_of_beq_eq_true h2.eq).symm (Nat.eq_of_beq_eq_true h2.eq).symm (by decide) hr hk
theorem al45 {P : Program} {ops : Array Oper} {L : List Oper} {K : Tm → AH → Prop} {d : Option Nat} {tm : Tm} {sz : Nat} (x : α) (p : Ow E h i a l) (hx : cs = E.f x) (hs : sz = E.sz) (h2 : Seen (Nat.beq E.sz 2)) (hr : (l.length + 1) * 16 ≤ 140737488355328) (hk : ∀ z h' i', Ow E h' i' z (l ++ [x]) → (i' = i ∨ h.size ≤ i') → h.size ≤ h'.size → (∀ j, j < h.size → ¬ j = i → h'.get j = h.get j) → putM P Try.T ops L K d tm z h') : ansM P Try.T ops L K d tm (h.push (.cells cs)) (pairR (appendA Try.T (h.push (.cells cs)) 45 45 a (.slice (some (h.size, 0)) 1 1 sz true))) :=
  ans_app1 p x hx hs rfl rfl (Nat.eq_of_beq_eq_true h2.eq).symm (Nat.eq_of_beq_eq_true h2.eq).symm (by decide) hr hk
theorem eqn45 {l1 c1 z1 l2 c2 z2 : Nat} {x1 x2 : Bool} : binA Try.T .eql 45 (.slice none l1 c1 z1 x1) (.slice none l2 c2 z2 x2) = some (.bool true) := sl_eqn rfl
theorem eqs45 {l1 c1 z1 l2 c2 z2 : Nat} {x1 x2 : Bool} {p : Nat × Nat} : binA Try.T .eql 45 (.slice (some p) l1 c1 z1 x1) (.slice none l2 c2 z2 x2) = some (.bool false) := sl_eqs rfl
theorem eqi45 {l2 c2 z2 a1 b1 c1 d1 : Nat} {x2 : Bool} : binA Try.T .eql 45 (.islice row a1 b1 c1 d1) (.slice none l2 c2 z2 x2) = some (.bool false) := sl_eqi rfl
theorem Td46 : (Try.T 46).desc = .func := rfl
theorem Tz46 : (Try.T 46).zero = [.nilFunc] := rfl
theorem ld46 : loadA Try.T h 46 (.ptr (some (i, o))) = rd1 o (h.get i) := ld_1 rfl rfl
theorem li46 : loadA Try.T h 46 (.iptr row o) = row[o]? := ldi_1 rfl rfl
theorem st46 : storeA Try.T h 46 (.ptr (some (i, o))) v = stC h i o 1 v.cells := st_n rfl rfl
theorem feqs46 {f : FuncId} : binA Try.T .eql 46 (.func f cs) .nilFunc = some (.bool false) := fn_eqs rfl
theorem feqn46 : binA Try.T .eql 46 .nilFunc .nilFunc = some (.bool true) := fn_eqn rfl
theorem Td47 : (Try.T 47).desc = .func := rfl
theorem Tz47 : (Try.T 47).zero = [.nilFunc] := rfl
theorem ld47 : loadA Try.T h 47 (.ptr (some (i, o))) = rd1 o (h.get i) := ld_1 rfl rfl
theorem li47 : loadA Try.T h 47 (.iptr row o) = row[o]? := ldi_1 rfl rfl
theorem st47 : storeA Try.T h 47 (.ptr (some (i, o))) v = stC h i o 1 v.cells := st_n rfl rfl
theorem feqs47 {f : FuncId} : binA Try.T .eql 47 (.func f cs) .nilFunc = some (.bool false) := fn_eqs rfl
theorem feqn47 : binA Try.T .eql 47 .nilFunc .nilFunc = some (.bool true) := fn_eqn rfl
theorem Td48 : (Try.T 48).desc = .struct [(3, 0, true), (2, 1, true)] := rfl
theorem Tz48 : (Try.T 48).zero = [.int .i64 0, .int .i64 0] := rfl
theorem ld48 : loadA Try.T h 48 (.ptr (some (i, o))) = rdN o 2 (h.get i) := ld_n rfl rfl rfl
theorem li48 : loadA Try.T h 48 (.iptr row o) = (cut row o 2).map .agg := ldi_n rfl rfl rfl
theorem st48 : storeA Try.T h 48 (.ptr (some (i, o))) v = stC h i o 2 v.cells := st_n rfl rfl
theorem lE48 [Inhabited α] (p : Sl E h i a l) (h0 : 0 ≤ j) (h1 : j < l.length) (h4 : Seen (Nat.beq E.sz 2)) : loadA Try.T h 48 (a.at E.sz 0 j) = some (.agg (E.f (l[j.toNat]!))) := p.ldn h0 h1 rfl rfl (Nat.eq_of_beq_eq_true h4.eq).symm
theorem bd48 {l : List (Nat × AV)} : bldR Try.T 48 (some l) = (fillA (plA Try.T 48) (Try.T 48).zero l).map .agg := bld_eq rfl
theorem pl48_0 : plA Try.T 48 0 = some (0, 1) := rfl
theorem pl48_1 : plA Try.T 48 1 = some (1, 1) := rfl
theorem fa48_0 : faR Try.T 48 0 (some (.ptr (some (i, o)))) = some (.ptr (some (i, o + 0))) := fa_ptr rfl (by decide) rfl
theorem fi48_0 : faR Try.T 48 0 (some (.iptr row o)) = some (.iptr row (o + 0)) := fa_iptr rfl (by decide) rfl
theorem fE48_0 (p : Sl E h i a l) (h0 : 0 ≤ j) (h1 : j < l.length) : faR Try.T 48 0 (some (a.at E.sz off0 j)) = some (a.at E.sz (off0 + 0) j) := p.fa h0 h1 rfl (by decide) rfl
theorem fl48_0 : fldR Try.T 48 0 (some (.agg cs)) = cs[0]? := fld_1 rfl rfl rfl
theorem fa48_1 : faR Try.T 48 1 (some (.ptr (some (i, o)))) = some (.ptr (some (i, o + 1))) := fa_ptr rfl (by decide) rfl
theorem fi48_1 : faR Try.T 48 1 (some (.iptr row o)) = some (.iptr row (o + 1)) := fa_iptr rfl (by decide) rfl
theorem fE48_1 (p : Sl E h i a l) (h0 : 0 ≤ j) (h1 : j < l.length) : faR Try.T 48 1 (some (a.at E.sz off0 j)) = some (a.at E.sz (off0 + 1) j) := p.fa h0 h1 rfl (by decide) rfl
theorem fl48_1 : fldR Try.T 48 1 (some (.agg cs)) = cs[1]? := fld_1 rfl rfl rfl
theorem Td49 : (Try.T 49).desc = .struct [(3, 0, true), (2, 1, true)] := rfl
theorem Tz49 : (Try.T 49).zero = [.int .i64 0, .int .i64 0] := rfl
theorem ld49 : loadA Try.T h 49 (.ptr (some (i, o))) = rdN o 2 (h.get i) := ld_n rfl rfl rfl
theorem li49 : loadA Try.T h 49 (.iptr row o) = (cut row o 2).map .agg := ldi_n rfl rfl rfl
theorem st49 : storeA Try.T h 49 (.ptr (some (i, o))) v = stC h i o 2 v.cells := st_n rfl rfl
theorem lE49 [Inhabited α] (p : Sl E h i a l) (h0 : 0 ≤ j) (h1 : j < l.length) (h4 : Seen (Nat.beq E.sz 2)) : loadA Try.T h 49 (a.at E.sz 0 j) = some (.agg (E.f (l[j.toNat]!))) := p.ldn h0 h1 rfl rfl (Nat.eq_of_beq_eq_true h4.eq).symm
theorem bd49 {l : List (Nat × AV)} : bldR Try.T 49 (some l) = (fillA (plA Try.T 49) (Try.T 49).zero l).map .agg := bld_eq rfl
theorem pl49_0 : plA Try.T 49 0 = some (0, 1) := rfl
theorem pl49_1 : plA Try.T 49 1 = some (1, 1) := rfl
theorem fa49_0 : faR Try.T 49 0 (some (.ptr (some (i, o)))) = some (.ptr (some (i, o + 0))) := fa_ptr rfl (by decide) rfl
theorem fi49_0 : faR Try.T 49 0 (some (.iptr row o)) = some (.iptr row (o + 0)) := fa_iptr rfl (by decide) rfl
theorem fE49_0 (p : Sl E h i a l) (h0 : 0 ≤ j) (h1 : j < l.length) : faR Try.T 49 0 (some (a.at E.sz off0 j)) = some (a.at E.sz (off0 + 0) j) := p.fa h0 h1 rfl (by decide) rfl
theorem fl49_0 : fldR Try.T 49 0 (some (.agg cs)) = cs[0]? := fld_1 rfl rfl rfl
theorem fa49_1 : faR Try.T 49 1 (some (.ptr (some (i, o)))) = some (.ptr (some (i, o + 1))) := fa_ptr rfl (by decide) rfl
theorem fi49_1 : faR Try.T 49 1 (some (.iptr row o)) = some (.iptr row (o + 1)) := fa_iptr rfl (by decide) rfl
theorem fE49_1 (p : Sl E h i a l) (h0 : 0 ≤ j) (h1 : j < l.length) : faR Try.T 49 1 (some (a.at E.sz off0 j)) = some (a.at E.sz (off0 + 1) j) := p.fa h0 h1 rfl (by decide) rfl
theorem fl49_1 : fldR Try.T 49 1 (some (.agg cs)) = cs[1]? := fld_1 rfl rfl rfl
theorem Td50 : (Try.T 50).desc = .slice 54 := rfl
theorem Tz50 : (Try.T 50).zero = [.slice none 0 0 0 true] := rfl
theorem ld50 : loadA Try.T h 50 (.ptr (some (i, o))) = rd1 o (h.get i) := ld_1 rfl rfl
theorem li50 : loadA Try.T h 50 (.iptr row o) = row[o]? := ldi_1 rfl rfl
theorem st50 : storeA Try.T h 50 (.ptr (some (i, o))) v = stC h i o 1 v.cells := st_n rfl rfl
theorem len50 (p : Sl E h i a l) : builtinA Try.T h' .len [50] [a] = some (.int .i64 (l.length : Int), h') := p.len rfl
theorem ix50 (p : Sl E h i a l) (h0 : 0 ≤ j) (h1 : j < l.length) (h2 : Seen (Nat.beq E.sz 2)) : idxA Try.T 50 a (.int k j) = some (a.at E.sz 0 j) := p.idx h0 h1 rfl rfl (Nat.eq_of_beq_eq_true h2.eq).symm
theorem wr54 {P : Program} {ops : Array Oper} {L : List Oper} {K : Tm → AH → Prop} {d : Option Nat} {tm : Tm} (p : Ow E h i a l) (x : α) (hx : v.cells = E.f x) (h0 : 0 ≤ j) (h1 : j < l.length) (h2 : Seen (Nat.beq E.sz 2)) (hk : ∀ h', Ow E h' i a (l.set j.toNat x) → h'.size = h.size → (∀ b, ¬ b = i → h'.get b = h.get b) → putM P Try.T ops L K d tm undefA h') : ansM P Try.T ops L K d tm h ((storeA Try.T h 54 (a.at E.sz 0 j) v).map fun h' => .val undefA h') :=
  ans_wr p x hx h0 h1 rfl (Nat.eq_of_beq_eq_true h2.eq).symm hk
theorem w54_0_2 {P : Program} {ops : Array Oper} {L : List Oper} {K : Tm → AH → Prop} {d : Option Nat} {tm : Tm} [Inhabited α] (p : Ow E h i a l) (x : α) (hx : E.f x = (E.f (l[j.toNat]!)).set 0 v) (hv : v.cells = [v]) (hv1 : v.one = true) (h0 : 0 ≤ j) (h1 : j < l.length) (h2 : Seen (Nat.blt 0 E.sz)) (hk : ∀ h', Ow E h' i a (l.set j.toNat x) → h'.size = h.size → (∀ b, ¬ b = i → h'.get b = h.get b) → putM P Try.T ops L K d tm undefA h') : ansM P Try.T ops L K d tm h ((storeA Try.T h 2 (a.at E.sz 0 j) v).map fun h' => .val undefA h') :=
  ans_wr1 p x hx hv hv1 (by simpa [Nat.blt_eq] using h2.eq) h0 h1 rfl rfl hk
theorem w54_1_33 {P : Program} {ops : Array Oper} {L : List Oper} {K : Tm → AH → Prop} {d : Option Nat} {tm : Tm} [Inhabited α] (p : Ow E h i a l) (x : α) (hx : E.f x = (E.f (l[j.toNat]!)).set 1 v) (hv : v.cells = [v]) (hv1 : v.one = true) (h0 : 0 ≤ j) (h1 : j < l.length) (h2 : Seen (Nat.blt 1 E.sz)) (hk : ∀ h', Ow E h' i a (l.set j.toNat x) → h'.size = h.size → (∀ b, ¬ b = i → h'.get b = h.get b) → putM P Try.T ops L K d tm undefA h') : ansM P Try.T ops L K d tm h ((storeA Try.T h 33 (a.at E.sz 1 j) v).map fun h' => .val undefA h') :=
  ans_wr1 p x hx hv hv1 (by simpa [Nat.blt_eq] using h2.eq) h0 h1 rfl rfl hk
theorem sl50 (p : Sl E h i a l) (h0 : 0 ≤ x) (h1 : x ≤ y) (h2 : y ≤ l.length) (h3 : Seen (Nat.beq E.sz 2)) : sliceA Try.T 50 a (some x) (some y) none = some (a.part x y) := p.slc h0 h1 h2 rfl rfl (Nat.eq_of_beq_eq_true h3.eq).symm
theorem sm50 (p : Sl E h i a l) (h1 : 0 ≤ y) (h2 : y ≤ l.length) (h3 : Seen (Nat.beq E.sz 2)) : sliceA Try.T 50 a none (some y) none = some (a.part 0 y) := p.slc (lo := none) (Int.le_refl _) h1 h2 rfl rfl (Nat.eq_of_beq_eq_true h3.eq).symm
theorem sn50 (p : Sl E h i a l) (h0 : 0 ≤ x) (h1 : x ≤ l.length) (h3 : Seen (Nat.beq E.sz 2)) : sliceA Try.T 50 a (some x) none none = some (a.part x l.length) := p.slc (hi := none) h0 h1 (Int.le_refl _) rfl rfl (Nat.eq_of_beq_eq_true h3.eq).symm
theorem ap50 {P : Program} {ops : Array Oper} {L : List Oper} {K : Tm → AH → Prop} {d : Option Nat} {tm : Tm} {x : AV} {new : List α} {ix : Nat} (p : Ow E h i a l) (hx : Sl E h ix x new) (h2 : Seen (Nat.beq E.sz 2)) (hr : (l.length + new.length) * 32 ≤ 140737488355328) (hk : ∀ z h' i', Ow E h' i' z (l ++ new) → (i' = i ∨ h.size ≤ i') → h.size ≤ h'.size → (∀ j, j < h.size → ¬ j = i → h'.get j = h.get j) → putM P Try.T ops L K d tm z h') : ansM P Try.T ops L K d tm h (pairR (appendA Try.T h 50 50 a x)) :=
  ans_app p hx rfl ⟨_, rfl⟩ rfl (Nat.eq_of_beq_eq_true h2.eq).symm (Nat.eq_of_beq_eq_true h2.eq).symm (by decide) hr hk
theorem al50 {P : Program} {ops : Array Oper} {L : List Oper} {K : Tm → AH → Prop} {d : Option Nat} {tm : Tm} {sz : Nat} (x : α) (p : Ow E h i a l) (hx : cs = E.f x) (hs : sz = E.sz) (h2 : Seen (Nat.beq E.sz 2)) (hr : (l.length + 1) * 32 ≤ 140737488355328) (hk : ∀ z h' i', Ow E h' i' z (l ++ [x]) → (i' = i ∨ h.size ≤ i') → h.size ≤ h'.size → (∀ j, j < h.size → ¬ j = i → h'.get j = h.get j) → putM P Try.T ops L K d tm z h') : ansM P Try.T ops L K d tm (h.push (.cells cs)) (pairR (appendA Try.T (h.push (.cells cs)) 50 50 a (.slice (some (h.size, 0)) 1 1 sz true))) :=
  ans_app1 p x hx hs rfl rfl (Nat.eq_of_beq_eq_true h2.eq).symm (Nat.eq_of_beq_eq_true h2.eq).symm (by decide) hr hk
theorem eqn50 {l1 c1 z1 l2 c2 z2 : Nat} {x1 x2 : Bool} : binA Try.T .eql 50 (.slice none l1 c1 z1 x1) (.slice none l2 c2 z2 x2) = some (.bool true) := sl_eqn rfl
theorem eqs50 {l1 c1 z1 l2 c2 z2 : Nat} {x1 x2 : Bool} {p : Nat × Nat} : binA Try.T .eql 50 (.slice (some p) l1 c1 z1 x1) (.slice none l2 c2 z2 x2) = some (.bool false) := sl_eqs rfl
theorem eqi50 {l2 c2 z2 a1 b1 c1 d1 : Nat} {x2 : Bool} : binA Try.T .eql 50 (.islice row a1 b1 c1 d1) (.slice none l2 c2 z2 x2) = some (.bool false) := sl_eqi rfl
theorem Td51 : (Try.T 51).desc = .func := rfl
theorem Tz51 : (Try.T 51).zero = [.nilFunc] := rfl
theorem ld51 : loadA Try.T h 51 (.ptr (some (i, o))) = rd1 o (h.get i) := ld_1 rfl rfl
theorem li51 : loadA Try.T h 51 (.iptr row o) = row[o]? := ldi_1 rfl rfl
theorem st51 : storeA Try.T h 51 (.ptr (some (i, o))) v = stC h i o 1 v.cells := st_n rfl rfl
theorem feqs51 {f : FuncId} : binA Try.T .eql 51 (.func f cs) .nilFunc = some (.bool false) := fn_eqs rfl
theorem feqn51 : binA Try.T .eql 51 .nilFunc .nilFunc = some (.bool true) := fn_eqn rfl
theorem Td52 : (Try.T 52).desc = .int .u64 := rfl
theorem Tz52 : (Try.T 52).zero = [.int .u64 0] := rfl
theorem ld52 : loadA Try.T h 52 (.ptr (some (i, o))) = rd1 o (h.get i) := ld_1 rfl rfl
theorem li52 : loadA Try.T h 52 (.iptr row o) = row[o]? := ldi_1 rfl rfl
theorem st52 : storeA Try.T h 52 (.ptr (some (i, o))) v = stC h i o 1 v.cells := st_n rfl rfl
theorem Td53 : (Try.T 53).desc = .struct [(2, 0, true), (33, 1, true)] := rfl
theorem Tz53 : (Try.T 53).zero = [.int .i64 0, .slice none 0 0 0 true] := rfl
theorem ld53 : loadA Try.T h 53 (.ptr (some (i, o))) = rdN o 2 (h.get i) := ld_n rfl rfl rfl
theorem li53 : loadA Try.T h 53 (.iptr row o) = (cut row o 2).map .agg := ldi_n rfl rfl rfl
theorem st53 : storeA Try.T h 53 (.ptr (some (i, o))) v = stC h i o 2 v.cells := st_n rfl rfl
theorem lE53 [Inhabited α] (p : Sl E h i a l) (h0 : 0 ≤ j) (h1 : j < l.length) (h4 : Seen (Nat.beq E.sz 2)) : loadA Try.T h 53 (a.at E.sz 0 j) = some (.agg (E.f (l[j.toNat]!))) := p.ldn h0 h1 rfl rfl (Nat.eq_of_beq_eq_true h4.eq).symm
theorem bd53 {l : List (Nat × AV)} : bldR Try.T 53 (some l) = (fillA (plA Try.T 53) (Try.T 53).zero l).map .agg := bld_eq rfl
theorem pl53_0 : plA Try.T 53 0 = some (0, 1) := rfl
theorem pl53_1 : plA Try.T 53 1 = some (1, 1) := rfl
theorem fa53_0 : faR Try.T 53 0 (some (.ptr (some (i, o)))) = some (.ptr (some (i, o + 0))) := fa_ptr rfl (by decide) rfl
theorem fi53_0 : faR Try.T 53 0 (some (.iptr row o)) = some (.iptr row (o + 0)) := fa_iptr rfl (by decide) rfl
theorem fE53_0 (p : Sl E h i a l) (h0 : 0 ≤ j) (h1 : j < l.length) : faR Try.T 53 0 (some (a.at E.sz off0 j)) = some (a.at E.sz (off0 + 0) j) := p.fa h0 h1 rfl (by decide) rfl
theorem fl53_0 : fldR Try.T 53 0 (some (.agg cs)) = cs[0]? := fld_1 rfl rfl rfl
theorem fa53_1 : faR Try.T 53 1 (some (.ptr (some (i, o)))) = some (.ptr (some (i, o + 1))) := fa_ptr rfl (by decide) rfl
theorem fi53_1 : faR Try.T 53 1 (some (.iptr row o)) = some (.iptr row (o + 1)) := fa_iptr rfl (by decide) rfl
theorem fE53_1 (p : Sl E h i a l) (h0 : 0 ≤ j) (h1 : j < l.length) : faR Try.T 53 1 (some (a.at E.sz off0 j)) = some (a.at E.sz (off0 + 1) j) := p.fa h0 h1 rfl (by decide) rfl
theorem fl53_1 : fldR Try.T 53 1 (some (.agg cs)) = cs[1]? := fld_1 rfl rfl rfl
theorem Td54 : (Try.T 54).desc = .struct [(2, 0, true), (33, 1, true)] := rfl
theorem Tz54 : (Try.T 54).zero = [.int .i64 0, .slice none 0 0 0 true] := rfl
theorem ld54 : loadA Try.T h 54 (.ptr (some (i, o))) = rdN o 2 (h.get i) := ld_n rfl rfl rfl
theorem li54 : loadA Try.T h 54 (.iptr row o) = (cut row o 2).map .agg := ldi_n rfl rfl rfl
theorem st54 : storeA Try.T h 54 (.ptr (some (i, o))) v = stC h i o 2 v.cells := st_n rfl rfl
theorem lE54 [Inhabited α] (p : Sl E h i a l) (h0 : 0 ≤ j) (h1 : j < l.length) (h4 : Seen (Nat.beq E.sz 2)) : loadA Try.T h 54 (a.at E.sz 0 j) = some (.agg (E.f (l[j.toNat]!))) := p.ldn h0 h1 rfl rfl (Nat.eq_of_beq_eq_true h4.eq).symm
theorem bd54 {l : List (Nat × AV)} : bldR Try.T 54 (some l) = (fillA (plA Try.T 54) (Try.T 54).zero l).map .agg := bld_eq rfl
theorem pl54_0 : plA Try.T 54 0 = some (0, 1) := rfl
theorem pl54_1 : plA Try.T 54 1 = some (1, 1) := rfl
theorem fa54_0 : faR Try.T 54 0 (some (.ptr (some (i, o)))) = some (.ptr (some (i, o + 0))) := fa_ptr rfl (by decide) rfl
theorem fi54_0 : faR Try.T 54 0 (some (.iptr row o)) = some (.iptr row (o + 0)) := fa_iptr rfl (by decide) rfl
theorem fE54_0 (p : Sl E h i a l) (h0 : 0 ≤ j) (h1 : j < l.length) : faR Try.T 54 0 (some (a.at E.sz off0 j)) = some (a.at E.sz (off0 + 0) j) := p.fa h0 h1 rfl (by decide) rfl
theorem fl54_0 : fldR Try.T 54 0 (some (.agg cs)) = cs[0]? := fld_1 rfl rfl rfl
theorem fa54_1 : faR Try.T 54 1 (some (.ptr (some (i, o)))) = some (.ptr (some (i, o + 1))) := fa_ptr rfl (by decide) rfl
theorem fi54_1 : faR Try.T 54 1 (some (.iptr row o)) = some (.iptr row (o + 1)) := fa_iptr rfl (by decide) rfl
theorem fE54_1 (p : Sl E h i a l) (h0 : 0 ≤ j) (h1 : j < l.length) : faR Try.T 54 1 (some (a.at E.sz off0 j)) = some (a.at E.sz (off0 + 1) j) := p.fa h0 h1 rfl (by decide) rfl
theorem fl54_1 : fldR Try.T 54 1 (some (.agg cs)) = cs[1]? := fld_1 rfl rfl rfl
theorem Td55 : (Try.T 55).desc = .func := rfl
theorem Tz55 : (Try.T 55).zero = [.nilFunc] := rfl
theorem ld55 : loadA Try.T h 55 (.ptr (some (i, o))) = rd1 o (h.get i) := ld_1 rfl rfl
theorem li55 : loadA Try.T h 55 (.iptr row o) = row[o]? := ldi_1 rfl rfl
theorem st55 : storeA Try.T h 55 (.ptr (some (i, o))) v = stC h i o 1 v.cells := st_n rfl rfl
theorem feqs55 {f : FuncId} : binA Try.T .eql 55 (.func f cs) .nilFunc = some (.bool false) := fn_eqs rfl
theorem feqn55 : binA Try.T .eql 55 .nilFunc .nilFunc = some (.bool true) := fn_eqn rfl
theorem Td56 : (Try.T 56).desc = .slice 59 := rfl
theorem Tz56 : (Try.T 56).zero = [.slice none 0 0 0 true] := rfl
theorem ld56 : loadA Try.T h 56 (.ptr (some (i, o))) = rd1 o (h.get i) := ld_1 rfl rfl
theorem li56 : loadA Try.T h 56 (.iptr row o) = row[o]? := ldi_1 rfl rfl
theorem st56 : storeA Try.T h 56 (.ptr (some (i, o))) v = stC h i o 1 v.cells := st_n rfl rfl
theorem len56 (p : Sl E h i a l) : builtinA Try.T h' .len [56] [a] = some (.int .i64 (l.length : Int), h') := p.len rfl
theorem ix56 (p : Sl E h i a l) (h0 : 0 ≤ j) (h1 : j < l.length) (h2 : Seen (Nat.beq E.sz 2)) : idxA Try.T 56 a (.int k j) = some (a.at E.sz 0 j) := p.idx h0 h1 rfl rfl (Nat.eq_of_beq_eq_true h2.eq).symm
theorem wr59 {P : Program} {ops : Array Oper} {L : List Oper} {K : Tm → AH → Prop} {d : Option Nat} {tm : Tm} (p : Ow E h i a l) (x : α) (hx : v.cells = E.f x) (h0 : 0 ≤ j) (h1 : j < l.length) (h2 : Seen (Nat.beq E.sz 2)) (hk : ∀ h', Ow E h' i a (l.set j.toNat x) → h'.size = h.size → (∀ b, ¬ b = i → h'.get b = h.get b) → putM P Try.T ops L K d tm undefA h') : ansM P Try.T ops L K d tm h ((storeA Try.T h 59 (a.at E.sz 0 j) v).map fun h' => .val undefA h') :=
  ans_wr p x hx h0 h1 rfl (Nat.eq_of_beq_eq_true h2.eq).symm hk
theorem w59_0_3 {P : Program} {ops : Array Oper} {L : List Oper} {K : Tm → AH → Prop} {d : Option Nat} {tm : Tm} [Inhabited α] (p : Ow E h i a l) (x : α) (hx : E.f x = (E.f (l[j.toNat]!)).set 0 v) (hv : v.cells = [v]) (hv1 : v.one = true) (h0 : 0 ≤ j) (h1 : j < l.length) (h2 : Seen (Nat.blt 0 E.sz)) (hk : ∀ h', Ow E h' i a (l.set j.toNat x) → h'.size = h.size → (∀ b, ¬ b = i → h'.get b = h.get b) → putM P Try.T ops L K d tm undefA h') : ansM P Try.T ops L K d tm h ((storeA Try.T h 3 (a.at E.sz 0 j) v).map fun h' => .val undefA h') :=
  ans_wr1 p x hx hv hv1 (by simpa [Nat.blt_eq] using h2.eq) h0 h1 rfl rfl hk
theorem w59_1_33 {P : Program} {ops : Array Oper} {L : List Oper} {K : Tm → AH → Prop} {d : Option Nat} {tm : Tm} [Inhabited α] (p : Ow E h i a l) (x : α) (hx : E.f x = (E.f (l[j.toNat]!)).set 1 v) (hv : v.cells = [v]) (hv1 : v.one = true) (h0 : 0 ≤ j) (h1 : j < l.length) (h2 : Seen (Nat.blt 1 E.sz)) (hk : ∀ h', Ow E h' i a (l.set j.toNat x) → h'.size = h.size → (∀ b, ¬ b = i → h'.get b = h.get b) → putM P Try.T ops L K d tm undefA h') : ansM P Try.T ops L K d tm h ((storeA Try.T h 33 (a.at E.sz 1 j) v).map fun h' => .val undefA h') :=
  ans_wr1 p x hx hv hv1 (by simpa [Nat.blt_eq] using h2.eq) h0 h1 rfl rfl hk
theorem sl56 (p : Sl E h i a l) (h0 : 0 ≤ x) (h1 : x ≤ y) (h2 : y ≤ l.length) (h3 : Seen (Nat.beq E.sz 2)) : sliceA Try.T 56 a (some x) (some y) none = some (a.part x y) := p.slc h0 h1 h2 rfl rfl (Nat.eq_of_beq_eq_true h3.eq).symm
theorem sm56 (p : Sl E h i a l) (h1 : 0 ≤ y) (h2 : y ≤ l.length) (h3 : Seen (Nat.beq E.sz 2)) : sliceA Try.T 56 a none (some y) none = some (a.part 0 y) := p.slc (lo := none) (Int.le_refl _) h1 h2 rfl rfl (Nat.eq_of_beq_eq_true h3.eq).symm
theorem sn56 (p : Sl E h i a l) (h0 : 0 ≤ x) (h1 : x ≤ l.length) (h3 : Seen (Nat.beq E.sz 2)) : sliceA Try.T 56 a (some x) none none = some (a.part x l.length) := p.slc (hi := none) h0 h1 (Int.le_refl _) rfl rfl (Nat.eq_of_beq_eq_true h3.eq).symm
theorem ap56 {P : Program} {ops : Array Oper} {L : List Oper} {K : Tm → AH → Prop} {d : Option Nat} {tm : Tm} {x : AV} {new : List α} {ix : Nat} (p : Ow E h i a l) (hx : Sl E h ix x new) (h2 : Seen (Nat.beq E.sz 2)) (hr : (l.length + new.length) * 32 ≤ 140737488355328) (hk : ∀ z h' i', Ow E h' i' z (l ++ new) → (i' = i ∨ h.size ≤ i') → h.size ≤ h'.size → (∀ j, j < h.size → ¬ j = i → h'.get j = h.get j) → putM P Try.T ops L K d tm z h') : ansM P Try.T ops L K d tm h (pairR (appendA Try.T h 56 56 a x)) :=
  ans_app p hx rfl ⟨_, rfl⟩ rfl (Nat.eq_of_beq_eq_true h2.eq).symm (Nat.eq_of_beq_eq_true h2.eq).symm (by decide) hr hk
theorem al56 {P : Program} {ops : Array Oper} {L : List Oper} {K : Tm → AH → Prop} {d : Option Nat} {tm : Tm} {sz : Nat} (x : α) (p : Ow E h i a l) (hx : cs = E.f x) (hs : sz = E.sz) (h2 : Seen (Nat.beq E.sz 2)) (hr : (l.length + 1) * 32 ≤ 140737488355328) (hk : ∀ z h' i', Ow E h' i' z (l ++ [x]) → (i' = i ∨ h.size ≤ i') → h.size ≤ h'.size → (∀ j, j < h.size → ¬ j = i → h'.get j = h.get j) → putM P Try.T ops L K d tm z h') : ansM P Try.T ops L K d tm (h.push (.cells cs)) (pairR (appendA Try.T (h.push (.cells cs)) 56 56 a (.slice (some (h.size, 0)) 1 1 sz true))) :=
  ans_app1 p x hx hs rfl rfl (Nat.eq_of_beq_eq_true h2.eq).symm (Nat.eq_of_beq_eq_true h2.eq).symm (by decide) hr hk
theorem eqn56 {l1 c1 z1 l2 c2 z2 : Nat} {x1 x2 : Bool} : binA Try.T .eql 56 (.slice none l1 c1 z1 x1) (.slice none l2 c2 z2 x2) = some (.bool true) := sl_eqn rfl
theorem eqs56 {l1 c1 z1 l2 c2 z2 : Nat} {x1 x2 : Bool} {p : Nat × Nat} : binA Try.T .eql 56 (.slice (some p) l1 c1 z1 x1) (.slice none l2 c2 z2 x2) = some (.bool false) := sl_eqs rfl
theorem eqi56 {l2 c2 z2 a1 b1 c1 d1 : Nat} {x2 : Bool} : binA Try.T .eql 56 (.islice row a1 b1 c1 d1) (.slice none l2 c2 z2 x2) = some (.bool false) := sl_eqi rfl
theorem Td57 : (Try.T 57).desc = .func := rfl
theorem Tz57 : (Try.T 57).zero = [.nilFunc] := rfl
theorem ld57 : loadA Try.T h 57 (.ptr (some (i, o))) = rd1 o (h.get i) := ld_1 rfl rfl
theorem li57 : loadA Try.T h 57 (.iptr row o) = row[o]? := ldi_1 rfl rfl
theorem st57 : storeA Try.T h 57 (.ptr (some (i, o))) v = stC h i o 1 v.cells := st_n rfl rfl
theorem feqs57 {f : FuncId} : binA Try.T .eql 57 (.func f cs) .nilFunc = some (.bool false) := fn_eqs rfl
theorem feqn57 : binA Try.T .eql 57 .nilFunc .nilFunc = some (.bool true) := fn_eqn rfl
theorem Td58 : (Try.T 58).desc = .struct [(3, 0, true), (33, 1, true)] := rfl
theorem Tz58 : (Try.T 58).zero = [.int .i64 0, .slice none 0 0 0 true] := rfl
theorem ld58 : loadA Try.T h 58 (.ptr (some (i, o))) = rdN o 2 (h.get i) := ld_n rfl rfl rfl
theorem li58 : loadA Try.T h 58 (.iptr row o) = (cut row o 2).map .agg := ldi_n rfl rfl rfl
theorem st58 : storeA Try.T h 58 (.ptr (some (i, o))) v = stC h i o 2 v.cells := st_n rfl rfl
theorem lE58 [Inhabited α] (p : Sl E h i a l) (h0 : 0 ≤ j) (h1 : j < l.length) (h4 : Seen (Nat.beq E.sz 2)) : loadA Try.T h 58 (a.at E.sz 0 j) = some (.agg (E.f (l[j.toNat]!))) := p.ldn h0 h1 rfl rfl (Nat.eq_of_beq_eq_true h4.eq).symm
theorem bd58 {l : List (Nat × AV)} : bldR Try.T 58 (some l) = (fillA (plA Try.T 58) (Try.T 58).zero l).map .agg := bld_eq rfl
theorem pl58_0 : plA Try.T 58 0 = some (0, 1) := rfl
theorem pl58_1 : plA Try.T 58 1 = some (1, 1) := rfl
theorem fa58_0 : faR Try.T 58 0 (some (.ptr (some (i, o)))) = some (.ptr (some (i, o + 0))) := fa_ptr rfl (by decide) rfl
theorem fi58_0 : faR Try.T 58 0 (some (.iptr row o)) = some (.iptr row (o + 0)) := fa_iptr rfl (by decide) rfl
theorem fE58_0 (p : Sl E h i a l) (h0 : 0 ≤ j) (h1 : j < l.length) : faR Try.T 58 0 (some (a.at E.sz off0 j)) = some (a.at E.sz (off0 + 0) j) := p.fa h0 h1 rfl (by decide) rfl
theorem fl58_0 : fldR Try.T 58 0 (some (.agg cs)) = cs[0]? := fld_1 rfl rfl rfl
theorem fa58_1 : faR Try.T 58 1 (some (.ptr (some (i, o)))) = some (.ptr (some (i, o + 1))) := fa_ptr rfl (by decide) rfl
theorem fi58_1 : faR Try.T 58 1 (some (.iptr row o)) = some (.iptr row (o + 1)) := fa_iptr rfl (by decide) rfl
theorem fE58_1 (p : Sl E h i a l) (h0 : 0 ≤ j) (h1 : j < l.length) : faR Try.T 58 1 (some (a.at E.sz off0 j)) = some (a.at E.sz (off0 + 1) j) := p.fa h0 h1 rfl (by decide) rfl
theorem fl58_1 : fldR Try.T 58 1 (some (.agg cs)) = cs[1]? := fld_1 rfl rfl rfl
theorem Td59 : (Try.T 59).desc = .struct [(3, 0, true), (33, 1, true)] := rfl
theorem Tz59 : (Try.T 59).zero = [.int .i64 0, .slice none 0 0 0 true] := rfl
theorem ld59 : loadA Try.T h 59 (.ptr (some (i, o))) = rdN o 2 (h.get i) := ld_n rfl rfl rfl
theorem li59 : loadA Try.T h 59 (.iptr row o) = (cut row o 2).map .agg := ldi_n rfl rfl rfl
theorem st59 : storeA Try.T h 59 (.ptr (some (i, o))) v = stC h i o 2 v.cells := st_n rfl rfl
theorem lE59 [Inhabited α] (p : Sl E h i a l) (h0 : 0 ≤ j) (h1 : j < l.length) (h4 : Seen (Nat.beq E.sz 2)) : loadA Try.T h 59 (a.at E.sz 0 j) = some (.agg (E.f (l[j.toNat]!))) := p.ldn h0 h1 rfl rfl (Nat.eq_of_beq_eq_true h4.eq).symm
theorem bd59 {l : List (Nat × AV)} : bldR Try.T 59 (some l) = (fillA (plA Try.T 59) (Try.T 59).zero l).map .agg := bld_eq rfl
theorem pl59_0 : plA Try.T 59 0 = some (0, 1) := rfl
theorem pl59_1 : plA Try.T 59 1 = some (1, 1) := rfl
theorem fa59_0 : faR Try.T 59 0 (some (.ptr (some (i, o)))) = some (.ptr (some (i, o + 0))) := fa_ptr rfl (by decide) rfl
theorem fi59_0 : faR Try.T 59 0 (some (.iptr row o)) = some (.iptr row (o + 0)) := fa_iptr rfl (by decide) rfl
theorem fE59_0 (p : Sl E h i a l) (h0 : 0 ≤ j) (h1 : j < l.length) : faR Try.T 59 0 (some (a.at E.sz off0 j)) = some (a.at E.sz (off0 + 0) j) := p.fa h0 h1 rfl (by decide) rfl
theorem fl59_0 : fldR Try.T 59 0 (some (.agg cs)) = cs[0]? := fld_1 rfl rfl rfl
theorem fa59_1 : faR Try.T 59 1 (some (.ptr (some (i, o)))) = some (.ptr (some (i, o + 1))) := fa_ptr rfl (by decide) rfl
theorem fi59_1 : faR Try.T 59 1 (some (.iptr row o)) = some (.iptr row (o + 1)) := fa_iptr rfl (by decide) rfl
theorem fE59_1 (p : Sl E h i a l) (h0 : 0 ≤ j) (h1 : j < l.length) : faR Try.T 59 1 (some (a.at E.sz off0 j)) = some (a.at E.sz (off0 + 1) j) := p.fa h0 h1 rfl (by decide) rfl
theorem fl59_1 : fldR Try.T 59 1 (some (.agg cs)) = cs[1]? := fld_1 rfl rfl rfl
theorem Td60 : (Try.T 60).desc = .func := rfl
theorem Tz60 : (Try.T 60).zero = [.nilFunc] := rfl
theorem ld60 : loadA Try.T h 60 (.ptr (some (i, o))) = rd1 o (h.get i) := ld_1 rfl rfl
theorem li60 : loadA Try.T h 60 (.iptr row o) = row[o]? := ldi_1 rfl rfl
theorem st60 : storeA Try.T h 60 (.ptr (some (i, o))) v = stC h i o 1 v.cells := st_n rfl rfl
theorem feqs60 {f : FuncId} : binA Try.T .eql 60 (.func f cs) .nilFunc = some (.bool false) := fn_eqs rfl
theorem feqn60 : binA Try.T .eql 60 .nilFunc .nilFunc = some (.bool true) := fn_eqn rfl
theorem Td61 : (Try.T 61).desc = .struct [(17, 0, true), (17, 1, true), (17, 2, true), (9, 3, true)] := rfl
theorem Tz61 : (Try.T 61).zero = [.ptr none, .ptr none, .ptr none, .str []] := rfl
theorem ld61 : loadA Try.T h 61 (.ptr (some (i, o))) = rdN o 4 (h.get i) := ld_n rfl rfl rfl
theorem li61 : loadA Try.T h 61 (.iptr row o) = (cut row o 4).map .agg := ldi_n rfl rfl rfl
theorem st61 : storeA Try.T h 61 (.ptr (some (i, o))) v = stC h i o 4 v.cells := st_n rfl rfl
theorem lE61 [Inhabited α] (p : Sl E h i a l) (h0 : 0 ≤ j) (h1 : j < l.length) (h4 : Seen (Nat.beq E.sz 4)) : loadA Try.T h 61 (a.at E.sz 0 j) = some (.agg (E.f (l[j.toNat]!))) := p.ldn h0 h1 rfl rfl (Nat.eq_of_beq_eq_true h4.eq).symm
theorem bd61 {l : List (Nat × AV)} : bldR Try.T 61 (some l) = (fillA (plA Try.T 61) (Try.T 61).zero l).map .agg := bld_eq rfl
theorem pl61_0 : plA Try.T 61 0 = some (0, 1) := rfl
theorem pl61_1 : plA Try.T 61 1 = some (1, 1) := rfl
theorem pl61_2 : plA Try.T 61 2 = some (2, 1) := rfl
theorem pl61_3 : plA Try.T 61 3 = some (3, 1) := rfl
theorem fa61_0 : faR Try.T 61 0 (some (.ptr (some (i, o)))) = some (.ptr (some (i, o + 0))) := fa_ptr rfl (by decide) rfl
theorem fi61_0 : faR Try.T 61 0 (some (.iptr row o)) = some (.iptr row (o + 0)) := fa_iptr rfl (by decide) rfl
theorem fE61_0 (p : Sl E h i a l) (h0 : 0 ≤ j) (h1 : j < l.length) : faR Try.T 61 0 (some (a.at E.sz off0 j)) = some (a.at E.sz (off0 + 0) j) := p.fa h0 h1 rfl (by decide) rfl
theorem fl61_0 : fldR Try.T 61 0 (some (.agg cs)) = cs[0]? := fld_1 rfl rfl rfl
theorem fa61_1 : faR Try.T 61 1 (some (.ptr (some (i, o)))) = some (.ptr (some (i, o + 1))) := fa_ptr rfl (by decide) rfl
theorem fi61_1 : faR Try.T 61 1 (some (.iptr row o)) = some (.iptr row (o + 1)) := fa_iptr rfl (by decide) rfl
theorem fE61_1 (p : Sl E h i a l) (h0 : 0 ≤ j) (h1 : j < l.length) : faR Try.T 61 1 (some (a.at E.sz off0 j)) = some (a.at E.sz (off0 + 1) j) := p.fa h0 h1 rfl (by decide) rfl
theorem fl61_1 : fldR Try.T 61 1 (some (.agg cs)) = cs[1]? := fld_1 rfl rfl rfl
theorem fa61_2 : faR Try.T 61 2 (some (.ptr (some (i, o)))) = some (.ptr (some (i, o + 2))) := fa_ptr rfl (by decide) rfl
theorem fi61_2 : faR Try.T 61 2 (some (.iptr row o)) = some (.iptr row (o + 2)) := fa_iptr rfl (by decide) rfl
theorem fE61_2 (p : Sl E h i a l) (h0 : 0 ≤ j) (h1 : j < l.length) : faR Try.T 61 2 (some (a.at E.sz off0 j)) = some (a.at E.sz (off0 + 2) j) := p.fa h0 h1 rfl (by decide) rfl
theorem fl61_2 : fldR Try.T 61 2 (some (.agg cs)) = cs[2]? := fld_1 rfl rfl rfl
theorem fa61_3 : faR Try.T 61 3 (some (.ptr (some (i, o)))) = some (.ptr (some (i, o + 3))) := fa_ptr rfl (by decide) rfl
theorem fi61_3 : faR Try.T 61 3 (some (.iptr row o)) = some (.iptr row (o + 3)) := fa_iptr rfl (by decide) rfl
theorem fE61_3 (p : Sl E h i a l) (h0 : 0 ≤ j) (h1 : j < l.length) : faR Try.T 61 3 (some (a.at E.sz off0 j)) = some (a.at E.sz (off0 + 3) j) := p.fa h0 h1 rfl (by decide) rfl
theorem fl61_3 : fldR Try.T 61 3 (some (.agg cs)) = cs[3]? := fld_1 rfl rfl rfl
theorem Td62 : (Try.T 62).desc = .struct [(17, 0, true), (17, 1, true), (17, 2, true), (9, 3, true)] := rfl
theorem Tz62 : (Try.T 62).zero = [.ptr none, .ptr none, .ptr none, .str []] := rfl
theorem ld62 : loadA Try.T h 62 (.ptr (some (i, o))) = rdN o 4 (h.get i) := ld_n rfl rfl rfl
theorem li62 : loadA Try.T h 62 (.iptr row o) = (cut row o 4).map .agg := ldi_n rfl rfl rfl
theorem st62 : storeA Try.T h 62 (.ptr (some (i, o))) v = stC h i o 4 v.cells := st_n rfl rfl
theorem lE62 [Inhabited α] (p : Sl E h i a l) (h0 : 0 ≤ j) (h1 : j < l.length) (h4 : Seen (Nat.beq E.sz 4)) : loadA Try.T h 62 (a.at E.sz 0 j) = some (.agg (E.f (l[j.toNat]!))) := p.ldn h0 h1 rfl rfl (Nat.eq_of_beq_eq_true h4.eq).symm
theorem bd62 {l : List (Nat × AV)} : bldR Try.T 62 (some l) = (fillA (plA Try.T 62) (Try.T 62).zero l).map .agg := bld_eq rfl
theorem pl62_0 : plA Try.T 62 0 = some (0, 1) := rfl
theorem pl62_1 : plA Try.T 62 1 = some (1, 1) := rfl
theorem pl62_2 : plA Try.T 62 2 = some (2, 1) := rfl
theorem pl62_3 : plA Try.T 62 3 = some (3, 1) := rfl
theorem fa62_0 : faR Try.T 62 0 (some (.ptr (some (i, o)))) = some (.ptr (some (i, o + 0))) := fa_ptr rfl (by decide) rfl
theorem fi62_0 : faR Try.T 62 0 (some (.iptr row o)) = some (.iptr row (o + 0)) := fa_iptr rfl (by decide) rfl
theorem fE62_0 (p : Sl E h i a l) (h0 : 0 ≤ j) (h1 : j < l.length) : faR Try.T 62 0 (some (a.at E.sz off0 j)) = some (a.at E.sz (off0 + 0) j) := p.fa h0 h1 rfl (by decide) rfl
theorem fl62_0 : fldR Try.T 62 0 (some (.agg cs)) = cs[0]? := fld_1 rfl rfl rfl
theorem fa62_1 : faR Try.T 62 1 (some (.ptr (some (i, o)))) = some (.ptr (some (i, o + 1))) := fa_ptr rfl (by decide) rfl
theorem fi62_1 : faR Try.T 62 1 (some (.iptr row o)) = some (.iptr row (o + 1)) := fa_iptr rfl (by decide) rfl
theorem fE62_1 (p : Sl E h i a l) (h0 : 0 ≤ j) (h1 : j < l.length) : faR Try.T 62 1 (some (a.at E.sz off0 j)) = some (a.at E.sz (off0 + 1) j) := p.fa h0 h1 rfl (by decide) rfl
theorem fl62_1 : fldR Try.T 62 1 (some (.agg cs)) = cs[1]? := fld_1 rfl rfl rfl
theorem fa62_2 : faR Try.T 62 2 (some (.ptr (some (i, o)))) = some (.ptr (some (i, o + 2))) := fa_ptr rfl (by decide) rfl
theorem fi62_2 : faR Try.T 62 2 (some (.iptr row o)) = some (.iptr row (o + 2)) := fa_iptr rfl (by decide) rfl
theorem fE62_2 (p : Sl E h i a l) (h0 : 0 ≤ j) (h1 : j < l.length) : faR Try.T 62 2 (some (a.at E.sz off0 j)) = some (a.at E.sz (off0 + 2) j) := p.fa h0 h1 rfl (by decide) rfl
theorem fl62_2 : fldR Try.T 62 2 (some (.agg cs)) = cs[2]? := fld_1 rfl rfl rfl
theorem fa62_3 : faR Try.T 62 3 (some (.ptr (some (i, o)))) = some (.ptr (some (i, o + 3))) := fa_ptr rfl (by decide) rfl
theorem fi62_3 : faR Try.T 62 3 (some (.iptr row o)) = some (.iptr row (o + 3)) := fa_iptr rfl (by decide) rfl
theorem fE62_3 (p : Sl E h i a l) (h0 : 0 ≤ j) (h1 : j < l.length) : faR Try.T 62 3 (some (a.at E.sz off0 j)) = some (a.at E.sz (off0 + 3) j) := p.fa h0 h1 rfl (by decide) rfl
theorem fl62_3 : fldR Try.T 62 3 (some (.agg cs)) = cs[3]? := fld_1 rfl rfl rfl
theorem Td63 : (Try.T 63).desc = .array 0 16 := rfl
theorem Tz63 : (Try.T 63).zero = [] := rfl
theorem ld63 : loadA Try.T h 63 (.ptr (some (i, o))) = rdN o 0 (h.get i) := ld_n rfl rfl rfl
theorem li63 : loadA Try.T h 63 (.iptr row o) = (cut row o 0).map .agg := ldi_n rfl rfl rfl
theorem st63 : storeA Try.T h 63 (.ptr (some (i, o))) v = stC h i o 0 v.cells := st_n rfl rfl
theorem lE63 [Inhabited α] (p : Sl E h i a l) (h0 : 0 ≤ j) (h1 : j < l.length) (h4 : Seen (Nat.beq E.sz 0)) : loadA Try.T h 63 (a.at E.sz 0 j) = some (.agg (E.f (l[j.toNat]!))) := p.ldn h0 h1 rfl rfl (Nat.eq_of_beq_eq_true h4.eq).symm
theorem Td64 : (Try.T 64).desc = .struct [(63, 0, false)] := rfl
theorem Tz64 : (Try.T 64).zero = [] := rfl
theorem ld64 : loadA Try.T h 64 (.ptr (some (i, o))) = rdN o 0 (h.get i) := ld_n rfl rfl rfl
theorem li64 : loadA Try.T h 64 (.iptr row o) = (cut row o 0).map .agg := ldi_n rfl rfl rfl
theorem st64 : storeA Try.T h 64 (.ptr (some (i, o))) v = stC h i o 0 v.cells := st_n rfl rfl
theorem lE64 [Inhabited α] (p : Sl E h i a l) (h0 : 0 ≤ j) (h1 : j < l.length) (h4 : Seen (Nat.beq E.sz 0)) : loadA Try.T h 64 (a.at E.sz 0 j) = some (.agg (E.f (l[j.toNat]!))) := p.ldn h0 h1 rfl rfl (Nat.eq_of_beq_eq_true h4.eq).symm
theorem bd64 {l : List (Nat × AV)} : bldR Try.T 64 (some l) = (fillA (plA Try.T 64) (Try.T 64).zero l).map .agg := bld_eq rfl
theorem pl64_0 : plA Try.T 64 0 = some (0, 0) := rfl
theorem Td65 : (Try.T 65).desc = .struct [(63, 0, false)] := rfl
theorem Tz65 : (Try.T 65).zero = [] := rfl
theorem ld65 : loadA Try.T h 65 (.ptr (some (i, o))) = rdN o 0 (h.get i) := ld_n rfl rfl rfl
theorem li65 : loadA Try.T h 65 (.iptr row o) = (cut row o 0).map .agg := ldi_n rfl rfl rfl
theorem st65 : storeA Try.T h 65 (.ptr (some (i, o))) v = stC h i o 0 v.cells := st_n rfl rfl
theorem lE65 [Inhabited α] (p : Sl E h i a l) (h0 : 0 ≤ j) (h1 : j < l.length) (h4 : Seen (Nat.beq E.sz 0)) : loadA Try.T h 65 (a.at E.sz 0 j) = some (.agg (E.f (l[j.toNat]!))) := p.ldn h0 h1 rfl rfl (Nat.eq_of_beq_eq_true h4.eq).symm
theorem bd65 {l : List (Nat × AV)} : bldR Try.T 65 (some l) = (fillA (plA Try.T 65) (Try.T 65).zero l).map .agg := bld_eq rfl
theorem pl65_0 : plA Try.T 65 0 = some (0, 0) := rfl
theorem Td66 : (Try.T 66).desc = .func := rfl
theorem Tz66 : (Try.T 66).zero = [.nilFunc] := rfl
theorem ld66 : loadA Try.T h 66 (.ptr (some (i, o))) = rd1 o (h.get i) := ld_1 rfl rfl
theorem li66 : loadA Try.T h 66 (.iptr row o) = row[o]? := ldi_1 rfl rfl
theorem st66 : storeA Try.T h 66 (.ptr (some (i, o))) v = stC h i o 1 v.cells := st_n rfl rfl
theorem feqs66 {f : FuncId} : binA Try.T .eql 66 (.func f cs) .nilFunc = some (.bool false) := fn_eqs rfl
theorem feqn66 : binA Try.T .eql 66 .nilFunc .nilFunc = some (.bool true) := fn_eqn rfl
theorem Td67 : (Try.T 67).desc = .int .u32 := rfl
theorem Tz67 : (Try.T 67).zero = [.int .u32 0] := rfl
theorem ld67 : loadA Try.T h 67 (.ptr (some (i, o))) = rd1 o (h.get i) := ld_1 rfl rfl
theorem li67 : loadA Try.T h 67 (.iptr row o) = row[o]? := ldi_1 rfl rfl
theorem st67 : storeA Try.T h 67 (.ptr (some (i, o))) v = stC h i o 1 v.cells := st_n rfl rfl
theorem Td68 : (Try.T 68).desc = .int .u8 := rfl
theorem Tz68 : (Try.T 68).zero = [.int .u8 0] := rfl
theorem ld68 : loadA Try.T h 68 (.ptr (some (i, o))) = rd1 o (h.get i) := ld_1 rfl rfl
theorem li68 : loadA Try.T h 68 (.iptr row o) = row[o]? := ldi_1 rfl rfl
theorem st68 : storeA Try.T h 68 (.ptr (some (i, o))) v = stC h i o 1 v.cells := st_n rfl rfl
theorem l868 {l : List UInt8} (p : Sl E8 h i a l) (h0 : 0 ≤ j) (h1 : j < l.length) : loadA Try.T h 68 (a.at E8.sz 0 j) = some (.int .u8 ((l[j.toNat]!).toNat : Int)) := p.ld8 h0 h1 rfl rfl
theorem Td69 : (Try.T 69).desc = .int .u8 := rfl
theorem Tz69 : (Try.T 69).zero = [.int .u8 0] := rfl
theorem ld69 : loadA Try.T h 69 (.ptr (some (i, o))) = rd1 o (h.get i) := ld_1 rfl rfl
theorem li69 : loadA Try.T h 69 (.iptr row o) = row[o]? := ldi_1 rfl rfl
theorem st69 : storeA Try.T h 69 (.ptr (some (i, o))) v = stC h i o 1 v.cells := st_n rfl rfl
theorem l869 {l : List UInt8} (p : Sl E8 h i a l) (h0 : 0 ≤ j) (h1 : j < l.length) : loadA Try.T h 69 (a.at E8.sz 0 j) = some (.int .u8 ((l[j.toNat]!).toNat : Int)) := p.ld8 h0 h1 rfl rfl
theorem Td70 : (Try.T 70).desc = .func := rfl
theorem Tz70 : (Try.T 70).zero = [.nilFunc] := rfl
theorem ld70 : loadA Try.T h 70 (.ptr (some (i, o))) = rd1 o (h.get i) := ld_1 rfl rfl
theorem li70 : loadA Try.T h 70 (.iptr row o) = row[o]? := ldi_1 rfl rfl
theorem st70 : storeA Try.T h 70 (.ptr (some (i, o))) v = stC h i o 1 v.cells := st_n rfl rfl
theorem feqs70 {f : FuncId} : binA Try.T .eql 70 (.func f cs) .nilFunc = some (.bool false) := fn_eqs rfl
theorem feqn70 : binA Try.T .eql 70 .nilFunc .nilFunc = some (.bool true) := fn_eqn rfl
theorem Td71 : (Try.T 71).desc = .pointer 5 := rfl
theorem Tz71 : (Try.T 71).zero = [.ptr none] := rfl
theorem ld71 : loadA Try.T h 71 (.ptr (some (i, o))) = rd1 o (h.get i) := ld_1 rfl rfl
theorem li71 : loadA Try.T h 71 (.iptr row o) = row[o]? := ldi_1 rfl rfl
theorem st71 : storeA Try.T h 71 (.ptr (some (i, o))) v = stC h i o 1 v.cells := st_n rfl rfl
theorem peqn71 : binA Try.T .eql 71 (.ptr none) (.ptr none) = some (.bool true) := pt_eqn rfl
theorem peqs71 {p : Nat × Nat} : binA Try.T .eql 71 (.ptr (some p)) (.ptr none) = some (.bool false) := pt_eqs rfl
theorem pnen71 : binA Try.T .neq 71 (.ptr none) (.ptr none) = some (.bool false) := pt_nen rfl
theorem pnes71 {p : Nat × Nat} : binA Try.T .neq 71 (.ptr (some p)) (.ptr none) = some (.bool true) := pt_nes rfl
theorem Td72 : (Try.T 72).desc = .int .i32 := rfl
theorem Tz72 : (Try.T 72).zero = [.int .i32 0] := rfl
theorem ld72 : loadA Try.T h 72 (.ptr (some (i, o))) = rd1 o (h.get i) := ld_1 rfl rfl
theorem li72 : loadA Try.T h 72 (.iptr row o) = row[o]? := ldi_1 rfl rfl
theorem st72 : storeA Try.T h 72 (.ptr (some (i, o))) v = stC h i o 1 v.cells := st_n rfl rfl
theorem Td73 : (Try.T 73).desc = .int .i32 := rfl
theorem Tz73 : (Try.T 73).zero = [.int .i32 0] := rfl
theorem ld73 : loadA Try.T h 73 (.ptr (some (i, o))) = rd1 o (h.get i) := ld_1 rfl rfl
theorem li73 : loadA Try.T h 73 (.iptr row o) = row[o]? := ldi_1 rfl rfl
theorem st73 : storeA Try.T h 73 (.ptr (some (i, o))) v = stC h i o 1 v.cells := st_n rfl rfl
theorem Td74 : (Try.T 74).desc = .struct [(12, 0, true), (12, 1, true), (67, 2, true), (68, 3, true), (5, 4, true), (5, 5, true), (69, 6, true), (70, 7, true), (71, 8, true), (72, 9, true), (73, 10, true)] := rfl
theorem Tz74 : (Try.T 74).zero = [.int .u64 0, .int .u64 0, .int .u32 0, .int .u8 0, .int .u8 0, .int .u8 0, .int .u8 0, .nilFunc, .ptr none, .int .i32 0, .int .i32 0] := rfl
theorem ld74 : loadA Try.T h 74 (.ptr (some (i, o))) = rdN o 11 (h.get i) := ld_n rfl rfl rfl
theorem li74 : loadA Try.T h 74 (.iptr row o) = (cut row o 11).map .agg := ldi_n rfl rfl rfl
theorem st74 : storeA Try.T h 74 (.ptr (some (i, o))) v = stC h i o 11 v.cells := st_n rfl rfl
theorem lE74 [Inhabited α] (p : Sl E h i a l) (h0 : 0 ≤ j) (h1 : j < l.length) (h4 : Seen (Nat.beq E.sz 11)) : loadA Try.T h 74 (a.at E.sz 0 j) = some (.agg (E.f (l[j.toNat]!))) := p.ldn h0 h1 rfl rfl (Nat.eq_of_beq_eq_true h4.eq).symm
theorem bd74 {l : List (Nat × AV)} : bldR Try.T 74 (some l) = (fillA (plA Try.T 74) (Try.T 74).zero l).map .agg := bld_eq rfl
theorem pl74_0 : plA Try.T 74 0 = some (0, 1) := rfl
theorem pl74_1 : plA Try.T 74 1 = some (1, 1) := rfl
theorem pl74_2 : plA Try.T 74 2 = some (2, 1) := rfl
theorem pl74_3 : plA Try.T 74 3 = some (3, 1) := rfl
theorem pl74_4 : plA Try.T 74 4 = some (4, 1) := rfl
theorem pl74_5 : plA Try.T 74 5 = some (5, 1) := rfl
theorem pl74_6 : plA Try.T 74 6 = some (6, 1) := rfl
theorem pl74_7 : plA Try.T 74 7 = some (7, 1) := rfl
theorem pl74_8 : plA Try.T 74 8 = some (8, 1) := rfl
theorem pl74_9 : plA Try.T 74 9 = some (9, 1) := rfl
theorem pl74_10 : plA Try.T 74 10 = some (10, 1) := rfl
theorem fa74_0 : faR Try.T 74 0 (some (.ptr (some (i, o)))) = some (.ptr (some (i, o + 0))) := fa_ptr rfl (by decide) rfl
theorem fi74_0 : faR Try.T 74 0 (some (.iptr row o)) = some (.iptr row (o + 0)) := fa_iptr rfl (by decide) rfl
theorem fE74_0 (p : Sl E h i a l) (h0 : 0 ≤ j) (h1 : j < l.length) : faR Try.T 74 0 (some (a.at E.sz off0 j)) = some (a.at E.sz (off0 + 0) j) := p.fa h0 h1 rfl (by decide) rfl
theorem fl74_0 : fldR Try.T 74 0 (some (.agg cs)) = cs[0]? := fld_1 rfl rfl rfl
theorem fa74_1 : faR Try.T 74 1 (some (.ptr (some (i, o)))) = some (.ptr (some (i, o + 1))) := fa_ptr rfl (by decide) rfl
theorem fi74_1 : faR Try.T 74 1 (some (.iptr row o)) = some (.iptr row (o + 1)) := fa_iptr rfl (by decide) rfl
theorem fE74_1 (p : Sl E h i a l) (h0 : 0 ≤ j) (h1 : j < l.length) : faR Try.T 74 1 (some (a.at E.sz off0 j)) = some (a.at E.sz (off0 + 1) j) := p.fa h0 h1 rfl (by decide) rfl
theorem fl74_1 : fldR Try.T 74 1 (some (.agg cs)) = cs[1]? := fld_1 rfl rfl rfl
theorem fa74_2 : faR Try.T 74 2 (some (.ptr (some (i, o)))) = some (.ptr (some (i, o + 2))) := fa_ptr rfl (by decide) rfl
theorem fi74_2 : faR Try.T 74 2 (some (.iptr row o)) = some (.iptr row (o + 2)) := fa_iptr rfl (by decide) rfl
theorem fE74_2 (p : Sl E h i a l) (h0 : 0 ≤ j) (h1 : j < l.length) : faR Try.T 74 2 (some (a.at E.sz off0 j)) = some (a.at E.sz (off0 + 2) j) := p.fa h0 h1 rfl (by decide) rfl
theorem fl74_2 : fldR Try.T 74 2 (some (.agg cs)) = cs[2]? := fld_1 rfl rfl rfl
theorem fa74_3 : faR Try.T 74 3 (some (.ptr (some (i, o)))) = some (.ptr (some (i, o + 3))) := fa_ptr rfl (by decide) rfl
theorem fi74_3 : faR Try.T 74 3 (some (.iptr row o)) = some (.iptr row (o + 3)) := fa_iptr rfl (by decide) rfl
theorem fE74_3 (p : Sl E h i a l) (h0 : 0 ≤ j) (h1 : j < l.length) : faR Try.T 74 3 (some (a.at E.sz off0 j)) = some (a.at E.sz (off0 + 3) j) := p.fa h0 h1 rfl (by decide) rfl
theorem fl74_3 : fldR Try.T 74 3 (some (.agg cs)) = cs[3]? := fld_1 rfl rfl rfl
theorem fa74_4 : faR Try.T 74 4 (some (.ptr (some (i, o)))) = some (.ptr (some (i, o + 4))) := fa_ptr rfl (by decide) rfl
theorem fi74_4 : faR Try.T 74 4 (some (.iptr row o)) = some (.iptr row (o + 4)) := fa_iptr rfl (by decide) rfl
theorem fE74_4 (p : Sl E h i a l) (h0 : 0 ≤ j) (h1 : j < l.length) : faR Try.T 74 4 (some (a.at E.sz off0 j)) = some (a.at E.sz (off0 + 4) j) := p.fa h0 h1 rfl (by decide) rfl
theorem fl74_4 : fldR Try.T 74 4 (some (.agg cs)) = cs[4]? := fld_1 rfl rfl rfl
theorem fa74_5 : faR Try.T 74 5 (some (.ptr (some (i, o)))) = some (.ptr (some (i, o + 5))) := fa_ptr rfl (by decide) rfl
theorem fi74_5 : faR Try.T 74 5 (some (.iptr row o)) = some (.iptr row (o + 5)) := fa_iptr rfl (by decide) rfl
theorem fE74_5 (p : Sl E h i a l) (h0 : 0 ≤ j) (h1 : j < l.length) : faR Try.T 74 5 (some (a.at E.sz off0 j)) = some (a.at E.sz (off0 + 5) j) := p.fa h0 h1 rfl (by decide) rfl
theorem fl74_5 : fldR Try.T 74 5 (some (.agg cs)) = cs[5]? := fld_1 rfl rfl rfl
theorem fa74_6 : faR Try.T 74 6 (some (.ptr (some (i, o)))) = some (.ptr (some (i, o + 6))) := fa_ptr rfl (by decide) rfl
theorem fi74_6 : faR Try.T 74 6 (some (.iptr row o)) = some (.iptr row (o + 6)) := fa_iptr rfl (by decide) rfl
theorem fE74_6 (p : Sl E h i a l) (h0 : 0 ≤ j) (h1 : j < l.length) : faR Try.T 74 6 (some (a.at E.sz off0 j)) = some (a.at E.sz (off0 + 6) j) := p.fa h0 h1 rfl (by decide) rfl
theorem fl74_6 : fldR Try.T 74 6 (some (.agg cs)) = cs[6]? := fld_1 rfl rfl rfl
theorem fa74_7 : faR Try.T 74 7 (some (.ptr (some (i, o)))) = some (.ptr (some (i, o + 7))) := fa_ptr rfl (by decide) rfl
theorem fi74_7 : faR Try.T 74 7 (some (.iptr row o)) = some (.iptr row (o + 7)) := fa_iptr rfl (by decide) rfl
theorem fE74_7 (p : Sl E h i a l) (h0 : 0 ≤ j) (h1 : j < l.length) : faR Try.T 74 7 (some (a.at E.sz off0 j)) = some (a.at E.sz (off0 + 7) j) := p.fa h0 h1 rfl (by decide) rfl
theorem fl74_7 : fldR Try.T 74 7 (some (.agg cs)) = cs[7]? := fld_1 rfl rfl rfl
theorem fa74_8 : faR Try.T 74 8 (some (.ptr (some (i, o)))) = some (.ptr (some (i, o + 8))) := fa_ptr rfl (by decide) rfl
theorem fi74_8 : faR Try.T 74 8 (some (.iptr row o)) = some (.iptr row (o + 8)) := fa_iptr rfl (by decide) rfl
theorem fE74_8 (p : Sl E h i a l) (h0 : 0 ≤ j) (h1 : j < l.length) : faR Try.T 74 8 (some (a.at E.sz off0 j)) = some (a.at E.sz (off0 + 8) j) := p.fa h0 h1 rfl (by decide) rfl
theorem fl74_8 : fldR Try.T 74 8 (some (.agg cs)) = cs[8]? := fld_1 rfl rfl rfl
theorem fa74_9 : faR Try.T 74 9 (some (.ptr (some (i, o)))) = some (.ptr (some (i, o + 9))) := fa_ptr rfl (by decide) rfl
theorem fi74_9 : faR Try.T 74 9 (some (.iptr row o)) = some (.iptr row (o + 9)) := fa_iptr rfl (by decide) rfl
theorem fE74_9 (p : Sl E h i a l) (h0 : 0 ≤ j) (h1 : j < l.length) : faR Try.T 74 9 (some (a.at E.sz off0 j)) = some (a.at E.sz (off0 + 9) j) := p.fa h0 h1 rfl (by decide) rfl
theorem fl74_9 : fldR Try.T 74 9 (some (.agg cs)) = cs[9]? := fld_1 rfl rfl rfl
theorem fa74_10 : faR Try.T 74 10 (some (.ptr (some (i, o)))) = some (.ptr (some (i, o + 10))) := fa_ptr rfl (by decide) rfl
theorem fi74_10 : faR Try.T 74 10 (some (.iptr row o)) = some (.iptr row (o + 10)) := fa_iptr rfl (by decide) rfl
theorem fE74_10 (p : Sl E h i a l) (h0 : 0 ≤ j) (h1 : j < l.length) : faR Try.T 74 10 (some (a.at E.sz off0 j)) = some (a.at E.sz (off0 + 10) j) := p.fa h0 h1 rfl (by decide) rfl
theorem fl74_10 : fldR Try.T 74 10 (some (.agg cs)) = cs[10]? := fld_1 rfl rfl rfl
theorem Td75 : (Try.T 75).desc = .struct [(12, 0, true), (12, 1, true), (67, 2, true), (68, 3, true), (5, 4, true), (5, 5, true), (69, 6, true), (70, 7, true), (71, 8, true), (72, 9, true), (73, 10, true)] := rfl
theorem Tz75 : (Try.T 75).zero = [.int .u64 0, .int .u64 0, .int .u32 0, .int .u8 0, .int .u8 0, .int .u8 0, .int .u8 0, .nilFunc, .ptr none, .int .i32 0, .int .i32 0] := rfl
theorem ld75 : loadA Try.T h 75 (.ptr (some (i, o))) = rdN o 11 (h.get i) := ld_n rfl rfl rfl
theorem li75 : loadA Try.T h 75 (.iptr row o) = (cut row o 11).map .agg := ldi_n rfl rfl rfl
theorem st75 : storeA Try.T h 75 (.ptr (some (i, o))) v = stC h i o 11 v.cells := st_n rfl rfl
theorem lE75 [Inhabited α] (p : Sl E h i a l) (h0 : 0 ≤ j) (h1 : j < l.length) (h4 : Seen (Nat.beq E.sz 11)) : loadA Try.T h 75 (a.at E.sz 0 j) = some (.agg (E.f (l[j.toNat]!))) := p.ldn h0 h1 rfl rfl (Nat.eq_of_beq_eq_true h4.eq).symm
theorem bd75 {l : List (Nat × AV)} : bldR Try.T 75 (some l) = (fillA (plA Try.T 75) (Try.T 75).zero l).map .agg := bld_eq rfl
theorem pl75_0 : plA Try.T 75 0 = some (0, 1) := rfl
theorem pl75_1 : plA Try.T 75 1 = some (1, 1) := rfl
theorem pl75_2 : plA Try.T 75 2 = some (2, 1) := rfl
theorem pl75_3 : plA Try.T 75 3 = some (3, 1) := rfl
theorem pl75_4 : plA Try.T 75 4 = some (4, 1) := rfl
theorem pl75_5 : plA Try.T 75 5 = some (5, 1) := rfl
theorem pl75_6 : plA Try.T 75 6 = some (6, 1) := rfl
theorem pl75_7 : plA Try.T 75 7 = some (7, 1) := rfl
theorem pl75_8 : plA Try.T 75 8 = some (8, 1) := rfl
theorem pl75_9 : plA Try.T 75 9 = some (9, 1) := rfl
theorem pl75_10 : plA Try.T 75 10 = some (10, 1) := rfl
theorem fa75_0 : faR Try.T 75 0 (some (.ptr (some (i, o)))) = some (.ptr (some (i, o + 0))) := fa_ptr rfl (by decide) rfl
theorem fi75_0 : faR Try.T 75 0 (some (.iptr row o)) = some (.iptr row (o + 0)) := fa_iptr rfl (by decide) rfl
theorem fE75_0 (p : Sl E h i a l) (h0 : 0 ≤ j) (h1 : j < l.length) : faR Try.T 75 0 (some (a.at E.sz off0 j)) = some (a.at E.sz (off0 + 0) j) := p.fa h0 h1 rfl (by decide) rfl
theorem fl75_0 : fldR Try.T 75 0 (some (.agg cs)) = cs[0]? := fld_1 rfl rfl rfl
theorem fa75_1 : faR Try.T 75 1 (some (.ptr (some (i, o)))) = some (.ptr (some (i, o + 1))) := fa_ptr rfl (by decide) rfl
theorem fi75_1 : faR Try.T 75 1 (some (.iptr row o)) = some (.iptr row (o + 1)) := fa_iptr rfl (by decide) rfl
theorem fE75_1 (p : Sl E h i a l) (h0 : 0 ≤ j) (h1 : j < l.length) : faR Try.T 75 1 (some (a.at E.sz off0 j)) = some (a.at E.sz (off0 + 1) j) := p.fa h0 h1 rfl (by decide) rfl
theorem fl75_1 : fldR Try.T 75 1 (some (.agg cs)) = cs[1]? := fld_1 rfl rfl rfl
theorem fa75_2 : faR Try.T 75 2 (some (.ptr (some (i, o)))) = some (.ptr (some (i, o + 2))) := fa_ptr rfl (by decide) rfl
theorem fi75_2 : faR Try.T 75 2 (some (.iptr row o)) = some (.iptr row (o + 2)) := fa_iptr rfl (by decide) rfl
theorem fE75_2 (p : Sl E h i a l) (h0 : 0 ≤ j) (h1 : j < l.length) : faR Try.T 75 2 (some (a.at E.sz off0 j)) = some (a.at E.sz (off0 + 2) j) := p.fa h0 h1 rfl (by decide) rfl
theorem fl75_2 : fldR Try.T 75 2 (some (.agg cs)) = cs[2]? := fld_1 rfl rfl rfl
theorem fa75_3 : faR Try.T 75 3 (some (.ptr (some (i, o)))) = some (.ptr (some (i, o + 3))) := fa_ptr rfl (by decide) rfl
theorem fi75_3 : faR Try.T 75 3 (some (.iptr row o)) = some (.iptr row (o + 3)) := fa_iptr rfl (by decide) rfl
theorem fE75_3 (p : Sl E h i a l) (h0 : 0 ≤ j) (h1 : j < l.length) : faR Try.T 75 3 (some (a.at E.sz off0 j)) = some (a.at E.sz (off0 + 3) j) := p.fa h0 h1 rfl (by decide) rfl
theorem fl75_3 : fldR Try.T 75 3 (some (.agg cs)) = cs[3]? := fld_1 rfl rfl rfl
theorem fa75_4 : faR Try.T 75 4 (some (.ptr (some (i, o)))) = some (.ptr (some (i, o + 4))) := fa_ptr rfl (by decide) rfl
theorem fi75_4 : faR Try.T 75 4 (some (.iptr row o)) = some (.iptr row (o + 4)) := fa_iptr rfl (by decide) rfl
theorem fE75_4 (p : Sl E h i a l) (h0 : 0 ≤ j) (h1 : j < l.length) : faR Try.T 75 4 (some (a.at E.sz off0 j)) = some (a.at E.sz (off0 + 4) j) := p.fa h0 h1 rfl (by decide) rfl
theorem fl75_4 : fldR Try.T 75 4 (some (.agg cs)) = cs[4]? := fld_1 rfl rfl rfl
theorem fa75_5 : faR Try.T 75 5 (some (.ptr (some (i, o)))) = some (.ptr (some (i, o + 5))) := fa_ptr rfl (by decide) rfl
theorem fi75_5 : faR Try.T 75 5 (some (.iptr row o)) = some (.iptr row (o + 5)) := fa_iptr rfl (by decide) rfl
theorem fE75_5 (p : Sl E h i a l) (h0 : 0 ≤ j) (h1 : j < l.length) : faR Try.T 75 5 (some (a.at E.sz off0 j)) = some (a.at E.sz (off0 + 5) j) := p.fa h0 h1 rfl (by decide) rfl
theorem fl75_5 : fldR Try.T 75 5 (some (.agg cs)) = cs[5]? := fld_1 rfl rfl rfl
theorem fa75_6 : faR Try.T 75 6 (some (.ptr (some (i, o)))) = some (.ptr (some (i, o + 6))) := fa_ptr rfl (by decide) rfl
theorem fi75_6 : faR Try.T 75 6 (some (.iptr row o)) = some (.iptr row (o + 6)) := fa_iptr rfl (by decide) rfl
theorem fE75_6 (p : Sl E h i a l) (h0 : 0 ≤ j) (h1 : j < l.length) : faR Try.T 75 6 (some (a.at E.sz off0 j)) = some (a.at E.sz (off0 + 6) j) := p.fa h0 h1 rfl (by decide) rfl
theorem fl75_6 : fldR Try.T 75 6 (some (.agg cs)) = cs[6]? := fld_1 rfl rfl rfl
theorem fa75_7 : faR Try.T 75 7 (some (.ptr (some (i, o)))) = some (.ptr (some (i, o + 7))) := fa_ptr rfl (by decide) rfl
theorem fi75_7 : faR Try.T 75 7 (some (.iptr row o)) = some (.iptr row (o + 7)) := fa_iptr rfl (by decide) rfl
theorem fE75_7 (p : Sl E h i a l) (h0 : 0 ≤ j) (h1 : j < l.length) : faR Try.T 75 7 (some (a.at E.sz off0 j)) = some (a.at E.sz (off0 + 7) j) := p.fa h0 h1 rfl (by decide) rfl
theorem fl75_7 : fldR Try.T 75 7 (some (.agg cs)) = cs[7]? := fld_1 rfl rfl rfl
theorem fa75_8 : faR Try.T 75 8 (some (.ptr (some (i, o)))) = some (.ptr (some (i, o + 8))) := fa_ptr rfl (by decide) rfl
theorem fi75_8 : faR Try.T 75 8 (some (.iptr row o)) = some (.iptr row (o + 8)) := fa_iptr rfl (by decide) rfl
theorem fE75_8 (p : Sl E h i a l) (h0 : 0 ≤ j) (h1 : j < l.length) : faR Try.T 75 8 (some (a.at E.sz off0 j)) = some (a.at E.sz (off0 + 8) j) := p.fa h0 h1 rfl (by decide) rfl
theorem fl75_8 : fldR Try.T 75 8 (some (.agg cs)) = cs[8]? := fld_1 rfl rfl rfl
theorem fa75_9 : faR Try.T 75 9 (some (.ptr (some (i, o)))) = some (.ptr (some (i, o + 9))) := fa_ptr rfl (by decide) rfl
theorem fi75_9 : faR Try.T 75 9 (some (.iptr row o)) = some (.iptr row (o + 9)) := fa_iptr rfl (by decide) rfl
theorem fE75_9 (p : Sl E h i a l) (h0 : 0 ≤ j) (h1 : j < l.length) : faR Try.T 75 9 (some (a.at E.sz off0 j)) = some (a.at E.sz (off0 + 9) j) := p.fa h0 h1 rfl (by decide) rfl
theorem fl75_9 : fldR Try.T 75 9 (some (.agg cs)) = cs[9]? := fld_1 rfl rfl rfl
theorem fa75_10 : faR Try.T 75 10 (some (.ptr (some (i, o)))) = some (.ptr (some (i, o + 10))) := fa_ptr rfl (by decide) rfl
theorem fi75_10 : faR Try.T 75 10 (some (.iptr row o)) = some (.iptr row (o + 10)) := fa_iptr rfl (by decide) rfl
theorem fE75_10 (p : Sl E h i a l) (h0 : 0 ≤ j) (h1 : j < l.length) : faR Try.T 75 10 (some (a.at E.sz off0 j)) = some (a.at E.sz (off0 + 10) j) := p.fa h0 h1 rfl (by decide) rfl
theorem fl75_10 : fldR Try.T 75 10 (some (.agg cs)) = cs[10]? := fld_1 rfl rfl rfl
theorem ci2 {a : Nat} : convA Try.T h a 2 (.int k x) = cvI (Try.T a).desc (.int .i64) h x := conv_i rfl
theorem ci3 {a : Nat} : convA Try.T h a 3 (.int k x) = cvI (Try.T a).desc (.int .i64) h x := conv_i rfl
theorem ci5 {a : Nat} : convA Try.T h a 5 (.int k x) = cvI (Try.T a).desc (.int .u8) h x := conv_i rfl
theorem ci6 {a : Nat} : convA Try.T h a 6 (.int k x) = cvI (Try.T a).desc (.int .u8) h x := conv_i rfl
theorem ci12 {a : Nat} : convA Try.T h a 12 (.int k x) = cvI (Try.T a).desc (.int .u64) h x := conv_i rfl
theorem ci21 {a : Nat} : convA Try.T h a 21 (.int k x) = cvI (Try.T a).desc (.int .i32) h x := conv_i rfl
theorem ci28 {a : Nat} : convA Try.T h a 28 (.int k x) = cvI (Try.T a).desc (.int .i64) h x := conv_i rfl
theorem ci52 {a : Nat} : convA Try.T h a 52 (.int k x) = cvI (Try.T a).desc (.int .u64) h x := conv_i rfl
theorem ci67 {a : Nat} : convA Try.T h a 67 (.int k x) = cvI (Try.T a).desc (.int .u32) h x := conv_i rfl
theorem ci68 {a : Nat} : convA Try.T h a 68 (.int k x) = cvI (Try.T a).desc (.int .u8) h x := conv_i rfl
theorem ci69 {a : Nat} : convA Try.T h a 69 (.int k x) = cvI (Try.T a).desc (.int .u8) h x := conv_i rfl
theorem ci72 {a : Nat} : convA Try.T h a 72 (.int k x) = cvI (Try.T a).desc (.int .i32) h x := conv_i rfl
theorem ci73 {a : Nat} : convA Try.T h a 73 (.int k x) = cvI (Try.T a).desc (.int .i32) h x := conv_i rfl
end tf
attribute [go_sem] Td1 Tz1 ld1 li1 st1 feqs1 feqn1 Td2 Tz2 ld2 li2 st2 lI2 Td3 Tz3 ld3 li3 st3 lI3 Td4 Tz4 ld4 li4 st4 beql4 bneq4 Td5 Tz5 ld5 li5 st5 l85 Td6 Tz6 ld6 li6 st6 l86 Td7 Tz7
attribute [go_sem] ld7 li7 st7 lE7 bd7 pl7_0 pl7_1 pl7_2 pl7_3 fa7_0 fi7_0 fE7_0 fl7_0 fa7_1 fi7_1 fE7_1 fl7_1 fa7_2 fi7_2 fE7_2 fl7_2 fa7_3 fi7_3 fE7_3 fl7_3 Td8 Tz8 ld8 li8 st8 lE8 bd8 pl8_0 pl8_1 pl8_2 pl8_3 fa8_0 fi8_0 fE8_0 fl8_0
attribute [go_sem] fa8_1 fi8_1 fE8_1 fl8_1 fa8_2 fi8_2 fE8_2 fl8_2 fa8_3 fi8_3 fE8_3 fl8_3 Td9 Tz9 ld9 li9 st9 ssn9 ssl9 ssb9 len9 ix9 Td10 Tz10 ld10 li10 st10 ssn10 ssl10 ssb10 len10 ix10 Td11 Tz11 ld11 li11 st11 ssn11 ssl11 ssb11
attribute [go_sem] len11 ix11 Td12 Tz12 ld12 li12 st12 Td13 Tz13 ld13 li13 st13 lE13 bd13 pl13_0 pl13_1 fa13_0 fi13_0 fE13_0 fl13_0 fa13_1 fi13_1 fE13_1 fl13_1 Td14 Tz14 ld14 li14 st14 lE14 bd14 pl14_0 pl14_1 fa14_0 fi14_0 fE14_0 fl14_0 fa14_1 fi14_1 fE14_1
attribute [go_sem] fl14_1 Td15 Tz15 ld15 li15 st15 peqn15 peqs15 pnen15 pnes15 Td16 Tz16 ld16 li16 st16 peqn16 peqs16 pnen16 pnes16 Td17 Tz17 ld17 li17 st17 peqn17 peqs17 pnen17 pnes17 Td18 Tz18 ld18 li18 st18 lE18 bd18 pl18_0 fa18_0 fi18_0 fE18_0 fl18_0
attribute [go_sem] Td19 Tz19 ld19 li19 st19 lE19 bd19 pl19_0 fa19_0 fi19_0 fE19_0 fl19_0 Td21 Tz21 ld21 li21 st21 Td22 Tz22 ld22 li22 st22 feqs22 feqn22 Td23 Tz23 ld23 li23 st23 feqs23 feqn23 Td24 Tz24 ld24 li24 st24 len24 ix24 br24 bs24
attribute [go_sem] sl24 sm24 sn24 cs24_9 cb9_24 cs24_10 cb10_24 cs24_11 cb11_24 eqn24 eqs24 eqi24 Td25 Tz25 ld25 li25 st25 feqs25 feqn25 Td26 Tz26 ld26 li26 st26 feqs26 feqn26 Td27 Tz27 ld27 li27 st27 feqs27 feqn27 Td28 Tz28 ld28 li28 st28 lI28 Td30
attribute [go_sem] Tz30 ld30 li30 st30 feqs30 feqn30 Td31 Tz31 ld31 li31 st31 feqs31 feqn31 Td32 Tz32 ld32 li32 st32 feqs32 feqn32 Td33 Tz33 ld33 li33 st33 len33 ix33 br33 bs33 sl33 sm33 sn33 eqn33 eqs33 eqi33 Td34 Tz34 ld34 li34 st34
attribute [go_sem] feqs34 feqn34 Td35 Tz35 ld35 li35 st35 feqs35 feqn35 Td36 Tz36 ld36 li36 st36 feqs36 feqn36 Td37 Tz37 ld37 li37 st37 feqs37 feqn37 Td38 Tz38 ld38 li38 st38 feqs38 feqn38 Td39 Tz39 ld39 li39 st39 feqs39 feqn39 Td41 Tz41 ld41
attribute [go_sem] li41 st41 feqs41 feqn41 Td42 Tz42 ld42 li42 st42 len42 ix42 br42 bs42 sl42 sm42 sn42 eqn42 eqs42 eqi42 Td43 Tz43 ld43 li43 st43 feqs43 feqn43 Td44 Tz44 ld44 li44 st44 feqs44 feqn44 Td45 Tz45 ld45 li45 st45 len45 ix45
attribute [go_sem] sl45 sm45 sn45 eqn45 eqs45 eqi45 Td46 Tz46 ld46 li46 st46 feqs46 feqn46 Td47 Tz47 ld47 li47 st47 feqs47 feqn47 Td48 Tz48 ld48 li48 st48 lE48 bd48 pl48_0 pl48_1 fa48_0 fi48_0 fE48_0 fl48_0 fa48_1 fi48_1 fE48_1 fl48_1 Td49 Tz49 ld49
attribute [go_sem] li49 st49 lE49 bd49 pl49_0 pl49_1 fa49_0 fi49_0 fE49_0 fl49_0 fa49_1 fi49_1 fE49_1 fl49_1 Td50 Tz50 ld50 li50 st50 len50 ix50 sl50 sm50 sn50 eqn50 eqs50 eqi50 Td51 Tz51 ld51 li51 st51 feqs51 feqn51 Td52 Tz52 ld52 li52 st52 Td53
attribute [go_sem] Tz53 ld53 li53 st53 lE53 bd53 pl53_0 pl53_1 fa53_0 fi53_0 fE53_0 fl53_0 fa53_1 fi53_1 fE53_1 fl53_1 Td54 Tz54 ld54 li54 st54 lE54 bd54 pl54_0 pl54_1 fa54_0 fi54_0 fE54_0 fl54_0 fa54_1 fi54_1 fE54_1 fl54_1 Td55 Tz55 ld55 li55 st55 feqs55 feqn55
attribute [go_sem] Td56 Tz56 ld56 li56 st56 len56 ix56 sl56 sm56 sn56 eqn56 eqs56 eqi56 Td57 Tz57 ld57 li57 st57 feqs57 feqn57 Td58 Tz58 ld58 li58 st58 lE58 bd58 pl58_0 pl58_1 fa58_0 fi58_0 fE58_0 fl58_0 fa58_1 fi58_1 fE58_1 fl58_1 Td59 Tz59 ld59
attribute [go_sem] li59 st59 lE59 bd59 pl59_0 pl59_1 fa59_0 fi59_0 fE59_0 fl59_0 fa59_1 fi59_1 fE59_1 fl59_1 Td60 Tz60 ld60 li60 st60 feqs60 feqn60 Td61 Tz61 ld61 li61 st61 lE61 bd61 pl61_0 pl61_1 pl61_2 pl61_3 fa61_0 fi61_0 fE61_0 fl61_0 fa61_1 fi61_1 fE61_1 fl61_1
attribute [go_sem] fa61_2 fi61_2 fE61_2 fl61_2 fa61_3 fi61_3 fE61_3 fl61_3 Td62 Tz62 ld62 li62 st62 lE62 bd62 pl62_0 pl62_1 pl62_2 pl62_3 fa62_0 fi62_0 fE62_0 fl62_0 fa62_1 fi62_1 fE62_1 fl62_1 fa62_2 fi62_2 fE62_2 fl62_2 fa62_3 fi62_3 fE62_3 fl62_3 Td63 Tz63 ld63 li63 st63
attribute [go_sem] lE63 Td64 Tz64 ld64 li64 st64 lE64 bd64 pl64_0 Td65 Tz65 ld65 li65 st65 lE65 bd65 pl65_0 Td66 Tz66 ld66 li66 st66 feqs66 feqn66 Td67 Tz67 ld67 li67 st67 Td68 Tz68 ld68 li68 st68 l868 Td69 Tz69 ld69 li69 st69
attribute [go_sem] l869 Td70 Tz70 ld70 li70 st70 feqs70 feqn70 Td71 Tz71 ld71 li71 st71 peqn71 peqs71 pnen71 pnes71 Td72 Tz72 ld72 li72 st72 Td73 Tz73 ld73 li73 st73 Td74 Tz74 ld74 li74 st74 lE74 bd74 pl74_0 pl74_1 pl74_2 pl74_3 pl74_4 pl74_5
attribute [go_sem] pl74_6 pl74_7 pl74_8 pl74_9 pl74_10 fa74_0 fi74_0 fE74_0 fl74_0 fa74_1 fi74_1 fE74_1 fl74_1 fa74_2 fi74_2 fE74_2 fl74_2 fa74_3 fi74_3 fE74_3 fl74_3 fa74_4 fi74_4 fE74_4 fl74_4 fa74_5 fi74_5 fE74_5 fl74_5 fa74_6 fi74_6 fE74_6 fl74_6 fa74_7 fi74_7 fE74_7 fl74_7 fa74_8 fi74_8 fE74_8
attribute [go_sem] fl74_8 fa74_9 fi74_9 fE74_9 fl74_9 fa74_10 fi74_10 fE74_10 fl74_10 Td75 Tz75 ld75 li75 st75 lE75 bd75 pl75_0 pl75_1 pl75_2 pl75_3 pl75_4 pl75_5 pl75_6 pl75_7 pl75_8 pl75_9 pl75_10 fa75_0 fi75_0 fE75_0 fl75_0 fa75_1 fi75_1 fE75_1 fl75_1 fa75_2 fi75_2 fE75_2 fl75_2 fa75_3
attribute [go_sem] fi75_3 fE75_3 fl75_3 fa75_4 fi75_4 fE75_4 fl75_4 fa75_5 fi75_5 fE75_5 fl75_5 fa75_6 fi75_6 fE75_6 fl75_6 fa75_7 fi75_7 fE75_7 fl75_7 fa75_8 fi75_8 fE75_8 fl75_8 fa75_9 fi75_9 fE75_9 fl75_9 fa75_10 fi75_10 fE75_10 fl75_10 ci2 ci3 ci5 ci6 ci12 ci21 ci28 ci52 ci67
attribute [go_sem] ci68 ci69 ci72 ci73
end Try
end Go.Proofs
