/- The types of the program as rewriting rules: written by a program (mkf.py). -/
import Derived.Test.YtmpeofjfagdgkaaAbsB
import Derived.Test.YtmpeofjfagdgkaaAbsTpu
set_option linter.unusedVariables false
namespace Go.Proofs
open Go.Abs
namespace Try
section tf
variable {h h' : AH} {i o : Nat} {v a : AV} {row cs : List AV} {α : Type} {E : Enc α} {l : List α} {j : Int} {off0 : Nat} {k : IntKind} {s : List UInt8} {x y : Int}
theorem Td1 : (Try.T 1).desc = .func := rfl
theorem Tz1 : (Try.T 1).zero = [.nilFunc] := rfl
theorem ld1 : loadA Try.T h 1 (.ptr (some (i, o))) = rd1 o (h.get i) := ld_1 rfl rfl
theorem li1 : loadA Try.T h 1 (.iptr row o) = row[o]? := ldi_1 rfl rfl
theorem st1 : storeA Try.T h 1 (.ptr (some (i, o))) v = stC h i o 1 v.cells := st_n rfl rfl
theorem feqs1 {f : FuncId} : binA Try.T .eql 1 (.func f cs) .nilFunc = some (.bool false) := fn_eqs rfl
theorem feqn1 : binA Try.T .eql 1 .nilFunc .nilFunc = some (.bool true) := fn_eqn rfl
theorem Td2 : (Try.T 2).desc = .int .i64 := rfl
theorem Tz2 : (Try.T 2).zero = [.int .i64 0] := rfl
theorem ld2 : loadA Try.T h 2 (.ptr (some (i, o))) = rd1 o (h.get i) := ld_1 rfl rfl
theorem li2 : loadA Try.T h 2 (.iptr row o) = row[o]? := ldi_1 rfl rfl
theorem st2 : storeA Try.T h 2 (.ptr (some (i, o))) v = stC h i o 1 v.cells := st_n rfl rfl
theorem lI2 {l : List Int} (p : Sl EI h i a l) (h0 : 0 ≤ j) (h1 : j < l.length) : loadA Try.T h 2 (a.at EI.sz 0 j) = some (.int .i64 (l[j.toNat]!)) := p.ldI h0 h1 rfl rfl
theorem Td3 : (Try.T 3).desc = .int .i64 := rfl
theorem Tz3 : (Try.T 3).zero = [.int .i64 0] := rfl
theorem ld3 : loadA Try.T h 3 (.ptr (some (i, o))) = rd1 o (h.get i) := ld_1 rfl rfl
theorem li3 : loadA Try.T h 3 (.iptr row o) = row[o]? := ldi_1 rfl rfl
theorem st3 : storeA Try.T h 3 (.ptr (some (i, o))) v = stC h i o 1 v.cells := st_n rfl rfl
theorem lI3 {l : List Int} (p : Sl EI h i a l) (h0 : 0 ≤ j) (h1 : j < l.length) : loadA Try.T h 3 (a.at EI.sz 0 j) = some (.int .i64 (l[j.toNat]!)) := p.ldI h0 h1 rfl rfl
theorem Td4 : (Try.T 4).desc = .bool := rfl
theorem Tz4 : (Try.T 4).zero = [.bool false] := rfl
theorem ld4 : loadA Try.T h 4 (.ptr (some (i, o))) = rd1 o (h.get i) := ld_1 rfl rfl
theorem li4 : loadA Try.T h 4 (.iptr row o) = row[o]? := ldi_1 rfl rfl
theorem st4 : storeA Try.T h 4 (.ptr (some (i, o))) v = stC h i o 1 v.cells := st_n rfl rfl
theorem beql4 {x y : Bool} : binA Try.T .eql 4 (.bool x) (.bool y) = some (.bool (x == y)) := bool_eql rfl
theorem bneq4 {x y : Bool} : binA Try.T .neq 4 (.bool x) (.bool y) = some (.bool (!(x == y))) := bool_neq rfl
theorem Td5 : (Try.T 5).desc = .int .u8 := rfl
theorem Tz5 : (Try.T 5).zero = [.int .u8 0] := rfl
theorem ld5 : loadA Try.T h 5 (.ptr (some (i, o))) = rd1 o (h.get i) := ld_1 rfl rfl
theorem li5 : loadA Try.T h 5 (.iptr row o) = row[o]? := ldi_1 rfl rfl
theorem st5 : storeA Try.T h 5 (.ptr (some (i, o))) v = stC h i o 1 v.cells := st_n rfl rfl
theorem l85 {l : List UInt8} (p : Sl E8 h i a l) (h0 : 0 ≤ j) (h1 : j < l.length) : loadA Try.T h 5 (a.at E8.sz 0 j) = some (.int .u8 ((l[j.toNat]!).toNat : Int)) := p.ld8 h0 h1 rfl rfl
theorem Td6 : (Try.T 6).desc = .int .u8 := rfl
theorem Tz6 : (Try.T 6).zero = [.int .u8 0] := rfl
theorem ld6 : loadA Try.T h 6 (.ptr (some (i, o))) = rd1 o (h.get i) := ld_1 rfl rfl
theorem li6 : loadA Try.T h 6 (.iptr row o) = row[o]? := ldi_1 rfl rfl
theorem st6 : storeA Try.T h 6 (.ptr (some (i, o))) v = stC h i o 1 v.cells := st_n rfl rfl
theorem l86 {l : List UInt8} (p : Sl E8 h i a l) (h0 : 0 ≤ j) (h1 : j < l.length) : loadA Try.T h 6 (a.at E8.sz 0 j) = some (.int .u8 ((l[j.toNat]!).toNat : Int)) := p.ld8 h0 h1 rfl rfl
theorem Td7 : (Try.T 7).desc = .struct [(2, 0, true), (3, 1, true), (4, 2, true), (6, 3, true)] := rfl
theorem Tz7 : (Try.T 7).zero = [.int .i64 0, .int .i64 0, .bool false, .int .u8 0] := rfl
theorem ld7 : loadA Try.T h 7 (.ptr (some (i, o))) = rdN o 4 (h.get i) := ld_n rfl rfl rfl
theorem li7 : loadA Try.T h 7 (.iptr row o) = (cut row o 4).map .agg := ldi_n rfl rfl rfl
theorem st7 : storeA Try.T h 7 (.ptr (some (i, o))) v = stC h i o 4 v.cells := st_n rfl rfl
theorem lE7 [Inhabited α] (p : Sl E h i a l) (h0 : 0 ≤ j) (h1 : j < l.length) (h4 : Seen (Nat.beq E.sz 4)) : loadA Try.T h 7 (a.at E.sz 0 j) = some (.agg (E.f (l[j.toNat]!))) := p.ldn h0 h1 rfl rfl (Nat.eq_of_beq_eq_true h4.eq).symm
theorem bd7 {l : List (Nat × AV)} : bldR Try.T 7 (some l) = (fillA (plA Try.T 7) (Try.T 7).zero l).map .agg := bld_eq rfl
theorem pl7_0 : plA Try.T 7 0 = some (0, 1) := rfl
theorem pl7_1 : plA Try.T 7 1 = some (1, 1) := rfl
theorem pl7_2 : plA Try.T 7 2 = some (2, 1) := rfl
theorem pl7_3 : plA Try.T 7 3 = some (3, 1) := rfl
theorem fa7_0 : faR Try.T 7 0 (some (.ptr (some (i, o)))) = some (.ptr (some (i, o + 0))) := fa_ptr rfl (by decide) rfl
theorem fi7_0 : faR Try.T 7 0 (some (.iptr row o)) = some (.iptr row (o + 0)) := fa_iptr rfl (by decide) rfl
theorem fE7_0 (p : Sl E h i a l) (h0 : 0 ≤ j) (h1 : j < l.length) : faR Try.T 7 0 (some (a.at E.sz off0 j)) = some (a.at E.sz (off0 + 0) j) := p.fa h0 h1 rfl (by decide) rfl
theorem fl7_0 : fldR Try.T 7 0 (some (.agg cs)) = cs[0]? := fld_1 rfl rfl rfl
theorem fa7_1 : faR Try.T 7 1 (some (.ptr (some (i, o)))) = some (.ptr (some (i, o + 1))) := fa_ptr rfl (by decide) rfl
theorem fi7_1 : faR Try.T 7 1 (some (.iptr row o)) = some (.iptr row (o + 1)) := fa_iptr rfl (by decide) rfl
theorem fE7_1 (p : Sl E h i a l) (h0 : 0 ≤ j) (h1 : j < l.length) : faR Try.T 7 1 (some (a.at E.sz off0 j)) = some (a.at E.sz (off0 + 1) j) := p.fa h0 h1 rfl (by decide) rfl
theorem fl7_1 : fldR Try.T 7 1 (some (.agg cs)) = cs[1]? := fld_1 rfl rfl rfl
theorem fa7_2 : faR Try.T 7 2 (some (.ptr (some (i, o)))) = some (.ptr (some (i, o + 2))) := fa_ptr rfl (by decide) rfl
theorem fi7_2 : faR Try.T 7 2 (some (.iptr row o)) = some (.iptr row (o + 2)) := fa_iptr rfl (by decide) rfl
theorem fE7_2 (p : Sl E h i a l) (h0 : 0 ≤ j) (h1 : j < l.length) : faR Try.T 7 2 (some (a.at E.sz off0 j)) = some (a.at E.sz (off0 + 2) j) := p.fa h0 h1 rfl (by decide) rfl
theorem fl7_2 : fldR Try.T 7 2 (some (.agg cs)) = cs[2]? := fld_1 rfl rfl rfl
theorem fa7_3 : faR Try.T 7 3 (some (.ptr (some (i, o)))) = some (.ptr (some (i, o + 3))) := fa_ptr rfl (by decide) rfl
theorem fi7_3 : faR Try.T 7 3 (some (.iptr row o)) = some (.iptr row (o + 3)) := fa_iptr rfl (by decide) rfl
theorem fE7_3 (p : Sl E h i a l) (h0 : 0 ≤ j) (h1 : j < l.length) : faR Try.T 7 3 (some (a.at E.sz off0 j)) = some (a.at E.sz (off0 + 3) j) := p.fa h0 h1 rfl (by decide) rfl
theorem fl7_3 : fldR Try.T 7 3 (some (.agg cs)) = cs[3]? := fld_1 rfl rfl rfl
theorem Td8 : (Try.T 8).desc = .struct [(2, 0, true), (3, 1, true), (4, 2, true), (6, 3, true)] := rfl
theorem Tz8 : (Try.T 8).zero = [.int .i64 0, .int .i64 0, .bool false, .int .u8 0] := rfl
theorem ld8 : loadA Try.T h 8 (.ptr (some (i, o))) = rdN o 4 (h.get i) := ld_n rfl rfl rfl
theorem li8 : loadA Try.T h 8 (.iptr row o) = (cut row o 4).map .agg := ldi_n rfl rfl rfl
theorem st8 : storeA Try.T h 8 (.ptr (some (i, o))) v = stC h i o 4 v.cells := st_n rfl rfl
theorem lE8 [Inhabited α] (p : Sl E h i a l) (h0 : 0 ≤ j) (h1 : j < l.length) (h4 : Seen (Nat.beq E.sz 4)) : loadA Try.T h 8 (a.at E.sz 0 j) = some (.agg (E.f (l[j.toNat]!))) := p.ldn h0 h1 rfl rfl (Nat.eq_of_beq_eq_true h4.eq).symm
theorem bd8 {l : List (Nat × AV)} : bldR Try.T 8 (some l) = (fillA (plA Try.T 8) (Try.T 8).zero l).map .agg := bld_eq rfl
theorem pl8_0 : plA Try.T 8 0 = some (0, 1) := rfl
theorem pl8_1 : plA Try.T 8 1 = some (1, 1) := rfl
theorem pl8_2 : plA Try.T 8 2 = some (2, 1) := rfl
theorem pl8_3 : plA Try.T 8 3 = some (3, 1) := rfl
theorem fa8_0 : faR Try.T 8 0 (some (.ptr (some (i, o)))) = some (.ptr (some (i, o + 0))) := fa_ptr rfl (by decide) rfl
theorem fi8_0 : faR Try.T 8 0 (some (.iptr row o)) = some (.iptr row (o + 0)) := fa_iptr rfl (by decide) rfl
theorem fE8_0 (p : Sl E h i a l) (h0 : 0 ≤ j) (h1 : j < l.length) : faR Try.T 8 0 (some (a.at E.sz off0 j)) = some (a.at E.sz (off0 + 0) j) := p.fa h0 h1 rfl (by decide) rfl
theorem fl8_0 : fldR Try.T 8 0 (some (.agg cs)) = cs[0]? := fld_1 rfl rfl rfl
theorem fa8_1 : faR Try.T 8 1 (some (.ptr (some (i, o)))) = some (.ptr (some (i, o + 1))) := fa_ptr rfl (by decide) rfl
theorem fi8_1 : faR Try.T 8 1 (some (.iptr row o)) = some (.iptr row (o + 1)) := fa_iptr rfl (by decide) rfl
theorem fE8_1 (p : Sl E h i a l) (h0 : 0 ≤ j) (h1 : j < l.length) : faR Try.T 8 1 (some (a.at E.sz off0 j)) = some (a.at E.sz (off0 + 1) j) := p.fa h0 h1 rfl (by decide) rfl
theorem fl8_1 : fldR Try.T 8 1 (some (.agg cs)) = cs[1]? := fld_1 rfl rfl rfl
theorem fa8_2 : faR Try.T 8 2 (some (.ptr (some (i, o)))) = some (.ptr (some (i, o + 2))) := fa_ptr rfl (by decide) rfl
theorem fi8_2 : faR Try.T 8 2 (some (.iptr row o)) = some (.iptr row (o + 2)) := fa_iptr rfl (by decide) rfl
theorem fE8_2 (p : Sl E h i a l) (h0 : 0 ≤ j) (h1 : j < l.length) : faR Try.T 8 2 (some (a.at E.sz off0 j)) = some (a.at E.sz (off0 + 2) j) := p.fa h0 h1 rfl (by decide) rfl
theorem fl8_2 : fldR Try.T 8 2 (some (.agg cs)) = cs[2]? := fld_1 rfl rfl rfl
theorem fa8_3 : faR Try.T 8 3 (some (.ptr (some (i, o)))) = some (.ptr (some (i, o + 3))) := fa_ptr rfl (by decide) rfl
theorem fi8_3 : faR Try.T 8 3 (some (.iptr row o)) = some (.iptr row (o + 3)) := fa_iptr rfl (by decide) rfl
theorem fE8_3 (p : Sl E h i a l) (h0 : 0 ≤ j) (h1 : j < l.length) : faR Try.T 8 3 (some (a.at E.sz off0 j)) = some (a.at E.sz (off0 + 3) j) := p.fa h0 h1 rfl (by decide) rfl
theorem fl8_3 : fldR Try.T 8 3 (some (.agg cs)) = cs[3]? := fld_1 rfl rfl rfl
theorem Td9 : (Try.T 9).desc = .string := rfl
theorem Tz9 : (Try.T 9).zero = [.str []] := rfl
theorem ld9 : loadA Try.T h 9 (.ptr (some (i, o))) = rd1 o (h.get i) := ld_1 rfl rfl
theorem li9 : loadA Try.T h 9 (.iptr row o) = row[o]? := ldi_1 rfl rfl
theorem st9 : storeA Try.T h 9 (.ptr (some (i, o))) v = stC h i o 1 v.cells := st_n rfl rfl
theorem ssn9 (h0 : 0 ≤ y) (h1 : y ≤ s.length) : sliceA Try.T 9 (.str s) none (some y) none = some (.str (s.take y.toNat)) := ss_n rfl h0 h1
theorem ssl9 (h0 : 0 ≤ x) (h1 : x ≤ s.length) : sliceA Try.T 9 (.str s) (some x) none none = some (.str (s.drop x.toNat)) := ss_l rfl h0 h1
theorem ssb9 (h0 : 0 ≤ x) (h1 : x ≤ y) (h2 : y ≤ s.length) : sliceA Try.T 9 (.str s) (some x) (some y) none = some (.str ((s.drop x.toNat).take (y.toNat - x.toNat))) := ss_b rfl h0 h1 h2
theorem len9 : builtinA Try.T h .len [9] [.str s] = some (.int .i64 (s.length : Int), h) := len_str .mk
theorem ix9 (h0 : 0 ≤ j) (h1 : j < s.length) : ixR Try.T 9 (some (.str s)) (some (.int k j)) = some (.int .u8 ((s[j.toNat]!).toNat : Int)) := ix_str .mk h0 h1
theorem Td10 : (Try.T 10).desc = .string := rfl
theorem Tz10 : (Try.T 10).zero = [.str []] := rfl
theorem ld10 : loadA Try.T h 10 (.ptr (some (i, o))) = rd1 o (h.get i) := ld_1 rfl rfl
theorem li10 : loadA Try.T h 10 (.iptr row o) = row[o]? := ldi_1 rfl rfl
theorem st10 : storeA Try.T h 10 (.ptr (some (i, o))) v = stC h i o 1 v.cells := st_n rfl rfl
theorem ssn10 (h0 : 0 ≤ y) (h1 : y ≤ s.length) : sliceA Try.T 10 (.str s) none (some y) none = some (.str (s.take y.toNat)) := ss_n rfl h0 h1
theorem ssl10 (h0 : 0 ≤ x) (h1 : x ≤ s.length) : sliceA Try.T 10 (.str s) (some x) none none = some (.str (s.drop x.toNat)) := ss_l rfl h0 h1
theorem ssb10 (h0 : 0 ≤ x) (h1 : x ≤ y) (h2 : y ≤ s.length) : sliceA Try.T 10 (.str s) (some x) (some y) none = some (.str ((s.drop x.toNat).take (y.toNat - x.toNat))) := ss_b rfl h0 h1 h2
theorem len10 : builtinA Try.T h .len [10] [.str s] = some (.int .i64 (s.length : Int), h) := len_str .mk
theorem ix10 (h0 : 0 ≤ j) (h1 : j < s.length) : ixR Try.T 10 (some (.str s)) (some (.int k j)) = some (.int .u8 ((s[j.toNat]!).toNat : Int)) := ix_str .mk h0 h1
theorem Td11 : (Try.T 11).desc = .string := rfl
theorem Tz11 : (Try.T 11).zero = [.str []] := rfl
theorem ld11 : loadA Try.T h 11 (.ptr (some (i, o))) = rd1 o (h.get i) := ld_1 rfl rfl
theorem li11 : loadA Try.T h 11 (.iptr row o) = row[o]? := ldi_1 rfl rfl
theorem st11 : storeA Try.T h 11 (.ptr (some (i, o))) v = stC h i o 1 v.cells := st_n rfl rfl
theorem ssn11 (h0 : 0 ≤ y) (h1 : y ≤ s.length) : sliceA Try.T 11 (.str s) none (some y) none = some (.str (s.take y.toNat)) := ss_n rfl h0 h1
theorem ssl11 (h0 : 0 ≤ x) (h1 : x ≤ s.length) : sliceA Try.T 11 (.str s) (some x) none none = some (.str (s.drop x.toNat)) := ss_l rfl h0 h1
theorem ssb11 (h0 : 0 ≤ x) (h1 : x ≤ y) (h2 : y ≤ s.length) : sliceA Try.T 11 (.str s) (some x) (some y) none = some (.str ((s.drop x.toNat).take (y.toNat - x.toNat))) := ss_b rfl h0 h1 h2
theorem len11 : builtinA Try.T h .len [11] [.str s] = some (.int .i64 (s.length : Int), h) := len_str .mk
theorem ix11 (h0 : 0 ≤ j) (h1 : j < s.length) : ixR Try.T 11 (some (.str s)) (some (.int k j)) = some (.int .u8 ((s[j.toNat]!).toNat : Int)) := ix_str .mk h0 h1
theorem Td12 : (Try.T 12).desc = .int .u64 := rfl
theorem Tz12 : (Try.T 12).zero = [.int .u64 0] := rfl
theorem ld12 : loadA Try.T h 12 (.ptr (some (i, o))) = rd1 o (h.get i) := ld_1 rfl rfl
theorem li12 : loadA Try.T h 12 (.iptr row o) = row[o]? := ldi_1 rfl rfl
theorem st12 : storeA Try.T h 12 (.ptr (some (i, o))) v = stC h i o 1 v.cells := st_n rfl rfl
theorem Td13 : (Try.T 13).desc = .struct [(9, 0, true), (12, 1, true)] := rfl
theorem Tz13 : (Try.T 13).zero = [.str [], .int .u64 0] := rfl
theorem ld13 : loadA Try.T h 13 (.ptr (some (i, o))) = rdN o 2 (h.get i) := ld_n rfl rfl rfl
theorem li13 : loadA Try.T h 13 (.iptr row o) = (cut row o 2).map .agg := ldi_n rfl rfl rfl
theorem st13 : storeA Try.T h 13 (.ptr (some (i, o))) v = stC h i o 2 v.cells := st_n rfl rfl
theorem lE13 [Inhabited α] (p : Sl E h i a l) (h0 : 0 ≤ j) (h1 : j < l.length) (h4 : Seen (Nat.beq E.sz 2)) : loadA Try.T h 13 (a.at E.sz 0 j) = some (.agg (E.f (l[j.toNat]!))) := p.ldn h0 h1 rfl rfl (Nat.eq_of_beq_eq_true h4.eq).symm
theorem bd13 {l : List (Nat × AV)} : bldR Try.T 13 (some l) = (fillA (plA Try.T 13) (Try.T 13).zero l).map .agg := bld_eq rfl
theorem pl13_0 : plA Try.T 13 0 = some (0, 1) := rfl
theorem pl13_1 : plA Try.T 13 1 = some (1, 1) := rfl
theorem fa13_0 : faR Try.T 13 0 (some (.ptr (some (i, o)))) = some (.ptr (some (i, o + 0))) := fa_ptr rfl (by decide) rfl
theorem fi13_0 : faR Try.T 13 0 (some (.iptr row o)) = some (.iptr row (o + 0)) := fa_iptr rfl (by decide) rfl
theorem fE13_0 (p : Sl E h i a l) (h0 : 0 ≤ j) (h1 : j < l.length) : faR Try.T 13 0 (some (a.at E.sz off0 j)) = some (a.at E.sz (off0 + 0) j) := p.fa h0 h1 rfl (by decide) rfl
theorem fl13_0 : fldR Try.T 13 0 (some (.agg cs)) = cs[0]? := fld_1 rfl rfl rfl
theorem fa13_1 : faR Try.T 13 1 (some (.ptr (some (i, o)))) = some (.ptr (some (i, o + 1))) := fa_ptr rfl (by decide) rfl
theorem fi13_1 : faR Try.T 13 1 (some (.iptr row o)) = some (.iptr row (o + 1)) := fa_iptr rfl (by decide) rfl
theorem fE13_1 (p : Sl E h i a l) (h0 : 0 ≤ j) (h1 : j < l.length) : faR Try.T 13 1 (some (a.at E.sz off0 j)) = some (a.at E.sz (off0 + 1) j) := p.fa h0 h1 rfl (by decide) rfl
theorem fl13_1 : fldR Try.T 13 1 (some (.agg cs)) = cs[1]? := fld_1 rfl rfl rfl
theorem Td14 : (Try.T 14).desc = .struct [(9, 0, true), (12, 1, true)] := rfl
theorem Tz14 : (Try.T 14).zero = [.str [], .int .u64 0] := rfl
theorem ld14 : loadA Try.T h 14 (.ptr (some (i, o))) = rdN o 2 (h.get i) := ld_n rfl rfl rfl
theorem li14 : loadA Try.T h 14 (.iptr row o) = (cut row o 2).map .agg := ldi_n rfl rfl rfl
theorem st14 : storeA Try.T h 14 (.ptr (some (i, o))) v = stC h i o 2 v.cells := st_n rfl rfl
theorem lE14 [Inhabited α] (p : Sl E h i a l) (h0 : 0 ≤ j) (h1 : j < l.length) (h4 : Seen (Nat.beq E.sz 2)) : loadA Try.T h 14 (a.at E.sz 0 j) = some (.agg (E.f (l[j.toNat]!))) := p.ldn h0 h1 rfl rfl (Nat.eq_of_beq_eq_true h4.eq).symm
theorem bd14 {l : List (Nat × AV)} : bldR Try.T 14 (some l) = (fillA (plA Try.T 14) (Try.T 14).zero l).map .agg := bld_eq rfl
theorem pl14_0 : plA Try.T 14 0 = some (0, 1) := rfl
theorem pl14_1 : plA Try.T 14 1 = some (1, 1) := rfl
theorem fa14_0 : faR Try.T 14 0 (some (.ptr (some (i, o)))) = some (.ptr (some (i, o + 0))) := fa_ptr rfl (by decide) rfl
theorem fi14_0 : faR Try.T 14 0 (some (.iptr row o)) = some (.iptr row (o + 0)) := fa_iptr rfl (by decide) rfl
theorem fE14_0 (p : Sl E h i a l) (h0 : 0 ≤ j) (h1 : j < l.length) : faR Try.T 14 0 (some (a.at E.sz off0 j)) = some (a.at E.sz (off0 + 0) j) := p.fa h0 h1 rfl (by decide) rfl
theorem fl14_0 : fldR Try.T 14 0 (some (.agg cs)) = cs[0]? := fld_1 rfl rfl rfl
theorem fa14_1 : faR Try.T 14 1 (some (.ptr (some (i, o)))) = some (.ptr (some (i, o + 1))) := fa_ptr rfl (by decide) rfl
theorem fi14_1 : faR Try.T 14 1 (some (.iptr row o)) = some (.iptr row (o + 1)) := fa_iptr rfl (by decide) rfl
theorem fE14_1 (p : Sl E h i a l) (h0 : 0 ≤ j) (h1 : j < l.length) : faR Try.T 14 1 (some (a.at E.sz off0 j)) = some (a.at E.sz (off0 + 1) j) := p.fa h0 h1 rfl (by decide) rfl
theorem fl14_1 : fldR Try.T 14 1 (some (.agg cs)) = cs[1]? := fld_1 rfl rfl rfl
theorem Td15 : (Try.T 15).desc = .pointer 141 := rfl
theorem Tz15 : (Try.T 15).zero = [.ptr none] := rfl
theorem ld15 : loadA Try.T h 15 (.ptr (some (i, o))) = rd1 o (h.get i) := ld_1 rfl rfl
theorem li15 : loadA Try.T h 15 (.iptr row o) = row[o]? := ldi_1 rfl rfl
theorem st15 : storeA Try.T h 15 (.ptr (some (i, o))) v = stC h i o 1 v.cells := st_n rfl rfl
theorem peqn15 : binA Try.T .eql 15 (.ptr none) (.ptr none) = some (.bool true) := pt_eqn rfl
theorem peqs15 {p : Nat × Nat} : binA Try.T .eql 15 (.ptr (some p)) (.ptr none) = some (.bool false) := pt_eqs rfl
theorem pnen15 : binA Try.T .neq 15 (.ptr none) (.ptr none) = some (.bool false) := pt_nen rfl
theorem pnes15 {p : Nat × Nat} : binA Try.T .neq 15 (.ptr (some p)) (.ptr none) = some (.bool true) := pt_nes rfl
theorem Td16 : (Try.T 16).desc = .pointer 144 := rfl
theorem Tz16 : (Try.T 16).zero = [.ptr none] := rfl
theorem ld16 : loadA Try.T h 16 (.ptr (some (i, o))) = rd1 o (h.get i) := ld_1 rfl rfl
theorem li16 : loadA Try.T h 16 (.iptr row o) = row[o]? := ldi_1 rfl rfl
theorem st16 : storeA Try.T h 16 (.ptr (some (i, o))) v = stC h i o 1 v.cells := st_n rfl rfl
theorem peqn16 : binA Try.T .eql 16 (.ptr none) (.ptr none) = some (.bool true) := pt_eqn rfl
theorem peqs16 {p : Nat × Nat} : binA Try.T .eql 16 (.ptr (some p)) (.ptr none) = some (.bool false) := pt_eqs rfl
theorem pnen16 : binA Try.T .neq 16 (.ptr none) (.ptr none) = some (.bool false) := pt_nen rfl
theorem pnes16 {p : Nat × Nat} : binA Try.T .neq 16 (.ptr (some p)) (.ptr none) = some (.bool true) := pt_nes rfl
theorem Td17 : (Try.T 17).desc = .pointer 152 := rfl
theorem Tz17 : (Try.T 17).zero = [.ptr none] := rfl
theorem ld17 : loadA Try.T h 17 (.ptr (some (i, o))) = rd1 o (h.get i) := ld_1 rfl rfl
theorem li17 : loadA Try.T h 17 (.iptr row o) = row[o]? := ldi_1 rfl rfl
theorem st17 : storeA Try.T h 17 (.ptr (some (i, o))) v = stC h i o 1 v.cells := st_n rfl rfl
theorem peqn17 : binA Try.T .eql 17 (.ptr none) (.ptr none) = some (.bool true) := pt_eqn rfl
theorem peqs17 {p : Nat × Nat} : binA Try.T .eql 17 (.ptr (some p)) (.ptr none) = some (.bool false) := pt_eqs rfl
theorem pnen17 : binA Try.T .neq 17 (.ptr none) (.ptr none) = some (.bool false) := pt_nen rfl
theorem pnes17 {p : Nat × Nat} : binA Try.T .neq 17 (.ptr (some p)) (.ptr none) = some (.bool true) := pt_nes rfl
theorem Td19 : (Try.T 19).desc = .struct [(17, 0, true)] := rfl
theorem Tz19 : (Try.T 19).zero = [.ptr none] := rfl
theorem ld19 : loadA Try.T h 19 (.ptr (some (i, o))) = rdN o 1 (h.get i) := ld_n rfl rfl rfl
theorem li19 : loadA Try.T h 19 (.iptr row o) = (cut row o 1).map .agg := ldi_n rfl rfl rfl
theorem st19 : storeA Try.T h 19 (.ptr (some (i, o))) v = stC h i o 1 v.cells := st_n rfl rfl
theorem lE19 [Inhabited α] (p : Sl E h i a l) (h0 : 0 ≤ j) (h1 : j < l.length) (h4 : Seen (Nat.beq E.sz 1)) : loadA Try.T h 19 (a.at E.sz 0 j) = some (.agg (E.f (l[j.toNat]!))) := p.ldn h0 h1 rfl rfl (Nat.eq_of_beq_eq_true h4.eq).symm
theorem bd19 {l : List (Nat × AV)} : bldR Try.T 19 (some l) = (fillA (plA Try.T 19) (Try.T 19).zero l).map .agg := bld_eq rfl
theorem pl19_0 : plA Try.T 19 0 = some (0, 1) := rfl
theorem fa19_0 : faR Try.T 19 0 (some (.ptr (some (i, o)))) = some (.ptr (some (i, o + 0))) := fa_ptr rfl (by decide) rfl
theorem fi19_0 : faR Try.T 19 0 (some (.iptr row o)) = some (.iptr row (o + 0)) := fa_iptr rfl (by decide) rfl
theorem fE19_0 (p : Sl E h i a l) (h0 : 0 ≤ j) (h1 : j < l.length) : faR Try.T 19 0 (some (a.at E.sz off0 j)) = some (a.at E.sz (off0 + 0) j) := p.fa h0 h1 rfl (by decide) rfl
theorem fl19_0 : fldR Try.T 19 0 (some (.agg cs)) = cs[0]? := fld_1 rfl rfl rfl
theorem Td21 : (Try.T 21).desc = .int .i32 := rfl
theorem Tz21 : (Try.T 21).zero = [.int .i32 0] := rfl
theorem ld21 : loadA Try.T h 21 (.ptr (some (i, o))) = rd1 o (h.get i) := ld_1 rfl rfl
theorem li21 : loadA Try.T h 21 (.iptr row o) = row[o]? := ldi_1 rfl rfl
theorem st21 : storeA Try.T h 21 (.ptr (some (i, o))) v = stC h i o 1 v.cells := st_n rfl rfl
theorem Td22 : (Try.T 22).desc = .slice 30 := rfl
theorem Tz22 : (Try.T 22).zero = [.slice none 0 0 0 true] := rfl
theorem ld22 : loadA Try.T h 22 (.ptr (some (i, o))) = rd1 o (h.get i) := ld_1 rfl rfl
theorem li22 : loadA Try.T h 22 (.iptr row o) = row[o]? := ldi_1 rfl rfl
theorem st22 : storeA Try.T h 22 (.ptr (some (i, o))) v = stC h i o 1 v.cells := st_n rfl rfl
theorem len22 (p : Sl E h i a l) : builtinA Try.T h' .len [22] [a] = some (.int .i64 (l.length : Int), h') := p.len rfl
theorem ix22 (p : Sl E h i a l) (h0 : 0 ≤ j) (h1 : j < l.length) (h2 : Seen (Nat.beq E.sz 3)) : idxA Try.T 22 a (.int k j) = some (a.at E.sz 0 j) := p.idx h0 h1 rfl rfl (Nat.eq_of_beq_eq_true h2.eq).symm
theorem wr30 {P : Program} {ops : Array Oper} {L : List Oper} {K : Tm → AH → Prop} {d : Option Nat} {tm : Tm} (p : Ow E h i a l) (x : α) (hx : v.cells = E.f x) (h0 : 0 ≤ j) (h1 : j < l.length) (h2 : Seen (Nat.beq E.sz 3)) (hk : ∀ h', Ow E h' i a (l.set j.toNat x) → h'.size = h.size → (∀ b, ¬ b = i → h'.get b = h.get b) → putM P Try.T ops L K d tm undefA h') : ansM P Try.T ops L K d tm h ((storeA Try.T h 30 (a.at E.sz 0 j) v).map fun h' => .val undefA h') :=
  ans_wr p x hx h0 h1 rfl (Nat.eq_of_beq_eq_true h2.eq).symm hk
theorem w30_0_3 {P : Program} {ops : Array Oper} {L : List Oper} {K : Tm → AH → Prop} {d : Option Nat} {tm : Tm} [Inhabited α] (p : Ow E h i a l) (x : α) (hx : E.f x = (E.f (l[j.toNat]!)).set 0 v) (hv : v.cells = [v]) (hv1 : v.one = true) (h0 : 0 ≤ j) (h1 : j < l.length) (h2 : Seen (Nat.blt 0 E.sz)) (hk : ∀ h', Ow E h' i a (l.set j.toNat x) → h'.size = h.size → (∀ b, ¬ b = i → h'.get b = h.get b) → putM P Try.T ops L K d tm undefA h') : ansM P Try.T ops L K d tm h ((storeA Try.T h 3 (a.at E.sz 0 j) v).map fun h' => .val undefA h') :=
  ans_wr1 p x hx hv hv1 (by simpa [Nat.blt_eq] using h2.eq) h0 h1 rfl rfl hk
theorem w30_1_2 {P : Program} {ops : Array Oper} {L : List Oper} {K : Tm → AH → Prop} {d : Option Nat} {tm : Tm} [Inhabited α] (p : Ow E h i a l) (x : α) (hx : E.f x = (E.f (l[j.toNat]!)).set 1 v) (hv : v.cells = [v]) (hv1 : v.one = true) (h0 : 0 ≤ j) (h1 : j < l.length) (h2 : Seen (Nat.blt 1 E.sz)) (hk : ∀ h', Ow E h' i a (l.set j.toNat x) → h'.size = h.size → (∀ b, ¬ b = i → h'.get b = h.get b) → putM P Try.T ops L K d tm undefA h') : ansM P Try.T ops L K d tm h ((storeA Try.T h 2 (a.at E.sz 1 j) v).map fun h' => .val undefA h') :=
  ans_wr1 p x hx hv hv1 (by simpa [Nat.blt_eq] using h2.eq) h0 h1 rfl rfl hk
theorem w30_2_28 {P : Program} {ops : Array Oper} {L : List Oper} {K : Tm → AH → Prop} {d : Option Nat} {tm : Tm} [Inhabited α] (p : Ow E h i a l) (x : α) (hx : E.f x = (E.f (l[j.toNat]!)).set 2 v) (hv : v.cells = [v]) (hv1 : v.one = true) (h0 : 0 ≤ j) (h1 : j < l.length) (h2 : Seen (Nat.blt 2 E.sz)) (hk : ∀ h', Ow E h' i a (l.set j.toNat x) → h'.size = h.size → (∀ b, ¬ b = i → h'.get b = h.get b) → putM P Try.T ops L K d tm undefA h') : ansM P Try.T ops L K d tm h ((storeA Try.T h 28 (a.at E.sz 2 j) v).map fun h' => .val undefA h') :=
  ans_wr1 p x hx hv hv1 (by simpa [Nat.blt_eq] using h2.eq) h0 h1 rfl rfl hk
theorem sl22 (p : Sl E h i a l) (h0 : 0 ≤ x) (h1 : x ≤ y) (h2 : y ≤ l.length) (h3 : Seen (Nat.beq E.sz 3)) : sliceA Try.T 22 a (some x) (some y) none = some (a.part x y) := p.slc h0 h1 h2 rfl rfl (Nat.eq_of_beq_eq_true h3.eq).symm
theorem sm22 (p : Sl E h i a l) (h1 : 0 ≤ y) (h2 : y ≤ l.length) (h3 : Seen (Nat.beq E.sz 3)) : sliceA Try.T 22 a none (some y) none = some (a.part 0 y) := p.slc (lo := none) (Int.le_refl _) h1 h2 rfl rfl (Nat.eq_of_beq_eq_true h3.eq).symm
theorem sn22 (p : Sl E h i a l) (h0 : 0 ≤ x) (h1 : x ≤ l.length) (h3 : Seen (Nat.beq E.sz 3)) : sliceA Try.T 22 a (some x) none none = some (a.part x l.length) := p.slc (hi := none) h0 h1 (Int.le_refl _) rfl rfl (Nat.eq_of_beq_eq_true h3.eq).symm
theorem ap22 {P : Program} {ops : Array Oper} {L : List Oper} {K : Tm → AH → Prop} {d : Option Nat} {tm : Tm} {x : AV} {new : List α} {ix : Nat} (p : Ow E h i a l) (hx : Sl E h ix x new) (h2 : Seen (Nat.beq E.sz 3)) (hr : (l.length + new.length) * 40 ≤ 140737488355328) (hk : ∀ z h' i', Ow E h' i' z (l ++ new) → (i' = i ∨ h.size ≤ i') → h.size ≤ h'.size → (∀ j, j < h.size → ¬ j = i → h'.get j = h.get j) → putM P Try.T ops L K d tm z h') : ansM P Try.T ops L K d tm h (pairR (appendA Try.T h 22 22 a x)) :=
  ans_app p hx rfl ⟨_, rfl⟩ rfl (Nat.eq_of_beq_eq_true h2.eq).symm (Nat.eq_of_beq_eq_true h2.eq).symm (by decide) hr hk
theorem al22 {P : Program} {ops : Array Oper} {L : List Oper} {K : Tm → AH → Prop} {d : Option Nat} {tm : Tm} {sz : Nat} (x : α) (p : Ow E h i a l) (hx : cs = E.f x) (hs : sz = E.sz) (h2 : Seen (Nat.beq E.sz 3)) (hr : (l.length + 1) * 40 ≤ 140737488355328) (hk : ∀ z h' i', Ow E h' i' z (l ++ [x]) → (i' = i ∨ h.size ≤ i') → h.size ≤ h'.size → (∀ j, j < h.size → ¬ j = i → h'.get j = h.get j) → putM P Try.T ops L K d tm z h') : ansM P Try.T ops L K d tm (h.push (.cells cs)) (pairR (appendA Try.T (h.push (.cells cs)) 22 22 a (.slice (some (h.size, 0)) 1 1 sz true))) :=
  ans_app1 p x hx hs rfl rfl (Nat.eq_of_beq_eq_true h2.eq).symm (Nat.eq_of_beq_eq_true h2.eq).symm (by decide) hr hk
theorem eqn22 {l1 c1 z1 l2 c2 z2 : Nat} {x1 x2 : Bool} : binA Try.T .eql 22 (.slice none l1 c1 z1 x1) (.slice none l2 c2 z2 x2) = some (.bool true) := sl_eqn rfl
theorem eqs22 {l1 c1 z1 l2 c2 z2 : Nat} {x1 x2 : Bool} {p : Nat × Nat} : binA Try.T .eql 22 (.slice (some p) l1 c1 z1 x1) (.slice none l2 c2 z2 x2) = some (.bool false) := sl_eqs rfl
theorem eqi22 {l2 c2 z2 a1 b1 c1 d1 : Nat} {x2 : Bool} : binA Try.T .eql 22 (.islice row a1 b1 c1 d1) (.slice none l2 c2 z2 x2) = some (.bool false) := sl_eqi rfl
theorem Td23 : (Try.T 23).desc = .func := rfl
theorem Tz23 : (Try.T 23).zero = [.nilFunc] := rfl
theorem ld23 : loadA Try.T h 23 (.ptr (some (i, o))) = rd1 o (h.get i) := ld_1 rfl rfl
theorem li23 : loadA Try.T h 23 (.iptr row o) = row[o]? := ldi_1 rfl rfl
theorem st23 : storeA Try.T h 23 (.ptr (some (i, o))) v = stC h i o 1 v.cells := st_n rfl rfl
theorem feqs23 {f : FuncId} : binA Try.T .eql 23 (.func f cs) .nilFunc = some (.bool false) := fn_eqs rfl
theorem feqn23 : binA Try.T .eql 23 .nilFunc .nilFunc = some (.bool true) := fn_eqn rfl
theorem Td24 : (Try.T 24).desc = .pointer 64 := rfl
theorem Tz24 : (Try.T 24).zero = [.ptr none] := rfl
theorem ld24 : loadA Try.T h 24 (.ptr (some (i, o))) = rd1 o (h.get i) := ld_1 rfl rfl
theorem li24 : loadA Try.T h 24 (.iptr row o) = row[o]? := ldi_1 rfl rfl
theorem st24 : storeA Try.T h 24 (.ptr (some (i, o))) v = stC h i o 1 v.cells := st_n rfl rfl
theorem peqn24 : binA Try.T .eql 24 (.ptr none) (.ptr none) = some (.bool true) := pt_eqn rfl
theorem peqs24 {p : Nat × Nat} : binA Try.T .eql 24 (.ptr (some p)) (.ptr none) = some (.bool false) := pt_eqs rfl
theorem pnen24 : binA Try.T .neq 24 (.ptr none) (.ptr none) = some (.bool false) := pt_nen rfl
theorem pnes24 {p : Nat × Nat} : binA Try.T .neq 24 (.ptr (some p)) (.ptr none) = some (.bool true) := pt_nes rfl
theorem Td25 : (Try.T 25).desc = .func := rfl
theorem Tz25 : (Try.T 25).zero = [.nilFunc] := rfl
theorem ld25 : loadA Try.T h 25 (.ptr (some (i, o))) = rd1 o (h.get i) := ld_1 rfl rfl
theorem li25 : loadA Try.T h 25 (.iptr row o) = row[o]? := ldi_1 rfl rfl
theorem st25 : storeA Try.T h 25 (.ptr (some (i, o))) v = stC h i o 1 v.cells := st_n rfl rfl
theorem feqs25 {f : FuncId} : binA Try.T .eql 25 (.func f cs) .nilFunc = some (.bool false) := fn_eqs rfl
theorem feqn25 : binA Try.T .eql 25 .nilFunc .nilFunc = some (.bool true) := fn_eqn rfl
theorem Td26 : (Try.T 26).desc = .pointer 39 := rfl
theorem Tz26 : (Try.T 26).zero = [.ptr none] := rfl
theorem ld26 : loadA Try.T h 26 (.ptr (some (i, o))) = rd1 o (h.get i) := ld_1 rfl rfl
theorem li26 : loadA Try.T h 26 (.iptr row o) = row[o]? := ldi_1 rfl rfl
theorem st26 : storeA Try.T h 26 (.ptr (some (i, o))) v = stC h i o 1 v.cells := st_n rfl rfl
theorem peqn26 : binA Try.T .eql 26 (.ptr none) (.ptr none) = some (.bool true) := pt_eqn rfl
theorem peqs26 {p : Nat × Nat} : binA Try.T .eql 26 (.ptr (some p)) (.ptr none) = some (.bool false) := pt_eqs rfl
theorem pnen26 : binA Try.T .neq 26 (.ptr none) (.ptr none) = some (.bool false) := pt_nen rfl
theorem pnes26 {p : Nat × Nat} : binA Try.T .neq 26 (.ptr (some p)) (.ptr none) = some (.bool true) := pt_nes rfl
theorem Td27 : (Try.T 27).desc = .func := rfl
theorem Tz27 : (Try.T 27).zero = [.nilFunc] := rfl
theorem ld27 : loadA Try.T h 27 (.ptr (some (i, o))) = rd1 o (h.get i) := ld_1 rfl rfl
theorem li27 : loadA Try.T h 27 (.iptr row o) = row[o]? := ldi_1 rfl rfl
theorem st27 : storeA Try.T h 27 (.ptr (some (i, o))) v = stC h i o 1 v.cells := st_n rfl rfl
theorem feqs27 {f : FuncId} : binA Try.T .eql 27 (.func f cs) .nilFunc = some (.bool false) := fn_eqs rfl
theorem feqn27 : binA Try.T .eql 27 .nilFunc .nilFunc = some (.bool true) := fn_eqn rfl
theorem Td28 : (Try.T 28).desc = .slice 45 := rfl
theorem Tz28 : (Try.T 28).zero = [.slice none 0 0 0 true] := rfl
theorem ld28 : loadA Try.T h 28 (.ptr (some (i, o))) = rd1 o (h.get i) := ld_1 rfl rfl
theorem li28 : loadA Try.T h 28 (.iptr row o) = row[o]? := ldi_1 rfl rfl
theorem st28 : storeA Try.T h 28 (.ptr (some (i, o))) v = stC h i o 1 v.cells := st_n rfl rfl
theorem len28 (p : Sl E h i a l) : builtinA Try.T h' .len [28] [a] = some (.int .i64 (l.length : Int), h') := p.len rfl
theorem ix28 (p : Sl E h i a l) (h0 : 0 ≤ j) (h1 : j < l.length) (h2 : Seen (Nat.beq E.sz 3)) : idxA Try.T 28 a (.int k j) = some (a.at E.sz 0 j) := p.idx h0 h1 rfl rfl (Nat.eq_of_beq_eq_true h2.eq).symm
theorem wr45 {P : Program} {ops : Array Oper} {L : List Oper} {K : Tm → AH → Prop} {d : Option Nat} {tm : Tm} (p : Ow E h i a l) (x : α) (hx : v.cells = E.f x) (h0 : 0 ≤ j) (h1 : j < l.length) (h2 : Seen (Nat.beq E.sz 3)) (hk : ∀ h', Ow E h' i a (l.set j.toNat x) → h'.size = h.size → (∀ b, ¬ b = i → h'.get b = h.get b) → putM P Try.T ops L K d tm undefA h') : ansM P Try.T ops L K d tm h ((storeA Try.T h 45 (a.at E.sz 0 j) v).map fun h' => .val undefA h') :=
  ans_wr p x hx h0 h1 rfl (Nat.eq_of_beq_eq_true h2.eq).symm hk
theorem w45_0_9 {P : Program} {ops : Array Oper} {L : List Oper} {K : Tm → AH → Prop} {d : Option Nat} {tm : Tm} [Inhabited α] (p : Ow E h i a l) (x : α) (hx : E.f x = (E.f (l[j.toNat]!)).set 0 v) (hv : v.cells = [v]) (hv1 : v.one = true) (h0 : 0 ≤ j) (h1 : j < l.length) (h2 : Seen (Nat.blt 0 E.sz)) (hk : ∀ h', Ow E h' i a (l.set j.toNat x) → h'.size = h.size → (∀ b, ¬ b = i → h'.get b = h.get b) → putM P Try.T ops L K d tm undefA h') : ansM P Try.T ops L K d tm h ((storeA Try.T h 9 (a.at E.sz 0 j) v).map fun h' => .val undefA h') :=
  ans_wr1 p x hx hv hv1 (by simpa [Nat.blt_eq] using h2.eq) h0 h1 rfl rfl hk
theorem w45_1_9 {P : Program} {ops : Array Oper} {L : List Oper} {K : Tm → AH → Prop} {d : Option Nat} {tm : Tm} [Inhabited α] (p : Ow E h i a l) (x : α) (hx : E.f x = (E.f (l[j.toNat]!)).set 1 v) (hv : v.cells = [v]) (hv1 : v.one = true) (h0 : 0 ≤ j) (h1 : j < l.length) (h2 : Seen (Nat.blt 1 E.sz)) (hk : ∀ h', Ow E h' i a (l.set j.toNat x) → h'.size = h.size → (∀ b, ¬ b = i → h'.get b = h.get b) → putM P Try.T ops L K d tm undefA h') : ansM P Try.T ops L K d tm h ((storeA Try.T h 9 (a.at E.sz 1 j) v).map fun h' => .val undefA h') :=
  ans_wr1 p x hx hv hv1 (by simpa [Nat.blt_eq] using h2.eq) h0 h1 rfl rfl hk
theorem w45_2_4 {P : Program} {ops : Array Oper} {L : List Oper} {K : Tm → AH → Prop} {d : Option Nat} {tm : Tm} [Inhabited α] (p : Ow E h i a l) (x : α) (hx : E.f x = (E.f (l[j.toNat]!)).set 2 v) (hv : v.cells = [v]) (hv1 : v.one = true) (h0 : 0 ≤ j) (h1 : j < l.length) (h2 : Seen (Nat.blt 2 E.sz)) (hk : ∀ h', Ow E h' i a (l.set j.toNat x) → h'.size = h.size → (∀ b, ¬ b = i → h'.get b = h.get b) → putM P Try.T ops L K d tm undefA h') : ansM P Try.T ops L K d tm h ((storeA Try.T h 4 (a.at E.sz 2 j) v).map fun h' => .val undefA h') :=
  ans_wr1 p x hx hv hv1 (by simpa [Nat.blt_eq] using h2.eq) h0 h1 rfl rfl hk
theorem sl28 (p : Sl E h i a l) (h0 : 0 ≤ x) (h1 : x ≤ y) (h2 : y ≤ l.length) (h3 : Seen (Nat.beq E.sz 3)) : sliceA Try.T 28 a (some x) (some y) none = some (a.part x y) := p.slc h0 h1 h2 rfl rfl (Nat.eq_of_beq_eq_true h3.eq).symm
theorem sm28 (p : Sl E h i a l) (h1 : 0 ≤ y) (h2 : y ≤ l.length) (h3 : Seen (Nat.beq E.sz 3)) : sliceA Try.T 28 a none (some y) none = some (a.part 0 y) := p.slc (lo := none) (Int.le_refl _) h1 h2 rfl rfl (Nat.eq_of_beq_eq_true h3.eq).symm
theorem sn28 (p : Sl E h i a l) (h0 : 0 ≤ x) (h1 : x ≤ l.length) (h3 : Seen (Nat.beq E.sz 3)) : sliceA Try.T 28 a (some x) none none = some (a.part x l.length) := p.slc (hi := none) h0 h1 (Int.le_refl _) rfl rfl (Nat.eq_of_beq_eq_true h3.eq).symm
theorem ap28 {P : Program} {ops : Array Oper} {L : List Oper} {K : Tm → AH → Prop} {d : Option Nat} {tm : Tm} {x : AV} {new : List α} {ix : Nat} (p : Ow E h i a l) (hx : Sl E h ix x new) (h2 : Seen (Nat.beq E.sz 3)) (hr : (l.length + new.length) * 40 ≤ 140737488355328) (hk : ∀ z h' i', Ow E h' i' z (l ++ new) → (i' = i ∨ h.size ≤ i') → h.size ≤ h'.size → (∀ j, j < h.size → ¬ j = i → h'.get j = h.get j) → putM P Try.T ops L K d tm z h') : ansM P Try.T ops L K d tm h (pairR (appendA Try.T h 28 28 a x)) :=
  ans_app p hx rfl ⟨_, rfl⟩ rfl (Nat.eq_of_beq_eq_true h2.eq).symm (Nat.eq_of_beq_eq_true h2.eq).symm (by decide) hr hk
theorem al28 {P : Program} {ops : Array Oper} {L : List Oper} {K : Tm → AH → Prop} {d : Option Nat} {tm : Tm} {sz : Nat} (x : α) (p : Ow E h i a l) (hx : cs = E.f x) (hs : sz = E.sz) (h2 : Seen (Nat.beq E.sz 3)) (hr : (l.length + 1) * 40 ≤ 140737488355328) (hk : ∀ z h' i', Ow E h' i' z (l ++ [x]) → (i' = i ∨ h.size ≤ i') → h.size ≤ h'.size → (∀ j, j < h.size → ¬ j = i → h'.get j = h.get j) → putM P Try.T ops L K d tm z h') : ansM P Try.T ops L K d tm (h.push (.cells cs)) (pairR (appendA Try.T (h.push (.cells cs)) 28 28 a (.slice (some (h.size, 0)) 1 1 sz true))) :=
  ans_app1 p x hx hs rfl rfl (Nat.eq_of_beq_eq_true h2.eq).symm (Nat.eq_of_beq_eq_true h2.eq).symm (by decide) hr hk
theorem eqn28 {l1 c1 z1 l2 c2 z2 : Nat} {x1 x2 : Bool} : binA Try.T .eql 28 (.slice none l1 c1 z1 x1) (.slice none l2 c2 z2 x2) = some (.bool true) := sl_eqn rfl
theorem eqs28 {l1 c1 z1 l2 c2 z2 : Nat} {x1 x2 : Bool} {p : Nat × Nat} : binA Try.T .eql 28 (.slice (some p) l1 c1 z1 x1) (.slice none l2 c2 z2 x2) = some (.bool false) := sl_eqs rfl
theorem eqi28 {l2 c2 z2 a1 b1 c1 d1 : Nat} {x2 : Bool} : binA Try.T .eql 28 (.islice row a1 b1 c1 d1) (.slice none l2 c2 z2 x2) = some (.bool false) := sl_eqi rfl
theorem Td30 : (Try.T 30).desc = .struct [(3, 0, true), (2, 1, true), (28, 2, true)] := rfl
theorem Tz30 : (Try.T 30).zero = [.int .i64 0, .int .i64 0, .slice none 0 0 0 true] := rfl
theorem ld30 : loadA Try.T h 30 (.ptr (some (i, o))) = rdN o 3 (h.get i) := ld_n rfl rfl rfl
theorem li30 : loadA Try.T h 30 (.iptr row o) = (cut row o 3).map .agg := ldi_n rfl rfl rfl
theorem st30 : storeA Try.T h 30 (.ptr (some (i, o))) v = stC h i o 3 v.cells := st_n rfl rfl
theorem lE30 [Inhabited α] (p : Sl E h i a l) (h0 : 0 ≤ j) (h1 : j < l.length) (h4 : Seen (Nat.beq E.sz 3)) : loadA Try.T h 30 (a.at E.sz 0 j) = some (.agg (E.f (l[j.toNat]!))) := p.ldn h0 h1 rfl rfl (Nat.eq_of_beq_eq_true h4.eq).symm
theorem bd30 {l : List (Nat × AV)} : bldR Try.T 30 (some l) = (fillA (plA Try.T 30) (Try.T 30).zero l).map .agg := bld_eq rfl
theorem pl30_0 : plA Try.T 30 0 = some (0, 1) := rfl
theorem pl30_1 : plA Try.T 30 1 = some (1, 1) := rfl
theorem pl30_2 : plA Try.T 30 2 = some (2, 1) := rfl
theorem fa30_0 : faR Try.T 30 0 (some (.ptr (some (i, o)))) = some (.ptr (some (i, o + 0))) := fa_ptr rfl (by decide) rfl
theorem fi30_0 : faR Try.T 30 0 (some (.iptr row o)) = some (.iptr row (o + 0)) := fa_iptr rfl (by decide) rfl
theorem fE30_0 (p : Sl E h i a l) (h0 : 0 ≤ j) (h1 : j < l.length) : faR Try.T 30 0 (some (a.at E.sz off0 j)) = some (a.at E.sz (off0 + 0) j) := p.fa h0 h1 rfl (by decide) rfl
theorem fl30_0 : fldR Try.T 30 0 (some (.agg cs)) = cs[0]? := fld_1 rfl rfl rfl
theorem fa30_1 : faR Try.T 30 1 (some (.ptr (some (i, o)))) = some (.ptr (some (i, o + 1))) := fa_ptr rfl (by decide) rfl
theorem fi30_1 : faR Try.T 30 1 (some (.iptr row o)) = some (.iptr row (o + 1)) := fa_iptr rfl (by decide) rfl
theorem fE30_1 (p : Sl E h i a l) (h0 : 0 ≤ j) (h1 : j < l.length) : faR Try.T 30 1 (some (a.at E.sz off0 j)) = some (a.at E.sz (off0 + 1) j) := p.fa h0 h1 rfl (by decide) rfl
theorem fl30_1 : fldR Try.T 30 1 (some (.agg cs)) = cs[1]? := fld_1 rfl rfl rfl
theorem fa30_2 : faR Try.T 30 2 (some (.ptr (some (i, o)))) = some (.ptr (some (i, o + 2))) := fa_ptr rfl (by decide) rfl
theorem fi30_2 : faR Try.T 30 2 (some (.iptr row o)) = some (.iptr row (o + 2)) := fa_iptr rfl (by decide) rfl
theorem fE30_2 (p : Sl E h i a l) (h0 : 0 ≤ j) (h1 : j < l.length) : faR Try.T 30 2 (some (a.at E.sz off0 j)) = some (a.at E.sz (off0 + 2) j) := p.fa h0 h1 rfl (by decide) rfl
theorem fl30_2 : fldR Try.T 30 2 (some (.agg cs)) = cs[2]? := fld_1 rfl rfl rfl
theorem Td31 : (Try.T 31).desc = .int .i64 := rfl
theorem Tz31 : (Try.T 31).zero = [.int .i64 0] := rfl
theorem ld31 : loadA Try.T h 31 (.ptr (some (i, o))) = rd1 o (h.get i) := ld_1 rfl rfl
theorem li31 : loadA Try.T h 31 (.iptr row o) = row[o]? := ldi_1 rfl rfl
theorem st31 : storeA Try.T h 31 (.ptr (some (i, o))) v = stC h i o 1 v.cells := st_n rfl rfl
theorem lI31 {l : List Int} (p : Sl EI h i a l) (h0 : 0 ≤ j) (h1 : j < l.length) : loadA Try.T h 31 (a.at EI.sz 0 j) = some (.int .i64 (l[j.toNat]!)) := p.ldI h0 h1 rfl rfl
theorem Td32 : (Try.T 32).desc = .func := rfl
theorem Tz32 : (Try.T 32).zero = [.nilFunc] := rfl
theorem ld32 : loadA Try.T h 32 (.ptr (some (i, o))) = rd1 o (h.get i) := ld_1 rfl rfl
theorem li32 : loadA Try.T h 32 (.iptr row o) = row[o]? := ldi_1 rfl rfl
theorem st32 : storeA Try.T h 32 (.ptr (some (i, o))) v = stC h i o 1 v.cells := st_n rfl rfl
theorem feqs32 {f : FuncId} : binA Try.T .eql 32 (.func f cs) .nilFunc = some (.bool false) := fn_eqs rfl
theorem feqn32 : binA Try.T .eql 32 .nilFunc .nilFunc = some (.bool true) := fn_eqn rfl
theorem Td33 : (Try.T 33).desc = .slice 5 := rfl
theorem Tz33 : (Try.T 33).zero = [.slice none 0 0 0 true] := rfl
theorem ld33 : loadA Try.T h 33 (.ptr (some (i, o))) = rd1 o (h.get i) := ld_1 rfl rfl
theorem li33 : loadA Try.T h 33 (.iptr row o) = row[o]? := ldi_1 rfl rfl
theorem st33 : storeA Try.T h 33 (.ptr (some (i, o))) v = stC h i o 1 v.cells := st_n rfl rfl
theorem len33 (p : Sl E h i a l) : builtinA Try.T h' .len [33] [a] = some (.int .i64 (l.length : Int), h') := p.len rfl
theorem ix33 (p : Sl E h i a l) (h0 : 0 ≤ j) (h1 : j < l.length) (h2 : Seen (Nat.beq E.sz 1)) : idxA Try.T 33 a (.int k j) = some (a.at E.sz 0 j) := p.idx h0 h1 rfl rfl (Nat.eq_of_beq_eq_true h2.eq).symm
theorem wr5 {P : Program} {ops : Array Oper} {L : List Oper} {K : Tm → AH → Prop} {d : Option Nat} {tm : Tm} (p : Ow E h i a l) (x : α) (hx : v.cells = E.f x) (h0 : 0 ≤ j) (h1 : j < l.length) (h2 : Seen (Nat.beq E.sz 1)) (hk : ∀ h', Ow E h' i a (l.set j.toNat x) → h'.size = h.size → (∀ b, ¬ b = i → h'.get b = h.get b) → putM P Try.T ops L K d tm undefA h') : ansM P Try.T ops L K d tm h ((storeA Try.T h 5 (a.at E.sz 0 j) v).map fun h' => .val undefA h') :=
  ans_wr p x hx h0 h1 rfl (Nat.eq_of_beq_eq_true h2.eq).symm hk
theorem br33 {n : Nat} {l : List (Nat × AV)} (hn : Seen (Nat.beq l.length n && (Nat.ble n 10000 && bsOk 0 l))) : bsR Try.T h 33 n (some l) = some (.val (.slice (some (h.size, 0)) n n 1 true) (h.push (.cells (l.map (·.2))))) := bs_row rfl rfl rfl rfl hn
theorem bs33 (hv : Seen (match v with | .agg _ | .tuple _ => false | _ => true)) : bsR Try.T h 33 1 (some [(0, v)]) = some (.val (.slice (some (h.size, 0)) 1 1 1 true) (h.push (.cells [v]))) := bs_one rfl rfl rfl rfl hv
theorem sl33 (p : Sl E h i a l) (h0 : 0 ≤ x) (h1 : x ≤ y) (h2 : y ≤ l.length) (h3 : Seen (Nat.beq E.sz 1)) : sliceA Try.T 33 a (some x) (some y) none = some (a.part x y) := p.slc h0 h1 h2 rfl rfl (Nat.eq_of_beq_eq_true h3.eq).symm
theorem sm33 (p : Sl E h i a l) (h1 : 0 ≤ y) (h2 : y ≤ l.length) (h3 : Seen (Nat.beq E.sz 1)) : sliceA Try.T 33 a none (some y) none = some (a.part 0 y) := p.slc (lo := none) (Int.le_refl _) h1 h2 rfl rfl (Nat.eq_of_beq_eq_true h3.eq).symm
theorem sn33 (p : Sl E h i a l) (h0 : 0 ≤ x) (h1 : x ≤ l.length) (h3 : Seen (Nat.beq E.sz 1)) : sliceA Try.T 33 a (some x) none none = some (a.part x l.length) := p.slc (hi := none) h0 h1 (Int.le_refl _) rfl rfl (Nat.eq_of_beq_eq_true h3.eq).symm
theorem ap33 {P : Program} {ops : Array Oper} {L : List Oper} {K : Tm → AH → Prop} {d : Option Nat} {tm : Tm} {x : AV} {new : List α} {ix : Nat} (p : Ow E h i a l) (hx : Sl E h ix x new) (h2 : Seen (Nat.beq E.sz 1)) (hr : (l.length + new.length) * 1 ≤ 140737488355328) (hk : ∀ z h' i', Ow E h' i' z (l ++ new) → (i' = i ∨ h.size ≤ i') → h.size ≤ h'.size → (∀ j, j < h.size → ¬ j = i → h'.get j = h.get j) → putM P Try.T ops L K d tm z h') : ansM P Try.T ops L K d tm h (pairR (appendA Try.T h 33 33 a x)) :=
  ans_app p hx rfl ⟨_, rfl⟩ rfl (Nat.eq_of_beq_eq_true h2.eq).symm (Nat.eq_of_beq_eq_true h2.eq).symm (by decide) hr hk
theorem al33 {P : Program} {ops : Array Oper} {L : List Oper} {K : Tm → AH → Prop} {d : Option Nat} {tm : Tm} {sz : Nat} (x : α) (p : Ow E h i a l) (hx : cs = E.f x) (hs : sz = E.sz) (h2 : Seen (Nat.beq E.sz 1)) (hr : (l.length + 1) * 1 ≤ 140737488355328) (hk : ∀ z h' i', Ow E h' i' z (l ++ [x]) → (i' = i ∨ h.size ≤ i') → h.size ≤ h'.size → (∀ j, j < h.size → ¬ j = i → h'.get j = h.get j) → putM P Try.T ops L K d tm z h') : ansM P Try.T ops L K d tm (h.push (.cells cs)) (pairR (appendA Try.T (h.push (.cells cs)) 33 33 a (.slice (some (h.size, 0)) 1 1 sz true))) :=
  ans_app1 p x hx hs rfl rfl (Nat.eq_of_beq_eq_true h2.eq).symm (Nat.eq_of_beq_eq_true h2.eq).symm (by decide) hr hk
theorem a833 {P : Program} {ops : Array Oper} {L : List Oper} {K : Tm → AH → Prop} {d : Option Nat} {tm : Tm} {l : List UInt8} {e : Int} (p : Ow E8 h i a l) (h0 : 0 ≤ e) (h1 : e < 256) (hr : l.length < 100000000000000) (hk : ∀ z h' i', Ow E8 h' i' z (l ++ [UInt8.ofNat e.toNat]) → (i' = i ∨ h.size ≤ i') → h.size ≤ h'.size → (∀ j, j < h.size → ¬ j = i → h'.get j = h.get j) → putM P Try.T ops L K d tm z h') : ansM P Try.T ops L K d tm (h.push (.cells [.int .u8 e])) (pairR (appendA Try.T (h.push (.cells [.int .u8 e])) 33 33 a (.slice (some (h.size, 0)) 1 1 1 true))) :=
  ans_app1 p (UInt8.ofNat e.toNat) (e8_of h0 h1) rfl rfl rfl rfl rfl (by decide) (by show (l.length + 1) * 1 ≤ _; omega) hk
theorem as33_9 {P : Program} {ops : Array Oper} {L : List Oper} {K : Tm → AH → Prop} {d : Option Nat} {tm : Tm} {l : List UInt8} (p : Ow E8 h i a l) (hr : l.length + s.length < 100000000000000) (hk : ∀ z h' i', Ow E8 h' i' z (l ++ s) → (i' = i ∨ h.size ≤ i') → h.size ≤ h'.size → (∀ j, j < h.size → ¬ j = i → h'.get j = h.get j) → putM P Try.T ops L K d tm z h') : ansM P Try.T ops L K d tm h (pairR (appendA Try.T h 33 9 a (.str s))) :=
  ans_appS p rfl rfl rfl rfl rfl (by decide) (by show (l.length + s.length) * 1 ≤ _; omega) hk
theorem as33_10 {P : Program} {ops : Array Oper} {L : List Oper} {K : Tm → AH → Prop} {d : Option Nat} {tm : Tm} {l : List UInt8} (p : Ow E8 h i a l) (hr : l.length + s.length < 100000000000000) (hk : ∀ z h' i', Ow E8 h' i' z (l ++ s) → (i' = i ∨ h.size ≤ i') → h.size ≤ h'.size → (∀ j, j < h.size → ¬ j = i → h'.get j = h.get j) → putM P Try.T ops L K d tm z h') : ansM P Try.T ops L K d tm h (pairR (appendA Try.T h 33 10 a (.str s))) :=
  ans_appS p rfl rfl rfl rfl rfl (by decide) (by show (l.length + s.length) * 1 ≤ _; omega) hk
theorem as33_11 {P : Program} {ops : Array Oper} {L : List Oper} {K : Tm → AH → Prop} {d : Option Nat} {tm : Tm} {l : List UInt8} (p : Ow E8 h i a l) (hr : l.length + s.length < 100000000000000) (hk : ∀ z h' i', Ow E8 h' i' z (l ++ s) → (i' = i ∨ h.size ≤ i') → h.size ≤ h'.size → (∀ j, j < h.size → ¬ j = i → h'.get j = h.get j) → putM P Try.T ops L K d tm z h') : ansM P Try.T ops L K d tm h (pairR (appendA Try.T h 33 11 a (.str s))) :=
  ans_appS p rfl rfl rfl rfl rfl (by decide) (by show (l.length + s.length) * 1 ≤ _; omega) hk
theorem cs33_9 {l : List UInt8} (p : Sl E8 h i a l) : convA Try.T h 33 9 a = some (.str l, h) := p.conv rfl rfl rfl
theorem cb9_33 (hl : (s.length : Int) ≤ 9223372036854775807) : convA Try.T h 9 33 (.str s) = some (.slice (some (h.size, 0)) s.length s.length 1 false, h.push (.cells (ofBytes s))) := conv_bytes rfl rfl rfl (by omega)
theorem cs33_10 {l : List UInt8} (p : Sl E8 h i a l) : convA Try.T h 33 10 a = some (.str l, h) := p.conv rfl rfl rfl
theorem cb10_33 (hl : (s.length : Int) ≤ 9223372036854775807) : convA Try.T h 10 33 (.str s) = some (.slice (some (h.size, 0)) s.length s.length 1 false, h.push (.cells (ofBytes s))) := conv_bytes rfl rfl rfl (by omega)
theorem cs33_11 {l : List UInt8} (p : Sl E8 h i a l) : convA Try.T h 33 11 a = some (.str l, h) := p.conv rfl rfl rfl
theorem cb11_33 (hl : (s.length : Int) ≤ 9223372036854775807) : convA Try.T h 11 33 (.str s) = some (.slice (some (h.size, 0)) s.length s.length 1 false, h.push (.cells (ofBytes s))) := conv_bytes rfl rfl rfl (by omega)
theorem eqn33 {l1 c1 z1 l2 c2 z2 : Nat} {x1 x2 : Bool} : binA Try.T .eql 33 (.slice none l1 c1 z1 x1) (.slice none l2 c2 z2 x2) = some (.bool true) := sl_eqn rfl
theorem eqs33 {l1 c1 z1 l2 c2 z2 : Nat} {x1 x2 : Bool} {p : Nat × Nat} : binA Try.T .eql 33 (.slice (some p) l1 c1 z1 x1) (.slice none l2 c2 z2 x2) = some (.bool false) := sl_eqs rfl
theorem eqi33 {l2 c2 z2 a1 b1 c1 d1 : Nat} {x2 : Bool} : binA Try.T .eql 33 (.islice row a1 b1 c1 d1) (.slice none l2 c2 z2 x2) = some (.bool false) := sl_eqi rfl
theorem Td35 : (Try.T 35).desc = .func := rfl
theorem Tz35 : (Try.T 35).zero = [.nilFunc] := rfl
theorem ld35 : loadA Try.T h 35 (.ptr (some (i, o))) = rd1 o (h.get i) := ld_1 rfl rfl
theorem li35 : loadA Try.T h 35 (.iptr row o) = row[o]? := ldi_1 rfl rfl
theorem st35 : storeA Try.T h 35 (.ptr (some (i, o))) v = stC h i o 1 v.cells := st_n rfl rfl
theorem feqs35 {f : FuncId} : binA Try.T .eql 35 (.func f cs) .nilFunc = some (.bool false) := fn_eqs rfl
theorem feqn35 : binA Try.T .eql 35 .nilFunc .nilFunc = some (.bool true) := fn_eqn rfl
theorem Td36 : (Try.T 36).desc = .func := rfl
theorem Tz36 : (Try.T 36).zero = [.nilFunc] := rfl
theorem ld36 : loadA Try.T h 36 (.ptr (some (i, o))) = rd1 o (h.get i) := ld_1 rfl rfl
theorem li36 : loadA Try.T h 36 (.iptr row o) = row[o]? := ldi_1 rfl rfl
theorem st36 : storeA Try.T h 36 (.ptr (some (i, o))) v = stC h i o 1 v.cells := st_n rfl rfl
theorem feqs36 {f : FuncId} : binA Try.T .eql 36 (.func f cs) .nilFunc = some (.bool false) := fn_eqs rfl
theorem feqn36 : binA Try.T .eql 36 .nilFunc .nilFunc = some (.bool true) := fn_eqn rfl
theorem Td37 : (Try.T 37).desc = .pointer 78 := rfl
theorem Tz37 : (Try.T 37).zero = [.ptr none] := rfl
theorem ld37 : loadA Try.T h 37 (.ptr (some (i, o))) = rd1 o (h.get i) := ld_1 rfl rfl
theorem li37 : loadA Try.T h 37 (.iptr row o) = row[o]? := ldi_1 rfl rfl
theorem st37 : storeA Try.T h 37 (.ptr (some (i, o))) v = stC h i o 1 v.cells := st_n rfl rfl
theorem peqn37 : binA Try.T .eql 37 (.ptr none) (.ptr none) = some (.bool true) := pt_eqn rfl
theorem peqs37 {p : Nat × Nat} : binA Try.T .eql 37 (.ptr (some p)) (.ptr none) = some (.bool false) := pt_eqs rfl
theorem pnen37 : binA Try.T .neq 37 (.ptr none) (.ptr none) = some (.bool false) := pt_nen rfl
theorem pnes37 {p : Nat × Nat} : binA Try.T .neq 37 (.ptr (some p)) (.ptr none) = some (.bool true) := pt_nes rfl
theorem Td38 : (Try.T 38).desc = .struct [(37, 0, true), (3, 1, true), (3, 2, true), (3, 3, true)] := rfl
theorem Tz38 : (Try.T 38).zero = [.ptr none, .int .i64 0, .int .i64 0, .int .i64 0] := rfl
theorem ld38 : loadA Try.T h 38 (.ptr (some (i, o))) = rdN o 4 (h.get i) := ld_n rfl rfl rfl
theorem li38 : loadA Try.T h 38 (.iptr row o) = (cut row o 4).map .agg := ldi_n rfl rfl rfl
theorem st38 : storeA Try.T h 38 (.ptr (some (i, o))) v = stC h i o 4 v.cells := st_n rfl rfl
theorem lE38 [Inhabited α] (p : Sl E h i a l) (h0 : 0 ≤ j) (h1 : j < l.length) (h4 : Seen (Nat.beq E.sz 4)) : loadA Try.T h 38 (a.at E.sz 0 j) = some (.agg (E.f (l[j.toNat]!))) := p.ldn h0 h1 rfl rfl (Nat.eq_of_beq_eq_true h4.eq).symm
theorem bd38 {l : List (Nat × AV)} : bldR Try.T 38 (some l) = (fillA (plA Try.T 38) (Try.T 38).zero l).map .agg := bld_eq rfl
theorem pl38_0 : plA Try.T 38 0 = some (0, 1) := rfl
theorem pl38_1 : plA Try.T 38 1 = some (1, 1) := rfl
theorem pl38_2 : plA Try.T 38 2 = some (2, 1) := rfl
theorem pl38_3 : plA Try.T 38 3 = some (3, 1) := rfl
theorem fa38_0 : faR Try.T 38 0 (some (.ptr (some (i, o)))) = some (.ptr (some (i, o + 0))) := fa_ptr rfl (by decide) rfl
theorem fi38_0 : faR Try.T 38 0 (some (.iptr row o)) = some (.iptr row (o + 0)) := fa_iptr rfl (by decide) rfl
theorem fE38_0 (p : Sl E h i a l) (h0 : 0 ≤ j) (h1 : j < l.length) : faR Try.T 38 0 (some (a.at E.sz off0 j)) = some (a.at E.sz (off0 + 0) j) := p.fa h0 h1 rfl (by decide) rfl
theorem fl38_0 : fldR Try.T 38 0 (some (.agg cs)) = cs[0]? := fld_1 rfl rfl rfl
theorem fa38_1 : faR Try.T 38 1 (some (.ptr (some (i, o)))) = some (.ptr (some (i, o + 1))) := fa_ptr rfl (by decide) rfl
theorem fi38_1 : faR Try.T 38 1 (some (.iptr row o)) = some (.iptr row (o + 1)) := fa_iptr rfl (by decide) rfl
theorem fE38_1 (p : Sl E h i a l) (h0 : 0 ≤ j) (h1 : j < l.length) : faR Try.T 38 1 (some (a.at E.sz off0 j)) = some (a.at E.sz (off0 + 1) j) := p.fa h0 h1 rfl (by decide) rfl
theorem fl38_1 : fldR Try.T 38 1 (some (.agg cs)) = cs[1]? := fld_1 rfl rfl rfl
theorem fa38_2 : faR Try.T 38 2 (some (.ptr (some (i, o)))) = some (.ptr (some (i, o + 2))) := fa_ptr rfl (by decide) rfl
theorem fi38_2 : faR Try.T 38 2 (some (.iptr row o)) = some (.iptr row (o + 2)) := fa_iptr rfl (by decide) rfl
theorem fE38_2 (p : Sl E h i a l) (h0 : 0 ≤ j) (h1 : j < l.length) : faR Try.T 38 2 (some (a.at E.sz off0 j)) = some (a.at E.sz (off0 + 2) j) := p.fa h0 h1 rfl (by decide) rfl
theorem fl38_2 : fldR Try.T 38 2 (some (.agg cs)) = cs[2]? := fld_1 rfl rfl rfl
theorem fa38_3 : faR Try.T 38 3 (some (.ptr (some (i, o)))) = some (.ptr (some (i, o + 3))) := fa_ptr rfl (by decide) rfl
theorem fi38_3 : faR Try.T 38 3 (some (.iptr row o)) = some (.iptr row (o + 3)) := fa_iptr rfl (by decide) rfl
theorem fE38_3 (p : Sl E h i a l) (h0 : 0 ≤ j) (h1 : j < l.length) : faR Try.T 38 3 (some (a.at E.sz off0 j)) = some (a.at E.sz (off0 + 3) j) := p.fa h0 h1 rfl (by decide) rfl
theorem fl38_3 : fldR Try.T 38 3 (some (.agg cs)) = cs[3]? := fld_1 rfl rfl rfl
theorem Td39 : (Try.T 39).desc = .struct [(37, 0, true), (3, 1, true), (3, 2, true), (3, 3, true)] := rfl
theorem Tz39 : (Try.T 39).zero = [.ptr none, .int .i64 0, .int .i64 0, .int .i64 0] := rfl
theorem ld39 : loadA Try.T h 39 (.ptr (some (i, o))) = rdN o 4 (h.get i) := ld_n rfl rfl rfl
theorem li39 : loadA Try.T h 39 (.iptr row o) = (cut row o 4).map .agg := ldi_n rfl rfl rfl
theorem st39 : storeA Try.T h 39 (.ptr (some (i, o))) v = stC h i o 4 v.cells := st_n rfl rfl
theorem lE39 [Inhabited α] (p : Sl E h i a l) (h0 : 0 ≤ j) (h1 : j < l.length) (h4 : Seen (Nat.beq E.sz 4)) : loadA Try.T h 39 (a.at E.sz 0 j) = some (.agg (E.f (l[j.toNat]!))) := p.ldn h0 h1 rfl rfl (Nat.eq_of_beq_eq_true h4.eq).symm
theorem bd39 {l : List (Nat × AV)} : bldR Try.T 39 (some l) = (fillA (plA Try.T 39) (Try.T 39).zero l).map .agg := bld_eq rfl
theorem pl39_0 : plA Try.T 39 0 = some (0, 1) := rfl
theorem pl39_1 : plA Try.T 39 1 = some (1, 1) := rfl
theorem pl39_2 : plA Try.T 39 2 = some (2, 1) := rfl
theorem pl39_3 : plA Try.T 39 3 = some (3, 1) := rfl
theorem fa39_0 : faR Try.T 39 0 (some (.ptr (some (i, o)))) = some (.ptr (some (i, o + 0))) := fa_ptr rfl (by decide) rfl
theorem fi39_0 : faR Try.T 39 0 (some (.iptr row o)) = some (.iptr row (o + 0)) := fa_iptr rfl (by decide) rfl
theorem fE39_0 (p : Sl E h i a l) (h0 : 0 ≤ j) (h1 : j < l.length) : faR Try.T 39 0 (some (a.at E.sz off0 j)) = some (a.at E.sz (off0 + 0) j) := p.fa h0 h1 rfl (by decide) rfl
theorem fl39_0 : fldR Try.T 39 0 (some (.agg cs)) = cs[0]? := fld_1 rfl rfl rfl
theorem fa39_1 : faR Try.T 39 1 (some (.ptr (some (i, o)))) = some (.ptr (some (i, o + 1))) := fa_ptr rfl (by decide) rfl
theorem fi39_1 : faR Try.T 39 1 (some (.iptr row o)) = some (.iptr row (o + 1)) := fa_iptr rfl (by decide) rfl
theorem fE39_1 (p : Sl E h i a l) (h0 : 0 ≤ j) (h1 : j < l.length) : faR Try.T 39 1 (some (a.at E.sz off0 j)) = some (a.at E.sz (off0 + 1) j) := p.fa h0 h1 rfl (by decide) rfl
theorem fl39_1 : fldR Try.T 39 1 (some (.agg cs)) = cs[1]? := fld_1 rfl rfl rfl
theorem fa39_2 : faR Try.T 39 2 (some (.ptr (some (i, o)))) = some (.ptr (some (i, o + 2))) := fa_ptr rfl (by decide) rfl
theorem fi39_2 : faR Try.T 39 2 (some (.iptr row o)) = some (.iptr row (o + 2)) := fa_iptr rfl (by decide) rfl
theorem fE39_2 (p : Sl E h i a l) (h0 : 0 ≤ j) (h1 : j < l.length) : faR Try.T 39 2 (some (a.at E.sz off0 j)) = some (a.at E.sz (off0 + 2) j) := p.fa h0 h1 rfl (by decide) rfl
theorem fl39_2 : fldR Try.T 39 2 (some (.agg cs)) = cs[2]? := fld_1 rfl rfl rfl
theorem fa39_3 : faR Try.T 39 3 (some (.ptr (some (i, o)))) = some (.ptr (some (i, o + 3))) := fa_ptr rfl (by decide) rfl
theorem fi39_3 : faR Try.T 39 3 (some (.iptr row o)) = some (.iptr row (o + 3)) := fa_iptr rfl (by decide) rfl
theorem fE39_3 (p : Sl E h i a l) (h0 : 0 ≤ j) (h1 : j < l.length) : faR Try.T 39 3 (some (a.at E.sz off0 j)) = some (a.at E.sz (off0 + 3) j) := p.fa h0 h1 rfl (by decide) rfl
theorem fl39_3 : fldR Try.T 39 3 (some (.agg cs)) = cs[3]? := fld_1 rfl rfl rfl
theorem Td40 : (Try.T 40).desc = .func := rfl
theorem Tz40 : (Try.T 40).zero = [.nilFunc] := rfl
theorem ld40 : loadA Try.T h 40 (.ptr (some (i, o))) = rd1 o (h.get i) := ld_1 rfl rfl
theorem li40 : loadA Try.T h 40 (.iptr row o) = row[o]? := ldi_1 rfl rfl
theorem st40 : storeA Try.T h 40 (.ptr (some (i, o))) v = stC h i o 1 v.cells := st_n rfl rfl
theorem feqs40 {f : FuncId} : binA Try.T .eql 40 (.func f cs) .nilFunc = some (.bool false) := fn_eqs rfl
theorem feqn40 : binA Try.T .eql 40 .nilFunc .nilFunc = some (.bool true) := fn_eqn rfl
theorem Td41 : (Try.T 41).desc = .func := rfl
theorem Tz41 : (Try.T 41).zero = [.nilFunc] := rfl
theorem ld41 : loadA Try.T h 41 (.ptr (some (i, o))) = rd1 o (h.get i) := ld_1 rfl rfl
theorem li41 : loadA Try.T h 41 (.iptr row o) = row[o]? := ldi_1 rfl rfl
theorem st41 : storeA Try.T h 41 (.ptr (some (i, o))) v = stC h i o 1 v.cells := st_n rfl rfl
theorem feqs41 {f : FuncId} : binA Try.T .eql 41 (.func f cs) .nilFunc = some (.bool false) := fn_eqs rfl
theorem feqn41 : binA Try.T .eql 41 .nilFunc .nilFunc = some (.bool true) := fn_eqn rfl
theorem Td42 : (Try.T 42).desc = .func := rfl
theorem Tz42 : (Try.T 42).zero = [.nilFunc] := rfl
theorem ld42 : loadA Try.T h 42 (.ptr (some (i, o))) = rd1 o (h.get i) := ld_1 rfl rfl
theorem li42 : loadA Try.T h 42 (.iptr row o) = row[o]? := ldi_1 rfl rfl
theorem st42 : storeA Try.T h 42 (.ptr (some (i, o))) v = stC h i o 1 v.cells := st_n rfl rfl
theorem feqs42 {f : FuncId} : binA Try.T .eql 42 (.func f cs) .nilFunc = some (.bool false) := fn_eqs rfl
theorem feqn42 : binA Try.T .eql 42 .nilFunc .nilFunc = some (.bool true) := fn_eqn rfl
theorem Td43 : (Try.T 43).desc = .func := rfl
theorem Tz43 : (Try.T 43).zero = [.nilFunc] := rfl
theorem ld43 : loadA Try.T h 43 (.ptr (some (i, o))) = rd1 o (h.get i) := ld_1 rfl rfl
theorem li43 : loadA Try.T h 43 (.iptr row o) = row[o]? := ldi_1 rfl rfl
theorem st43 : storeA Try.T h 43 (.ptr (some (i, o))) v = stC h i o 1 v.cells := st_n rfl rfl
theorem feqs43 {f : FuncId} : binA Try.T .eql 43 (.func f cs) .nilFunc = some (.bool false) := fn_eqs rfl
theorem feqn43 : binA Try.T .eql 43 .nilFunc .nilFunc = some (.bool true) := fn_eqn rfl
theorem Td44 : (Try.T 44).desc = .struct [(9, 0, true), (9, 1, true), (4, 2, true)] := rfl
theorem Tz44 : (Try.T 44).zero = [.str [], .str [], .bool false] := rfl
theorem ld44 : loadA Try.T h 44 (.ptr (some (i, o))) = rdN o 3 (h.get i) := ld_n rfl rfl rfl
theorem li44 : loadA Try.T h 44 (.iptr row o) = (cut row o 3).map .agg := ldi_n rfl rfl rfl
theorem st44 : storeA Try.T h 44 (.ptr (some (i, o))) v = stC h i o 3 v.cells := st_n rfl rfl
theorem lE44 [Inhabited α] (p : Sl E h i a l) (h0 : 0 ≤ j) (h1 : j < l.length) (h4 : Seen (Nat.beq E.sz 3)) : loadA Try.T h 44 (a.at E.sz 0 j) = some (.agg (E.f (l[j.toNat]!))) := p.ldn h0 h1 rfl rfl (Nat.eq_of_beq_eq_true h4.eq).symm
theorem bd44 {l : List (Nat × AV)} : bldR Try.T 44 (some l) = (fillA (plA Try.T 44) (Try.T 44).zero l).map .agg := bld_eq rfl
theorem pl44_0 : plA Try.T 44 0 = some (0, 1) := rfl
theorem pl44_1 : plA Try.T 44 1 = some (1, 1) := rfl
theorem pl44_2 : plA Try.T 44 2 = some (2, 1) := rfl
theorem fa44_0 : faR Try.T 44 0 (some (.ptr (some (i, o)))) = some (.ptr (some (i, o + 0))) := fa_ptr rfl (by decide) rfl
theorem fi44_0 : faR Try.T 44 0 (some (.iptr row o)) = some (.iptr row (o + 0)) := fa_iptr rfl (by decide) rfl
theorem fE44_0 (p : Sl E h i a l) (h0 : 0 ≤ j) (h1 : j < l.length) : faR Try.T 44 0 (some (a.at E.sz off0 j)) = some (a.at E.sz (off0 + 0) j) := p.fa h0 h1 rfl (by decide) rfl
theorem fl44_0 : fldR Try.T 44 0 (some (.agg cs)) = cs[0]? := fld_1 rfl rfl rfl
theorem fa44_1 : faR Try.T 44 1 (some (.ptr (some (i, o)))) = some (.ptr (some (i, o + 1))) := fa_ptr rfl (by decide) rfl
theorem fi44_1 : faR Try.T 44 1 (some (.iptr row o)) = some (.iptr row (o + 1)) := fa_iptr rfl (by decide) rfl
theorem fE44_1 (p : Sl E h i a l) (h0 : 0 ≤ j) (h1 : j < l.length) : faR Try.T 44 1 (some (a.at E.sz off0 j)) = some (a.at E.sz (off0 + 1) j) := p.fa h0 h1 rfl (by decide) rfl
theorem fl44_1 : fldR Try.T 44 1 (some (.agg cs)) = cs[1]? := fld_1 rfl rfl rfl
theorem fa44_2 : faR Try.T 44 2 (some (.ptr (some (i, o)))) = some (.ptr (some (i, o + 2))) := fa_ptr rfl (by decide) rfl
theorem fi44_2 : faR Try.T 44 2 (some (.iptr row o)) = some (.iptr row (o + 2)) := fa_iptr rfl (by decide) rfl
theorem fE44_2 (p : Sl E h i a l) (h0 : 0 ≤ j) (h1 : j < l.length) : faR Try.T 44 2 (some (a.at E.sz off0 j)) = some (a.at E.sz (off0 + 2) j) := p.fa h0 h1 rfl (by decide) rfl
theorem fl44_2 : fldR Try.T 44 2 (some (.agg cs)) = cs[2]? := fld_1 rfl rfl rfl
theorem Td45 : (Try.T 45).desc = .struct [(9, 0, true), (9, 1, true), (4, 2, true)] := rfl
theorem Tz45 : (Try.T 45).zero = [.str [], .str [], .bool false] := rfl
theorem ld45 : loadA Try.T h 45 (.ptr (some (i, o))) = rdN o 3 (h.get i) := ld_n rfl rfl rfl
theorem li45 : loadA Try.T h 45 (.iptr row o) = (cut row o 3).map .agg := ldi_n rfl rfl rfl
theorem st45 : storeA Try.T h 45 (.ptr (some (i, o))) v = stC h i o 3 v.cells := st_n rfl rfl
theorem lE45 [Inhabited α] (p : Sl E h i a l) (h0 : 0 ≤ j) (h1 : j < l.length) (h4 : Seen (Nat.beq E.sz 3)) : loadA Try.T h 45 (a.at E.sz 0 j) = some (.agg (E.f (l[j.toNat]!))) := p.ldn h0 h1 rfl rfl (Nat.eq_of_beq_eq_true h4.eq).symm
theorem bd45 {l : List (Nat × AV)} : bldR Try.T 45 (some l) = (fillA (plA Try.T 45) (Try.T 45).zero l).map .agg := bld_eq rfl
theorem pl45_0 : plA Try.T 45 0 = some (0, 1) := rfl
theorem pl45_1 : plA Try.T 45 1 = some (1, 1) := rfl
theorem pl45_2 : plA Try.T 45 2 = some (2, 1) := rfl
theorem fa45_0 : faR Try.T 45 0 (some (.ptr (some (i, o)))) = some (.ptr (some (i, o + 0))) := fa_ptr rfl (by decide) rfl
theorem fi45_0 : faR Try.T 45 0 (some (.iptr row o)) = some (.iptr row (o + 0)) := fa_iptr rfl (by decide) rfl
theorem fE45_0 (p : Sl E h i a l) (h0 : 0 ≤ j) (h1 : j < l.length) : faR Try.T 45 0 (some (a.at E.sz off0 j)) = some (a.at E.sz (off0 + 0) j) := p.fa h0 h1 rfl (by decide) rfl
theorem fl45_0 : fldR Try.T 45 0 (some (.agg cs)) = cs[0]? := fld_1 rfl rfl rfl
theorem fa45_1 : faR Try.T 45 1 (some (.ptr (some (i, o)))) = some (.ptr (some (i, o + 1))) := fa_ptr rfl (by decide) rfl
theorem fi45_1 : faR Try.T 45 1 (some (.iptr row o)) = some (.iptr row (o + 1)) := fa_iptr rfl (by decide) rfl
theorem fE45_1 (p : Sl E h i a l) (h0 : 0 ≤ j) (h1 : j < l.length) : faR Try.T 45 1 (some (a.at E.sz off0 j)) = some (a.at E.sz (off0 + 1) j) := p.fa h0 h1 rfl (by decide) rfl
theorem fl45_1 : fldR Try.T 45 1 (some (.agg cs)) = cs[1]? := fld_1 rfl rfl rfl
theorem fa45_2 : faR Try.T 45 2 (some (.ptr (some (i, o)))) = some (.ptr (some (i, o + 2))) := fa_ptr rfl (by decide) rfl
theorem fi45_2 : faR Try.T 45 2 (some (.iptr row o)) = some (.iptr row (o + 2)) := fa_iptr rfl (by decide) rfl
theorem fE45_2 (p : Sl E h i a l) (h0 : 0 ≤ j) (h1 : j < l.length) : faR Try.T 45 2 (some (a.at E.sz off0 j)) = some (a.at E.sz (off0 + 2) j) := p.fa h0 h1 rfl (by decide) rfl
theorem fl45_2 : fldR Try.T 45 2 (some (.agg cs)) = cs[2]? := fld_1 rfl rfl rfl
theorem Td47 : (Try.T 47).desc = .func := rfl
theorem Tz47 : (Try.T 47).zero = [.nilFunc] := rfl
theorem ld47 : loadA Try.T h 47 (.ptr (some (i, o))) = rd1 o (h.get i) := ld_1 rfl rfl
theorem li47 : loadA Try.T h 47 (.iptr row o) = row[o]? := ldi_1 rfl rfl
theorem st47 : storeA Try.T h 47 (.ptr (some (i, o))) v = stC h i o 1 v.cells := st_n rfl rfl
theorem feqs47 {f : FuncId} : binA Try.T .eql 47 (.func f cs) .nilFunc = some (.bool false) := fn_eqs rfl
theorem feqn47 : binA Try.T .eql 47 .nilFunc .nilFunc = some (.bool true) := fn_eqn rfl
theorem Td48 : (Try.T 48).desc = .pointer 81 := rfl
theorem Tz48 : (Try.T 48).zero = [.ptr none] := rfl
theorem ld48 : loadA Try.T h 48 (.ptr (some (i, o))) = rd1 o (h.get i) := ld_1 rfl rfl
theorem li48 : loadA Try.T h 48 (.iptr row o) = row[o]? := ldi_1 rfl rfl
theorem st48 : storeA Try.T h 48 (.ptr (some (i, o))) v = stC h i o 1 v.cells := st_n rfl rfl
theorem peqn48 : binA Try.T .eql 48 (.ptr none) (.ptr none) = some (.bool true) := pt_eqn rfl
theorem peqs48 {p : Nat × Nat} : binA Try.T .eql 48 (.ptr (some p)) (.ptr none) = some (.bool false) := pt_eqs rfl
theorem pnen48 : binA Try.T .neq 48 (.ptr none) (.ptr none) = some (.bool false) := pt_nen rfl
theorem pnes48 {p : Nat × Nat} : binA Try.T .neq 48 (.ptr (some p)) (.ptr none) = some (.bool true) := pt_nes rfl
theorem Td50 : (Try.T 50).desc = .func := rfl
theorem Tz50 : (Try.T 50).zero = [.nilFunc] := rfl
theorem ld50 : loadA Try.T h 50 (.ptr (some (i, o))) = rd1 o (h.get i) := ld_1 rfl rfl
theorem li50 : loadA Try.T h 50 (.iptr row o) = row[o]? := ldi_1 rfl rfl
theorem st50 : storeA Try.T h 50 (.ptr (some (i, o))) v = stC h i o 1 v.cells := st_n rfl rfl
theorem feqs50 {f : FuncId} : binA Try.T .eql 50 (.func f cs) .nilFunc = some (.bool false) := fn_eqs rfl
theorem feqn50 : binA Try.T .eql 50 .nilFunc .nilFunc = some (.bool true) := fn_eqn rfl
theorem Td57 : (Try.T 57).desc = .slice 3 := rfl
theorem Tz57 : (Try.T 57).zero = [.slice none 0 0 0 true] := rfl
theorem ld57 : loadA Try.T h 57 (.ptr (some (i, o))) = rd1 o (h.get i) := ld_1 rfl rfl
theorem li57 : loadA Try.T h 57 (.iptr row o) = row[o]? := ldi_1 rfl rfl
theorem st57 : storeA Try.T h 57 (.ptr (some (i, o))) v = stC h i o 1 v.cells := st_n rfl rfl
theorem len57 (p : Sl E h i a l) : builtinA Try.T h' .len [57] [a] = some (.int .i64 (l.length : Int), h') := p.len rfl
theorem ix57 (p : Sl E h i a l) (h0 : 0 ≤ j) (h1 : j < l.length) (h2 : Seen (Nat.beq E.sz 1)) : idxA Try.T 57 a (.int k j) = some (a.at E.sz 0 j) := p.idx h0 h1 rfl rfl (Nat.eq_of_beq_eq_true h2.eq).symm
theorem wr3 {P : Program} {ops : Array Oper} {L : List Oper} {K : Tm → AH → Prop} {d : Option Nat} {tm : Tm} (p : Ow E h i a l) (x : α) (hx : v.cells = E.f x) (h0 : 0 ≤ j) (h1 : j < l.length) (h2 : Seen (Nat.beq E.sz 1)) (hk : ∀ h', Ow E h' i a (l.set j.toNat x) → h'.size = h.size → (∀ b, ¬ b = i → h'.get b = h.get b) → putM P Try.T ops L K d tm undefA h') : ansM P Try.T ops L K d tm h ((storeA Try.T h 3 (a.at E.sz 0 j) v).map fun h' => .val undefA h') :=
  ans_wr p x hx h0 h1 rfl (Nat.eq_of_beq_eq_true h2.eq).symm hk
theorem br57 {n : Nat} {l : List (Nat × AV)} (hn : Seen (Nat.beq l.length n && (Nat.ble n 10000 && bsOk 0 l))) : bsR Try.T h 57 n (some l) = some (.val (.slice (some (h.size, 0)) n n 1 true) (h.push (.cells (l.map (·.2))))) := bs_row rfl rfl rfl rfl hn
theorem bs57 (hv : Seen (match v with | .agg _ | .tuple _ => false | _ => true)) : bsR Try.T h 57 1 (some [(0, v)]) = some (.val (.slice (some (h.size, 0)) 1 1 1 true) (h.push (.cells [v]))) := bs_one rfl rfl rfl rfl hv
theorem sl57 (p : Sl E h i a l) (h0 : 0 ≤ x) (h1 : x ≤ y) (h2 : y ≤ l.length) (h3 : Seen (Nat.beq E.sz 1)) : sliceA Try.T 57 a (some x) (some y) none = some (a.part x y) := p.slc h0 h1 h2 rfl rfl (Nat.eq_of_beq_eq_true h3.eq).symm
theorem sm57 (p : Sl E h i a l) (h1 : 0 ≤ y) (h2 : y ≤ l.length) (h3 : Seen (Nat.beq E.sz 1)) : sliceA Try.T 57 a none (some y) none = some (a.part 0 y) := p.slc (lo := none) (Int.le_refl _) h1 h2 rfl rfl (Nat.eq_of_beq_eq_true h3.eq).symm
theorem sn57 (p : Sl E h i a l) (h0 : 0 ≤ x) (h1 : x ≤ l.length) (h3 : Seen (Nat.beq E.sz 1)) : sliceA Try.T 57 a (some x) none none = some (a.part x l.length) := p.slc (hi := none) h0 h1 (Int.le_refl _) rfl rfl (Nat.eq_of_beq_eq_true h3.eq).symm
theorem ap57 {P : Program} {ops : Array Oper} {L : List Oper} {K : Tm → AH → Prop} {d : Option Nat} {tm : Tm} {x : AV} {new : List α} {ix : Nat} (p : Ow E h i a l) (hx : Sl E h ix x new) (h2 : Seen (Nat.beq E.sz 1)) (hr : (l.length + new.length) * 8 ≤ 140737488355328) (hk : ∀ z h' i', Ow E h' i' z (l ++ new) → (i' = i ∨ h.size ≤ i') → h.size ≤ h'.size → (∀ j, j < h.size → ¬ j = i → h'.get j = h.get j) → putM P Try.T ops L K d tm z h') : ansM P Try.T ops L K d tm h (pairR (appendA Try.T h 57 57 a x)) :=
  ans_app p hx rfl ⟨_, rfl⟩ rfl (Nat.eq_of_beq_eq_true h2.eq).symm (Nat.eq_of_beq_eq_true h2.eq).symm (by decide) hr hk
theorem al57 {P : Program} {ops : Array Oper} {L : List Oper} {K : Tm → AH → Prop} {d : Option Nat} {tm : Tm} {sz : Nat} (x : α) (p : Ow E h i a l) (hx : cs = E.f x) (hs : sz = E.sz) (h2 : Seen (Nat.beq E.sz 1)) (hr : (l.length + 1) * 8 ≤ 140737488355328) (hk : ∀ z h' i', Ow E h' i' z (l ++ [x]) → (i' = i ∨ h.size ≤ i') → h.size ≤ h'.size → (∀ j, j < h.size → ¬ j = i → h'.get j = h.get j) → putM P Try.T ops L K d tm z h') : ansM P Try.T ops L K d tm (h.push (.cells cs)) (pairR (appendA Try.T (h.push (.cells cs)) 57 57 a (.slice (some (h.size, 0)) 1 1 sz true))) :=
  ans_app1 p x hx hs rfl rfl (Nat.eq_of_beq_eq_true h2.eq).symm (Nat.eq_of_beq_eq_true h2.eq).symm (by decide) hr hk
theorem eqn57 {l1 c1 z1 l2 c2 z2 : Nat} {x1 x2 : Bool} : binA Try.T .eql 57 (.slice none l1 c1 z1 x1) (.slice none l2 c2 z2 x2) = some (.bool true) := sl_eqn rfl
theorem eqs57 {l1 c1 z1 l2 c2 z2 : Nat} {x1 x2 : Bool} {p : Nat × Nat} : binA Try.T .eql 57 (.slice (some p) l1 c1 z1 x1) (.slice none l2 c2 z2 x2) = some (.bool false) := sl_eqs rfl
theorem eqi57 {l2 c2 z2 a1 b1 c1 d1 : Nat} {x2 : Bool} : binA Try.T .eql 57 (.islice row a1 b1 c1 d1) (.slice none l2 c2 z2 x2) = some (.bool false) := sl_eqi rfl
theorem Td58 : (Try.T 58).desc = .slice 28 := rfl
theorem Tz58 : (Try.T 58).zero = [.slice none 0 0 0 true] := rfl
theorem ld58 : loadA Try.T h 58 (.ptr (some (i, o))) = rd1 o (h.get i) := ld_1 rfl rfl
theorem li58 : loadA Try.T h 58 (.iptr row o) = row[o]? := ldi_1 rfl rfl
theorem st58 : storeA Try.T h 58 (.ptr (some (i, o))) v = stC h i o 1 v.cells := st_n rfl rfl
theorem len58 (p : Sl E h i a l) : builtinA Try.T h' .len [58] [a] = some (.int .i64 (l.length : Int), h') := p.len rfl
theorem ix58 (p : Sl E h i a l) (h0 : 0 ≤ j) (h1 : j < l.length) (h2 : Seen (Nat.beq E.sz 1)) : idxA Try.T 58 a (.int k j) = some (a.at E.sz 0 j) := p.idx h0 h1 rfl rfl (Nat.eq_of_beq_eq_true h2.eq).symm
theorem wr28 {P : Program} {ops : Array Oper} {L : List Oper} {K : Tm → AH → Prop} {d : Option Nat} {tm : Tm} (p : Ow E h i a l) (x : α) (hx : v.cells = E.f x) (h0 : 0 ≤ j) (h1 : j < l.length) (h2 : Seen (Nat.beq E.sz 1)) (hk : ∀ h', Ow E h' i a (l.set j.toNat x) → h'.size = h.size → (∀ b, ¬ b = i → h'.get b = h.get b) → putM P Try.T ops L K d tm undefA h') : ansM P Try.T ops L K d tm h ((storeA Try.T h 28 (a.at E.sz 0 j) v).map fun h' => .val undefA h') :=
  ans_wr p x hx h0 h1 rfl (Nat.eq_of_beq_eq_true h2.eq).symm hk
theorem br58 {n : Nat} {l : List (Nat × AV)} (hn : Seen (Nat.beq l.length n && (Nat.ble n 10000 && bsOk 0 l))) : bsR Try.T h 58 n (some l) = some (.val (.slice (some (h.size, 0)) n n 1 true) (h.push (.cells (l.map (·.2))))) := bs_row rfl rfl rfl rfl hn
theorem bs58 (hv : Seen (match v with | .agg _ | .tuple _ => false | _ => true)) : bsR Try.T h 58 1 (some [(0, v)]) = some (.val (.slice (some (h.size, 0)) 1 1 1 true) (h.push (.cells [v]))) := bs_one rfl rfl rfl rfl hv
theorem sl58 (p : Sl E h i a l) (h0 : 0 ≤ x) (h1 : x ≤ y) (h2 : y ≤ l.length) (h3 : Seen (Nat.beq E.sz 1)) : sliceA Try.T 58 a (some x) (some y) none = some (a.part x y) := p.slc h0 h1 h2 rfl rfl (Nat.eq_of_beq_eq_true h3.eq).symm
theorem sm58 (p : Sl E h i a l) (h1 : 0 ≤ y) (h2 : y ≤ l.length) (h3 : Seen (Nat.beq E.sz 1)) : sliceA Try.T 58 a none (some y) none = some (a.part 0 y) := p.slc (lo := none) (Int.le_refl _) h1 h2 rfl rfl (Nat.eq_of_beq_eq_true h3.eq).symm
theorem sn58 (p : Sl E h i a l) (h0 : 0 ≤ x) (h1 : x ≤ l.length) (h3 : Seen (Nat.beq E.sz 1)) : sliceA Try.T 58 a (some x) none none = some (a.part x l.length) := p.slc (hi := none) h0 h1 (Int.le_refl _) rfl rfl (Nat.eq_of_beq_eq_true h3.eq).symm
theorem ap58 {P : Program} {ops : Array Oper} {L : List Oper} {K : Tm → AH → Prop} {d : Option Nat} {tm : Tm} {x : AV} {new : List α} {ix : Nat} (p : Ow E h i a l) (hx : Sl E h ix x new) (h2 : Seen (Nat.beq E.sz 1)) (hr : (l.length + new.length) * 24 ≤ 140737488355328) (hk : ∀ z h' i', Ow E h' i' z (l ++ new) → (i' = i ∨ h.size ≤ i') → h.size ≤ h'.size → (∀ j, j < h.size → ¬ j = i → h'.get j = h.get j) → putM P Try.T ops L K d tm z h') : ansM P Try.T ops L K d tm h (pairR (appendA Try.T h 58 58 a x)) :=
  ans_app p hx rfl ⟨_, rfl⟩ rfl (Nat.eq_of_beq_eq_true h2.eq).symm (Nat.eq_of_beq_eq_true h2.eq).symm (by decide) hr hk
theorem al58 {P : Program} {ops : Array Oper} {L : List Oper} {K : Tm → AH → Prop} {d : Option Nat} {tm : Tm} {sz : Nat} (x : α) (p : Ow E h i a l) (hx : cs = E.f x) (hs : sz = E.sz) (h2 : Seen (Nat.beq E.sz 1)) (hr : (l.length + 1) * 24 ≤ 140737488355328) (hk : ∀ z h' i', Ow E h' i' z (l ++ [x]) → (i' = i ∨ h.size ≤ i') → h.size ≤ h'.size → (∀ j, j < h.size → ¬ j = i → h'.get j = h.get j) → putM P Try.T ops L K d tm z h') : ansM P Try.T ops L K d tm (h.push (.cells cs)) (pairR (appendA Try.T (h.push (.cells cs)) 58 58 a (.slice (some (h.size, 0)) 1 1 sz true))) :=
  ans_app1 p x hx hs rfl rfl (Nat.eq_of_beq_eq_true h2.eq).symm (Nat.eq_of_beq_eq_true h2.eq).symm (by decide) hr hk
theorem eqn58 {l1 c1 z1 l2 c2 z2 : Nat} {x1 x2 : Bool} : binA Try.T .eql 58 (.slice none l1 c1 z1 x1) (.slice none l2 c2 z2 x2) = some (.bool true) := sl_eqn rfl
theorem eqs58 {l1 c1 z1 l2 c2 z2 : Nat} {x1 x2 : Bool} {p : Nat × Nat} : binA Try.T .eql 58 (.slice (some p) l1 c1 z1 x1) (.slice none l2 c2 z2 x2) = some (.bool false) := sl_eqs rfl
theorem eqi58 {l2 c2 z2 a1 b1 c1 d1 : Nat} {x2 : Bool} : binA Try.T .eql 58 (.islice row a1 b1 c1 d1) (.slice none l2 c2 z2 x2) = some (.bool false) := sl_eqi rfl
theorem Td59 : (Try.T 59).desc = .func := rfl
theorem Tz59 : (Try.T 59).zero = [.nilFunc] := rfl
theorem ld59 : loadA Try.T h 59 (.ptr (some (i, o))) = rd1 o (h.get i) := ld_1 rfl rfl
theorem li59 : loadA Try.T h 59 (.iptr row o) = row[o]? := ldi_1 rfl rfl
theorem st59 : storeA Try.T h 59 (.ptr (some (i, o))) v = stC h i o 1 v.cells := st_n rfl rfl
theorem feqs59 {f : FuncId} : binA Try.T .eql 59 (.func f cs) .nilFunc = some (.bool false) := fn_eqs rfl
theorem feqn59 : binA Try.T .eql 59 .nilFunc .nilFunc = some (.bool true) := fn_eqn rfl
theorem Td60 : (Try.T 60).desc = .pointer 87 := rfl
theorem Tz60 : (Try.T 60).zero = [.ptr none] := rfl
theorem ld60 : loadA Try.T h 60 (.ptr (some (i, o))) = rd1 o (h.get i) := ld_1 rfl rfl
theorem li60 : loadA Try.T h 60 (.iptr row o) = row[o]? := ldi_1 rfl rfl
theorem st60 : storeA Try.T h 60 (.ptr (some (i, o))) v = stC h i o 1 v.cells := st_n rfl rfl
theorem peqn60 : binA Try.T .eql 60 (.ptr none) (.ptr none) = some (.bool true) := pt_eqn rfl
theorem peqs60 {p : Nat × Nat} : binA Try.T .eql 60 (.ptr (some p)) (.ptr none) = some (.bool false) := pt_eqs rfl
theorem pnen60 : binA Try.T .neq 60 (.ptr none) (.ptr none) = some (.bool false) := pt_nen rfl
theorem pnes60 {p : Nat × Nat} : binA Try.T .neq 60 (.ptr (some p)) (.ptr none) = some (.bool true) := pt_nes rfl
theorem Td62 : (Try.T 62).desc = .func := rfl
theorem Tz62 : (Try.T 62).zero = [.nilFunc] := rfl
theorem ld62 : loadA Try.T h 62 (.ptr (some (i, o))) = rd1 o (h.get i) := ld_1 rfl rfl
theorem li62 : loadA Try.T h 62 (.iptr row o) = row[o]? := ldi_1 rfl rfl
theorem st62 : storeA Try.T h 62 (.ptr (some (i, o))) v = stC h i o 1 v.cells := st_n rfl rfl
theorem feqs62 {f : FuncId} : binA Try.T .eql 62 (.func f cs) .nilFunc = some (.bool false) := fn_eqs rfl
theorem feqn62 : binA Try.T .eql 62 .nilFunc .nilFunc = some (.bool true) := fn_eqn rfl
theorem Td63 : (Try.T 63).desc = .struct [(60, 0, true), (3, 1, true), (3, 2, true), (3, 3, true)] := rfl
theorem Tz63 : (Try.T 63).zero = [.ptr none, .int .i64 0, .int .i64 0, .int .i64 0] := rfl
theorem ld63 : loadA Try.T h 63 (.ptr (some (i, o))) = rdN o 4 (h.get i) := ld_n rfl rfl rfl
theorem li63 : loadA Try.T h 63 (.iptr row o) = (cut row o 4).map .agg := ldi_n rfl rfl rfl
theorem st63 : storeA Try.T h 63 (.ptr (some (i, o))) v = stC h i o 4 v.cells := st_n rfl rfl
theorem lE63 [Inhabited α] (p : Sl E h i a l) (h0 : 0 ≤ j) (h1 : j < l.length) (h4 : Seen (Nat.beq E.sz 4)) : loadA Try.T h 63 (a.at E.sz 0 j) = some (.agg (E.f (l[j.toNat]!))) := p.ldn h0 h1 rfl rfl (Nat.eq_of_beq_eq_true h4.eq).symm
theorem bd63 {l : List (Nat × AV)} : bldR Try.T 63 (some l) = (fillA (plA Try.T 63) (Try.T 63).zero l).map .agg := bld_eq rfl
theorem pl63_0 : plA Try.T 63 0 = some (0, 1) := rfl
theorem pl63_1 : plA Try.T 63 1 = some (1, 1) := rfl
theorem pl63_2 : plA Try.T 63 2 = some (2, 1) := rfl
theorem pl63_3 : plA Try.T 63 3 = some (3, 1) := rfl
theorem fa63_0 : faR Try.T 63 0 (some (.ptr (some (i, o)))) = some (.ptr (some (i, o + 0))) := fa_ptr rfl (by decide) rfl
theorem fi63_0 : faR Try.T 63 0 (some (.iptr row o)) = some (.iptr row (o + 0)) := fa_iptr rfl (by decide) rfl
theorem fE63_0 (p : Sl E h i a l) (h0 : 0 ≤ j) (h1 : j < l.length) : faR Try.T 63 0 (some (a.at E.sz off0 j)) = some (a.at E.sz (off0 + 0) j) := p.fa h0 h1 rfl (by decide) rfl
theorem fl63_0 : fldR Try.T 63 0 (some (.agg cs)) = cs[0]? := fld_1 rfl rfl rfl
theorem fa63_1 : faR Try.T 63 1 (some (.ptr (some (i, o)))) = some (.ptr (some (i, o + 1))) := fa_ptr rfl (by decide) rfl
theorem fi63_1 : faR Try.T 63 1 (some (.iptr row o)) = some (.iptr row (o + 1)) := fa_iptr rfl (by decide) rfl
theorem fE63_1 (p : Sl E h i a l) (h0 : 0 ≤ j) (h1 : j < l.length) : faR Try.T 63 1 (some (a.at E.sz off0 j)) = some (a.at E.sz (off0 + 1) j) := p.fa h0 h1 rfl (by decide) rfl
theorem fl63_1 : fldR Try.T 63 1 (some (.agg cs)) = cs[1]? := fld_1 rfl rfl rfl
theorem fa63_2 : faR Try.T 63 2 (some (.ptr (some (i, o)))) = some (.ptr (some (i, o + 2))) := fa_ptr rfl (by decide) rfl
theorem fi63_2 : faR Try.T 63 2 (some (.iptr row o)) = some (.iptr row (o + 2)) := fa_iptr rfl (by decide) rfl
theorem fE63_2 (p : Sl E h i a l) (h0 : 0 ≤ j) (h1 : j < l.length) : faR Try.T 63 2 (some (a.at E.sz off0 j)) = some (a.at E.sz (off0 + 2) j) := p.fa h0 h1 rfl (by decide) rfl
theorem fl63_2 : fldR Try.T 63 2 (some (.agg cs)) = cs[2]? := fld_1 rfl rfl rfl
theorem fa63_3 : faR Try.T 63 3 (some (.ptr (some (i, o)))) = some (.ptr (some (i, o + 3))) := fa_ptr rfl (by decide) rfl
theorem fi63_3 : faR Try.T 63 3 (some (.iptr row o)) = some (.iptr row (o + 3)) := fa_iptr rfl (by decide) rfl
theorem fE63_3 (p : Sl E h i a l) (h0 : 0 ≤ j) (h1 : j < l.length) : faR Try.T 63 3 (some (a.at E.sz off0 j)) = some (a.at E.sz (off0 + 3) j) := p.fa h0 h1 rfl (by decide) rfl
theorem fl63_3 : fldR Try.T 63 3 (some (.agg cs)) = cs[3]? := fld_1 rfl rfl rfl
theorem Td64 : (Try.T 64).desc = .struct [(60, 0, true), (3, 1, true), (3, 2, true), (3, 3, true)] := rfl
theorem Tz64 : (Try.T 64).zero = [.ptr none, .int .i64 0, .int .i64 0, .int .i64 0] := rfl
theorem ld64 : loadA Try.T h 64 (.ptr (some (i, o))) = rdN o 4 (h.get i) := ld_n rfl rfl rfl
theorem li64 : loadA Try.T h 64 (.iptr row o) = (cut row o 4).map .agg := ldi_n rfl rfl rfl
theorem st64 : storeA Try.T h 64 (.ptr (some (i, o))) v = stC h i o 4 v.cells := st_n rfl rfl
theorem lE64 [Inhabited α] (p : Sl E h i a l) (h0 : 0 ≤ j) (h1 : j < l.length) (h4 : Seen (Nat.beq E.sz 4)) : loadA Try.T h 64 (a.at E.sz 0 j) = some (.agg (E.f (l[j.toNat]!))) := p.ldn h0 h1 rfl rfl (Nat.eq_of_beq_eq_true h4.eq).symm
theorem bd64 {l : List (Nat × AV)} : bldR Try.T 64 (some l) = (fillA (plA Try.T 64) (Try.T 64).zero l).map .agg := bld_eq rfl
theorem pl64_0 : plA Try.T 64 0 = some (0, 1) := rfl
theorem pl64_1 : plA Try.T 64 1 = some (1, 1) := rfl
theorem pl64_2 : plA Try.T 64 2 = some (2, 1) := rfl
theorem pl64_3 : plA Try.T 64 3 = some (3, 1) := rfl
theorem fa64_0 : faR Try.T 64 0 (some (.ptr (some (i, o)))) = some (.ptr (some (i, o + 0))) := fa_ptr rfl (by decide) rfl
theorem fi64_0 : faR Try.T 64 0 (some (.iptr row o)) = some (.iptr row (o + 0)) := fa_iptr rfl (by decide) rfl
theorem fE64_0 (p : Sl E h i a l) (h0 : 0 ≤ j) (h1 : j < l.length) : faR Try.T 64 0 (some (a.at E.sz off0 j)) = some (a.at E.sz (off0 + 0) j) := p.fa h0 h1 rfl (by decide) rfl
theorem fl64_0 : fldR Try.T 64 0 (some (.agg cs)) = cs[0]? := fld_1 rfl rfl rfl
theorem fa64_1 : faR Try.T 64 1 (some (.ptr (some (i, o)))) = some (.ptr (some (i, o + 1))) := fa_ptr rfl (by decide) rfl
theorem fi64_1 : faR Try.T 64 1 (some (.iptr row o)) = some (.iptr row (o + 1)) := fa_iptr rfl (by decide) rfl
theorem fE64_1 (p : Sl E h i a l) (h0 : 0 ≤ j) (h1 : j < l.length) : faR Try.T 64 1 (some (a.at E.sz off0 j)) = some (a.at E.sz (off0 + 1) j) := p.fa h0 h1 rfl (by decide) rfl
theorem fl64_1 : fldR Try.T 64 1 (some (.agg cs)) = cs[1]? := fld_1 rfl rfl rfl
theorem fa64_2 : faR Try.T 64 2 (some (.ptr (some (i, o)))) = some (.ptr (some (i, o + 2))) := fa_ptr rfl (by decide) rfl
theorem fi64_2 : faR Try.T 64 2 (some (.iptr row o)) = some (.iptr row (o + 2)) := fa_iptr rfl (by decide) rfl
theorem fE64_2 (p : Sl E h i a l) (h0 : 0 ≤ j) (h1 : j < l.length) : faR Try.T 64 2 (some (a.at E.sz off0 j)) = some (a.at E.sz (off0 + 2) j) := p.fa h0 h1 rfl (by decide) rfl
theorem fl64_2 : fldR Try.T 64 2 (some (.agg cs)) = cs[2]? := fld_1 rfl rfl rfl
theorem fa64_3 : faR Try.T 64 3 (some (.ptr (some (i, o)))) = some (.ptr (some (i, o + 3))) := fa_ptr rfl (by decide) rfl
theorem fi64_3 : faR Try.T 64 3 (some (.iptr row o)) = some (.iptr row (o + 3)) := fa_iptr rfl (by decide) rfl
theorem fE64_3 (p : Sl E h i a l) (h0 : 0 ≤ j) (h1 : j < l.length) : faR Try.T 64 3 (some (a.at E.sz off0 j)) = some (a.at E.sz (off0 + 3) j) := p.fa h0 h1 rfl (by decide) rfl
theorem fl64_3 : fldR Try.T 64 3 (some (.agg cs)) = cs[3]? := fld_1 rfl rfl rfl
theorem Td66 : (Try.T 66).desc = .func := rfl
theorem Tz66 : (Try.T 66).zero = [.nilFunc] := rfl
theorem ld66 : loadA Try.T h 66 (.ptr (some (i, o))) = rd1 o (h.get i) := ld_1 rfl rfl
theorem li66 : loadA Try.T h 66 (.iptr row o) = row[o]? := ldi_1 rfl rfl
theorem st66 : storeA Try.T h 66 (.ptr (some (i, o))) v = stC h i o 1 v.cells := st_n rfl rfl
theorem feqs66 {f : FuncId} : binA Try.T .eql 66 (.func f cs) .nilFunc = some (.bool false) := fn_eqs rfl
theorem feqn66 : binA Try.T .eql 66 .nilFunc .nilFunc = some (.bool true) := fn_eqn rfl
theorem Td78 : (Try.T 78).desc = .struct [(28, 0, true), (3, 1, true)] := rfl
theorem Tz78 : (Try.T 78).zero = [.slice none 0 0 0 true, .int .i64 0] := rfl
theorem ld78 : loadA Try.T h 78 (.ptr (some (i, o))) = rdN o 2 (h.get i) := ld_n rfl rfl rfl
theorem li78 : loadA Try.T h 78 (.iptr row o) = (cut row o 2).map .agg := ldi_n rfl rfl rfl
theorem st78 : storeA Try.T h 78 (.ptr (some (i, o))) v = stC h i o 2 v.cells := st_n rfl rfl
theorem lE78 [Inhabited α] (p : Sl E h i a l) (h0 : 0 ≤ j) (h1 : j < l.length) (h4 : Seen (Nat.beq E.sz 2)) : loadA Try.T h 78 (a.at E.sz 0 j) = some (.agg (E.f (l[j.toNat]!))) := p.ldn h0 h1 rfl rfl (Nat.eq_of_beq_eq_true h4.eq).symm
theorem bd78 {l : List (Nat × AV)} : bldR Try.T 78 (some l) = (fillA (plA Try.T 78) (Try.T 78).zero l).map .agg := bld_eq rfl
theorem pl78_0 : plA Try.T 78 0 = some (0, 1) := rfl
theorem pl78_1 : plA Try.T 78 1 = some (1, 1) := rfl
theorem fa78_0 : faR Try.T 78 0 (some (.ptr (some (i, o)))) = some (.ptr (some (i, o + 0))) := fa_ptr rfl (by decide) rfl
theorem fi78_0 : faR Try.T 78 0 (some (.iptr row o)) = some (.iptr row (o + 0)) := fa_iptr rfl (by decide) rfl
theorem fE78_0 (p : Sl E h i a l) (h0 : 0 ≤ j) (h1 : j < l.length) : faR Try.T 78 0 (some (a.at E.sz off0 j)) = some (a.at E.sz (off0 + 0) j) := p.fa h0 h1 rfl (by decide) rfl
theorem fl78_0 : fldR Try.T 78 0 (some (.agg cs)) = cs[0]? := fld_1 rfl rfl rfl
theorem fa78_1 : faR Try.T 78 1 (some (.ptr (some (i, o)))) = some (.ptr (some (i, o + 1))) := fa_ptr rfl (by decide) rfl
theorem fi78_1 : faR Try.T 78 1 (some (.iptr row o)) = some (.iptr row (o + 1)) := fa_iptr rfl (by decide) rfl
theorem fE78_1 (p : Sl E h i a l) (h0 : 0 ≤ j) (h1 : j < l.length) : faR Try.T 78 1 (some (a.at E.sz off0 j)) = some (a.at E.sz (off0 + 1) j) := p.fa h0 h1 rfl (by decide) rfl
theorem fl78_1 : fldR Try.T 78 1 (some (.agg cs)) = cs[1]? := fld_1 rfl rfl rfl
theorem Td81 : (Try.T 81).desc = .struct [(60, 0, true), (3, 1, true), (4, 2, true), (4, 3, true)] := rfl
theorem Tz81 : (Try.T 81).zero = [.ptr none, .int .i64 0, .bool false, .bool false] := rfl
theorem ld81 : loadA Try.T h 81 (.ptr (some (i, o))) = rdN o 4 (h.get i) := ld_n rfl rfl rfl
theorem li81 : loadA Try.T h 81 (.iptr row o) = (cut row o 4).map .agg := ldi_n rfl rfl rfl
theorem st81 : storeA Try.T h 81 (.ptr (some (i, o))) v = stC h i o 4 v.cells := st_n rfl rfl
theorem lE81 [Inhabited α] (p : Sl E h i a l) (h0 : 0 ≤ j) (h1 : j < l.length) (h4 : Seen (Nat.beq E.sz 4)) : loadA Try.T h 81 (a.at E.sz 0 j) = some (.agg (E.f (l[j.toNat]!))) := p.ldn h0 h1 rfl rfl (Nat.eq_of_beq_eq_true h4.eq).symm
theorem bd81 {l : List (Nat × AV)} : bldR Try.T 81 (some l) = (fillA (plA Try.T 81) (Try.T 81).zero l).map .agg := bld_eq rfl
theorem pl81_0 : plA Try.T 81 0 = some (0, 1) := rfl
theorem pl81_1 : plA Try.T 81 1 = some (1, 1) := rfl
theorem pl81_2 : plA Try.T 81 2 = some (2, 1) := rfl
theorem pl81_3 : plA Try.T 81 3 = some (3, 1) := rfl
theorem fa81_0 : faR Try.T 81 0 (some (.ptr (some (i, o)))) = some (.ptr (some (i, o + 0))) := fa_ptr rfl (by decide) rfl
theorem fi81_0 : faR Try.T 81 0 (some (.iptr row o)) = some (.iptr row (o + 0)) := fa_iptr rfl (by decide) rfl
theorem fE81_0 (p : Sl E h i a l) (h0 : 0 ≤ j) (h1 : j < l.length) : faR Try.T 81 0 (some (a.at E.sz off0 j)) = some (a.at E.sz (off0 + 0) j) := p.fa h0 h1 rfl (by decide) rfl
theorem fl81_0 : fldR Try.T 81 0 (some (.agg cs)) = cs[0]? := fld_1 rfl rfl rfl
theorem fa81_1 : faR Try.T 81 1 (some (.ptr (some (i, o)))) = some (.ptr (some (i, o + 1))) := fa_ptr rfl (by decide) rfl
theorem fi81_1 : faR Try.T 81 1 (some (.iptr row o)) = some (.iptr row (o + 1)) := fa_iptr rfl (by decide) rfl
theorem fE81_1 (p : Sl E h i a l) (h0 : 0 ≤ j) (h1 : j < l.length) : faR Try.T 81 1 (some (a.at E.sz off0 j)) = some (a.at E.sz (off0 + 1) j) := p.fa h0 h1 rfl (by decide) rfl
theorem fl81_1 : fldR Try.T 81 1 (some (.agg cs)) = cs[1]? := fld_1 rfl rfl rfl
theorem fa81_2 : faR Try.T 81 2 (some (.ptr (some (i, o)))) = some (.ptr (some (i, o + 2))) := fa_ptr rfl (by decide) rfl
theorem fi81_2 : faR Try.T 81 2 (some (.iptr row o)) = some (.iptr row (o + 2)) := fa_iptr rfl (by decide) rfl
theorem fE81_2 (p : Sl E h i a l) (h0 : 0 ≤ j) (h1 : j < l.length) : faR Try.T 81 2 (some (a.at E.sz off0 j)) = some (a.at E.sz (off0 + 2) j) := p.fa h0 h1 rfl (by decide) rfl
theorem fl81_2 : fldR Try.T 81 2 (some (.agg cs)) = cs[2]? := fld_1 rfl rfl rfl
theorem fa81_3 : faR Try.T 81 3 (some (.ptr (some (i, o)))) = some (.ptr (some (i, o + 3))) := fa_ptr rfl (by decide) rfl
theorem fi81_3 : faR Try.T 81 3 (some (.iptr row o)) = some (.iptr row (o + 3)) := fa_iptr rfl (by decide) rfl
theorem fE81_3 (p : Sl E h i a l) (h0 : 0 ≤ j) (h1 : j < l.length) : faR Try.T 81 3 (some (a.at E.sz off0 j)) = some (a.at E.sz (off0 + 3) j) := p.fa h0 h1 rfl (by decide) rfl
theorem fl81_3 : fldR Try.T 81 3 (some (.agg cs)) = cs[3]? := fld_1 rfl rfl rfl
theorem Td82 : (Try.T 82).desc = .pointer 84 := rfl
theorem Tz82 : (Try.T 82).zero = [.ptr none] := rfl
theorem ld82 : loadA Try.T h 82 (.ptr (some (i, o))) = rd1 o (h.get i) := ld_1 rfl rfl
theorem li82 : loadA Try.T h 82 (.iptr row o) = row[o]? := ldi_1 rfl rfl
theorem st82 : storeA Try.T h 82 (.ptr (some (i, o))) v = stC h i o 1 v.cells := st_n rfl rfl
theorem peqn82 : binA Try.T .eql 82 (.ptr none) (.ptr none) = some (.bool true) := pt_eqn rfl
theorem peqs82 {p : Nat × Nat} : binA Try.T .eql 82 (.ptr (some p)) (.ptr none) = some (.bool false) := pt_eqs rfl
theorem pnen82 : binA Try.T .neq 82 (.ptr none) (.ptr none) = some (.bool false) := pt_nen rfl
theorem pnes82 {p : Nat × Nat} : binA Try.T .neq 82 (.ptr (some p)) (.ptr none) = some (.bool true) := pt_nes rfl
theorem Td84 : (Try.T 84).desc = .struct [(48, 0, true), (33, 1, true), (3, 2, true), (4, 3, true), (3, 4, true), (3, 5, true), (28, 6, true), (4, 7, true)] := rfl
theorem Tz84 : (Try.T 84).zero = [.ptr none, .slice none 0 0 0 true, .int .i64 0, .bool false, .int .i64 0, .int .i64 0, .slice none 0 0 0 true, .bool false] := rfl
theorem ld84 : loadA Try.T h 84 (.ptr (some (i, o))) = rdN o 8 (h.get i) := ld_n rfl rfl rfl
theorem li84 : loadA Try.T h 84 (.iptr row o) = (cut row o 8).map .agg := ldi_n rfl rfl rfl
theorem st84 : storeA Try.T h 84 (.ptr (some (i, o))) v = stC h i o 8 v.cells := st_n rfl rfl
theorem lE84 [Inhabited α] (p : Sl E h i a l) (h0 : 0 ≤ j) (h1 : j < l.length) (h4 : Seen (Nat.beq E.sz 8)) : loadA Try.T h 84 (a.at E.sz 0 j) = some (.agg (E.f (l[j.toNat]!))) := p.ldn h0 h1 rfl rfl (Nat.eq_of_beq_eq_true h4.eq).symm
theorem bd84 {l : List (Nat × AV)} : bldR Try.T 84 (some l) = (fillA (plA Try.T 84) (Try.T 84).zero l).map .agg := bld_eq rfl
theorem pl84_0 : plA Try.T 84 0 = some (0, 1) := rfl
theorem pl84_1 : plA Try.T 84 1 = some (1, 1) := rfl
theorem pl84_2 : plA Try.T 84 2 = some (2, 1) := rfl
theorem pl84_3 : plA Try.T 84 3 = some (3, 1) := rfl
theorem pl84_4 : plA Try.T 84 4 = some (4, 1) := rfl
theorem pl84_5 : plA Try.T 84 5 = some (5, 1) := rfl
theorem pl84_6 : plA Try.T 84 6 = some (6, 1) := rfl
theorem pl84_7 : plA Try.T 84 7 = some (7, 1) := rfl
theorem fa84_0 : faR Try.T 84 0 (some (.ptr (some (i, o)))) = some (.ptr (some (i, o + 0))) := fa_ptr rfl (by decide) rfl
theorem fi84_0 : faR Try.T 84 0 (some (.iptr row o)) = some (.iptr row (o + 0)) := fa_iptr rfl (by decide) rfl
theorem fE84_0 (p : Sl E h i a l) (h0 : 0 ≤ j) (h1 : j < l.length) : faR Try.T 84 0 (some (a.at E.sz off0 j)) = some (a.at E.sz (off0 + 0) j) := p.fa h0 h1 rfl (by decide) rfl
theorem fl84_0 : fldR Try.T 84 0 (some (.agg cs)) = cs[0]? := fld_1 rfl rfl rfl
theorem fa84_1 : faR Try.T 84 1 (some (.ptr (some (i, o)))) = some (.ptr (some (i, o + 1))) := fa_ptr rfl (by decide) rfl
theorem fi84_1 : faR Try.T 84 1 (some (.iptr row o)) = some (.iptr row (o + 1)) := fa_iptr rfl (by decide) rfl
theorem fE84_1 (p : Sl E h i a l) (h0 : 0 ≤ j) (h1 : j < l.length) : faR Try.T 84 1 (some (a.at E.sz off0 j)) = some (a.at E.sz (off0 + 1) j) := p.fa h0 h1 rfl (by decide) rfl
theorem fl84_1 : fldR Try.T 84 1 (some (.agg cs)) = cs[1]? := fld_1 rfl rfl rfl
theorem fa84_2 : faR Try.T 84 2 (some (.ptr (some (i, o)))) = some (.ptr (some (i, o + 2))) := fa_ptr rfl (by decide) rfl
theorem fi84_2 : faR Try.T 84 2 (some (.iptr row o)) = some (.iptr row (o + 2)) := fa_iptr rfl (by decide) rfl
theorem fE84_2 (p : Sl E h i a l) (h0 : 0 ≤ j) (h1 : j < l.length) : faR Try.T 84 2 (some (a.at E.sz off0 j)) = some (a.at E.sz (off0 + 2) j) := p.fa h0 h1 rfl (by decide) rfl
theorem fl84_2 : fldR Try.T 84 2 (some (.agg cs)) = cs[2]? := fld_1 rfl rfl rfl
theorem fa84_3 : faR Try.T 84 3 (some (.ptr (some (i, o)))) = some (.ptr (some (i, o + 3))) := fa_ptr rfl (by decide) rfl
theorem fi84_3 : faR Try.T 84 3 (some (.iptr row o)) = some (.iptr row (o + 3)) := fa_iptr rfl (by decide) rfl
theorem fE84_3 (p : Sl E h i a l) (h0 : 0 ≤ j) (h1 : j < l.length) : faR Try.T 84 3 (some (a.at E.sz off0 j)) = some (a.at E.sz (off0 + 3) j) := p.fa h0 h1 rfl (by decide) rfl
theorem fl84_3 : fldR Try.T 84 3 (some (.agg cs)) = cs[3]? := fld_1 rfl rfl rfl
theorem fa84_4 : faR Try.T 84 4 (some (.ptr (some (i, o)))) = some (.ptr (some (i, o + 4))) := fa_ptr rfl (by decide) rfl
theorem fi84_4 : faR Try.T 84 4 (some (.iptr row o)) = some (.iptr row (o + 4)) := fa_iptr rfl (by decide) rfl
theorem fE84_4 (p : Sl E h i a l) (h0 : 0 ≤ j) (h1 : j < l.length) : faR Try.T 84 4 (some (a.at E.sz off0 j)) = some (a.at E.sz (off0 + 4) j) := p.fa h0 h1 rfl (by decide) rfl
theorem fl84_4 : fldR Try.T 84 4 (some (.agg cs)) = cs[4]? := fld_1 rfl rfl rfl
theorem fa84_5 : faR Try.T 84 5 (some (.ptr (some (i, o)))) = some (.ptr (some (i, o + 5))) := fa_ptr rfl (by decide) rfl
theorem fi84_5 : faR Try.T 84 5 (some (.iptr row o)) = some (.iptr row (o + 5)) := fa_iptr rfl (by decide) rfl
theorem fE84_5 (p : Sl E h i a l) (h0 : 0 ≤ j) (h1 : j < l.length) : faR Try.T 84 5 (some (a.at E.sz off0 j)) = some (a.at E.sz (off0 + 5) j) := p.fa h0 h1 rfl (by decide) rfl
theorem fl84_5 : fldR Try.T 84 5 (some (.agg cs)) = cs[5]? := fld_1 rfl rfl rfl
theorem fa84_6 : faR Try.T 84 6 (some (.ptr (some (i, o)))) = some (.ptr (some (i, o + 6))) := fa_ptr rfl (by decide) rfl
theorem fi84_6 : faR Try.T 84 6 (some (.iptr row o)) = some (.iptr row (o + 6)) := fa_iptr rfl (by decide) rfl
theorem fE84_6 (p : Sl E h i a l) (h0 : 0 ≤ j) (h1 : j < l.length) : faR Try.T 84 6 (some (a.at E.sz off0 j)) = some (a.at E.sz (off0 + 6) j) := p.fa h0 h1 rfl (by decide) rfl
theorem fl84_6 : fldR Try.T 84 6 (some (.agg cs)) = cs[6]? := fld_1 rfl rfl rfl
theorem fa84_7 : faR Try.T 84 7 (some (.ptr (some (i, o)))) = some (.ptr (some (i, o + 7))) := fa_ptr rfl (by decide) rfl
theorem fi84_7 : faR Try.T 84 7 (some (.iptr row o)) = some (.iptr row (o + 7)) := fa_iptr rfl (by decide) rfl
theorem fE84_7 (p : Sl E h i a l) (h0 : 0 ≤ j) (h1 : j < l.length) : faR Try.T 84 7 (some (a.at E.sz off0 j)) = some (a.at E.sz (off0 + 7) j) := p.fa h0 h1 rfl (by decide) rfl
theorem fl84_7 : fldR Try.T 84 7 (some (.agg cs)) = cs[7]? := fld_1 rfl rfl rfl
theorem Td87 : (Try.T 87).desc = .struct [(3, 0, true), (3, 1, true), (28, 2, true)] := rfl
theorem Tz87 : (Try.T 87).zero = [.int .i64 0, .int .i64 0, .slice none 0 0 0 true] := rfl
theorem ld87 : loadA Try.T h 87 (.ptr (some (i, o))) = rdN o 3 (h.get i) := ld_n rfl rfl rfl
theorem li87 : loadA Try.T h 87 (.iptr row o) = (cut row o 3).map .agg := ldi_n rfl rfl rfl
theorem st87 : storeA Try.T h 87 (.ptr (some (i, o))) v = stC h i o 3 v.cells := st_n rfl rfl
theorem lE87 [Inhabited α] (p : Sl E h i a l) (h0 : 0 ≤ j) (h1 : j < l.length) (h4 : Seen (Nat.beq E.sz 3)) : loadA Try.T h 87 (a.at E.sz 0 j) = some (.agg (E.f (l[j.toNat]!))) := p.ldn h0 h1 rfl rfl (Nat.eq_of_beq_eq_true h4.eq).symm
theorem bd87 {l : List (Nat × AV)} : bldR Try.T 87 (some l) = (fillA (plA Try.T 87) (Try.T 87).zero l).map .agg := bld_eq rfl
theorem pl87_0 : plA Try.T 87 0 = some (0, 1) := rfl
theorem pl87_1 : plA Try.T 87 1 = some (1, 1) := rfl
theorem pl87_2 : plA Try.T 87 2 = some (2, 1) := rfl
theorem fa87_0 : faR Try.T 87 0 (some (.ptr (some (i, o)))) = some (.ptr (some (i, o + 0))) := fa_ptr rfl (by decide) rfl
theorem fi87_0 : faR Try.T 87 0 (some (.iptr row o)) = some (.iptr row (o + 0)) := fa_iptr rfl (by decide) rfl
theorem fE87_0 (p : Sl E h i a l) (h0 : 0 ≤ j) (h1 : j < l.length) : faR Try.T 87 0 (some (a.at E.sz off0 j)) = some (a.at E.sz (off0 + 0) j) := p.fa h0 h1 rfl (by decide) rfl
theorem fl87_0 : fldR Try.T 87 0 (some (.agg cs)) = cs[0]? := fld_1 rfl rfl rfl
theorem fa87_1 : faR Try.T 87 1 (some (.ptr (some (i, o)))) = some (.ptr (some (i, o + 1))) := fa_ptr rfl (by decide) rfl
theorem fi87_1 : faR Try.T 87 1 (some (.iptr row o)) = some (.iptr row (o + 1)) := fa_iptr rfl (by decide) rfl
theorem fE87_1 (p : Sl E h i a l) (h0 : 0 ≤ j) (h1 : j < l.length) : faR Try.T 87 1 (some (a.at E.sz off0 j)) = some (a.at E.sz (off0 + 1) j) := p.fa h0 h1 rfl (by decide) rfl
theorem fl87_1 : fldR Try.T 87 1 (some (.agg cs)) = cs[1]? := fld_1 rfl rfl rfl
theorem fa87_2 : faR Try.T 87 2 (some (.ptr (some (i, o)))) = some (.ptr (some (i, o + 2))) := fa_ptr rfl (by decide) rfl
theorem fi87_2 : faR Try.T 87 2 (some (.iptr row o)) = some (.iptr row (o + 2)) := fa_iptr rfl (by decide) rfl
theorem fE87_2 (p : Sl E h i a l) (h0 : 0 ≤ j) (h1 : j < l.length) : faR Try.T 87 2 (some (a.at E.sz off0 j)) = some (a.at E.sz (off0 + 2) j) := p.fa h0 h1 rfl (by decide) rfl
theorem fl87_2 : fldR Try.T 87 2 (some (.agg cs)) = cs[2]? := fld_1 rfl rfl rfl
theorem Td88 : (Try.T 88).desc = .func := rfl
theorem Tz88 : (Try.T 88).zero = [.nilFunc] := rfl
theorem ld88 : loadA Try.T h 88 (.ptr (some (i, o))) = rd1 o (h.get i) := ld_1 rfl rfl
theorem li88 : loadA Try.T h 88 (.iptr row o) = row[o]? := ldi_1 rfl rfl
theorem st88 : storeA Try.T h 88 (.ptr (some (i, o))) v = stC h i o 1 v.cells := st_n rfl rfl
theorem feqs88 {f : FuncId} : binA Try.T .eql 88 (.func f cs) .nilFunc = some (.bool false) := fn_eqs rfl
theorem feqn88 : binA Try.T .eql 88 .nilFunc .nilFunc = some (.bool true) := fn_eqn rfl
theorem Td89 : (Try.T 89).desc = .func := rfl
theorem Tz89 : (Try.T 89).zero = [.nilFunc] := rfl
theorem ld89 : loadA Try.T h 89 (.ptr (some (i, o))) = rd1 o (h.get i) := ld_1 rfl rfl
theorem li89 : loadA Try.T h 89 (.iptr row o) = row[o]? := ldi_1 rfl rfl
theorem st89 : storeA Try.T h 89 (.ptr (some (i, o))) v = stC h i o 1 v.cells := st_n rfl rfl
theorem feqs89 {f : FuncId} : binA Try.T .eql 89 (.func f cs) .nilFunc = some (.bool false) := fn_eqs rfl
theorem feqn89 : binA Try.T .eql 89 .nilFunc .nilFunc = some (.bool true) := fn_eqn rfl
theorem Td90 : (Try.T 90).desc = .func := rfl
theorem Tz90 : (Try.T 90).zero = [.nilFunc] := rfl
theorem ld90 : loadA Try.T h 90 (.ptr (some (i, o))) = rd1 o (h.get i) := ld_1 rfl rfl
theorem li90 : loadA Try.T h 90 (.iptr row o) = row[o]? := ldi_1 rfl rfl
theorem st90 : storeA Try.T h 90 (.ptr (some (i, o))) v = stC h i o 1 v.cells := st_n rfl rfl
theorem feqs90 {f : FuncId} : binA Try.T .eql 90 (.func f cs) .nilFunc = some (.bool false) := fn_eqs rfl
theorem feqn90 : binA Try.T .eql 90 .nilFunc .nilFunc = some (.bool true) := fn_eqn rfl
theorem Td91 : (Try.T 91).desc = .func := rfl
theorem Tz91 : (Try.T 91).zero = [.nilFunc] := rfl
theorem ld91 : loadA Try.T h 91 (.ptr (some (i, o))) = rd1 o (h.get i) := ld_1 rfl rfl
theorem li91 : loadA Try.T h 91 (.iptr row o) = row[o]? := ldi_1 rfl rfl
theorem st91 : storeA Try.T h 91 (.ptr (some (i, o))) v = stC h i o 1 v.cells := st_n rfl rfl
theorem feqs91 {f : FuncId} : binA Try.T .eql 91 (.func f cs) .nilFunc = some (.bool false) := fn_eqs rfl
theorem feqn91 : binA Try.T .eql 91 .nilFunc .nilFunc = some (.bool true) := fn_eqn rfl
theorem Td92 : (Try.T 92).desc = .slice 95 := rfl
theorem Tz92 : (Try.T 92).zero = [.slice none 0 0 0 true] := rfl
theorem ld92 : loadA Try.T h 92 (.ptr (some (i, o))) = rd1 o (h.get i) := ld_1 rfl rfl
theorem li92 : loadA Try.T h 92 (.iptr row o) = row[o]? := ldi_1 rfl rfl
theorem st92 : storeA Try.T h 92 (.ptr (some (i, o))) v = stC h i o 1 v.cells := st_n rfl rfl
theorem len92 (p : Sl E h i a l) : builtinA Try.T h' .len [92] [a] = some (.int .i64 (l.length : Int), h') := p.len rfl
theorem ix92 (p : Sl E h i a l) (h0 : 0 ≤ j) (h1 : j < l.length) (h2 : Seen (Nat.beq E.sz 2)) : idxA Try.T 92 a (.int k j) = some (a.at E.sz 0 j) := p.idx h0 h1 rfl rfl (Nat.eq_of_beq_eq_true h2.eq).symm
theorem wr95 {P : Program} {ops : Array Oper} {L : List Oper} {K : Tm → AH → Prop} {d : Option Nat} {tm : Tm} (p : Ow E h i a l) (x : α) (hx : v.cells = E.f x) (h0 : 0 ≤ j) (h1 : j < l.length) (h2 : Seen (Nat.beq E.sz 2)) (hk : ∀ h', Ow E h' i a (l.set j.toNat x) → h'.size = h.size → (∀ b, ¬ b = i → h'.get b = h.get b) → putM P Try.T ops L K d tm undefA h') : ansM P Try.T ops L K d tm h ((storeA Try.T h 95 (a.at E.sz 0 j) v).map fun h' => .val undefA h') :=
  ans_wr p x hx h0 h1 rfl (Nat.eq_of_beq_eq_true h2.eq).symm hk
theorem w95_0_3 {P : Program} {ops : Array Oper} {L : List Oper} {K : Tm → AH → Prop} {d : Option Nat} {tm : Tm} [Inhabited α] (p : Ow E h i a l) (x : α) (hx : E.f x = (E.f (l[j.toNat]!)).set 0 v) (hv : v.cells = [v]) (hv1 : v.one = true) (h0 : 0 ≤ j) (h1 : j < l.length) (h2 : Seen (Nat.blt 0 E.sz)) (hk : ∀ h', Ow E h' i a (l.set j.toNat x) → h'.size = h.size → (∀ b, ¬ b = i → h'.get b = h.get b) → putM P Try.T ops L K d tm undefA h') : ansM P Try.T ops L K d tm h ((storeA Try.T h 3 (a.at E.sz 0 j) v).map fun h' => .val undefA h') :=
  ans_wr1 p x hx hv hv1 (by simpa [Nat.blt_eq] using h2.eq) h0 h1 rfl rfl hk
theorem w95_1_2 {P : Program} {ops : Array Oper} {L : List Oper} {K : Tm → AH → Prop} {d : Option Nat} {tm : Tm} [Inhabited α] (p : Ow E h i a l) (x : α) (hx : E.f x = (E.f (l[j.toNat]!)).set 1 v) (hv : v.cells = [v]) (hv1 : v.one = true) (h0 : 0 ≤ j) (h1 : j < l.length) (h2 : Seen (Nat.blt 1 E.sz)) (hk : ∀ h', Ow E h' i a (l.set j.toNat x) → h'.size = h.size → (∀ b, ¬ b = i → h'.get b = h.get b) → putM P Try.T ops L K d tm undefA h') : ansM P Try.T ops L K d tm h ((storeA Try.T h 2 (a.at E.sz 1 j) v).map fun h' => .val undefA h') :=
  ans_wr1 p x hx hv hv1 (by simpa [Nat.blt_eq] using h2.eq) h0 h1 rfl rfl hk
theorem sl92 (p : Sl E h i a l) (h0 : 0 ≤ x) (h1 : x ≤ y) (h2 : y ≤ l.length) (h3 : Seen (Nat.beq E.sz 2)) : sliceA Try.T 92 a (some x) (some y) none = some (a.part x y) := p.slc h0 h1 h2 rfl rfl (Nat.eq_of_beq_eq_true h3.eq).symm
theorem sm92 (p : Sl E h i a l) (h1 : 0 ≤ y) (h2 : y ≤ l.length) (h3 : Seen (Nat.beq E.sz 2)) : sliceA Try.T 92 a none (some y) none = some (a.part 0 y) := p.slc (lo := none) (Int.le_refl _) h1 h2 rfl rfl (Nat.eq_of_beq_eq_true h3.eq).symm
theorem sn92 (p : Sl E h i a l) (h0 : 0 ≤ x) (h1 : x ≤ l.length) (h3 : Seen (Nat.beq E.sz 2)) : sliceA Try.T 92 a (some x) none none = some (a.part x l.length) := p.slc (hi := none) h0 h1 (Int.le_refl _) rfl rfl (Nat.eq_of_beq_eq_true h3.eq).symm
theorem ap92 {P : Program} {ops : Array Oper} {L : List Oper} {K : Tm → AH → Prop} {d : Option Nat} {tm : Tm} {x : AV} {new : List α} {ix : Nat} (p : Ow E h i a l) (hx : Sl E h ix x new) (h2 : Seen (Nat.beq E.sz 2)) (hr : (l.length + new.length) * 16 ≤ 140737488355328) (hk : ∀ z h' i', Ow E h' i' z (l ++ new) → (i' = i ∨ h.size ≤ i') → h.size ≤ h'.size → (∀ j, j < h.size → ¬ j = i → h'.get j = h.get j) → putM P Try.T ops L K d tm z h') : ansM P Try.T ops L K d tm h (pairR (appendA Try.T h 92 92 a x)) :=
  ans_app p hx rfl ⟨_, rfl⟩ rfl (Nat.eq_of_beq_eq_true h2.eq).symm (Nat.eq_of_beq_eq_true h2.eq).symm (by decide) hr hk
theorem al92 {P : Program} {ops : Array Oper} {L : List Oper} {K : Tm → AH → Prop} {d : Option Nat} {tm : Tm} {sz : Nat} (x : α) (p : Ow E h i a l) (hx : cs = E.f x) (hs : sz = E.sz) (h2 : Seen (Nat.beq E.sz 2)) (hr : (l.length + 1) * 16 ≤ 140737488355328) (hk : ∀ z h' i', Ow E h' i' z (l ++ [x]) → (i' = i ∨ h.size ≤ i') → h.size ≤ h'.size → (∀ j, j < h.size → ¬ j = i → h'.get j = h.get j) → putM P Try.T ops L K d tm z h') : ansM P Try.T ops L K d tm (h.push (.cells cs)) (pairR (appendA Try.T (h.push (.cells cs)) 92 92 a (.slice (some (h.size, 0)) 1 1 sz true))) :=
  ans_app1 p x hx hs rfl rfl (Nat.eq_of_beq_eq_true h2.eq).symm (Nat.eq_of_beq_eq_true h2.eq).symm (by decide) hr hk
theorem eqn92 {l1 c1 z1 l2 c2 z2 : Nat} {x1 x2 : Bool} : binA Try.T .eql 92 (.slice none l1 c1 z1 x1) (.slice none l2 c2 z2 x2) = some (.bool true) := sl_eqn rfl
theorem eqs92 {l1 c1 z1 l2 c2 z2 : Nat} {x1 x2 : Bool} {p : Nat × Nat} : binA Try.T .eql 92 (.slice (some p) l1 c1 z1 x1) (.slice none l2 c2 z2 x2) = some (.bool false) := sl_eqs rfl
theorem eqi92 {l2 c2 z2 a1 b1 c1 d1 : Nat} {x2 : Bool} : binA Try.T .eql 92 (.islice row a1 b1 c1 d1) (.slice none l2 c2 z2 x2) = some (.bool false) := sl_eqi rfl
theorem Td93 : (Try.T 93).desc = .func := rfl
theorem Tz93 : (Try.T 93).zero = [.nilFunc] := rfl
theorem ld93 : loadA Try.T h 93 (.ptr (some (i, o))) = rd1 o (h.get i) := ld_1 rfl rfl
theorem li93 : loadA Try.T h 93 (.iptr row o) = row[o]? := ldi_1 rfl rfl
theorem st93 : storeA Try.T h 93 (.ptr (some (i, o))) v = stC h i o 1 v.cells := st_n rfl rfl
theorem feqs93 {f : FuncId} : binA Try.T .eql 93 (.func f cs) .nilFunc = some (.bool false) := fn_eqs rfl
theorem feqn93 : binA Try.T .eql 93 .nilFunc .nilFunc = some (.bool true) := fn_eqn rfl
theorem Td94 : (Try.T 94).desc = .struct [(3, 0, true), (2, 1, true)] := rfl
theorem Tz94 : (Try.T 94).zero = [.int .i64 0, .int .i64 0] := rfl
theorem ld94 : loadA Try.T h 94 (.ptr (some (i, o))) = rdN o 2 (h.get i) := ld_n rfl rfl rfl
theorem li94 : loadA Try.T h 94 (.iptr row o) = (cut row o 2).map .agg := ldi_n rfl rfl rfl
theorem st94 : storeA Try.T h 94 (.ptr (some (i, o))) v = stC h i o 2 v.cells := st_n rfl rfl
theorem lE94 [Inhabited α] (p : Sl E h i a l) (h0 : 0 ≤ j) (h1 : j < l.length) (h4 : Seen (Nat.beq E.sz 2)) : loadA Try.T h 94 (a.at E.sz 0 j) = some (.agg (E.f (l[j.toNat]!))) := p.ldn h0 h1 rfl rfl (Nat.eq_of_beq_eq_true h4.eq).symm
theorem bd94 {l : List (Nat × AV)} : bldR Try.T 94 (some l) = (fillA (plA Try.T 94) (Try.T 94).zero l).map .agg := bld_eq rfl
theorem pl94_0 : plA Try.T 94 0 = some (0, 1) := rfl
theorem pl94_1 : plA Try.T 94 1 = some (1, 1) := rfl
theorem fa94_0 : faR Try.T 94 0 (some (.ptr (some (i, o)))) = some (.ptr (some (i, o + 0))) := fa_ptr rfl (by decide) rfl
theorem fi94_0 : faR Try.T 94 0 (some (.iptr row o)) = some (.iptr row (o + 0)) := fa_iptr rfl (by decide) rfl
theorem fE94_0 (p : Sl E h i a l) (h0 : 0 ≤ j) (h1 : j < l.length) : faR Try.T 94 0 (some (a.at E.sz off0 j)) = some (a.at E.sz (off0 + 0) j) := p.fa h0 h1 rfl (by decide) rfl
theorem fl94_0 : fldR Try.T 94 0 (some (.agg cs)) = cs[0]? := fld_1 rfl rfl rfl
theorem fa94_1 : faR Try.T 94 1 (some (.ptr (some (i, o)))) = some (.ptr (some (i, o + 1))) := fa_ptr rfl (by decide) rfl
theorem fi94_1 : faR Try.T 94 1 (some (.iptr row o)) = some (.iptr row (o + 1)) := fa_iptr rfl (by decide) rfl
theorem fE94_1 (p : Sl E h i a l) (h0 : 0 ≤ j) (h1 : j < l.length) : faR Try.T 94 1 (some (a.at E.sz off0 j)) = some (a.at E.sz (off0 + 1) j) := p.fa h0 h1 rfl (by decide) rfl
theorem fl94_1 : fldR Try.T 94 1 (some (.agg cs)) = cs[1]? := fld_1 rfl rfl rfl
theorem Td95 : (Try.T 95).desc = .struct [(3, 0, true), (2, 1, true)] := rfl
theorem Tz95 : (Try.T 95).zero = [.int .i64 0, .int .i64 0] := rfl
theorem ld95 : loadA Try.T h 95 (.ptr (some (i, o))) = rdN o 2 (h.get i) := ld_n rfl rfl rfl
theorem li95 : loadA Try.T h 95 (.iptr row o) = (cut row o 2).map .agg := ldi_n rfl rfl rfl
theorem st95 : storeA Try.T h 95 (.ptr (some (i, o))) v = stC h i o 2 v.cells := st_n rfl rfl
theorem lE95 [Inhabited α] (p : Sl E h i a l) (h0 : 0 ≤ j) (h1 : j < l.length) (h4 : Seen (Nat.beq E.sz 2)) : loadA Try.T h 95 (a.at E.sz 0 j) = some (.agg (E.f (l[j.toNat]!))) := p.ldn h0 h1 rfl rfl (Nat.eq_of_beq_eq_true h4.eq).symm
theorem bd95 {l : List (Nat × AV)} : bldR Try.T 95 (some l) = (fillA (plA Try.T 95) (Try.T 95).zero l).map .agg := bld_eq rfl
theorem pl95_0 : plA Try.T 95 0 = some (0, 1) := rfl
theorem pl95_1 : plA Try.T 95 1 = some (1, 1) := rfl
theorem fa95_0 : faR Try.T 95 0 (some (.ptr (some (i, o)))) = some (.ptr (some (i, o + 0))) := fa_ptr rfl (by decide) rfl
theorem fi95_0 : faR Try.T 95 0 (some (.iptr row o)) = some (.iptr row (o + 0)) := fa_iptr rfl (by decide) rfl
theorem fE95_0 (p : Sl E h i a l) (h0 : 0 ≤ j) (h1 : j < l.length) : faR Try.T 95 0 (some (a.at E.sz off0 j)) = some (a.at E.sz (off0 + 0) j) := p.fa h0 h1 rfl (by decide) rfl
theorem fl95_0 : fldR Try.T 95 0 (some (.agg cs)) = cs[0]? := fld_1 rfl rfl rfl
theorem fa95_1 : faR Try.T 95 1 (some (.ptr (some (i, o)))) = some (.ptr (some (i, o + 1))) := fa_ptr rfl (by decide) rfl
theorem fi95_1 : faR Try.T 95 1 (some (.iptr row o)) = some (.iptr row (o + 1)) := fa_iptr rfl (by decide) rfl
theorem fE95_1 (p : Sl E h i a l) (h0 : 0 ≤ j) (h1 : j < l.length) : faR Try.T 95 1 (some (a.at E.sz off0 j)) = some (a.at E.sz (off0 + 1) j) := p.fa h0 h1 rfl (by decide) rfl
theorem fl95_1 : fldR Try.T 95 1 (some (.agg cs)) = cs[1]? := fld_1 rfl rfl rfl
theorem Td96 : (Try.T 96).desc = .func := rfl
theorem Tz96 : (Try.T 96).zero = [.nilFunc] := rfl
theorem ld96 : loadA Try.T h 96 (.ptr (some (i, o))) = rd1 o (h.get i) := ld_1 rfl rfl
theorem li96 : loadA Try.T h 96 (.iptr row o) = row[o]? := ldi_1 rfl rfl
theorem st96 : storeA Try.T h 96 (.ptr (some (i, o))) v = stC h i o 1 v.cells := st_n rfl rfl
theorem feqs96 {f : FuncId} : binA Try.T .eql 96 (.func f cs) .nilFunc = some (.bool false) := fn_eqs rfl
theorem feqn96 : binA Try.T .eql 96 .nilFunc .nilFunc = some (.bool true) := fn_eqn rfl
theorem Td98 : (Try.T 98).desc = .func := rfl
theorem Tz98 : (Try.T 98).zero = [.nilFunc] := rfl
theorem ld98 : loadA Try.T h 98 (.ptr (some (i, o))) = rd1 o (h.get i) := ld_1 rfl rfl
theorem li98 : loadA Try.T h 98 (.iptr row o) = row[o]? := ldi_1 rfl rfl
theorem st98 : storeA Try.T h 98 (.ptr (some (i, o))) v = stC h i o 1 v.cells := st_n rfl rfl
theorem feqs98 {f : FuncId} : binA Try.T .eql 98 (.func f cs) .nilFunc = some (.bool false) := fn_eqs rfl
theorem feqn98 : binA Try.T .eql 98 .nilFunc .nilFunc = some (.bool true) := fn_eqn rfl
theorem Td99 : (Try.T 99).desc = .func := rfl
theorem Tz99 : (Try.T 99).zero = [.nilFunc] := rfl
theorem ld99 : loadA Try.T h 99 (.ptr (some (i, o))) = rd1 o (h.get i) := ld_1 rfl rfl
theorem li99 : loadA Try.T h 99 (.iptr row o) = row[o]? := ldi_1 rfl rfl
theorem st99 : storeA Try.T h 99 (.ptr (some (i, o))) v = stC h i o 1 v.cells := st_n rfl rfl
theorem feqs99 {f : FuncId} : binA Try.T .eql 99 (.func f cs) .nilFunc = some (.bool false) := fn_eqs rfl
theorem feqn99 : binA Try.T .eql 99 .nilFunc .nilFunc = some (.bool true) := fn_eqn rfl
theorem Td100 : (Try.T 100).desc = .func := rfl
theorem Tz100 : (Try.T 100).zero = [.nilFunc] := rfl
theorem ld100 : loadA Try.T h 100 (.ptr (some (i, o))) = rd1 o (h.get i) := ld_1 rfl rfl
theorem li100 : loadA Try.T h 100 (.iptr row o) = row[o]? := ldi_1 rfl rfl
theorem st100 : storeA Try.T h 100 (.ptr (some (i, o))) v = stC h i o 1 v.cells := st_n rfl rfl
theorem feqs100 {f : FuncId} : binA Try.T .eql 100 (.func f cs) .nilFunc = some (.bool false) := fn_eqs rfl
theorem feqn100 : binA Try.T .eql 100 .nilFunc .nilFunc = some (.bool true) := fn_eqn rfl
theorem Td101 : (Try.T 101).desc = .func := rfl
theorem Tz101 : (Try.T 101).zero = [.nilFunc] := rfl
theorem ld101 : loadA Try.T h 101 (.ptr (some (i, o))) = rd1 o (h.get i) := ld_1 rfl rfl
theorem li101 : loadA Try.T h 101 (.iptr row o) = row[o]? := ldi_1 rfl rfl
theorem st101 : storeA Try.T h 101 (.ptr (some (i, o))) v = stC h i o 1 v.cells := st_n rfl rfl
theorem feqs101 {f : FuncId} : binA Try.T .eql 101 (.func f cs) .nilFunc = some (.bool false) := fn_eqs rfl
theorem feqn101 : binA Try.T .eql 101 .nilFunc .nilFunc = some (.bool true) := fn_eqn rfl
theorem Td102 : (Try.T 102).desc = .func := rfl
theorem Tz102 : (Try.T 102).zero = [.nilFunc] := rfl
theorem ld102 : loadA Try.T h 102 (.ptr (some (i, o))) = rd1 o (h.get i) := ld_1 rfl rfl
theorem li102 : loadA Try.T h 102 (.iptr row o) = row[o]? := ldi_1 rfl rfl
theorem st102 : storeA Try.T h 102 (.ptr (some (i, o))) v = stC h i o 1 v.cells := st_n rfl rfl
theorem feqs102 {f : FuncId} : binA Try.T .eql 102 (.func f cs) .nilFunc = some (.bool false) := fn_eqs rfl
theorem feqn102 : binA Try.T .eql 102 .nilFunc .nilFunc = some (.bool true) := fn_eqn rfl
theorem Td104 : (Try.T 104).desc = .int .u64 := rfl
theorem Tz104 : (Try.T 104).zero = [.int .u64 0] := rfl
theorem ld104 : loadA Try.T h 104 (.ptr (some (i, o))) = rd1 o (h.get i) := ld_1 rfl rfl
theorem li104 : loadA Try.T h 104 (.iptr row o) = row[o]? := ldi_1 rfl rfl
theorem st104 : storeA Try.T h 104 (.ptr (some (i, o))) v = stC h i o 1 v.cells := st_n rfl rfl
theorem Td105 : (Try.T 105).desc = .func := rfl
theorem Tz105 : (Try.T 105).zero = [.nilFunc] := rfl
theorem ld105 : loadA Try.T h 105 (.ptr (some (i, o))) = rd1 o (h.get i) := ld_1 rfl rfl
theorem li105 : loadA Try.T h 105 (.iptr row o) = row[o]? := ldi_1 rfl rfl
theorem st105 : storeA Try.T h 105 (.ptr (some (i, o))) v = stC h i o 1 v.cells := st_n rfl rfl
theorem feqs105 {f : FuncId} : binA Try.T .eql 105 (.func f cs) .nilFunc = some (.bool false) := fn_eqs rfl
theorem feqn105 : binA Try.T .eql 105 .nilFunc .nilFunc = some (.bool true) := fn_eqn rfl
theorem Td106 : (Try.T 106).desc = .slice 9 := rfl
theorem Tz106 : (Try.T 106).zero = [.slice none 0 0 0 true] := rfl
theorem ld106 : loadA Try.T h 106 (.ptr (some (i, o))) = rd1 o (h.get i) := ld_1 rfl rfl
theorem li106 : loadA Try.T h 106 (.iptr row o) = row[o]? := ldi_1 rfl rfl
theorem st106 : storeA Try.T h 106 (.ptr (some (i, o))) v = stC h i o 1 v.cells := st_n rfl rfl
theorem len106 (p : Sl E h i a l) : builtinA Try.T h' .len [106] [a] = some (.int .i64 (l.length : Int), h') := p.len rfl
theorem ix106 (p : Sl E h i a l) (h0 : 0 ≤ j) (h1 : j < l.length) (h2 : Seen (Nat.beq E.sz 1)) : idxA Try.T 106 a (.int k j) = some (a.at E.sz 0 j) := p.idx h0 h1 rfl rfl (Nat.eq_of_beq_eq_true h2.eq).symm
theorem wr9 {P : Program} {ops : Array Oper} {L : List Oper} {K : Tm → AH → Prop} {d : Option Nat} {tm : Tm} (p : Ow E h i a l) (x : α) (hx : v.cells = E.f x) (h0 : 0 ≤ j) (h1 : j < l.length) (h2 : Seen (Nat.beq E.sz 1)) (hk : ∀ h', Ow E h' i a (l.set j.toNat x) → h'.size = h.size → (∀ b, ¬ b = i → h'.get b = h.get b) → putM P Try.T ops L K d tm undefA h') : ansM P Try.T ops L K d tm h ((storeA Try.T h 9 (a.at E.sz 0 j) v).map fun h' => .val undefA h') :=
  ans_wr p x hx h0 h1 rfl (Nat.eq_of_beq_eq_true h2.eq).symm hk
theorem br106 {n : Nat} {l : List (Nat × AV)} (hn : Seen (Nat.beq l.length n && (Nat.ble n 10000 && bsOk 0 l))) : bsR Try.T h 106 n (some l) = some (.val (.slice (some (h.size, 0)) n n 1 true) (h.push (.cells (l.map (·.2))))) := bs_row rfl rfl rfl rfl hn
theorem bs106 (hv : Seen (match v with | .agg _ | .tuple _ => false | _ => true)) : bsR Try.T h 106 1 (some [(0, v)]) = some (.val (.slice (some (h.size, 0)) 1 1 1 true) (h.push (.cells [v]))) := bs_one rfl rfl rfl rfl hv
theorem sl106 (p : Sl E h i a l) (h0 : 0 ≤ x) (h1 : x ≤ y) (h2 : y ≤ l.length) (h3 : Seen (Nat.beq E.sz 1)) : sliceA Try.T 106 a (some x) (some y) none = some (a.part x y) := p.slc h0 h1 h2 rfl rfl (Nat.eq_of_beq_eq_true h3.eq).symm
theorem sm106 (p : Sl E h i a l) (h1 : 0 ≤ y) (h2 : y ≤ l.length) (h3 : Seen (Nat.beq E.sz 1)) : sliceA Try.T 106 a none (some y) none = some (a.part 0 y) := p.slc (lo := none) (Int.le_refl _) h1 h2 rfl rfl (Nat.eq_of_beq_eq_true h3.eq).symm
theorem sn106 (p : Sl E h i a l) (h0 : 0 ≤ x) (h1 : x ≤ l.length) (h3 : Seen (Nat.beq E.sz 1)) : sliceA Try.T 106 a (some x) none none = some (a.part x l.length) := p.slc (hi := none) h0 h1 (Int.le_refl _) rfl rfl (Nat.eq_of_beq_eq_true h3.eq).symm
theorem ap106 {P : Program} {ops : Array Oper} {L : List Oper} {K : Tm → AH → Prop} {d : Option Nat} {tm : Tm} {x : AV} {new : List α} {ix : Nat} (p : Ow E h i a l) (hx : Sl E h ix x new) (h2 : Seen (Nat.beq E.sz 1)) (hr : (l.length + new.length) * 16 ≤ 140737488355328) (hk : ∀ z h' i', Ow E h' i' z (l ++ new) → (i' = i ∨ h.size ≤ i') → h.size ≤ h'.size → (∀ j, j < h.size → ¬ j = i → h'.get j = h.get j) → putM P Try.T ops L K d tm z h') : ansM P Try.T ops L K d tm h (pairR (appendA Try.T h 106 106 a x)) :=
  ans_app p hx rfl ⟨_, rfl⟩ rfl (Nat.eq_of_beq_eq_true h2.eq).symm (Nat.eq_of_beq_eq_true h2.eq).symm (by decide) hr hk
theorem al106 {P : Program} {ops : Array Oper} {L : List Oper} {K : Tm → AH → Prop} {d : Option Nat} {tm : Tm} {sz : Nat} (x : α) (p : Ow E h i a l) (hx : cs = E.f x) (hs : sz = E.sz) (h2 : Seen (Nat.beq E.sz 1)) (hr : (l.length + 1) * 16 ≤ 140737488355328) (hk : ∀ z h' i', Ow E h' i' z (l ++ [x]) → (i' = i ∨ h.size ≤ i') → h.size ≤ h'.size → (∀ j, j < h.size → ¬ j = i → h'.get j = h.get j) → putM P Try.T ops L K d tm z h') : ansM P Try.T ops L K d tm (h.push (.cells cs)) (pairR (appendA Try.T (h.push (.cells cs)) 106 106 a (.slice (some (h.size, 0)) 1 1 sz true))) :=
  ans_app1 p x hx hs rfl rfl (Nat.eq_of_beq_eq_true h2.eq).symm (Nat.eq_of_beq_eq_true h2.eq).symm (by decide) hr hk
theorem eqn106 {l1 c1 z1 l2 c2 z2 : Nat} {x1 x2 : Bool} : binA Try.T .eql 106 (.slice none l1 c1 z1 x1) (.slice none l2 c2 z2 x2) = some (.bool true) := sl_eqn rfl
theorem eqs106 {l1 c1 z1 l2 c2 z2 : Nat} {x1 x2 : Bool} {p : Nat × Nat} : binA Try.T .eql 106 (.slice (some p) l1 c1 z1 x1) (.slice none l2 c2 z2 x2) = some (.bool false) := sl_eqs rfl
theorem eqi106 {l2 c2 z2 a1 b1 c1 d1 : Nat} {x2 : Bool} : binA Try.T .eql 106 (.islice row a1 b1 c1 d1) (.slice none l2 c2 z2 x2) = some (.bool false) := sl_eqi rfl
theorem Td107 : (Try.T 107).desc = .func := rfl
theorem Tz107 : (Try.T 107).zero = [.nilFunc] := rfl
theorem ld107 : loadA Try.T h 107 (.ptr (some (i, o))) = rd1 o (h.get i) := ld_1 rfl rfl
theorem li107 : loadA Try.T h 107 (.iptr row o) = row[o]? := ldi_1 rfl rfl
theorem st107 : storeA Try.T h 107 (.ptr (some (i, o))) v = stC h i o 1 v.cells := st_n rfl rfl
theorem feqs107 {f : FuncId} : binA Try.T .eql 107 (.func f cs) .nilFunc = some (.bool false) := fn_eqs rfl
theorem feqn107 : binA Try.T .eql 107 .nilFunc .nilFunc = some (.bool true) := fn_eqn rfl
theorem Td108 : (Try.T 108).desc = .func := rfl
theorem Tz108 : (Try.T 108).zero = [.nilFunc] := rfl
theorem ld108 : loadA Try.T h 108 (.ptr (some (i, o))) = rd1 o (h.get i) := ld_1 rfl rfl
theorem li108 : loadA Try.T h 108 (.iptr row o) = row[o]? := ldi_1 rfl rfl
theorem st108 : storeA Try.T h 108 (.ptr (some (i, o))) v = stC h i o 1 v.cells := st_n rfl rfl
theorem feqs108 {f : FuncId} : binA Try.T .eql 108 (.func f cs) .nilFunc = some (.bool false) := fn_eqs rfl
theorem feqn108 : binA Try.T .eql 108 .nilFunc .nilFunc = some (.bool true) := fn_eqn rfl
theorem Td109 : (Try.T 109).desc = .func := rfl
theorem Tz109 : (Try.T 109).zero = [.nilFunc] := rfl
theorem ld109 : loadA Try.T h 109 (.ptr (some (i, o))) = rd1 o (h.get i) := ld_1 rfl rfl
theorem li109 : loadA Try.T h 109 (.iptr row o) = row[o]? := ldi_1 rfl rfl
theorem st109 : storeA Try.T h 109 (.ptr (some (i, o))) v = stC h i o 1 v.cells := st_n rfl rfl
theorem feqs109 {f : FuncId} : binA Try.T .eql 109 (.func f cs) .nilFunc = some (.bool false) := fn_eqs rfl
theorem feqn109 : binA Try.T .eql 109 .nilFunc .nilFunc = some (.bool true) := fn_eqn rfl
theorem Td110 : (Try.T 110).desc = .func := rfl
theorem Tz110 : (Try.T 110).zero = [.nilFunc] := rfl
theorem ld110 : loadA Try.T h 110 (.ptr (some (i, o))) = rd1 o (h.get i) := ld_1 rfl rfl
theorem li110 : loadA Try.T h 110 (.iptr row o) = row[o]? := ldi_1 rfl rfl
theorem st110 : storeA Try.T h 110 (.ptr (some (i, o))) v = stC h i o 1 v.cells := st_n rfl rfl
theorem feqs110 {f : FuncId} : binA Try.T .eql 110 (.func f cs) .nilFunc = some (.bool false) := fn_eqs rfl
theorem feqn110 : binA Try.T .eql 110 .nilFunc .nilFunc = some (.bool true) := fn_eqn rfl
theorem Td111 : (Try.T 111).desc = .slice 2 := rfl
theorem Tz111 : (Try.T 111).zero = [.slice none 0 0 0 true] := rfl
theorem ld111 : loadA Try.T h 111 (.ptr (some (i, o))) = rd1 o (h.get i) := ld_1 rfl rfl
theorem li111 : loadA Try.T h 111 (.iptr row o) = row[o]? := ldi_1 rfl rfl
theorem st111 : storeA Try.T h 111 (.ptr (some (i, o))) v = stC h i o 1 v.cells := st_n rfl rfl
theorem len111 (p : Sl E h i a l) : builtinA Try.T h' .len [111] [a] = some (.int .i64 (l.length : Int), h') := p.len rfl
theorem ix111 (p : Sl E h i a l) (h0 : 0 ≤ j) (h1 : j < l.length) (h2 : Seen (Nat.beq E.sz 1)) : idxA Try.T 111 a (.int k j) = some (a.at E.sz 0 j) := p.idx h0 h1 rfl rfl (Nat.eq_of_beq_eq_true h2.eq).symm
theorem wr2 {P : Program} {ops : Array Oper} {L : List Oper} {K : Tm → AH → Prop} {d : Option Nat} {tm : Tm} (p : Ow E h i a l) (x : α) (hx : v.cells = E.f x) (h0 : 0 ≤ j) (h1 : j < l.length) (h2 : Seen (Nat.beq E.sz 1)) (hk : ∀ h', Ow E h' i a (l.set j.toNat x) → h'.size = h.size → (∀ b, ¬ b = i → h'.get b = h.get b) → putM P Try.T ops L K d tm undefA h') : ansM P Try.T ops L K d tm h ((storeA Try.T h 2 (a.at E.sz 0 j) v).map fun h' => .val undefA h') :=
  ans_wr p x hx h0 h1 rfl (Nat.eq_of_beq_eq_true h2.eq).symm hk
theorem br111 {n : Nat} {l : List (Nat × AV)} (hn : Seen (Nat.beq l.length n && (Nat.ble n 10000 && bsOk 0 l))) : bsR Try.T h 111 n (some l) = some (.val (.slice (some (h.size, 0)) n n 1 true) (h.push (.cells (l.map (·.2))))) := bs_row rfl rfl rfl rfl hn
theorem bs111 (hv : Seen (match v with | .agg _ | .tuple _ => false | _ => true)) : bsR Try.T h 111 1 (some [(0, v)]) = some (.val (.slice (some (h.size, 0)) 1 1 1 true) (h.push (.cells [v]))) := bs_one rfl rfl rfl rfl hv
theorem sl111 (p : Sl E h i a l) (h0 : 0 ≤ x) (h1 : x ≤ y) (h2 : y ≤ l.length) (h3 : Seen (Nat.beq E.sz 1)) : sliceA Try.T 111 a (some x) (some y) none = some (a.part x y) := p.slc h0 h1 h2 rfl rfl (Nat.eq_of_beq_eq_true h3.eq).symm
theorem sm111 (p : Sl E h i a l) (h1 : 0 ≤ y) (h2 : y ≤ l.length) (h3 : Seen (Nat.beq E.sz 1)) : sliceA Try.T 111 a none (some y) none = some (a.part 0 y) := p.slc (lo := none) (Int.le_refl _) h1 h2 rfl rfl (Nat.eq_of_beq_eq_true h3.eq).symm
theorem sn111 (p : Sl E h i a l) (h0 : 0 ≤ x) (h1 : x ≤ l.length) (h3 : Seen (Nat.beq E.sz 1)) : sliceA Try.T 111 a (some x) none none = some (a.part x l.length) := p.slc (hi := none) h0 h1 (Int.le_refl _) rfl rfl (Nat.eq_of_beq_eq_true h3.eq).symm
theorem ap111 {P : Program} {ops : Array Oper} {L : List Oper} {K : Tm → AH → Prop} {d : Option Nat} {tm : Tm} {x : AV} {new : List α} {ix : Nat} (p : Ow E h i a l) (hx : Sl E h ix x new) (h2 : Seen (Nat.beq E.sz 1)) (hr : (l.length + new.length) * 8 ≤ 140737488355328) (hk : ∀ z h' i', Ow E h' i' z (l ++ new) → (i' = i ∨ h.size ≤ i') → h.size ≤ h'.size → (∀ j, j < h.size → ¬ j = i → h'.get j = h.get j) → putM P Try.T ops L K d tm z h') : ansM P Try.T ops L K d tm h (pairR (appendA Try.T h 111 111 a x)) :=
  ans_app p hx rfl ⟨_, rfl⟩ rfl (Nat.eq_of_beq_eq_true h2.eq).symm (Nat.eq_of_beq_eq_true h2.eq).symm (by decide) hr hk
theorem al111 {P : Program} {ops : Array Oper} {L : List Oper} {K : Tm → AH → Prop} {d : Option Nat} {tm : Tm} {sz : Nat} (x : α) (p : Ow E h i a l) (hx : cs = E.f x) (hs : sz = E.sz) (h2 : Seen (Nat.beq E.sz 1)) (hr : (l.length + 1) * 8 ≤ 140737488355328) (hk : ∀ z h' i', Ow E h' i' z (l ++ [x]) → (i' = i ∨ h.size ≤ i') → h.size ≤ h'.size → (∀ j, j < h.size → ¬ j = i → h'.get j = h.get j) → putM P Try.T ops L K d tm z h') : ansM P Try.T ops L K d tm (h.push (.cells cs)) (pairR (appendA Try.T (h.push (.cells cs)) 111 111 a (.slice (some (h.size, 0)) 1 1 sz true))) :=
  ans_app1 p x hx hs rfl rfl (Nat.eq_of_beq_eq_true h2.eq).symm (Nat.eq_of_beq_eq_true h2.eq).symm (by decide) hr hk
theorem eqn111 {l1 c1 z1 l2 c2 z2 : Nat} {x1 x2 : Bool} : binA Try.T .eql 111 (.slice none l1 c1 z1 x1) (.slice none l2 c2 z2 x2) = some (.bool true) := sl_eqn rfl
theorem eqs111 {l1 c1 z1 l2 c2 z2 : Nat} {x1 x2 : Bool} {p : Nat × Nat} : binA Try.T .eql 111 (.slice (some p) l1 c1 z1 x1) (.slice none l2 c2 z2 x2) = some (.bool false) := sl_eqs rfl
theorem eqi111 {l2 c2 z2 a1 b1 c1 d1 : Nat} {x2 : Bool} : binA Try.T .eql 111 (.islice row a1 b1 c1 d1) (.slice none l2 c2 z2 x2) = some (.bool false) := sl_eqi rfl
theorem Td112 : (Try.T 112).desc = .func := rfl
theorem Tz112 : (Try.T 112).zero = [.nilFunc] := rfl
theorem ld112 : loadA Try.T h 112 (.ptr (some (i, o))) = rd1 o (h.get i) := ld_1 rfl rfl
theorem li112 : loadA Try.T h 112 (.iptr row o) = row[o]? := ldi_1 rfl rfl
theorem st112 : storeA Try.T h 112 (.ptr (some (i, o))) v = stC h i o 1 v.cells := st_n rfl rfl
theorem feqs112 {f : FuncId} : binA Try.T .eql 112 (.func f cs) .nilFunc = some (.bool false) := fn_eqs rfl
theorem feqn112 : binA Try.T .eql 112 .nilFunc .nilFunc = some (.bool true) := fn_eqn rfl
theorem Td114 : (Try.T 114).desc = .func := rfl
theorem Tz114 : (Try.T 114).zero = [.nilFunc] := rfl
theorem ld114 : loadA Try.T h 114 (.ptr (some (i, o))) = rd1 o (h.get i) := ld_1 rfl rfl
theorem li114 : loadA Try.T h 114 (.iptr row o) = row[o]? := ldi_1 rfl rfl
theorem st114 : storeA Try.T h 114 (.ptr (some (i, o))) v = stC h i o 1 v.cells := st_n rfl rfl
theorem feqs114 {f : FuncId} : binA Try.T .eql 114 (.func f cs) .nilFunc = some (.bool false) := fn_eqs rfl
theorem feqn114 : binA Try.T .eql 114 .nilFunc .nilFunc = some (.bool true) := fn_eqn rfl
theorem Td116 : (Try.T 116).desc = .func := rfl
theorem Tz116 : (Try.T 116).zero = [.nilFunc] := rfl
theorem ld116 : loadA Try.T h 116 (.ptr (some (i, o))) = rd1 o (h.get i) := ld_1 rfl rfl
theorem li116 : loadA Try.T h 116 (.iptr row o) = row[o]? := ldi_1 rfl rfl
theorem st116 : storeA Try.T h 116 (.ptr (some (i, o))) v = stC h i o 1 v.cells := st_n rfl rfl
theorem feqs116 {f : FuncId} : binA Try.T .eql 116 (.func f cs) .nilFunc = some (.bool false) := fn_eqs rfl
theorem feqn116 : binA Try.T .eql 116 .nilFunc .nilFunc = some (.bool true) := fn_eqn rfl
theorem Td117 : (Try.T 117).desc = .func := rfl
theorem Tz117 : (Try.T 117).zero = [.nilFunc] := rfl
theorem ld117 : loadA Try.T h 117 (.ptr (some (i, o))) = rd1 o (h.get i) := ld_1 rfl rfl
theorem li117 : loadA Try.T h 117 (.iptr row o) = row[o]? := ldi_1 rfl rfl
theorem st117 : storeA Try.T h 117 (.ptr (some (i, o))) v = stC h i o 1 v.cells := st_n rfl rfl
theorem feqs117 {f : FuncId} : binA Try.T .eql 117 (.func f cs) .nilFunc = some (.bool false) := fn_eqs rfl
theorem feqn117 : binA Try.T .eql 117 .nilFunc .nilFunc = some (.bool true) := fn_eqn rfl
theorem Td118 : (Try.T 118).desc = .func := rfl
theorem Tz118 : (Try.T 118).zero = [.nilFunc] := rfl
theorem ld118 : loadA Try.T h 118 (.ptr (some (i, o))) = rd1 o (h.get i) := ld_1 rfl rfl
theorem li118 : loadA Try.T h 118 (.iptr row o) = row[o]? := ldi_1 rfl rfl
theorem st118 : storeA Try.T h 118 (.ptr (some (i, o))) v = stC h i o 1 v.cells := st_n rfl rfl
theorem feqs118 {f : FuncId} : binA Try.T .eql 118 (.func f cs) .nilFunc = some (.bool false) := fn_eqs rfl
theorem feqn118 : binA Try.T .eql 118 .nilFunc .nilFunc = some (.bool true) := fn_eqn rfl
theorem Td119 : (Try.T 119).desc = .func := rfl
theorem Tz119 : (Try.T 119).zero = [.nilFunc] := rfl
theorem ld119 : loadA Try.T h 119 (.ptr (some (i, o))) = rd1 o (h.get i) := ld_1 rfl rfl
theorem li119 : loadA Try.T h 119 (.iptr row o) = row[o]? := ldi_1 rfl rfl
theorem st119 : storeA Try.T h 119 (.ptr (some (i, o))) v = stC h i o 1 v.cells := st_n rfl rfl
theorem feqs119 {f : FuncId} : binA Try.T .eql 119 (.func f cs) .nilFunc = some (.bool false) := fn_eqs rfl
theorem feqn119 : binA Try.T .eql 119 .nilFunc .nilFunc = some (.bool true) := fn_eqn rfl
theorem Td120 : (Try.T 120).desc = .slice 123 := rfl
theorem Tz120 : (Try.T 120).zero = [.slice none 0 0 0 true] := rfl
theorem ld120 : loadA Try.T h 120 (.ptr (some (i, o))) = rd1 o (h.get i) := ld_1 rfl rfl
theorem li120 : loadA Try.T h 120 (.iptr row o) = row[o]? := ldi_1 rfl rfl
theorem st120 : storeA Try.T h 120 (.ptr (some (i, o))) v = stC h i o 1 v.cells := st_n rfl rfl
theorem len120 (p : Sl E h i a l) : builtinA Try.T h' .len [120] [a] = some (.int .i64 (l.length : Int), h') := p.len rfl
theorem ix120 (p : Sl E h i a l) (h0 : 0 ≤ j) (h1 : j < l.length) (h2 : Seen (Nat.beq E.sz 2)) : idxA Try.T 120 a (.int k j) = some (a.at E.sz 0 j) := p.idx h0 h1 rfl rfl (Nat.eq_of_beq_eq_true h2.eq).symm
theorem wr123 {P : Program} {ops : Array Oper} {L : List Oper} {K : Tm → AH → Prop} {d : Option Nat} {tm : Tm} (p : Ow E h i a l) (x : α) (hx : v.cells = E.f x) (h0 : 0 ≤ j) (h1 : j < l.length) (h2 : Seen (Nat.beq E.sz 2)) (hk : ∀ h', Ow E h' i a (l.set j.toNat x) → h'.size = h.size → (∀ b, ¬ b = i → h'.get b = h.get b) → putM P Try.T ops L K d tm undefA h') : ansM P Try.T ops L K d tm h ((storeA Try.T h 123 (a.at E.sz 0 j) v).map fun h' => .val undefA h') :=
  ans_wr p x hx h0 h1 rfl (Nat.eq_of_beq_eq_true h2.eq).symm hk
theorem w123_0_3 {P : Program} {ops : Array Oper} {L : List Oper} {K : Tm → AH → Prop} {d : Option Nat} {tm : Tm} [Inhabited α] (p : Ow E h i a l) (x : α) (hx : E.f x = (E.f (l[j.toNat]!)).set 0 v) (hv : v.cells = [v]) (hv1 : v.one = true) (h0 : 0 ≤ j) (h1 : j < l.length) (h2 : Seen (Nat.blt 0 E.sz)) (hk : ∀ h', Ow E h' i a (l.set j.toNat x) → h'.size = h.size → (∀ b, ¬ b = i → h'.get b = h.get b) → putM P Try.T ops L K d tm undefA h') : ansM P Try.T ops L K d tm h ((storeA Try.T h 3 (a.at E.sz 0 j) v).map fun h' => .val undefA h') :=
  ans_wr1 p x hx hv hv1 (by simpa [Nat.blt_eq] using h2.eq) h0 h1 rfl rfl hk
theorem w123_1_57 {P : Program} {ops : Array Oper} {L : List Oper} {K : Tm → AH → Prop} {d : Option Nat} {tm : Tm} [Inhabited α] (p : Ow E h i a l) (x : α) (hx : E.f x = (E.f (l[j.toNat]!)).set 1 v) (hv : v.cells = [v]) (hv1 : v.one = true) (h0 : 0 ≤ j) (h1 : j < l.length) (h2 : Seen (Nat.blt 1 E.sz)) (hk : ∀ h', Ow E h' i a (l.set j.toNat x) → h'.size = h.size → (∀ b, ¬ b = i → h'.get b = h.get b) → putM P Try.T ops L K d tm undefA h') : ansM P Try.T ops L K d tm h ((storeA Try.T h 57 (a.at E.sz 1 j) v).map fun h' => .val undefA h') :=
  ans_wr1 p x hx hv hv1 (by simpa [Nat.blt_eq] using h2.eq) h0 h1 rfl rfl hk
theorem sl120 (p : Sl E h i a l) (h0 : 0 ≤ x) (h1 : x ≤ y) (h2 : y ≤ l.length) (h3 : Seen (Nat.beq E.sz 2)) : sliceA Try.T 120 a (some x) (some y) none = some (a.part x y) := p.slc h0 h1 h2 rfl rfl (Nat.eq_of_beq_eq_true h3.eq).symm
theorem sm120 (p : Sl E h i a l) (h1 : 0 ≤ y) (h2 : y ≤ l.length) (h3 : Seen (Nat.beq E.sz 2)) : sliceA Try.T 120 a none (some y) none = some (a.part 0 y) := p.slc (lo := none) (Int.le_refl _) h1 h2 rfl rfl (Nat.eq_of_beq_eq_true h3.eq).symm
theorem sn120 (p : Sl E h i a l) (h0 : 0 ≤ x) (h1 : x ≤ l.length) (h3 : Seen (Nat.beq E.sz 2)) : sliceA Try.T 120 a (some x) none none = some (a.part x l.length) := p.slc (hi := none) h0 h1 (Int.le_refl _) rfl rfl (Nat.eq_of_beq_eq_true h3.eq).symm
theorem ap120 {P : Program} {ops : Array Oper} {L : List Oper} {K : Tm → AH → Prop} {d : Option Nat} {tm : Tm} {x : AV} {new : List α} {ix : Nat} (p : Ow E h i a l) (hx : Sl E h ix x new) (h2 : Seen (Nat.beq E.sz 2)) (hr : (l.length + new.length) * 32 ≤ 140737488355328) (hk : ∀ z h' i', Ow E h' i' z (l ++ new) → (i' = i ∨ h.size ≤ i') → h.size ≤ h'.size → (∀ j, j < h.size → ¬ j = i → h'.get j = h.get j) → putM P Try.T ops L K d tm z h') : ansM P Try.T ops L K d tm h (pairR (appendA Try.T h 120 120 a x)) :=
  ans_app p hx rfl ⟨_, rfl⟩ rfl (Nat.eq_of_beq_eq_true h2.eq).symm (Nat.eq_of_beq_eq_true h2.eq).symm (by decide) hr hk
theorem al120 {P : Program} {ops : Array Oper} {L : List Oper} {K : Tm → AH → Prop} {d : Option Nat} {tm : Tm} {sz : Nat} (x : α) (p : Ow E h i a l) (hx : cs = E.f x) (hs : sz = E.sz) (h2 : Seen (Nat.beq E.sz 2)) (hr : (l.length + 1) * 32 ≤ 140737488355328) (hk : ∀ z h' i', Ow E h' i' z (l ++ [x]) → (i' = i ∨ h.size ≤ i') → h.size ≤ h'.size → (∀ j, j < h.size → ¬ j = i → h'.get j = h.get j) → putM P Try.T ops L K d tm z h') : ansM P Try.T ops L K d tm (h.push (.cells cs)) (pairR (appendA Try.T (h.push (.cells cs)) 120 120 a (.slice (some (h.size, 0)) 1 1 sz true))) :=
  ans_app1 p x hx hs rfl rfl (Nat.eq_of_beq_eq_true h2.eq).symm (Nat.eq_of_beq_eq_true h2.eq).symm (by decide) hr hk
theorem eqn120 {l1 c1 z1 l2 c2 z2 : Nat} {x1 x2 : Bool} : binA Try.T .eql 120 (.slice none l1 c1 z1 x1) (.slice none l2 c2 z2 x2) = some (.bool true) := sl_eqn rfl
theorem eqs120 {l1 c1 z1 l2 c2 z2 : Nat} {x1 x2 : Bool} {p : Nat × Nat} : binA Try.T .eql 120 (.slice (some p) l1 c1 z1 x1) (.slice none l2 c2 z2 x2) = some (.bool false) := sl_eqs rfl
theorem eqi120 {l2 c2 z2 a1 b1 c1 d1 : Nat} {x2 : Bool} : binA Try.T .eql 120 (.islice row a1 b1 c1 d1) (.slice none l2 c2 z2 x2) = some (.bool false) := sl_eqi rfl
theorem Td122 : (Try.T 122).desc = .struct [(3, 0, true), (57, 1, true)] := rfl
theorem Tz122 : (Try.T 122).zero = [.int .i64 0, .slice none 0 0 0 true] := rfl
theorem ld122 : loadA Try.T h 122 (.ptr (some (i, o))) = rdN o 2 (h.get i) := ld_n rfl rfl rfl
theorem li122 : loadA Try.T h 122 (.iptr row o) = (cut row o 2).map .agg := ldi_n rfl rfl rfl
theorem st122 : storeA Try.T h 122 (.ptr (some (i, o))) v = stC h i o 2 v.cells := st_n rfl rfl
theorem lE122 [Inhabited α] (p : Sl E h i a l) (h0 : 0 ≤ j) (h1 : j < l.length) (h4 : Seen (Nat.beq E.sz 2)) : loadA Try.T h 122 (a.at E.sz 0 j) = some (.agg (E.f (l[j.toNat]!))) := p.ldn h0 h1 rfl rfl (Nat.eq_of_beq_eq_true h4.eq).symm
theorem bd122 {l : List (Nat × AV)} : bldR Try.T 122 (some l) = (fillA (plA Try.T 122) (Try.T 122).zero l).map .agg := bld_eq rfl
theorem pl122_0 : plA Try.T 122 0 = some (0, 1) := rfl
theorem pl122_1 : plA Try.T 122 1 = some (1, 1) := rfl
theorem fa122_0 : faR Try.T 122 0 (some (.ptr (some (i, o)))) = some (.ptr (some (i, o + 0))) := fa_ptr rfl (by decide) rfl
theorem fi122_0 : faR Try.T 122 0 (some (.iptr row o)) = some (.iptr row (o + 0)) := fa_iptr rfl (by decide) rfl
theorem fE122_0 (p : Sl E h i a l) (h0 : 0 ≤ j) (h1 : j < l.length) : faR Try.T 122 0 (some (a.at E.sz off0 j)) = some (a.at E.sz (off0 + 0) j) := p.fa h0 h1 rfl (by decide) rfl
theorem fl122_0 : fldR Try.T 122 0 (some (.agg cs)) = cs[0]? := fld_1 rfl rfl rfl
theorem fa122_1 : faR Try.T 122 1 (some (.ptr (some (i, o)))) = some (.ptr (some (i, o + 1))) := fa_ptr rfl (by decide) rfl
theorem fi122_1 : faR Try.T 122 1 (some (.iptr row o)) = some (.iptr row (o + 1)) := fa_iptr rfl (by decide) rfl
theorem fE122_1 (p : Sl E h i a l) (h0 : 0 ≤ j) (h1 : j < l.length) : faR Try.T 122 1 (some (a.at E.sz off0 j)) = some (a.at E.sz (off0 + 1) j) := p.fa h0 h1 rfl (by decide) rfl
theorem fl122_1 : fldR Try.T 122 1 (some (.agg cs)) = cs[1]? := fld_1 rfl rfl rfl
theorem Td123 : (Try.T 123).desc = .struct [(3, 0, true), (57, 1, true)] := rfl
theorem Tz123 : (Try.T 123).zero = [.int .i64 0, .slice none 0 0 0 true] := rfl
theorem ld123 : loadA Try.T h 123 (.ptr (some (i, o))) = rdN o 2 (h.get i) := ld_n rfl rfl rfl
theorem li123 : loadA Try.T h 123 (.iptr row o) = (cut row o 2).map .agg := ldi_n rfl rfl rfl
theorem st123 : storeA Try.T h 123 (.ptr (some (i, o))) v = stC h i o 2 v.cells := st_n rfl rfl
theorem lE123 [Inhabited α] (p : Sl E h i a l) (h0 : 0 ≤ j) (h1 : j < l.length) (h4 : Seen (Nat.beq E.sz 2)) : loadA Try.T h 123 (a.at E.sz 0 j) = some (.agg (E.f (l[j.toNat]!))) := p.ldn h0 h1 rfl rfl (Nat.eq_of_beq_eq_true h4.eq).symm
theorem bd123 {l : List (Nat × AV)} : bldR Try.T 123 (some l) = (fillA (plA Try.T 123) (Try.T 123).zero l).map .agg := bld_eq rfl
theorem pl123_0 : plA Try.T 123 0 = some (0, 1) := rfl
theorem pl123_1 : plA Try.T 123 1 = some (1, 1) := rfl
theorem fa123_0 : faR Try.T 123 0 (some (.ptr (some (i, o)))) = some (.ptr (some (i, o + 0))) := fa_ptr rfl (by decide) rfl
theorem fi123_0 : faR Try.T 123 0 (some (.iptr row o)) = some (.iptr row (o + 0)) := fa_iptr rfl (by decide) rfl
theorem fE123_0 (p : Sl E h i a l) (h0 : 0 ≤ j) (h1 : j < l.length) : faR Try.T 123 0 (some (a.at E.sz off0 j)) = some (a.at E.sz (off0 + 0) j) := p.fa h0 h1 rfl (by decide) rfl
theorem fl123_0 : fldR Try.T 123 0 (some (.agg cs)) = cs[0]? := fld_1 rfl rfl rfl
theorem fa123_1 : faR Try.T 123 1 (some (.ptr (some (i, o)))) = some (.ptr (some (i, o + 1))) := fa_ptr rfl (by decide) rfl
theorem fi123_1 : faR Try.T 123 1 (some (.iptr row o)) = some (.iptr row (o + 1)) := fa_iptr rfl (by decide) rfl
theorem fE123_1 (p : Sl E h i a l) (h0 : 0 ≤ j) (h1 : j < l.length) : faR Try.T 123 1 (some (a.at E.sz off0 j)) = some (a.at E.sz (off0 + 1) j) := p.fa h0 h1 rfl (by decide) rfl
theorem fl123_1 : fldR Try.T 123 1 (some (.agg cs)) = cs[1]? := fld_1 rfl rfl rfl
theorem Td124 : (Try.T 124).desc = .func := rfl
theorem Tz124 : (Try.T 124).zero = [.nilFunc] := rfl
theorem ld124 : loadA Try.T h 124 (.ptr (some (i, o))) = rd1 o (h.get i) := ld_1 rfl rfl
theorem li124 : loadA Try.T h 124 (.iptr row o) = row[o]? := ldi_1 rfl rfl
theorem st124 : storeA Try.T h 124 (.ptr (some (i, o))) v = stC h i o 1 v.cells := st_n rfl rfl
theorem feqs124 {f : FuncId} : binA Try.T .eql 124 (.func f cs) .nilFunc = some (.bool false) := fn_eqs rfl
theorem feqn124 : binA Try.T .eql 124 .nilFunc .nilFunc = some (.bool true) := fn_eqn rfl
theorem Td126 : (Try.T 126).desc = .func := rfl
theorem Tz126 : (Try.T 126).zero = [.nilFunc] := rfl
theorem ld126 : loadA Try.T h 126 (.ptr (some (i, o))) = rd1 o (h.get i) := ld_1 rfl rfl
theorem li126 : loadA Try.T h 126 (.iptr row o) = row[o]? := ldi_1 rfl rfl
theorem st126 : storeA Try.T h 126 (.ptr (some (i, o))) v = stC h i o 1 v.cells := st_n rfl rfl
theorem feqs126 {f : FuncId} : binA Try.T .eql 126 (.func f cs) .nilFunc = some (.bool false) := fn_eqs rfl
theorem feqn126 : binA Try.T .eql 126 .nilFunc .nilFunc = some (.bool true) := fn_eqn rfl
theorem Td127 : (Try.T 127).desc = .func := rfl
theorem Tz127 : (Try.T 127).zero = [.nilFunc] := rfl
theorem ld127 : loadA Try.T h 127 (.ptr (some (i, o))) = rd1 o (h.get i) := ld_1 rfl rfl
theorem li127 : loadA Try.T h 127 (.iptr row o) = row[o]? := ldi_1 rfl rfl
theorem st127 : storeA Try.T h 127 (.ptr (some (i, o))) v = stC h i o 1 v.cells := st_n rfl rfl
theorem feqs127 {f : FuncId} : binA Try.T .eql 127 (.func f cs) .nilFunc = some (.bool false) := fn_eqs rfl
theorem feqn127 : binA Try.T .eql 127 .nilFunc .nilFunc = some (.bool true) := fn_eqn rfl
theorem Td129 : (Try.T 129).desc = .func := rfl
theorem Tz129 : (Try.T 129).zero = [.nilFunc] := rfl
theorem ld129 : loadA Try.T h 129 (.ptr (some (i, o))) = rd1 o (h.get i) := ld_1 rfl rfl
theorem li129 : loadA Try.T h 129 (.iptr row o) = row[o]? := ldi_1 rfl rfl
theorem st129 : storeA Try.T h 129 (.ptr (some (i, o))) v = stC h i o 1 v.cells := st_n rfl rfl
theorem feqs129 {f : FuncId} : binA Try.T .eql 129 (.func f cs) .nilFunc = some (.bool false) := fn_eqs rfl
theorem feqn129 : binA Try.T .eql 129 .nilFunc .nilFunc = some (.bool true) := fn_eqn rfl
theorem Td130 : (Try.T 130).desc = .slice 133 := rfl
theorem Tz130 : (Try.T 130).zero = [.slice none 0 0 0 true] := rfl
theorem ld130 : loadA Try.T h 130 (.ptr (some (i, o))) = rd1 o (h.get i) := ld_1 rfl rfl
theorem li130 : loadA Try.T h 130 (.iptr row o) = row[o]? := ldi_1 rfl rfl
theorem st130 : storeA Try.T h 130 (.ptr (some (i, o))) v = stC h i o 1 v.cells := st_n rfl rfl
theorem len130 (p : Sl E h i a l) : builtinA Try.T h' .len [130] [a] = some (.int .i64 (l.length : Int), h') := p.len rfl
theorem ix130 (p : Sl E h i a l) (h0 : 0 ≤ j) (h1 : j < l.length) (h2 : Seen (Nat.beq E.sz 2)) : idxA Try.T 130 a (.int k j) = some (a.at E.sz 0 j) := p.idx h0 h1 rfl rfl (Nat.eq_of_beq_eq_true h2.eq).symm
theorem wr133 {P : Program} {ops : Array Oper} {L : List Oper} {K : Tm → AH → Prop} {d : Option Nat} {tm : Tm} (p : Ow E h i a l) (x : α) (hx : v.cells = E.f x) (h0 : 0 ≤ j) (h1 : j < l.length) (h2 : Seen (Nat.beq E.sz 2)) (hk : ∀ h', Ow E h' i a (l.set j.toNat x) → h'.size = h.size → (∀ b, ¬ b = i → h'.get b = h.get b) → putM P Try.T ops L K d tm undefA h') : ansM P Try.T ops L K d tm h ((storeA Try.T h 133 (a.at E.sz 0 j) v).map fun h' => .val undefA h') :=
  ans_wr p x hx h0 h1 rfl (Nat.eq_of_beq_eq_true h2.eq).symm hk
theorem w133_0_2 {P : Program} {ops : Array Oper} {L : List Oper} {K : Tm → AH → Prop} {d : Option Nat} {tm : Tm} [Inhabited α] (p : Ow E h i a l) (x : α) (hx : E.f x = (E.f (l[j.toNat]!)).set 0 v) (hv : v.cells = [v]) (hv1 : v.one = true) (h0 : 0 ≤ j) (h1 : j < l.length) (h2 : Seen (Nat.blt 0 E.sz)) (hk : ∀ h', Ow E h' i a (l.set j.toNat x) → h'.size = h.size → (∀ b, ¬ b = i → h'.get b = h.get b) → putM P Try.T ops L K d tm undefA h') : ansM P Try.T ops L K d tm h ((storeA Try.T h 2 (a.at E.sz 0 j) v).map fun h' => .val undefA h') :=
  ans_wr1 p x hx hv hv1 (by simpa [Nat.blt_eq] using h2.eq) h0 h1 rfl rfl hk
theorem w133_1_57 {P : Program} {ops : Array Oper} {L : List Oper} {K : Tm → AH → Prop} {d : Option Nat} {tm : Tm} [Inhabited α] (p : Ow E h i a l) (x : α) (hx : E.f x = (E.f (l[j.toNat]!)).set 1 v) (hv : v.cells = [v]) (hv1 : v.one = true) (h0 : 0 ≤ j) (h1 : j < l.length) (h2 : Seen (Nat.blt 1 E.sz)) (hk : ∀ h', Ow E h' i a (l.set j.toNat x) → h'.size = h.size → (∀ b, ¬ b = i → h'.get b = h.get b) → putM P Try.T ops L K d tm undefA h') : ansM P Try.T ops L K d tm h ((storeA Try.T h 57 (a.at E.sz 1 j) v).map fun h' => .val undefA h') :=
  ans_wr1 p x hx hv hv1 (by simpa [Nat.blt_eq] using h2.eq) h0 h1 rfl rfl hk
theorem sl130 (p : Sl E h i a l) (h0 : 0 ≤ x) (h1 : x ≤ y) (h2 : y ≤ l.length) (h3 : Seen (Nat.beq E.sz 2)) : sliceA Try.T 130 a (some x) (some y) none = some (a.part x y) := p.slc h0 h1 h2 rfl rfl (Nat.eq_of_beq_eq_true h3.eq).symm
theorem sm130 (p : Sl E h i a l) (h1 : 0 ≤ y) (h2 : y ≤ l.length) (h3 : Seen (Nat.beq E.sz 2)) : sliceA Try.T 130 a none (some y) none = some (a.part 0 y) := p.slc (lo := none) (Int.le_refl _) h1 h2 rfl rfl (Nat.eq_of_beq_eq_true h3.eq).symm
theorem sn130 (p : Sl E h i a l) (h0 : 0 ≤ x) (h1 : x ≤ l.length) (h3 : Seen (Nat.beq E.sz 2)) : sliceA Try.T 130 a (some x) none none = some (a.part x l.length) := p.slc (hi := none) h0 h1 (Int.le_refl _) rfl rfl (Nat.eq_of_beq_eq_true h3.eq).symm
theorem ap130 {P : Program} {ops : Array Oper} {L : List Oper} {K : Tm → AH → Prop} {d : Option Nat} {tm : Tm} {x : AV} {new : List α} {ix : Nat} (p : Ow E h i a l) (hx : Sl E h ix x new) (h2 : Seen (Nat.beq E.sz 2)) (hr : (l.length + new.length) * 32 ≤ 140737488355328) (hk : ∀ z h' i', Ow E h' i' z (l ++ new) → (i' = i ∨ h.size ≤ i') → h.size ≤ h'.size → (∀ j, j < h.size → ¬ j = i → h'.get j = h.get j) → putM P Try.T ops L K d tm z h') : ansM P Try.T ops L K d tm h (pairR (appendA Try.T h 130 130 a x)) :=
  ans_app p hx rfl ⟨_, rfl⟩ rfl (Nat.eq_of_beq_eq_true h2.eq).symm (Nat.eq_of_beq_eq_true h2.eq).symm (by decide) hr hk
theorem al130 {P : Program} {ops : Array Oper} {L : List Oper} {K : Tm → AH → Prop} {d : Option Nat} {tm : Tm} {sz : Nat} (x : α) (p : Ow E h i a l) (hx : cs = E.f x) (hs : sz = E.sz) (h2 : Seen (Nat.beq E.sz 2)) (hr : (l.length + 1) * 32 ≤ 140737488355328) (hk : ∀ z h' i', Ow E h' i' z (l ++ [x]) → (i' = i ∨ h.size ≤ i') → h.size ≤ h'.size → (∀ j, j < h.size → ¬ j = i → h'.get j = h.get j) → putM P Try.T ops L K d tm z h') : ansM P Try.T ops L K d tm (h.push (.cells cs)) (pairR (appendA Try.T (h.push (.cells cs)) 130 130 a (.slice (some (h.size, 0)) 1 1 sz true))) :=
  ans_app1 p x hx hs rfl rfl (Nat.eq_of_beq_eq_true h2.eq).symm (Nat.eq_of_beq_eq_true h2.eq).symm (by decide) hr hk
theorem eqn130 {l1 c1 z1 l2 c2 z2 : Nat} {x1 x2 : Bool} : binA Try.T .eql 130 (.slice none l1 c1 z1 x1) (.slice none l2 c2 z2 x2) = some (.bool true) := sl_eqn rfl
theorem eqs130 {l1 c1 z1 l2 c2 z2 : Nat} {x1 x2 : Bool} {p : Nat × Nat} : binA Try.T .eql 130 (.slice (some p) l1 c1 z1 x1) (.slice none l2 c2 z2 x2) = some (.bool false) := sl_eqs rfl
theorem eqi130 {l2 c2 z2 a1 b1 c1 d1 : Nat} {x2 : Bool} : binA Try.T .eql 130 (.islice row a1 b1 c1 d1) (.slice none l2 c2 z2 x2) = some (.bool false) := sl_eqi rfl
theorem Td131 : (Try.T 131).desc = .func := rfl
theorem Tz131 : (Try.T 131).zero = [.nilFunc] := rfl
theorem ld131 : loadA Try.T h 131 (.ptr (some (i, o))) = rd1 o (h.get i) := ld_1 rfl rfl
theorem li131 : loadA Try.T h 131 (.iptr row o) = row[o]? := ldi_1 rfl rfl
theorem st131 : storeA Try.T h 131 (.ptr (some (i, o))) v = stC h i o 1 v.cells := st_n rfl rfl
theorem feqs131 {f : FuncId} : binA Try.T .eql 131 (.func f cs) .nilFunc = some (.bool false) := fn_eqs rfl
theorem feqn131 : binA Try.T .eql 131 .nilFunc .nilFunc = some (.bool true) := fn_eqn rfl
theorem Td132 : (Try.T 132).desc = .struct [(2, 0, true), (57, 1, true)] := rfl
theorem Tz132 : (Try.T 132).zero = [.int .i64 0, .slice none 0 0 0 true] := rfl
theorem ld132 : loadA Try.T h 132 (.ptr (some (i, o))) = rdN o 2 (h.get i) := ld_n rfl rfl rfl
theorem li132 : loadA Try.T h 132 (.iptr row o) = (cut row o 2).map .agg := ldi_n rfl rfl rfl
theorem st132 : storeA Try.T h 132 (.ptr (some (i, o))) v = stC h i o 2 v.cells := st_n rfl rfl
theorem lE132 [Inhabited α] (p : Sl E h i a l) (h0 : 0 ≤ j) (h1 : j < l.length) (h4 : Seen (Nat.beq E.sz 2)) : loadA Try.T h 132 (a.at E.sz 0 j) = some (.agg (E.f (l[j.toNat]!))) := p.ldn h0 h1 rfl rfl (Nat.eq_of_beq_eq_true h4.eq).symm
theorem bd132 {l : List (Nat × AV)} : bldR Try.T 132 (some l) = (fillA (plA Try.T 132) (Try.T 132).zero l).map .agg := bld_eq rfl
theorem pl132_0 : plA Try.T 132 0 = some (0, 1) := rfl
theorem pl132_1 : plA Try.T 132 1 = some (1, 1) := rfl
theorem fa132_0 : faR Try.T 132 0 (some (.ptr (some (i, o)))) = some (.ptr (some (i, o + 0))) := fa_ptr rfl (by decide) rfl
theorem fi132_0 : faR Try.T 132 0 (some (.iptr row o)) = some (.iptr row (o + 0)) := fa_iptr rfl (by decide) rfl
theorem fE132_0 (p : Sl E h i a l) (h0 : 0 ≤ j) (h1 : j < l.length) : faR Try.T 132 0 (some (a.at E.sz off0 j)) = some (a.at E.sz (off0 + 0) j) := p.fa h0 h1 rfl (by decide) rfl
theorem fl132_0 : fldR Try.T 132 0 (some (.agg cs)) = cs[0]? := fld_1 rfl rfl rfl
theorem fa132_1 : faR Try.T 132 1 (some (.ptr (some (i, o)))) = some (.ptr (some (i, o + 1))) := fa_ptr rfl (by decide) rfl
theorem fi132_1 : faR Try.T 132 1 (some (.iptr row o)) = some (.iptr row (o + 1)) := fa_iptr rfl (by decide) rfl
theorem fE132_1 (p : Sl E h i a l) (h0 : 0 ≤ j) (h1 : j < l.length) : faR Try.T 132 1 (some (a.at E.sz off0 j)) = some (a.at E.sz (off0 + 1) j) := p.fa h0 h1 rfl (by decide) rfl
theorem fl132_1 : fldR Try.T 132 1 (some (.agg cs)) = cs[1]? := fld_1 rfl rfl rfl
theorem Td133 : (Try.T 133).desc = .struct [(2, 0, true), (57, 1, true)] := rfl
theorem Tz133 : (Try.T 133).zero = [.int .i64 0, .slice none 0 0 0 true] := rfl
theorem ld133 : loadA Try.T h 133 (.ptr (some (i, o))) = rdN o 2 (h.get i) := ld_n rfl rfl rfl
theorem li133 : loadA Try.T h 133 (.iptr row o) = (cut row o 2).map .agg := ldi_n rfl rfl rfl
theorem st133 : storeA Try.T h 133 (.ptr (some (i, o))) v = stC h i o 2 v.cells := st_n rfl rfl
theorem lE133 [Inhabited α] (p : Sl E h i a l) (h0 : 0 ≤ j) (h1 : j < l.length) (h4 : Seen (Nat.beq E.sz 2)) : loadA Try.T h 133 (a.at E.sz 0 j) = some (.agg (E.f (l[j.toNat]!))) := p.ldn h0 h1 rfl rfl (Nat.eq_of_beq_eq_true h4.eq).symm
theorem bd133 {l : List (Nat × AV)} : bldR Try.T 133 (some l) = (fillA (plA Try.T 133) (Try.T 133).zero l).map .agg := bld_eq rfl
theorem pl133_0 : plA Try.T 133 0 = some (0, 1) := rfl
theorem pl133_1 : plA Try.T 133 1 = some (1, 1) := rfl
theorem fa133_0 : faR Try.T 133 0 (some (.ptr (some (i, o)))) = some (.ptr (some (i, o + 0))) := fa_ptr rfl (by decide) rfl
theorem fi133_0 : faR Try.T 133 0 (some (.iptr row o)) = some (.iptr row (o + 0)) := fa_iptr rfl (by decide) rfl
theorem fE133_0 (p : Sl E h i a l) (h0 : 0 ≤ j) (h1 : j < l.length) : faR Try.T 133 0 (some (a.at E.sz off0 j)) = some (a.at E.sz (off0 + 0) j) := p.fa h0 h1 rfl (by decide) rfl
theorem fl133_0 : fldR Try.T 133 0 (some (.agg cs)) = cs[0]? := fld_1 rfl rfl rfl
theorem fa133_1 : faR Try.T 133 1 (some (.ptr (some (i, o)))) = some (.ptr (some (i, o + 1))) := fa_ptr rfl (by decide) rfl
theorem fi133_1 : faR Try.T 133 1 (some (.iptr row o)) = some (.iptr row (o + 1)) := fa_iptr rfl (by decide) rfl
theorem fE133_1 (p : Sl E h i a l) (h0 : 0 ≤ j) (h1 : j < l.length) : faR Try.T 133 1 (some (a.at E.sz off0 j)) = some (a.at E.sz (off0 + 1) j) := p.fa h0 h1 rfl (by decide) rfl
theorem fl133_1 : fldR Try.T 133 1 (some (.agg cs)) = cs[1]? := fld_1 rfl rfl rfl
theorem Td134 : (Try.T 134).desc = .func := rfl
theorem Tz134 : (Try.T 134).zero = [.nilFunc] := rfl
theorem ld134 : loadA Try.T h 134 (.ptr (some (i, o))) = rd1 o (h.get i) := ld_1 rfl rfl
theorem li134 : loadA Try.T h 134 (.iptr row o) = row[o]? := ldi_1 rfl rfl
theorem st134 : storeA Try.T h 134 (.ptr (some (i, o))) v = stC h i o 1 v.cells := st_n rfl rfl
theorem feqs134 {f : FuncId} : binA Try.T .eql 134 (.func f cs) .nilFunc = some (.bool false) := fn_eqs rfl
theorem feqn134 : binA Try.T .eql 134 .nilFunc .nilFunc = some (.bool true) := fn_eqn rfl
theorem Td135 : (Try.T 135).desc = .func := rfl
theorem Tz135 : (Try.T 135).zero = [.nilFunc] := rfl
theorem ld135 : loadA Try.T h 135 (.ptr (some (i, o))) = rd1 o (h.get i) := ld_1 rfl rfl
theorem li135 : loadA Try.T h 135 (.iptr row o) = row[o]? := ldi_1 rfl rfl
theorem st135 : storeA Try.T h 135 (.ptr (some (i, o))) v = stC h i o 1 v.cells := st_n rfl rfl
theorem feqs135 {f : FuncId} : binA Try.T .eql 135 (.func f cs) .nilFunc = some (.bool false) := fn_eqs rfl
theorem feqn135 : binA Try.T .eql 135 .nilFunc .nilFunc = some (.bool true) := fn_eqn rfl
theorem Td136 : (Try.T 136).desc = .int .u32 := rfl
theorem Tz136 : (Try.T 136).zero = [.int .u32 0] := rfl
theorem ld136 : loadA Try.T h 136 (.ptr (some (i, o))) = rd1 o (h.get i) := ld_1 rfl rfl
theorem li136 : loadA Try.T h 136 (.iptr row o) = row[o]? := ldi_1 rfl rfl
theorem st136 : storeA Try.T h 136 (.ptr (some (i, o))) v = stC h i o 1 v.cells := st_n rfl rfl
theorem Td141 : (Try.T 141).desc = .struct [(17, 0, true), (17, 1, true), (17, 2, true), (9, 3, true)] := rfl
theorem Tz141 : (Try.T 141).zero = [.ptr none, .ptr none, .ptr none, .str []] := rfl
theorem ld141 : loadA Try.T h 141 (.ptr (some (i, o))) = rdN o 4 (h.get i) := ld_n rfl rfl rfl
theorem li141 : loadA Try.T h 141 (.iptr row o) = (cut row o 4).map .agg := ldi_n rfl rfl rfl
theorem st141 : storeA Try.T h 141 (.ptr (some (i, o))) v = stC h i o 4 v.cells := st_n rfl rfl
theorem lE141 [Inhabited α] (p : Sl E h i a l) (h0 : 0 ≤ j) (h1 : j < l.length) (h4 : Seen (Nat.beq E.sz 4)) : loadA Try.T h 141 (a.at E.sz 0 j) = some (.agg (E.f (l[j.toNat]!))) := p.ldn h0 h1 rfl rfl (Nat.eq_of_beq_eq_true h4.eq).symm
theorem bd141 {l : List (Nat × AV)} : bldR Try.T 141 (some l) = (fillA (plA Try.T 141) (Try.T 141).zero l).map .agg := bld_eq rfl
theorem pl141_0 : plA Try.T 141 0 = some (0, 1) := rfl
theorem pl141_1 : plA Try.T 141 1 = some (1, 1) := rfl
theorem pl141_2 : plA Try.T 141 2 = some (2, 1) := rfl
theorem pl141_3 : plA Try.T 141 3 = some (3, 1) := rfl
theorem fa141_0 : faR Try.T 141 0 (some (.ptr (some (i, o)))) = some (.ptr (some (i, o + 0))) := fa_ptr rfl (by decide) rfl
theorem fi141_0 : faR Try.T 141 0 (some (.iptr row o)) = some (.iptr row (o + 0)) := fa_iptr rfl (by decide) rfl
theorem fE141_0 (p : Sl E h i a l) (h0 : 0 ≤ j) (h1 : j < l.length) : faR Try.T 141 0 (some (a.at E.sz off0 j)) = some (a.at E.sz (off0 + 0) j) := p.fa h0 h1 rfl (by decide) rfl
theorem fl141_0 : fldR Try.T 141 0 (some (.agg cs)) = cs[0]? := fld_1 rfl rfl rfl
theorem fa141_1 : faR Try.T 141 1 (some (.ptr (some (i, o)))) = some (.ptr (some (i, o + 1))) := fa_ptr rfl (by decide) rfl
theorem fi141_1 : faR Try.T 141 1 (some (.iptr row o)) = some (.iptr row (o + 1)) := fa_iptr rfl (by decide) rfl
theorem fE141_1 (p : Sl E h i a l) (h0 : 0 ≤ j) (h1 : j < l.length) : faR Try.T 141 1 (some (a.at E.sz off0 j)) = some (a.at E.sz (off0 + 1) j) := p.fa h0 h1 rfl (by decide) rfl
theorem fl141_1 : fldR Try.T 141 1 (some (.agg cs)) = cs[1]? := fld_1 rfl rfl rfl
theorem fa141_2 : faR Try.T 141 2 (some (.ptr (some (i, o)))) = some (.ptr (some (i, o + 2))) := fa_ptr rfl (by decide) rfl
theorem fi141_2 : faR Try.T 141 2 (some (.iptr row o)) = some (.iptr row (o + 2)) := fa_iptr rfl (by decide) rfl
theorem fE141_2 (p : Sl E h i a l) (h0 : 0 ≤ j) (h1 : j < l.length) : faR Try.T 141 2 (some (a.at E.sz off0 j)) = some (a.at E.sz (off0 + 2) j) := p.fa h0 h1 rfl (by decide) rfl
theorem fl141_2 : fldR Try.T 141 2 (some (.agg cs)) = cs[2]? := fld_1 rfl rfl rfl
theorem fa141_3 : faR Try.T 141 3 (some (.ptr (some (i, o)))) = some (.ptr (some (i, o + 3))) := fa_ptr rfl (by decide) rfl
theorem fi141_3 : faR Try.T 141 3 (some (.iptr row o)) = some (.iptr row (o + 3)) := fa_iptr rfl (by decide) rfl
theorem fE141_3 (p : Sl E h i a l) (h0 : 0 ≤ j) (h1 : j < l.length) : faR Try.T 141 3 (some (a.at E.sz off0 j)) = some (a.at E.sz (off0 + 3) j) := p.fa h0 h1 rfl (by decide) rfl
theorem fl141_3 : fldR Try.T 141 3 (some (.agg cs)) = cs[3]? := fld_1 rfl rfl rfl
theorem Td142 : (Try.T 142).desc = .array 0 16 := rfl
theorem Tz142 : (Try.T 142).zero = [] := rfl
theorem ld142 : loadA Try.T h 142 (.ptr (some (i, o))) = rdN o 0 (h.get i) := ld_n rfl rfl rfl
theorem li142 : loadA Try.T h 142 (.iptr row o) = (cut row o 0).map .agg := ldi_n rfl rfl rfl
theorem st142 : storeA Try.T h 142 (.ptr (some (i, o))) v = stC h i o 0 v.cells := st_n rfl rfl
theorem lE142 [Inhabited α] (p : Sl E h i a l) (h0 : 0 ≤ j) (h1 : j < l.length) (h4 : Seen (Nat.beq E.sz 0)) : loadA Try.T h 142 (a.at E.sz 0 j) = some (.agg (E.f (l[j.toNat]!))) := p.ldn h0 h1 rfl rfl (Nat.eq_of_beq_eq_true h4.eq).symm
theorem Td143 : (Try.T 143).desc = .struct [(142, 0, false)] := rfl
theorem Tz143 : (Try.T 143).zero = [] := rfl
theorem ld143 : loadA Try.T h 143 (.ptr (some (i, o))) = rdN o 0 (h.get i) := ld_n rfl rfl rfl
theorem li143 : loadA Try.T h 143 (.iptr row o) = (cut row o 0).map .agg := ldi_n rfl rfl rfl
theorem st143 : storeA Try.T h 143 (.ptr (some (i, o))) v = stC h i o 0 v.cells := st_n rfl rfl
theorem lE143 [Inhabited α] (p : Sl E h i a l) (h0 : 0 ≤ j) (h1 : j < l.length) (h4 : Seen (Nat.beq E.sz 0)) : loadA Try.T h 143 (a.at E.sz 0 j) = some (.agg (E.f (l[j.toNat]!))) := p.ldn h0 h1 rfl rfl (Nat.eq_of_beq_eq_true h4.eq).symm
theorem bd143 {l : List (Nat × AV)} : bldR Try.T 143 (some l) = (fillA (plA Try.T 143) (Try.T 143).zero l).map .agg := bld_eq rfl
theorem pl143_0 : plA Try.T 143 0 = some (0, 0) := rfl
theorem Td144 : (Try.T 144).desc = .struct [(142, 0, false)] := rfl
theorem Tz144 : (Try.T 144).zero = [] := rfl
theorem ld144 : loadA Try.T h 144 (.ptr (some (i, o))) = rdN o 0 (h.get i) := ld_n rfl rfl rfl
theorem li144 : loadA Try.T h 144 (.iptr row o) = (cut row o 0).map .agg := ldi_n rfl rfl rfl
theorem st144 : storeA Try.T h 144 (.ptr (some (i, o))) v = stC h i o 0 v.cells := st_n rfl rfl
theorem lE144 [Inhabited α] (p : Sl E h i a l) (h0 : 0 ≤ j) (h1 : j < l.length) (h4 : Seen (Nat.beq E.sz 0)) : loadA Try.T h 144 (a.at E.sz 0 j) = some (.agg (E.f (l[j.toNat]!))) := p.ldn h0 h1 rfl rfl (Nat.eq_of_beq_eq_true h4.eq).symm
theorem bd144 {l : List (Nat × AV)} : bldR Try.T 144 (some l) = (fillA (plA Try.T 144) (Try.T 144).zero l).map .agg := bld_eq rfl
theorem pl144_0 : plA Try.T 144 0 = some (0, 0) := rfl
theorem Td145 : (Try.T 145).desc = .int .u8 := rfl
theorem Tz145 : (Try.T 145).zero = [.int .u8 0] := rfl
theorem ld145 : loadA Try.T h 145 (.ptr (some (i, o))) = rd1 o (h.get i) := ld_1 rfl rfl
theorem li145 : loadA Try.T h 145 (.iptr row o) = row[o]? := ldi_1 rfl rfl
theorem st145 : storeA Try.T h 145 (.ptr (some (i, o))) v = stC h i o 1 v.cells := st_n rfl rfl
theorem l8145 {l : List UInt8} (p : Sl E8 h i a l) (h0 : 0 ≤ j) (h1 : j < l.length) : loadA Try.T h 145 (a.at E8.sz 0 j) = some (.int .u8 ((l[j.toNat]!).toNat : Int)) := p.ld8 h0 h1 rfl rfl
theorem Td146 : (Try.T 146).desc = .int .u8 := rfl
theorem Tz146 : (Try.T 146).zero = [.int .u8 0] := rfl
theorem ld146 : loadA Try.T h 146 (.ptr (some (i, o))) = rd1 o (h.get i) := ld_1 rfl rfl
theorem li146 : loadA Try.T h 146 (.iptr row o) = row[o]? := ldi_1 rfl rfl
theorem st146 : storeA Try.T h 146 (.ptr (some (i, o))) v = stC h i o 1 v.cells := st_n rfl rfl
theorem l8146 {l : List UInt8} (p : Sl E8 h i a l) (h0 : 0 ≤ j) (h1 : j < l.length) : loadA Try.T h 146 (a.at E8.sz 0 j) = some (.int .u8 ((l[j.toNat]!).toNat : Int)) := p.ld8 h0 h1 rfl rfl
theorem Td147 : (Try.T 147).desc = .func := rfl
theorem Tz147 : (Try.T 147).zero = [.nilFunc] := rfl
theorem ld147 : loadA Try.T h 147 (.ptr (some (i, o))) = rd1 o (h.get i) := ld_1 rfl rfl
theorem li147 : loadA Try.T h 147 (.iptr row o) = row[o]? := ldi_1 rfl rfl
theorem st147 : storeA Try.T h 147 (.ptr (some (i, o))) v = stC h i o 1 v.cells := st_n rfl rfl
theorem feqs147 {f : FuncId} : binA Try.T .eql 147 (.func f cs) .nilFunc = some (.bool false) := fn_eqs rfl
theorem feqn147 : binA Try.T .eql 147 .nilFunc .nilFunc = some (.bool true) := fn_eqn rfl
theorem Td148 : (Try.T 148).desc = .pointer 5 := rfl
theorem Tz148 : (Try.T 148).zero = [.ptr none] := rfl
theorem ld148 : loadA Try.T h 148 (.ptr (some (i, o))) = rd1 o (h.get i) := ld_1 rfl rfl
theorem li148 : loadA Try.T h 148 (.iptr row o) = row[o]? := ldi_1 rfl rfl
theorem st148 : storeA Try.T h 148 (.ptr (some (i, o))) v = stC h i o 1 v.cells := st_n rfl rfl
theorem peqn148 : binA Try.T .eql 148 (.ptr none) (.ptr none) = some (.bool true) := pt_eqn rfl
theorem peqs148 {p : Nat × Nat} : binA Try.T .eql 148 (.ptr (some p)) (.ptr none) = some (.bool false) := pt_eqs rfl
theorem pnen148 : binA Try.T .neq 148 (.ptr none) (.ptr none) = some (.bool false) := pt_nen rfl
theorem pnes148 {p : Nat × Nat} : binA Try.T .neq 148 (.ptr (some p)) (.ptr none) = some (.bool true) := pt_nes rfl
theorem Td149 : (Try.T 149).desc = .int .i32 := rfl
theorem Tz149 : (Try.T 149).zero = [.int .i32 0] := rfl
theorem ld149 : loadA Try.T h 149 (.ptr (some (i, o))) = rd1 o (h.get i) := ld_1 rfl rfl
theorem li149 : loadA Try.T h 149 (.iptr row o) = row[o]? := ldi_1 rfl rfl
theorem st149 : storeA Try.T h 149 (.ptr (some (i, o))) v = stC h i o 1 v.cells := st_n rfl rfl
theorem Td150 : (Try.T 150).desc = .int .i32 := rfl
theorem Tz150 : (Try.T 150).zero = [.int .i32 0] := rfl
theorem ld150 : loadA Try.T h 150 (.ptr (some (i, o))) = rd1 o (h.get i) := ld_1 rfl rfl
theorem li150 : loadA Try.T h 150 (.iptr row o) = row[o]? := ldi_1 rfl rfl
theorem st150 : storeA Try.T h 150 (.ptr (some (i, o))) v = stC h i o 1 v.cells := st_n rfl rfl
theorem Td152 : (Try.T 152).desc = .struct [(12, 0, true), (12, 1, true), (136, 2, true), (145, 3, true), (5, 4, true), (5, 5, true), (146, 6, true), (147, 7, true), (148, 8, true), (149, 9, true), (150, 10, true)] := rfl
theorem Tz152 : (Try.T 152).zero = [.int .u64 0, .int .u64 0, .int .u32 0, .int .u8 0, .int .u8 0, .int .u8 0, .int .u8 0, .nilFunc, .ptr none, .int .i32 0, .int .i32 0] := rfl
theorem ld152 : loadA Try.T h 152 (.ptr (some (i, o))) = rdN o 11 (h.get i) := ld_n rfl rfl rfl
theorem li152 : loadA Try.T h 152 (.iptr row o) = (cut row o 11).map .agg := ldi_n rfl rfl rfl
theorem st152 : storeA Try.T h 152 (.ptr (some (i, o))) v = stC h i o 11 v.cells := st_n rfl rfl
theorem lE152 [Inhabited α] (p : Sl E h i a l) (h0 : 0 ≤ j) (h1 : j < l.length) (h4 : Seen (Nat.beq E.sz 11)) : loadA Try.T h 152 (a.at E.sz 0 j) = some (.agg (E.f (l[j.toNat]!))) := p.ldn h0 h1 rfl rfl (Nat.eq_of_beq_eq_true h4.eq).symm
theorem bd152 {l : List (Nat × AV)} : bldR Try.T 152 (some l) = (fillA (plA Try.T 152) (Try.T 152).zero l).map .agg := bld_eq rfl
theorem pl152_0 : plA Try.T 152 0 = some (0, 1) := rfl
theorem pl152_1 : plA Try.T 152 1 = some (1, 1) := rfl
theorem pl152_2 : plA Try.T 152 2 = some (2, 1) := rfl
theorem pl152_3 : plA Try.T 152 3 = some (3, 1) := rfl
theorem pl152_4 : plA Try.T 152 4 = some (4, 1) := rfl
theorem pl152_5 : plA Try.T 152 5 = some (5, 1) := rfl
theorem pl152_6 : plA Try.T 152 6 = some (6, 1) := rfl
theorem pl152_7 : plA Try.T 152 7 = some (7, 1) := rfl
theorem pl152_8 : plA Try.T 152 8 = some (8, 1) := rfl
theorem pl152_9 : plA Try.T 152 9 = some (9, 1) := rfl
theorem pl152_10 : plA Try.T 152 10 = some (10, 1) := rfl
theorem fa152_0 : faR Try.T 152 0 (some (.ptr (some (i, o)))) = some (.ptr (some (i, o + 0))) := fa_ptr rfl (by decide) rfl
theorem fi152_0 : faR Try.T 152 0 (some (.iptr row o)) = some (.iptr row (o + 0)) := fa_iptr rfl (by decide) rfl
theorem fE152_0 (p : Sl E h i a l) (h0 : 0 ≤ j) (h1 : j < l.length) : faR Try.T 152 0 (some (a.at E.sz off0 j)) = some (a.at E.sz (off0 + 0) j) := p.fa h0 h1 rfl (by decide) rfl
theorem fl152_0 : fldR Try.T 152 0 (some (.agg cs)) = cs[0]? := fld_1 rfl rfl rfl
theorem fa152_1 : faR Try.T 152 1 (some (.ptr (some (i, o)))) = some (.ptr (some (i, o + 1))) := fa_ptr rfl (by decide) rfl
theorem fi152_1 : faR Try.T 152 1 (some (.iptr row o)) = some (.iptr row (o + 1)) := fa_iptr rfl (by decide) rfl
theorem fE152_1 (p : Sl E h i a l) (h0 : 0 ≤ j) (h1 : j < l.length) : faR Try.T 152 1 (some (a.at E.sz off0 j)) = some (a.at E.sz (off0 + 1) j) := p.fa h0 h1 rfl (by decide) rfl
theorem fl152_1 : fldR Try.T 152 1 (some (.agg cs)) = cs[1]? := fld_1 rfl rfl rfl
theorem fa152_2 : faR Try.T 152 2 (some (.ptr (some (i, o)))) = some (.ptr (some (i, o + 2))) := fa_ptr rfl (by decide) rfl
theorem fi152_2 : faR Try.T 152 2 (some (.iptr row o)) = some (.iptr row (o + 2)) := fa_iptr rfl (by decide) rfl
theorem fE152_2 (p : Sl E h i a l) (h0 : 0 ≤ j) (h1 : j < l.length) : faR Try.T 152 2 (some (a.at E.sz off0 j)) = some (a.at E.sz (off0 + 2) j) := p.fa h0 h1 rfl (by decide) rfl
theorem fl152_2 : fldR Try.T 152 2 (some (.agg cs)) = cs[2]? := fld_1 rfl rfl rfl
theorem fa152_3 : faR Try.T 152 3 (some (.ptr (some (i, o)))) = some (.ptr (some (i, o + 3))) := fa_ptr rfl (by decide) rfl
theorem fi152_3 : faR Try.T 152 3 (some (.iptr row o)) = some (.iptr row (o + 3)) := fa_iptr rfl (by decide) rfl
theorem fE152_3 (p : Sl E h i a l) (h0 : 0 ≤ j) (h1 : j < l.length) : faR Try.T 152 3 (some (a.at E.sz off0 j)) = some (a.at E.sz (off0 + 3) j) := p.fa h0 h1 rfl (by decide) rfl
theorem fl152_3 : fldR Try.T 152 3 (some (.agg cs)) = cs[3]? := fld_1 rfl rfl rfl
theorem fa152_4 : faR Try.T 152 4 (some (.ptr (some (i, o)))) = some (.ptr (some (i, o + 4))) := fa_ptr rfl (by decide) rfl
theorem fi152_4 : faR Try.T 152 4 (some (.iptr row o)) = some (.iptr row (o + 4)) := fa_iptr rfl (by decide) rfl
theorem fE152_4 (p : Sl E h i a l) (h0 : 0 ≤ j) (h1 : j < l.length) : faR Try.T 152 4 (some (a.at E.sz off0 j)) = some (a.at E.sz (off0 + 4) j) := p.fa h0 h1 rfl (by decide) rfl
theorem fl152_4 : fldR Try.T 152 4 (some (.agg cs)) = cs[4]? := fld_1 rfl rfl rfl
theorem fa152_5 : faR Try.T 152 5 (some (.ptr (some (i, o)))) = some (.ptr (some (i, o + 5))) := fa_ptr rfl (by decide) rfl
theorem fi152_5 : faR Try.T 152 5 (some (.iptr row o)) = some (.iptr row (o + 5)) := fa_iptr rfl (by decide) rfl
theorem fE152_5 (p : Sl E h i a l) (h0 : 0 ≤ j) (h1 : j < l.length) : faR Try.T 152 5 (some (a.at E.sz off0 j)) = some (a.at E.sz (off0 + 5) j) := p.fa h0 h1 rfl (by decide) rfl
theorem fl152_5 : fldR Try.T 152 5 (some (.agg cs)) = cs[5]? := fld_1 rfl rfl rfl
theorem fa152_6 : faR Try.T 152 6 (some (.ptr (some (i, o)))) = some (.ptr (some (i, o + 6))) := fa_ptr rfl (by decide) rfl
theorem fi152_6 : faR Try.T 152 6 (some (.iptr row o)) = some (.iptr row (o + 6)) := fa_iptr rfl (by decide) rfl
theorem fE152_6 (p : Sl E h i a l) (h0 : 0 ≤ j) (h1 : j < l.length) : faR Try.T 152 6 (some (a.at E.sz off0 j)) = some (a.at E.sz (off0 + 6) j) := p.fa h0 h1 rfl (by decide) rfl
theorem fl152_6 : fldR Try.T 152 6 (some (.agg cs)) = cs[6]? := fld_1 rfl rfl rfl
theorem fa152_7 : faR Try.T 152 7 (some (.ptr (some (i, o)))) = some (.ptr (some (i, o + 7))) := fa_ptr rfl (by decide) rfl
theorem fi152_7 : faR Try.T 152 7 (some (.iptr row o)) = some (.iptr row (o + 7)) := fa_iptr rfl (by decide) rfl
theorem fE152_7 (p : Sl E h i a l) (h0 : 0 ≤ j) (h1 : j < l.length) : faR Try.T 152 7 (some (a.at E.sz off0 j)) = some (a.at E.sz (off0 + 7) j) := p.fa h0 h1 rfl (by decide) rfl
theorem fl152_7 : fldR Try.T 152 7 (some (.agg cs)) = cs[7]? := fld_1 rfl rfl rfl
theorem fa152_8 : faR Try.T 152 8 (some (.ptr (some (i, o)))) = some (.ptr (some (i, o + 8))) := fa_ptr rfl (by decide) rfl
theorem fi152_8 : faR Try.T 152 8 (some (.iptr row o)) = some (.iptr row (o + 8)) := fa_iptr rfl (by decide) rfl
theorem fE152_8 (p : Sl E h i a l) (h0 : 0 ≤ j) (h1 : j < l.length) : faR Try.T 152 8 (some (a.at E.sz off0 j)) = some (a.at E.sz (off0 + 8) j) := p.fa h0 h1 rfl (by decide) rfl
theorem fl152_8 : fldR Try.T 152 8 (some (.agg cs)) = cs[8]? := fld_1 rfl rfl rfl
theorem fa152_9 : faR Try.T 152 9 (some (.ptr (some (i, o)))) = some (.ptr (some (i, o + 9))) := fa_ptr rfl (by decide) rfl
theorem fi152_9 : faR Try.T 152 9 (some (.iptr row o)) = some (.iptr row (o + 9)) := fa_iptr rfl (by decide) rfl
theorem fE152_9 (p : Sl E h i a l) (h0 : 0 ≤ j) (h1 : j < l.length) : faR Try.T 152 9 (some (a.at E.sz off0 j)) = some (a.at E.sz (off0 + 9) j) := p.fa h0 h1 rfl (by decide) rfl
theorem fl152_9 : fldR Try.T 152 9 (some (.agg cs)) = cs[9]? := fld_1 rfl rfl rfl
theorem fa152_10 : faR Try.T 152 10 (some (.ptr (some (i, o)))) = some (.ptr (some (i, o + 10))) := fa_ptr rfl (by decide) rfl
theorem fi152_10 : faR Try.T 152 10 (some (.iptr row o)) = some (.iptr row (o + 10)) := fa_iptr rfl (by decide) rfl
theorem fE152_10 (p : Sl E h i a l) (h0 : 0 ≤ j) (h1 : j < l.length) : faR Try.T 152 10 (some (a.at E.sz off0 j)) = some (a.at E.sz (off0 + 10) j) := p.fa h0 h1 rfl (by decide) rfl
theorem fl152_10 : fldR Try.T 152 10 (some (.agg cs)) = cs[10]? := fld_1 rfl rfl rfl
theorem ci2 {a : Nat} : convA Try.T h a 2 (.int k x) = cvI (Try.T a).desc (.int .i64) h x := conv_i rfl
theorem ci3 {a : Nat} : convA Try.T h a 3 (.int k x) = cvI (Try.T a).desc (.int .i64) h x := conv_i rfl
theorem ci5 {a : Nat} : convA Try.T h a 5 (.int k x) = cvI (Try.T a).desc (.int .u8) h x := conv_i rfl
theorem ci6 {a : Nat} : convA Try.T h a 6 (.int k x) = cvI (Try.T a).desc (.int .u8) h x := conv_i rfl
theorem ci12 {a : Nat} : convA Try.T h a 12 (.int k x) = cvI (Try.T a).desc (.int .u64) h x := conv_i rfl
theorem ci21 {a : Nat} : convA Try.T h a 21 (.int k x) = cvI (Try.T a).desc (.int .i32) h x := conv_i rfl
theorem ci31 {a : Nat} : convA Try.T h a 31 (.int k x) = cvI (Try.T a).desc (.int .i64) h x := conv_i rfl
theorem ci104 {a : Nat} : convA Try.T h a 104 (.int k x) = cvI (Try.T a).desc (.int .u64) h x := conv_i rfl
theorem ci136 {a : Nat} : convA Try.T h a 136 (.int k x) = cvI (Try.T a).desc (.int .u32) h x := conv_i rfl
theorem ci145 {a : Nat} : convA Try.T h a 145 (.int k x) = cvI (Try.T a).desc (.int .u8) h x := conv_i rfl
theorem ci146 {a : Nat} : convA Try.T h a 146 (.int k x) = cvI (Try.T a).desc (.int .u8) h x := conv_i rfl
theorem ci149 {a : Nat} : convA Try.T h a 149 (.int k x) = cvI (Try.T a).desc (.int .i32) h x := conv_i rfl
theorem ci150 {a : Nat} : convA Try.T h a 150 (.int k x) = cvI (Try.T a).desc (.int .i32) h x := conv_i rfl
end tf
attribute [go_sem] Td1 Tz1 ld1 li1 st1 feqs1 feqn1 Td2 Tz2 ld2 li2 st2 lI2 Td3 Tz3 ld3 li3 st3 lI3 Td4 Tz4 ld4 li4 st4 beql4 bneq4 Td5 Tz5 ld5 li5 st5 l85 Td6 Tz6 ld6 li6 st6 l86 Td7 Tz7
attribute [go_sem] ld7 li7 st7 lE7 bd7 pl7_0 pl7_1 pl7_2 pl7_3 fa7_0 fi7_0 fE7_0 fl7_0 fa7_1 fi7_1 fE7_1 fl7_1 fa7_2 fi7_2 fE7_2 fl7_2 fa7_3 fi7_3 fE7_3 fl7_3 Td8 Tz8 ld8 li8 st8 lE8 bd8 pl8_0 pl8_1 pl8_2 pl8_3 fa8_0 fi8_0 fE8_0 fl8_0
attribute [go_sem] fa8_1 fi8_1 fE8_1 fl8_1 fa8_2 fi8_2 fE8_2 fl8_2 fa8_3 fi8_3 fE8_3 fl8_3 Td9 Tz9 ld9 li9 st9 ssn9 ssl9 ssb9 len9 ix9 Td10 Tz10 ld10 li10 st10 ssn10 ssl10 ssb10 len10 ix10 Td11 Tz11 ld11 li11 st11 ssn11 ssl11 ssb11
attribute [go_sem] len11 ix11 Td12 Tz12 ld12 li12 st12 Td13 Tz13 ld13 li13 st13 lE13 bd13 pl13_0 pl13_1 fa13_0 fi13_0 fE13_0 fl13_0 fa13_1 fi13_1 fE13_1 fl13_1 Td14 Tz14 ld14 li14 st14 lE14 bd14 pl14_0 pl14_1 fa14_0 fi14_0 fE14_0 fl14_0 fa14_1 fi14_1 fE14_1
attribute [go_sem] fl14_1 Td15 Tz15 ld15 li15 st15 peqn15 peqs15 pnen15 pnes15 Td16 Tz16 ld16 li16 st16 peqn16 peqs16 pnen16 pnes16 Td17 Tz17 ld17 li17 st17 peqn17 peqs17 pnen17 pnes17 Td19 Tz19 ld19 li19 st19 lE19 bd19 pl19_0 fa19_0 fi19_0 fE19_0 fl19_0
attribute [go_sem] Td21 Tz21 ld21 li21 st21 Td22 Tz22 ld22 li22 st22 len22 ix22 sl22 sm22 sn22 eqn22 eqs22 eqi22 Td23 Tz23 ld23 li23 st23 feqs23 feqn23 Td24 Tz24 ld24 li24 st24 peqn24 peqs24 pnen24 pnes24 Td25 Tz25 ld25 li25 st25 feqs25
attribute [go_sem] feqn25 Td26 Tz26 ld26 li26 st26 peqn26 peqs26 pnen26 pnes26 Td27 Tz27 ld27 li27 st27 feqs27 feqn27 Td28 Tz28 ld28 li28 st28 len28 ix28 sl28 sm28 sn28 eqn28 eqs28 eqi28 Td30 Tz30 ld30 li30 st30 lE30 bd30 pl30_0 pl30_1 pl30_2
attribute [go_sem] fa30_0 fi30_0 fE30_0 fl30_0 fa30_1 fi30_1 fE30_1 fl30_1 fa30_2 fi30_2 fE30_2 fl30_2 Td31 Tz31 ld31 li31 st31 lI31 Td32 Tz32 ld32 li32 st32 feqs32 feqn32 Td33 Tz33 ld33 li33 st33 len33 ix33 br33 bs33 sl33 sm33 sn33 cs33_9 cb9_33 cs33_10
attribute [go_sem] cb10_33 cs33_11 cb11_33 eqn33 eqs33 eqi33 Td35 Tz35 ld35 li35 st35 feqs35 feqn35 Td36 Tz36 ld36 li36 st36 feqs36 feqn36 Td37 Tz37 ld37 li37 st37 peqn37 peqs37 pnen37 pnes37 Td38 Tz38 ld38 li38 st38 lE38 bd38 pl38_0 pl38_1 pl38_2 pl38_3
attribute [go_sem] fa38_0 fi38_0 fE38_0 fl38_0 fa38_1 fi38_1 fE38_1 fl38_1 fa38_2 fi38_2 fE38_2 fl38_2 fa38_3 fi38_3 fE38_3 fl38_3 Td39 Tz39 ld39 li39 st39 lE39 bd39 pl39_0 pl39_1 pl39_2 pl39_3 fa39_0 fi39_0 fE39_0 fl39_0 fa39_1 fi39_1 fE39_1 fl39_1 fa39_2 fi39_2 fE39_2 fl39_2 fa39_3
attribute [go_sem] fi39_3 fE39_3 fl39_3 Td40 Tz40 ld40 li40 st40 feqs40 feqn40 Td41 Tz41 ld41 li41 st41 feqs41 feqn41 Td42 Tz42 ld42 li42 st42 feqs42 feqn42 Td43 Tz43 ld43 li43 st43 feqs43 feqn43 Td44 Tz44 ld44 li44 st44 lE44 bd44 pl44_0 pl44_1
attribute [go_sem] pl44_2 fa44_0 fi44_0 fE44_0 fl44_0 fa44_1 fi44_1 fE44_1 fl44_1 fa44_2 fi44_2 fE44_2 fl44_2 Td45 Tz45 ld45 li45 st45 lE45 bd45 pl45_0 pl45_1 pl45_2 fa45_0 fi45_0 fE45_0 fl45_0 fa45_1 fi45_1 fE45_1 fl45_1 fa45_2 fi45_2 fE45_2 fl45_2 Td47 Tz47 ld47 li47 st47
attribute [go_sem] feqs47 feqn47 Td48 Tz48 ld48 li48 st48 peqn48 peqs48 pnen48 pnes48 Td50 Tz50 ld50 li50 st50 feqs50 feqn50 Td57 Tz57 ld57 li57 st57 len57 ix57 br57 bs57 sl57 sm57 sn57 eqn57 eqs57 eqi57 Td58 Tz58 ld58 li58 st58 len58 ix58
attribute [go_sem] br58 bs58 sl58 sm58 sn58 eqn58 eqs58 eqi58 Td59 Tz59 ld59 li59 st59 feqs59 feqn59 Td60 Tz60 ld60 li60 st60 peqn60 peqs60 pnen60 pnes60 Td62 Tz62 ld62 li62 st62 feqs62 feqn62 Td63 Tz63 ld63 li63 st63 lE63 bd63 pl63_0 pl63_1
attribute [go_sem] pl63_2 pl63_3 fa63_0 fi63_0 fE63_0 fl63_0 fa63_1 fi63_1 fE63_1 fl63_1 fa63_2 fi63_2 fE63_2 fl63_2 fa63_3 fi63_3 fE63_3 fl63_3 Td64 Tz64 ld64 li64 st64 lE64 bd64 pl64_0 pl64_1 pl64_2 pl64_3 fa64_0 fi64_0 fE64_0 fl64_0 fa64_1 fi64_1 fE64_1 fl64_1 fa64_2 fi64_2 fE64_2
attribute [go_sem] fl64_2 fa64_3 fi64_3 fE64_3 fl64_3 Td66 Tz66 ld66 li66 st66 feqs66 feqn66 Td78 Tz78 ld78 li78 st78 lE78 bd78 pl78_0 pl78_1 fa78_0 fi78_0 fE78_0 fl78_0 fa78_1 fi78_1 fE78_1 fl78_1 Td81 Tz81 ld81 li81 st81 lE81 bd81 pl81_0 pl81_1 pl81_2 pl81_3
attribute [go_sem] fa81_0 fi81_0 fE81_0 fl81_0 fa81_1 fi81_1 fE81_1 fl81_1 fa81_2 fi81_2 fE81_2 fl81_2 fa81_3 fi81_3 fE81_3 fl81_3 Td82 Tz82 ld82 li82 st82 peqn82 peqs82 pnen82 pnes82 Td84 Tz84 ld84 li84 st84 lE84 bd84 pl84_0 pl84_1 pl84_2 pl84_3 pl84_4 pl84_5 pl84_6 pl84_7
attribute [go_sem] fa84_0 fi84_0 fE84_0 fl84_0 fa84_1 fi84_1 fE84_1 fl84_1 fa84_2 fi84_2 fE84_2 fl84_2 fa84_3 fi84_3 fE84_3 fl84_3 fa84_4 fi84_4 fE84_4 fl84_4 fa84_5 fi84_5 fE84_5 fl84_5 fa84_6 fi84_6 fE84_6 fl84_6 fa84_7 fi84_7 fE84_7 fl84_7 Td87 Tz87 ld87 li87 st87 lE87 bd87 pl87_0
attribute [go_sem] pl87_1 pl87_2 fa87_0 fi87_0 fE87_0 fl87_0 fa87_1 fi87_1 fE87_1 fl87_1 fa87_2 fi87_2 fE87_2 fl87_2 Td88 Tz88 ld88 li88 st88 feqs88 feqn88 Td89 Tz89 ld89 li89 st89 feqs89 feqn89 Td90 Tz90 ld90 li90 st90 feqs90 feqn90 Td91 Tz91 ld91 li91 st91
attribute [go_sem] feqs91 feqn91 Td92 Tz92 ld92 li92 st92 len92 ix92 sl92 sm92 sn92 eqn92 eqs92 eqi92 Td93 Tz93 ld93 li93 st93 feqs93 feqn93 Td94 Tz94 ld94 li94 st94 lE94 bd94 pl94_0 pl94_1 fa94_0 fi94_0 fE94_0 fl94_0 fa94_1 fi94_1 fE94_1 fl94_1 Td95
attribute [go_sem] Tz95 ld95 li95 st95 lE95 bd95 pl95_0 pl95_1 fa95_0 fi95_0 fE95_0 fl95_0 fa95_1 fi95_1 fE95_1 fl95_1 Td96 Tz96 ld96 li96 st96 feqs96 feqn96 Td98 Tz98 ld98 li98 st98 feqs98 feqn98 Td99 Tz99 ld99 li99 st99 feqs99 feqn99 Td100 Tz100 ld100
attribute [go_sem] li100 st100 feqs100 feqn100 Td101 Tz101 ld101 li101 st101 feqs101 feqn101 Td102 Tz102 ld102 li102 st102 feqs102 feqn102 Td104 Tz104 ld104 li104 st104 Td105 Tz105 ld105 li105 st105 feqs105 feqn105 Td106 Tz106 ld106 li106 st106 len106 ix106 br106 bs106 sl106
attribute [go_sem] sm106 sn106 eqn106 eqs106 eqi106 Td107 Tz107 ld107 li107 st107 feqs107 feqn107 Td108 Tz108 ld108 li108 st108 feqs108 feqn108 Td109 Tz109 ld109 li109 st109 feqs109 feqn109 Td110 Tz110 ld110 li110 st110 feqs110 feqn110 Td111 Tz111 ld111 li111 st111 len111 ix111
attribute [go_sem] br111 bs111 sl111 sm111 sn111 eqn111 eqs111 eqi111 Td112 Tz112 ld112 li112 st112 feqs112 feqn112 Td114 Tz114 ld114 li114 st114 feqs114 feqn114 Td116 Tz116 ld116 li116 st116 feqs116 feqn116 Td117 Tz117 ld117 li117 st117 feqs117 feqn117 Td118 Tz118 ld118 li118
attribute [go_sem] st118 feqs118 feqn118 Td119 Tz119 ld119 li119 st119 feqs119 feqn119 Td120 Tz120 ld120 li120 st120 len120 ix120 sl120 sm120 sn120 eqn120 eqs120 eqi120 Td122 Tz122 ld122 li122 st122 lE122 bd122 pl122_0 pl122_1 fa122_0 fi122_0 fE122_0 fl122_0 fa122_1 fi122_1 fE122_1 fl122_1
attribute [go_sem] Td123 Tz123 ld123 li123 st123 lE123 bd123 pl123_0 pl123_1 fa123_0 fi123_0 fE123_0 fl123_0 fa123_1 fi123_1 fE123_1 fl123_1 Td124 Tz124 ld124 li124 st124 feqs124 feqn124 Td126 Tz126 ld126 li126 st126 feqs126 feqn126 Td127 Tz127 ld127 li127 st127 feqs127 feqn127 Td129 Tz129
attribute [go_sem] ld129 li129 st129 feqs129 feqn129 Td130 Tz130 ld130 li130 st130 len130 ix130 sl130 sm130 sn130 eqn130 eqs130 eqi130 Td131 Tz131 ld131 li131 st131 feqs131 feqn131 Td132 Tz132 ld132 li132 st132 lE132 bd132 pl132_0 pl132_1 fa132_0 fi132_0 fE132_0 fl132_0 fa132_1 fi132_1
attribute [go_sem] fE132_1 fl132_1 Td133 Tz133 ld133 li133 st133 lE133 bd133 pl133_0 pl133_1 fa133_0 fi133_0 fE133_0 fl133_0 fa133_1 fi133_1 fE133_1 fl133_1 Td134 Tz134 ld134 li134 st134 feqs134 feqn134 Td135 Tz135 ld135 li135 st135 feqs135 feqn135 Td136 Tz136 ld136 li136 st136 Td141 Tz141
attribute [go_sem] ld141 li141 st141 lE141 bd141 pl141_0 pl141_1 pl141_2 pl141_3 fa141_0 fi141_0 fE141_0 fl141_0 fa141_1 fi141_1 fE141_1 fl141_1 fa141_2 fi141_2 fE141_2 fl141_2 fa141_3 fi141_3 fE141_3 fl141_3 Td142 Tz142 ld142 li142 st142 lE142 Td143 Tz143 ld143 li143 st143 lE143 bd143 pl143_0 Td144
attribute [go_sem] Tz144 ld144 li144 st144 lE144 bd144 pl144_0 Td145 Tz145 ld145 li145 st145 l8145 Td146 Tz146 ld146 li146 st146 l8146 Td147 Tz147 ld147 li147 st147 feqs147 feqn147 Td148 Tz148 ld148 li148 st148 peqn148 peqs148 pnen148 pnes148 Td149 Tz149 ld149 li149 st149
attribute [go_sem] Td150 Tz150 ld150 li150 st150 Td152 Tz152 ld152 li152 st152 lE152 bd152 pl152_0 pl152_1 pl152_2 pl152_3 pl152_4 pl152_5 pl152_6 pl152_7 pl152_8 pl152_9 pl152_10 fa152_0 fi152_0 fE152_0 fl152_0 fa152_1 fi152_1 fE152_1 fl152_1 fa152_2 fi152_2 fE152_2 fl152_2 fa152_3 fi152_3 fE152_3 fl152_3 fa152_4
attribute [go_sem] fi152_4 fE152_4 fl152_4 fa152_5 fi152_5 fE152_5 fl152_5 fa152_6 fi152_6 fE152_6 fl152_6 fa152_7 fi152_7 fE152_7 fl152_7 fa152_8 fi152_8 fE152_8 fl152_8 fa152_9 fi152_9 fE152_9 fl152_9 fa152_10 fi152_10 fE152_10 fl152_10 ci2 ci3 ci5 ci6 ci12 ci21 ci31 ci104 ci136 ci145 ci146 ci149 ci150
end Try
end Go.Proofs
