/- The types of the program as rewriting rules: written by a program (mkf.py). -/
import Derived.Test.YtbmfigafbilbmaaAbsNum
import Derived.Test.YtbmfigafbilbmaaAbsTprefix
set_option linter.unusedVariables false
namespace Go.Proofs
open Go.Abs
namespace Try
section tf
variable {h h' : AH} {i o : Nat} {v a : AV} {row cs : List AV} {α : Type} {E : Enc α} {l : List α} {j : Int} {off0 : Nat} {k : IntKind} {s : List UInt8} {x y : Int}
theorem Td1 : (Try.T 1).desc = .func := rfl
theorem Tz1 : (Try.T 1).zero = [.nilFunc] := rfl
theorem ld1 : loadA Try.T h 1 (.ptr (some (i, o))) = rd1 o (h.get i) := ld_1 rfl rfl
theorem li1 : loadA Try.T h 1 (.iptr row o) = row[o]? := ldi_1 rfl rfl
theorem st1 : storeA Try.T h 1 (.ptr (some (i, o))) v = stC h i o 1 v.cells := st_n rfl rfl
theorem Td2 : (Try.T 2).desc = .int .i64 := rfl
theorem Tz2 : (Try.T 2).zero = [.int .i64 0] := rfl
theorem ld2 : loadA Try.T h 2 (.ptr (some (i, o))) = rd1 o (h.get i) := ld_1 rfl rfl
theorem li2 : loadA Try.T h 2 (.iptr row o) = row[o]? := ldi_1 rfl rfl
theorem st2 : storeA Try.T h 2 (.ptr (some (i, o))) v = stC h i o 1 v.cells := st_n rfl rfl
theorem lI2 {l : List Int} (p : Sl EI h i a l) (h0 : 0 ≤ j) (h1 : j < l.length) : loadA Try.T h 2 (a.at EI.sz 0 j) = some (.int .i64 (l[j.toNat]!)) := p.ldI h0 h1 rfl rfl
theorem Td3 : (Try.T 3).desc = .int .i64 := rfl
theorem Tz3 : (Try.T 3).zero = [.int .i64 0] := rfl
theorem ld3 : loadA Try.T h 3 (.ptr (some (i, o))) = rd1 o (h.get i) := ld_1 rfl rfl
theorem li3 : loadA Try.T h 3 (.iptr row o) = row[o]? := ldi_1 rfl rfl
theorem st3 : storeA Try.T h 3 (.ptr (some (i, o))) v = stC h i o 1 v.cells := st_n rfl rfl
theorem lI3 {l : List Int} (p : Sl EI h i a l) (h0 : 0 ≤ j) (h1 : j < l.length) : loadA Try.T h 3 (a.at EI.sz 0 j) = some (.int .i64 (l[j.toNat]!)) := p.ldI h0 h1 rfl rfl
theorem Td4 : (Try.T 4).desc = .bool := rfl
theorem Tz4 : (Try.T 4).zero = [.bool false] := rfl
theorem ld4 : loadA Try.T h 4 (.ptr (some (i, o))) = rd1 o (h.get i) := ld_1 rfl rfl
theorem li4 : loadA Try.T h 4 (.iptr row o) = row[o]? := ldi_1 rfl rfl
theorem st4 : storeA Try.T h 4 (.ptr (some (i, o))) v = stC h i o 1 v.cells := st_n rfl rfl
theorem beql4 {x y : Bool} : binA Try.T .eql 4 (.bool x) (.bool y) = some (.bool (x == y)) := bool_eql rfl
theorem bneq4 {x y : Bool} : binA Try.T .neq 4 (.bool x) (.bool y) = some (.bool (!(x == y))) := bool_neq rfl
theorem Td5 : (Try.T 5).desc = .int .u8 := rfl
theorem Tz5 : (Try.T 5).zero = [.int .u8 0] := rfl
theorem ld5 : loadA Try.T h 5 (.ptr (some (i, o))) = rd1 o (h.get i) := ld_1 rfl rfl
theorem li5 : loadA Try.T h 5 (.iptr row o) = row[o]? := ldi_1 rfl rfl
theorem st5 : storeA Try.T h 5 (.ptr (some (i, o))) v = stC h i o 1 v.cells := st_n rfl rfl
theorem l85 {l : List UInt8} (p : Sl E8 h i a l) (h0 : 0 ≤ j) (h1 : j < l.length) : loadA Try.T h 5 (a.at E8.sz 0 j) = some (.int .u8 ((l[j.toNat]!).toNat : Int)) := p.ld8 h0 h1 rfl rfl
theorem Td6 : (Try.T 6).desc = .int .u8 := rfl
theorem Tz6 : (Try.T 6).zero = [.int .u8 0] := rfl
theorem ld6 : loadA Try.T h 6 (.ptr (some (i, o))) = rd1 o (h.get i) := ld_1 rfl rfl
theorem li6 : loadA Try.T h 6 (.iptr row o) = row[o]? := ldi_1 rfl rfl
theorem st6 : storeA Try.T h 6 (.ptr (some (i, o))) v = stC h i o 1 v.cells := st_n rfl rfl
theorem l86 {l : List UInt8} (p : Sl E8 h i a l) (h0 : 0 ≤ j) (h1 : j < l.length) : loadA Try.T h 6 (a.at E8.sz 0 j) = some (.int .u8 ((l[j.toNat]!).toNat : Int)) := p.ld8 h0 h1 rfl rfl
theorem Td7 : (Try.T 7).desc = .struct [(2, 0, true), (3, 1, true), (4, 2, true), (6, 3, true)] := rfl
theorem Tz7 : (Try.T 7).zero = [.int .i64 0, .int .i64 0, .bool false, .int .u8 0] := rfl
theorem ld7 : loadA Try.T h 7 (.ptr (some (i, o))) = rdN o 4 (h.get i) := ld_n rfl rfl rfl
theorem li7 : loadA Try.T h 7 (.iptr row o) = (cut row o 4).map .agg := ldi_n rfl rfl rfl
theorem st7 : storeA Try.T h 7 (.ptr (some (i, o))) v = stC h i o 4 v.cells := st_n rfl rfl
theorem lE7 [Inhabited α] (p : Sl E h i a l) (h0 : 0 ≤ j) (h1 : j < l.length) (h4 : Seen (Nat.beq E.sz 4)) : loadA Try.T h 7 (a.at E.sz 0 j) = some (.agg (E.f (l[j.toNat]!))) := p.ldn h0 h1 rfl rfl (Nat.eq_of_beq_eq_true h4.eq).symm
theorem fa7_0 : faR Try.T 7 0 (some (.ptr (some (i, o)))) = some (.ptr (some (i, o + 0))) := fa_ptr rfl (by decide) rfl
theorem fi7_0 : faR Try.T 7 0 (some (.iptr row o)) = some (.iptr row (o + 0)) := fa_iptr rfl (by decide) rfl
theorem fE7_0 (p : Sl E h i a l) (h0 : 0 ≤ j) (h1 : j < l.length) : faR Try.T 7 0 (some (a.at E.sz off0 j)) = some (a.at E.sz (off0 + 0) j) := p.fa h0 h1 rfl (by decide) rfl
theorem fl7_0 : fldR Try.T 7 0 (some (.agg cs)) = cs[0]? := fld_1 rfl rfl rfl
theorem fa7_1 : faR Try.T 7 1 (some (.ptr (some (i, o)))) = some (.ptr (some (i, o + 1))) := fa_ptr rfl (by decide) rfl
theorem fi7_1 : faR Try.T 7 1 (some (.iptr row o)) = some (.iptr row (o + 1)) := fa_iptr rfl (by decide) rfl
theorem fE7_1 (p : Sl E h i a l) (h0 : 0 ≤ j) (h1 : j < l.length) : faR Try.T 7 1 (some (a.at E.sz off0 j)) = some (a.at E.sz (off0 + 1) j) := p.fa h0 h1 rfl (by decide) rfl
theorem fl7_1 : fldR Try.T 7 1 (some (.agg cs)) = cs[1]? := fld_1 rfl rfl rfl
theorem fa7_2 : faR Try.T 7 2 (some (.ptr (some (i, o)))) = some (.ptr (some (i, o + 2))) := fa_ptr rfl (by decide) rfl
theorem fi7_2 : faR Try.T 7 2 (some (.iptr row o)) = some (.iptr row (o + 2)) := fa_iptr rfl (by decide) rfl
theorem fE7_2 (p : Sl E h i a l) (h0 : 0 ≤ j) (h1 : j < l.length) : faR Try.T 7 2 (some (a.at E.sz off0 j)) = some (a.at E.sz (off0 + 2) j) := p.fa h0 h1 rfl (by decide) rfl
theorem fl7_2 : fldR Try.T 7 2 (some (.agg cs)) = cs[2]? := fld_1 rfl rfl rfl
theorem fa7_3 : faR Try.T 7 3 (some (.ptr (some (i, o)))) = some (.ptr (some (i, o + 3))) := fa_ptr rfl (by decide) rfl
theorem fi7_3 : faR Try.T 7 3 (some (.iptr row o)) = some (.iptr row (o + 3)) := fa_iptr rfl (by decide) rfl
theorem fE7_3 (p : Sl E h i a l) (h0 : 0 ≤ j) (h1 : j < l.length) : faR Try.T 7 3 (some (a.at E.sz off0 j)) = some (a.at E.sz (off0 + 3) j) := p.fa h0 h1 rfl (by decide) rfl
theorem fl7_3 : fldR Try.T 7 3 (some (.agg cs)) = cs[3]? := fld_1 rfl rfl rfl
theorem Td8 : (Try.T 8).desc = .struct [(2, 0, true), (3, 1, true), (4, 2, true), (6, 3, true)] := rfl
theorem Tz8 : (Try.T 8).zero = [.int .i64 0, .int .i64 0, .bool false, .int .u8 0] := rfl
theorem ld8 : loadA Try.T h 8 (.ptr (some (i, o))) = rdN o 4 (h.get i) := ld_n rfl rfl rfl
theorem li8 : loadA Try.T h 8 (.iptr row o) = (cut row o 4).map .agg := ldi_n rfl rfl rfl
theorem st8 : storeA Try.T h 8 (.ptr (some (i, o))) v = stC h i o 4 v.cells := st_n rfl rfl
theorem lE8 [Inhabited α] (p : Sl E h i a l) (h0 : 0 ≤ j) (h1 : j < l.length) (h4 : Seen (Nat.beq E.sz 4)) : loadA Try.T h 8 (a.at E.sz 0 j) = some (.agg (E.f (l[j.toNat]!))) := p.ldn h0 h1 rfl rfl (Nat.eq_of_beq_eq_true h4.eq).symm
theorem fa8_0 : faR Try.T 8 0 (some (.ptr (some (i, o)))) = some (.ptr (some (i, o + 0))) := fa_ptr rfl (by decide) rfl
theorem fi8_0 : faR Try.T 8 0 (some (.iptr row o)) = some (.iptr row (o + 0)) := fa_iptr rfl (by decide) rfl
theorem fE8_0 (p : Sl E h i a l) (h0 : 0 ≤ j) (h1 : j < l.length) : faR Try.T 8 0 (some (a.at E.sz off0 j)) = some (a.at E.sz (off0 + 0) j) := p.fa h0 h1 rfl (by decide) rfl
theorem fl8_0 : fldR Try.T 8 0 (some (.agg cs)) = cs[0]? := fld_1 rfl rfl rfl
theorem fa8_1 : faR Try.T 8 1 (some (.ptr (some (i, o)))) = some (.ptr (some (i, o + 1))) := fa_ptr rfl (by decide) rfl
theorem fi8_1 : faR Try.T 8 1 (some (.iptr row o)) = some (.iptr row (o + 1)) := fa_iptr rfl (by decide) rfl
theorem fE8_1 (p : Sl E h i a l) (h0 : 0 ≤ j) (h1 : j < l.length) : faR Try.T 8 1 (some (a.at E.sz off0 j)) = some (a.at E.sz (off0 + 1) j) := p.fa h0 h1 rfl (by decide) rfl
theorem fl8_1 : fldR Try.T 8 1 (some (.agg cs)) = cs[1]? := fld_1 rfl rfl rfl
theorem fa8_2 : faR Try.T 8 2 (some (.ptr (some (i, o)))) = some (.ptr (some (i, o + 2))) := fa_ptr rfl (by decide) rfl
theorem fi8_2 : faR Try.T 8 2 (some (.iptr row o)) = some (.iptr row (o + 2)) := fa_iptr rfl (by decide) rfl
theorem fE8_2 (p : Sl E h i a l) (h0 : 0 ≤ j) (h1 : j < l.length) : faR Try.T 8 2 (some (a.at E.sz off0 j)) = some (a.at E.sz (off0 + 2) j) := p.fa h0 h1 rfl (by decide) rfl
theorem fl8_2 : fldR Try.T 8 2 (some (.agg cs)) = cs[2]? := fld_1 rfl rfl rfl
theorem fa8_3 : faR Try.T 8 3 (some (.ptr (some (i, o)))) = some (.ptr (some (i, o + 3))) := fa_ptr rfl (by decide) rfl
theorem fi8_3 : faR Try.T 8 3 (some (.iptr row o)) = some (.iptr row (o + 3)) := fa_iptr rfl (by decide) rfl
theorem fE8_3 (p : Sl E h i a l) (h0 : 0 ≤ j) (h1 : j < l.length) : faR Try.T 8 3 (some (a.at E.sz off0 j)) = some (a.at E.sz (off0 + 3) j) := p.fa h0 h1 rfl (by decide) rfl
theorem fl8_3 : fldR Try.T 8 3 (some (.agg cs)) = cs[3]? := fld_1 rfl rfl rfl
theorem Td9 : (Try.T 9).desc = .string := rfl
theorem Tz9 : (Try.T 9).zero = [.str []] := rfl
theorem ld9 : loadA Try.T h 9 (.ptr (some (i, o))) = rd1 o (h.get i) := ld_1 rfl rfl
theorem li9 : loadA Try.T h 9 (.iptr row o) = row[o]? := ldi_1 rfl rfl
theorem st9 : storeA Try.T h 9 (.ptr (some (i, o))) v = stC h i o 1 v.cells := st_n rfl rfl
theorem len9 : builtinA Try.T h .len [9] [.str s] = some (.int .i64 (s.length : Int), h) := len_str .mk
theorem ix9 (h0 : 0 ≤ j) (h1 : j < s.length) : ixR Try.T 9 (some (.str s)) (some (.int k j)) = some (.int .u8 ((s[j.toNat]!).toNat : Int)) := ix_str .mk h0 h1
theorem Td10 : (Try.T 10).desc = .string := rfl
theorem Tz10 : (Try.T 10).zero = [.str []] := rfl
theorem ld10 : loadA Try.T h 10 (.ptr (some (i, o))) = rd1 o (h.get i) := ld_1 rfl rfl
theorem li10 : loadA Try.T h 10 (.iptr row o) = row[o]? := ldi_1 rfl rfl
theorem st10 : storeA Try.T h 10 (.ptr (some (i, o))) v = stC h i o 1 v.cells := st_n rfl rfl
theorem len10 : builtinA Try.T h .len [10] [.str s] = some (.int .i64 (s.length : Int), h) := len_str .mk
theorem ix10 (h0 : 0 ≤ j) (h1 : j < s.length) : ixR Try.T 10 (some (.str s)) (some (.int k j)) = some (.int .u8 ((s[j.toNat]!).toNat : Int)) := ix_str .mk h0 h1
theorem Td11 : (Try.T 11).desc = .string := rfl
theorem Tz11 : (Try.T 11).zero = [.str []] := rfl
theorem ld11 : loadA Try.T h 11 (.ptr (some (i, o))) = rd1 o (h.get i) := ld_1 rfl rfl
theorem li11 : loadA Try.T h 11 (.iptr row o) = row[o]? := ldi_1 rfl rfl
theorem st11 : storeA Try.T h 11 (.ptr (some (i, o))) v = stC h i o 1 v.cells := st_n rfl rfl
theorem len11 : builtinA Try.T h .len [11] [.str s] = some (.int .i64 (s.length : Int), h) := len_str .mk
theorem ix11 (h0 : 0 ≤ j) (h1 : j < s.length) : ixR Try.T 11 (some (.str s)) (some (.int k j)) = some (.int .u8 ((s[j.toNat]!).toNat : Int)) := ix_str .mk h0 h1
theorem Td12 : (Try.T 12).desc = .int .u64 := rfl
theorem Tz12 : (Try.T 12).zero = [.int .u64 0] := rfl
theorem ld12 : loadA Try.T h 12 (.ptr (some (i, o))) = rd1 o (h.get i) := ld_1 rfl rfl
theorem li12 : loadA Try.T h 12 (.iptr row o) = row[o]? := ldi_1 rfl rfl
theorem st12 : storeA Try.T h 12 (.ptr (some (i, o))) v = stC h i o 1 v.cells := st_n rfl rfl
theorem Td13 : (Try.T 13).desc = .struct [(9, 0, true), (12, 1, true)] := rfl
theorem Tz13 : (Try.T 13).zero = [.str [], .int .u64 0] := rfl
theorem ld13 : loadA Try.T h 13 (.ptr (some (i, o))) = rdN o 2 (h.get i) := ld_n rfl rfl rfl
theorem li13 : loadA Try.T h 13 (.iptr row o) = (cut row o 2).map .agg := ldi_n rfl rfl rfl
theorem st13 : storeA Try.T h 13 (.ptr (some (i, o))) v = stC h i o 2 v.cells := st_n rfl rfl
theorem lE13 [Inhabited α] (p : Sl E h i a l) (h0 : 0 ≤ j) (h1 : j < l.length) (h4 : Seen (Nat.beq E.sz 2)) : loadA Try.T h 13 (a.at E.sz 0 j) = some (.agg (E.f (l[j.toNat]!))) := p.ldn h0 h1 rfl rfl (Nat.eq_of_beq_eq_true h4.eq).symm
theorem fa13_0 : faR Try.T 13 0 (some (.ptr (some (i, o)))) = some (.ptr (some (i, o + 0))) := fa_ptr rfl (by decide) rfl
theorem fi13_0 : faR Try.T 13 0 (some (.iptr row o)) = some (.iptr row (o + 0)) := fa_iptr rfl (by decide) rfl
theorem fE13_0 (p : Sl E h i a l) (h0 : 0 ≤ j) (h1 : j < l.length) : faR Try.T 13 0 (some (a.at E.sz off0 j)) = some (a.at E.sz (off0 + 0) j) := p.fa h0 h1 rfl (by decide) rfl
theorem fl13_0 : fldR Try.T 13 0 (some (.agg cs)) = cs[0]? := fld_1 rfl rfl rfl
theorem fa13_1 : faR Try.T 13 1 (some (.ptr (some (i, o)))) = some (.ptr (some (i, o + 1))) := fa_ptr rfl (by decide) rfl
theorem fi13_1 : faR Try.T 13 1 (some (.iptr row o)) = some (.iptr row (o + 1)) := fa_iptr rfl (by decide) rfl
theorem fE13_1 (p : Sl E h i a l) (h0 : 0 ≤ j) (h1 : j < l.length) : faR Try.T 13 1 (some (a.at E.sz off0 j)) = some (a.at E.sz (off0 + 1) j) := p.fa h0 h1 rfl (by decide) rfl
theorem fl13_1 : fldR Try.T 13 1 (some (.agg cs)) = cs[1]? := fld_1 rfl rfl rfl
theorem Td14 : (Try.T 14).desc = .struct [(9, 0, true), (12, 1, true)] := rfl
theorem Tz14 : (Try.T 14).zero = [.str [], .int .u64 0] := rfl
theorem ld14 : loadA Try.T h 14 (.ptr (some (i, o))) = rdN o 2 (h.get i) := ld_n rfl rfl rfl
theorem li14 : loadA Try.T h 14 (.iptr row o) = (cut row o 2).map .agg := ldi_n rfl rfl rfl
theorem st14 : storeA Try.T h 14 (.ptr (some (i, o))) v = stC h i o 2 v.cells := st_n rfl rfl
theorem lE14 [Inhabited α] (p : Sl E h i a l) (h0 : 0 ≤ j) (h1 : j < l.length) (h4 : Seen (Nat.beq E.sz 2)) : loadA Try.T h 14 (a.at E.sz 0 j) = some (.agg (E.f (l[j.toNat]!))) := p.ldn h0 h1 rfl rfl (Nat.eq_of_beq_eq_true h4.eq).symm
theorem fa14_0 : faR Try.T 14 0 (some (.ptr (some (i, o)))) = some (.ptr (some (i, o + 0))) := fa_ptr rfl (by decide) rfl
theorem fi14_0 : faR Try.T 14 0 (some (.iptr row o)) = some (.iptr row (o + 0)) := fa_iptr rfl (by decide) rfl
theorem fE14_0 (p : Sl E h i a l) (h0 : 0 ≤ j) (h1 : j < l.length) : faR Try.T 14 0 (some (a.at E.sz off0 j)) = some (a.at E.sz (off0 + 0) j) := p.fa h0 h1 rfl (by decide) rfl
theorem fl14_0 : fldR Try.T 14 0 (some (.agg cs)) = cs[0]? := fld_1 rfl rfl rfl
theorem fa14_1 : faR Try.T 14 1 (some (.ptr (some (i, o)))) = some (.ptr (some (i, o + 1))) := fa_ptr rfl (by decide) rfl
theorem fi14_1 : faR Try.T 14 1 (some (.iptr row o)) = some (.iptr row (o + 1)) := fa_iptr rfl (by decide) rfl
theorem fE14_1 (p : Sl E h i a l) (h0 : 0 ≤ j) (h1 : j < l.length) : faR Try.T 14 1 (some (a.at E.sz off0 j)) = some (a.at E.sz (off0 + 1) j) := p.fa h0 h1 rfl (by decide) rfl
theorem fl14_1 : fldR Try.T 14 1 (some (.agg cs)) = cs[1]? := fld_1 rfl rfl rfl
theorem Td15 : (Try.T 15).desc = .pointer 40 := rfl
theorem Tz15 : (Try.T 15).zero = [.ptr none] := rfl
theorem ld15 : loadA Try.T h 15 (.ptr (some (i, o))) = rd1 o (h.get i) := ld_1 rfl rfl
theorem li15 : loadA Try.T h 15 (.iptr row o) = row[o]? := ldi_1 rfl rfl
theorem st15 : storeA Try.T h 15 (.ptr (some (i, o))) v = stC h i o 1 v.cells := st_n rfl rfl
theorem Td16 : (Try.T 16).desc = .pointer 43 := rfl
theorem Tz16 : (Try.T 16).zero = [.ptr none] := rfl
theorem ld16 : loadA Try.T h 16 (.ptr (some (i, o))) = rd1 o (h.get i) := ld_1 rfl rfl
theorem li16 : loadA Try.T h 16 (.iptr row o) = row[o]? := ldi_1 rfl rfl
theorem st16 : storeA Try.T h 16 (.ptr (some (i, o))) v = stC h i o 1 v.cells := st_n rfl rfl
theorem Td17 : (Try.T 17).desc = .pointer 53 := rfl
theorem Tz17 : (Try.T 17).zero = [.ptr none] := rfl
theorem ld17 : loadA Try.T h 17 (.ptr (some (i, o))) = rd1 o (h.get i) := ld_1 rfl rfl
theorem li17 : loadA Try.T h 17 (.iptr row o) = row[o]? := ldi_1 rfl rfl
theorem st17 : storeA Try.T h 17 (.ptr (some (i, o))) v = stC h i o 1 v.cells := st_n rfl rfl
theorem Td18 : (Try.T 18).desc = .struct [(17, 0, true)] := rfl
theorem Tz18 : (Try.T 18).zero = [.ptr none] := rfl
theorem ld18 : loadA Try.T h 18 (.ptr (some (i, o))) = rdN o 1 (h.get i) := ld_n rfl rfl rfl
theorem li18 : loadA Try.T h 18 (.iptr row o) = (cut row o 1).map .agg := ldi_n rfl rfl rfl
theorem st18 : storeA Try.T h 18 (.ptr (some (i, o))) v = stC h i o 1 v.cells := st_n rfl rfl
theorem lE18 [Inhabited α] (p : Sl E h i a l) (h0 : 0 ≤ j) (h1 : j < l.length) (h4 : Seen (Nat.beq E.sz 1)) : loadA Try.T h 18 (a.at E.sz 0 j) = some (.agg (E.f (l[j.toNat]!))) := p.ldn h0 h1 rfl rfl (Nat.eq_of_beq_eq_true h4.eq).symm
theorem fa18_0 : faR Try.T 18 0 (some (.ptr (some (i, o)))) = some (.ptr (some (i, o + 0))) := fa_ptr rfl (by decide) rfl
theorem fi18_0 : faR Try.T 18 0 (some (.iptr row o)) = some (.iptr row (o + 0)) := fa_iptr rfl (by decide) rfl
theorem fE18_0 (p : Sl E h i a l) (h0 : 0 ≤ j) (h1 : j < l.length) : faR Try.T 18 0 (some (a.at E.sz off0 j)) = some (a.at E.sz (off0 + 0) j) := p.fa h0 h1 rfl (by decide) rfl
theorem fl18_0 : fldR Try.T 18 0 (some (.agg cs)) = cs[0]? := fld_1 rfl rfl rfl
theorem Td19 : (Try.T 19).desc = .struct [(17, 0, true)] := rfl
theorem Tz19 : (Try.T 19).zero = [.ptr none] := rfl
theorem ld19 : loadA Try.T h 19 (.ptr (some (i, o))) = rdN o 1 (h.get i) := ld_n rfl rfl rfl
theorem li19 : loadA Try.T h 19 (.iptr row o) = (cut row o 1).map .agg := ldi_n rfl rfl rfl
theorem st19 : storeA Try.T h 19 (.ptr (some (i, o))) v = stC h i o 1 v.cells := st_n rfl rfl
theorem lE19 [Inhabited α] (p : Sl E h i a l) (h0 : 0 ≤ j) (h1 : j < l.length) (h4 : Seen (Nat.beq E.sz 1)) : loadA Try.T h 19 (a.at E.sz 0 j) = some (.agg (E.f (l[j.toNat]!))) := p.ldn h0 h1 rfl rfl (Nat.eq_of_beq_eq_true h4.eq).symm
theorem fa19_0 : faR Try.T 19 0 (some (.ptr (some (i, o)))) = some (.ptr (some (i, o + 0))) := fa_ptr rfl (by decide) rfl
theorem fi19_0 : faR Try.T 19 0 (some (.iptr row o)) = some (.iptr row (o + 0)) := fa_iptr rfl (by decide) rfl
theorem fE19_0 (p : Sl E h i a l) (h0 : 0 ≤ j) (h1 : j < l.length) : faR Try.T 19 0 (some (a.at E.sz off0 j)) = some (a.at E.sz (off0 + 0) j) := p.fa h0 h1 rfl (by decide) rfl
theorem fl19_0 : fldR Try.T 19 0 (some (.agg cs)) = cs[0]? := fld_1 rfl rfl rfl
theorem Td21 : (Try.T 21).desc = .int .i32 := rfl
theorem Tz21 : (Try.T 21).zero = [.int .i32 0] := rfl
theorem ld21 : loadA Try.T h 21 (.ptr (some (i, o))) = rd1 o (h.get i) := ld_1 rfl rfl
theorem li21 : loadA Try.T h 21 (.iptr row o) = row[o]? := ldi_1 rfl rfl
theorem st21 : storeA Try.T h 21 (.ptr (some (i, o))) v = stC h i o 1 v.cells := st_n rfl rfl
theorem Td22 : (Try.T 22).desc = .func := rfl
theorem Tz22 : (Try.T 22).zero = [.nilFunc] := rfl
theorem ld22 : loadA Try.T h 22 (.ptr (some (i, o))) = rd1 o (h.get i) := ld_1 rfl rfl
theorem li22 : loadA Try.T h 22 (.iptr row o) = row[o]? := ldi_1 rfl rfl
theorem st22 : storeA Try.T h 22 (.ptr (some (i, o))) v = stC h i o 1 v.cells := st_n rfl rfl
theorem Td23 : (Try.T 23).desc = .slice 5 := rfl
theorem Tz23 : (Try.T 23).zero = [.slice none 0 0 0 true] := rfl
theorem ld23 : loadA Try.T h 23 (.ptr (some (i, o))) = rd1 o (h.get i) := ld_1 rfl rfl
theorem li23 : loadA Try.T h 23 (.iptr row o) = row[o]? := ldi_1 rfl rfl
theorem st23 : storeA Try.T h 23 (.ptr (some (i, o))) v = stC h i o 1 v.cells := st_n rfl rfl
theorem len23 (p : Sl E h i a l) : builtinA Try.T h' .len [23] [a] = some (.int .i64 (l.length : Int), h') := p.len rfl
theorem ix23 (p : Sl E h i a l) (h0 : 0 ≤ j) (h1 : j < l.length) (h2 : Seen (Nat.beq E.sz 1)) : idxA Try.T 23 a (.int k j) = some (a.at E.sz 0 j) := p.idx h0 h1 rfl rfl (Nat.eq_of_beq_eq_true h2.eq).symm
theorem bs23 (hv : Seen (match v with | .agg _ | .tuple _ => false | _ => true)) : bsR Try.T h 23 1 (some [(0, v)]) = some (.val (.slice (some (h.size, 0)) 1 1 1 true) (h.push (.cells [v]))) := bs_one rfl rfl rfl rfl hv
theorem sl23 (p : Sl E h i a l) (h0 : 0 ≤ x) (h1 : x ≤ y) (h2 : y ≤ l.length) (h3 : Seen (Nat.beq E.sz 1)) : sliceA Try.T 23 a (some x) (some y) none = some (a.part x y) := p.slc h0 h1 h2 rfl rfl (Nat.eq_of_beq_eq_true h3.eq).symm
theorem sm23 (p : Sl E h i a l) (h1 : 0 ≤ y) (h2 : y ≤ l.length) (h3 : Seen (Nat.beq E.sz 1)) : sliceA Try.T 23 a none (some y) none = some (a.part 0 y) := p.slc (lo := none) (Int.le_refl _) h1 h2 rfl rfl (Nat.eq_of_beq_eq_true h3.eq).symm
theorem sn23 (p : Sl E h i a l) (h0 : 0 ≤ x) (h1 : x ≤ l.length) (h3 : Seen (Nat.beq E.sz 1)) : sliceA Try.T 23 a (some x) none none = some (a.part x l.length) := p.slc (hi := none) h0 h1 (Int.le_refl _) rfl rfl (Nat.eq_of_beq_eq_true h3.eq).symm
theorem ap23 {P : Program} {ops : Array Oper} {L : List Oper} {K : Tm → AH → Prop} {d : Option Nat} {tm : Tm} {x : AV} {new : List α} {ix : Nat} (p : Ow E h i a l) (hx : Sl E h ix x new) (h2 : Seen (Nat.beq E.sz 1)) (hr : (l.length + new.length) * 1 ≤ 140737488355328) (hk : ∀ z h' i', Ow E h' i' z (l ++ new) → (i' = i ∨ h.size ≤ i') → h.size ≤ h'.size → (∀ j, j < h.size → ¬ j = i → h'.get j = h.get j) → putM P Try.T ops L K d tm z h') : ansM P Try.T ops L K d tm h (pairR (appendA Try.T h 23 23 a x)) :=
  ans_app p hx rfl ⟨_, rfl⟩ rfl (Nat.eq_of_beq_eq_true h2.eq).symm (Nat.eq_of_beq_eq_true h2.eq).symm (by decide) hr hk
theorem al23 {P : Program} {ops : Array Oper} {L : List Oper} {K : Tm → AH → Prop} {d : Option Nat} {tm : Tm} {sz : Nat} (x : α) (p : Ow E h i a l) (hx : cs = E.f x) (hs : sz = E.sz) (h2 : Seen (Nat.beq E.sz 1)) (hr : (l.length + 1) * 1 ≤ 140737488355328) (hk : ∀ z h' i', Ow E h' i' z (l ++ [x]) → (i' = i ∨ h.size ≤ i') → h.size ≤ h'.size → (∀ j, j < h.size → ¬ j = i → h'.get j = h.get j) → putM P Try.T ops L K d tm z h') : ansM P Try.T ops L K d tm (h.push (.cells cs)) (pairR (appendA Try.T (h.push (.cells cs)) 23 23 a (.slice (some (h.size, 0)) 1 1 sz true))) :=
  ans_app1 p x hx hs rfl rfl (Nat.eq_of_beq_eq_true h2.eq).symm (Nat.eq_of_beq_eq_true h2.eq).symm (by decide) hr hk
theorem a823 {P : Program} {ops : Array Oper} {L : List Oper} {K : Tm → AH → Prop} {d : Option Nat} {tm : Tm} {l : List UInt8} {e : Int} (p : Ow E8 h i a l) (h0 : 0 ≤ e) (h1 : e < 256) (hr : l.length < 100000000000000) (hk : ∀ z h' i', Ow E8 h' i' z (l ++ [UInt8.ofNat e.toNat]) → (i' = i ∨ h.size ≤ i') → h.size ≤ h'.size → (∀ j, j < h.size → ¬ j = i → h'.get j = h.get j) → putM P Try.T ops L K d tm z h') : ansM P Try.T ops L K d tm (h.push (.cells [.int .u8 e])) (pairR (appendA Try.T (h.push (.cells [.int .u8 e])) 23 23 a (.slice (some (h.size, 0)) 1 1 1 true))) :=
  ans_app1 p (UInt8.ofNat e.toNat) (e8_of h0 h1) rfl rfl rfl rfl rfl (by decide) (by show (l.length + 1) * 1 ≤ _; omega) hk
theorem as23_9 {P : Program} {ops : Array Oper} {L : List Oper} {K : Tm → AH → Prop} {d : Option Nat} {tm : Tm} {l : List UInt8} (p : Ow E8 h i a l) (hr : l.length + s.length < 100000000000000) (hk : ∀ z h' i', Ow E8 h' i' z (l ++ s) → (i' = i ∨ h.size ≤ i') → h.size ≤ h'.size → (∀ j, j < h.size → ¬ j = i → h'.get j = h.get j) → putM P Try.T ops L K d tm z h') : ansM P Try.T ops L K d tm h (pairR (appendA Try.T h 23 9 a (.str s))) :=
  ans_appS p rfl rfl rfl rfl rfl (by decide) (by show (l.length + s.length) * 1 ≤ _; omega) hk
theorem as23_10 {P : Program} {ops : Array Oper} {L : List Oper} {K : Tm → AH → Prop} {d : Option Nat} {tm : Tm} {l : List UInt8} (p : Ow E8 h i a l) (hr : l.length + s.length < 100000000000000) (hk : ∀ z h' i', Ow E8 h' i' z (l ++ s) → (i' = i ∨ h.size ≤ i') → h.size ≤ h'.size → (∀ j, j < h.size → ¬ j = i → h'.get j = h.get j) → putM P Try.T ops L K d tm z h') : ansM P Try.T ops L K d tm h (pairR (appendA Try.T h 23 10 a (.str s))) :=
  ans_appS p rfl rfl rfl rfl rfl (by decide) (by show (l.length + s.length) * 1 ≤ _; omega) hk
theorem as23_11 {P : Program} {ops : Array Oper} {L : List Oper} {K : Tm → AH → Prop} {d : Option Nat} {tm : Tm} {l : List UInt8} (p : Ow E8 h i a l) (hr : l.length + s.length < 100000000000000) (hk : ∀ z h' i', Ow E8 h' i' z (l ++ s) → (i' = i ∨ h.size ≤ i') → h.size ≤ h'.size → (∀ j, j < h.size → ¬ j = i → h'.get j = h.get j) → putM P Try.T ops L K d tm z h') : ansM P Try.T ops L K d tm h (pairR (appendA Try.T h 23 11 a (.str s))) :=
  ans_appS p rfl rfl rfl rfl rfl (by decide) (by show (l.length + s.length) * 1 ≤ _; omega) hk
theorem cs23_9 {l : List UInt8} (p : Sl E8 h i a l) : convA Try.T h 23 9 a = some (.str l, h) := p.conv rfl rfl rfl
theorem cb9_23 (hl : (s.length : Int) ≤ 9223372036854775807) : convA Try.T h 9 23 (.str s) = some (.slice (some (h.size, 0)) s.length s.length 1 false, h.push (.cells (ofBytes s))) := conv_bytes rfl rfl rfl (by omega)
theorem cs23_10 {l : List UInt8} (p : Sl E8 h i a l) : convA Try.T h 23 10 a = some (.str l, h) := p.conv rfl rfl rfl
theorem cb10_23 (hl : (s.length : Int) ≤ 9223372036854775807) : convA Try.T h 10 23 (.str s) = some (.slice (some (h.size, 0)) s.length s.length 1 false, h.push (.cells (ofBytes s))) := conv_bytes rfl rfl rfl (by omega)
theorem cs23_11 {l : List UInt8} (p : Sl E8 h i a l) : convA Try.T h 23 11 a = some (.str l, h) := p.conv rfl rfl rfl
theorem cb11_23 (hl : (s.length : Int) ≤ 9223372036854775807) : convA Try.T h 11 23 (.str s) = some (.slice (some (h.size, 0)) s.length s.length 1 false, h.push (.cells (ofBytes s))) := conv_bytes rfl rfl rfl (by omega)
theorem Td24 : (Try.T 24).desc = .int .i64 := rfl
theorem Tz24 : (Try.T 24).zero = [.int .i64 0] := rfl
theorem ld24 : loadA Try.T h 24 (.ptr (some (i, o))) = rd1 o (h.get i) := ld_1 rfl rfl
theorem li24 : loadA Try.T h 24 (.iptr row o) = row[o]? := ldi_1 rfl rfl
theorem st24 : storeA Try.T h 24 (.ptr (some (i, o))) v = stC h i o 1 v.cells := st_n rfl rfl
theorem lI24 {l : List Int} (p : Sl EI h i a l) (h0 : 0 ≤ j) (h1 : j < l.length) : loadA Try.T h 24 (a.at EI.sz 0 j) = some (.int .i64 (l[j.toNat]!)) := p.ldI h0 h1 rfl rfl
theorem Td26 : (Try.T 26).desc = .func := rfl
theorem Tz26 : (Try.T 26).zero = [.nilFunc] := rfl
theorem ld26 : loadA Try.T h 26 (.ptr (some (i, o))) = rd1 o (h.get i) := ld_1 rfl rfl
theorem li26 : loadA Try.T h 26 (.iptr row o) = row[o]? := ldi_1 rfl rfl
theorem st26 : storeA Try.T h 26 (.ptr (some (i, o))) v = stC h i o 1 v.cells := st_n rfl rfl
theorem Td28 : (Try.T 28).desc = .func := rfl
theorem Tz28 : (Try.T 28).zero = [.nilFunc] := rfl
theorem ld28 : loadA Try.T h 28 (.ptr (some (i, o))) = rd1 o (h.get i) := ld_1 rfl rfl
theorem li28 : loadA Try.T h 28 (.iptr row o) = row[o]? := ldi_1 rfl rfl
theorem st28 : storeA Try.T h 28 (.ptr (some (i, o))) v = stC h i o 1 v.cells := st_n rfl rfl
theorem Td29 : (Try.T 29).desc = .func := rfl
theorem Tz29 : (Try.T 29).zero = [.nilFunc] := rfl
theorem ld29 : loadA Try.T h 29 (.ptr (some (i, o))) = rd1 o (h.get i) := ld_1 rfl rfl
theorem li29 : loadA Try.T h 29 (.iptr row o) = row[o]? := ldi_1 rfl rfl
theorem st29 : storeA Try.T h 29 (.ptr (some (i, o))) v = stC h i o 1 v.cells := st_n rfl rfl
theorem Td31 : (Try.T 31).desc = .func := rfl
theorem Tz31 : (Try.T 31).zero = [.nilFunc] := rfl
theorem ld31 : loadA Try.T h 31 (.ptr (some (i, o))) = rd1 o (h.get i) := ld_1 rfl rfl
theorem li31 : loadA Try.T h 31 (.iptr row o) = row[o]? := ldi_1 rfl rfl
theorem st31 : storeA Try.T h 31 (.ptr (some (i, o))) v = stC h i o 1 v.cells := st_n rfl rfl
theorem Td32 : (Try.T 32).desc = .func := rfl
theorem Tz32 : (Try.T 32).zero = [.nilFunc] := rfl
theorem ld32 : loadA Try.T h 32 (.ptr (some (i, o))) = rd1 o (h.get i) := ld_1 rfl rfl
theorem li32 : loadA Try.T h 32 (.iptr row o) = row[o]? := ldi_1 rfl rfl
theorem st32 : storeA Try.T h 32 (.ptr (some (i, o))) v = stC h i o 1 v.cells := st_n rfl rfl
theorem Td33 : (Try.T 33).desc = .func := rfl
theorem Tz33 : (Try.T 33).zero = [.nilFunc] := rfl
theorem ld33 : loadA Try.T h 33 (.ptr (some (i, o))) = rd1 o (h.get i) := ld_1 rfl rfl
theorem li33 : loadA Try.T h 33 (.iptr row o) = row[o]? := ldi_1 rfl rfl
theorem st33 : storeA Try.T h 33 (.ptr (some (i, o))) v = stC h i o 1 v.cells := st_n rfl rfl
theorem Td34 : (Try.T 34).desc = .func := rfl
theorem Tz34 : (Try.T 34).zero = [.nilFunc] := rfl
theorem ld34 : loadA Try.T h 34 (.ptr (some (i, o))) = rd1 o (h.get i) := ld_1 rfl rfl
theorem li34 : loadA Try.T h 34 (.iptr row o) = row[o]? := ldi_1 rfl rfl
theorem st34 : storeA Try.T h 34 (.ptr (some (i, o))) v = stC h i o 1 v.cells := st_n rfl rfl
theorem Td35 : (Try.T 35).desc = .func := rfl
theorem Tz35 : (Try.T 35).zero = [.nilFunc] := rfl
theorem ld35 : loadA Try.T h 35 (.ptr (some (i, o))) = rd1 o (h.get i) := ld_1 rfl rfl
theorem li35 : loadA Try.T h 35 (.iptr row o) = row[o]? := ldi_1 rfl rfl
theorem st35 : storeA Try.T h 35 (.ptr (some (i, o))) v = stC h i o 1 v.cells := st_n rfl rfl
theorem Td36 : (Try.T 36).desc = .func := rfl
theorem Tz36 : (Try.T 36).zero = [.nilFunc] := rfl
theorem ld36 : loadA Try.T h 36 (.ptr (some (i, o))) = rd1 o (h.get i) := ld_1 rfl rfl
theorem li36 : loadA Try.T h 36 (.iptr row o) = row[o]? := ldi_1 rfl rfl
theorem st36 : storeA Try.T h 36 (.ptr (some (i, o))) v = stC h i o 1 v.cells := st_n rfl rfl
theorem Td37 : (Try.T 37).desc = .int .u64 := rfl
theorem Tz37 : (Try.T 37).zero = [.int .u64 0] := rfl
theorem ld37 : loadA Try.T h 37 (.ptr (some (i, o))) = rd1 o (h.get i) := ld_1 rfl rfl
theorem li37 : loadA Try.T h 37 (.iptr row o) = row[o]? := ldi_1 rfl rfl
theorem st37 : storeA Try.T h 37 (.ptr (some (i, o))) v = stC h i o 1 v.cells := st_n rfl rfl
theorem Td38 : (Try.T 38).desc = .func := rfl
theorem Tz38 : (Try.T 38).zero = [.nilFunc] := rfl
theorem ld38 : loadA Try.T h 38 (.ptr (some (i, o))) = rd1 o (h.get i) := ld_1 rfl rfl
theorem li38 : loadA Try.T h 38 (.iptr row o) = row[o]? := ldi_1 rfl rfl
theorem st38 : storeA Try.T h 38 (.ptr (some (i, o))) v = stC h i o 1 v.cells := st_n rfl rfl
theorem Td39 : (Try.T 39).desc = .struct [(17, 0, true), (17, 1, true), (17, 2, true), (9, 3, true)] := rfl
theorem Tz39 : (Try.T 39).zero = [.ptr none, .ptr none, .ptr none, .str []] := rfl
theorem ld39 : loadA Try.T h 39 (.ptr (some (i, o))) = rdN o 4 (h.get i) := ld_n rfl rfl rfl
theorem li39 : loadA Try.T h 39 (.iptr row o) = (cut row o 4).map .agg := ldi_n rfl rfl rfl
theorem st39 : storeA Try.T h 39 (.ptr (some (i, o))) v = stC h i o 4 v.cells := st_n rfl rfl
theorem lE39 [Inhabited α] (p : Sl E h i a l) (h0 : 0 ≤ j) (h1 : j < l.length) (h4 : Seen (Nat.beq E.sz 4)) : loadA Try.T h 39 (a.at E.sz 0 j) = some (.agg (E.f (l[j.toNat]!))) := p.ldn h0 h1 rfl rfl (Nat.eq_of_beq_eq_true h4.eq).symm
theorem fa39_0 : faR Try.T 39 0 (some (.ptr (some (i, o)))) = some (.ptr (some (i, o + 0))) := fa_ptr rfl (by decide) rfl
theorem fi39_0 : faR Try.T 39 0 (some (.iptr row o)) = some (.iptr row (o + 0)) := fa_iptr rfl (by decide) rfl
theorem fE39_0 (p : Sl E h i a l) (h0 : 0 ≤ j) (h1 : j < l.length) : faR Try.T 39 0 (some (a.at E.sz off0 j)) = some (a.at E.sz (off0 + 0) j) := p.fa h0 h1 rfl (by decide) rfl
theorem fl39_0 : fldR Try.T 39 0 (some (.agg cs)) = cs[0]? := fld_1 rfl rfl rfl
theorem fa39_1 : faR Try.T 39 1 (some (.ptr (some (i, o)))) = some (.ptr (some (i, o + 1))) := fa_ptr rfl (by decide) rfl
theorem fi39_1 : faR Try.T 39 1 (some (.iptr row o)) = some (.iptr row (o + 1)) := fa_iptr rfl (by decide) rfl
theorem fE39_1 (p : Sl E h i a l) (h0 : 0 ≤ j) (h1 : j < l.length) : faR Try.T 39 1 (some (a.at E.sz off0 j)) = some (a.at E.sz (off0 + 1) j) := p.fa h0 h1 rfl (by decide) rfl
theorem fl39_1 : fldR Try.T 39 1 (some (.agg cs)) = cs[1]? := fld_1 rfl rfl rfl
theorem fa39_2 : faR Try.T 39 2 (some (.ptr (some (i, o)))) = some (.ptr (some (i, o + 2))) := fa_ptr rfl (by decide) rfl
theorem fi39_2 : faR Try.T 39 2 (some (.iptr row o)) = some (.iptr row (o + 2)) := fa_iptr rfl (by decide) rfl
theorem fE39_2 (p : Sl E h i a l) (h0 : 0 ≤ j) (h1 : j < l.length) : faR Try.T 39 2 (some (a.at E.sz off0 j)) = some (a.at E.sz (off0 + 2) j) := p.fa h0 h1 rfl (by decide) rfl
theorem fl39_2 : fldR Try.T 39 2 (some (.agg cs)) = cs[2]? := fld_1 rfl rfl rfl
theorem fa39_3 : faR Try.T 39 3 (some (.ptr (some (i, o)))) = some (.ptr (some (i, o + 3))) := fa_ptr rfl (by decide) rfl
theorem fi39_3 : faR Try.T 39 3 (some (.iptr row o)) = some (.iptr row (o + 3)) := fa_iptr rfl (by decide) rfl
theorem fE39_3 (p : Sl E h i a l) (h0 : 0 ≤ j) (h1 : j < l.length) : faR Try.T 39 3 (some (a.at E.sz off0 j)) = some (a.at E.sz (off0 + 3) j) := p.fa h0 h1 rfl (by decide) rfl
theorem fl39_3 : fldR Try.T 39 3 (some (.agg cs)) = cs[3]? := fld_1 rfl rfl rfl
theorem Td40 : (Try.T 40).desc = .struct [(17, 0, true), (17, 1, true), (17, 2, true), (9, 3, true)] := rfl
theorem Tz40 : (Try.T 40).zero = [.ptr none, .ptr none, .ptr none, .str []] := rfl
theorem ld40 : loadA Try.T h 40 (.ptr (some (i, o))) = rdN o 4 (h.get i) := ld_n rfl rfl rfl
theorem li40 : loadA Try.T h 40 (.iptr row o) = (cut row o 4).map .agg := ldi_n rfl rfl rfl
theorem st40 : storeA Try.T h 40 (.ptr (some (i, o))) v = stC h i o 4 v.cells := st_n rfl rfl
theorem lE40 [Inhabited α] (p : Sl E h i a l) (h0 : 0 ≤ j) (h1 : j < l.length) (h4 : Seen (Nat.beq E.sz 4)) : loadA Try.T h 40 (a.at E.sz 0 j) = some (.agg (E.f (l[j.toNat]!))) := p.ldn h0 h1 rfl rfl (Nat.eq_of_beq_eq_true h4.eq).symm
theorem fa40_0 : faR Try.T 40 0 (some (.ptr (some (i, o)))) = some (.ptr (some (i, o + 0))) := fa_ptr rfl (by decide) rfl
theorem fi40_0 : faR Try.T 40 0 (some (.iptr row o)) = some (.iptr row (o + 0)) := fa_iptr rfl (by decide) rfl
theorem fE40_0 (p : Sl E h i a l) (h0 : 0 ≤ j) (h1 : j < l.length) : faR Try.T 40 0 (some (a.at E.sz off0 j)) = some (a.at E.sz (off0 + 0) j) := p.fa h0 h1 rfl (by decide) rfl
theorem fl40_0 : fldR Try.T 40 0 (some (.agg cs)) = cs[0]? := fld_1 rfl rfl rfl
theorem fa40_1 : faR Try.T 40 1 (some (.ptr (some (i, o)))) = some (.ptr (some (i, o + 1))) := fa_ptr rfl (by decide) rfl
theorem fi40_1 : faR Try.T 40 1 (some (.iptr row o)) = some (.iptr row (o + 1)) := fa_iptr rfl (by decide) rfl
theorem fE40_1 (p : Sl E h i a l) (h0 : 0 ≤ j) (h1 : j < l.length) : faR Try.T 40 1 (some (a.at E.sz off0 j)) = some (a.at E.sz (off0 + 1) j) := p.fa h0 h1 rfl (by decide) rfl
theorem fl40_1 : fldR Try.T 40 1 (some (.agg cs)) = cs[1]? := fld_1 rfl rfl rfl
theorem fa40_2 : faR Try.T 40 2 (some (.ptr (some (i, o)))) = some (.ptr (some (i, o + 2))) := fa_ptr rfl (by decide) rfl
theorem fi40_2 : faR Try.T 40 2 (some (.iptr row o)) = some (.iptr row (o + 2)) := fa_iptr rfl (by decide) rfl
theorem fE40_2 (p : Sl E h i a l) (h0 : 0 ≤ j) (h1 : j < l.length) : faR Try.T 40 2 (some (a.at E.sz off0 j)) = some (a.at E.sz (off0 + 2) j) := p.fa h0 h1 rfl (by decide) rfl
theorem fl40_2 : fldR Try.T 40 2 (some (.agg cs)) = cs[2]? := fld_1 rfl rfl rfl
theorem fa40_3 : faR Try.T 40 3 (some (.ptr (some (i, o)))) = some (.ptr (some (i, o + 3))) := fa_ptr rfl (by decide) rfl
theorem fi40_3 : faR Try.T 40 3 (some (.iptr row o)) = some (.iptr row (o + 3)) := fa_iptr rfl (by decide) rfl
theorem fE40_3 (p : Sl E h i a l) (h0 : 0 ≤ j) (h1 : j < l.length) : faR Try.T 40 3 (some (a.at E.sz off0 j)) = some (a.at E.sz (off0 + 3) j) := p.fa h0 h1 rfl (by decide) rfl
theorem fl40_3 : fldR Try.T 40 3 (some (.agg cs)) = cs[3]? := fld_1 rfl rfl rfl
theorem Td41 : (Try.T 41).desc = .array 0 16 := rfl
theorem Tz41 : (Try.T 41).zero = [] := rfl
theorem ld41 : loadA Try.T h 41 (.ptr (some (i, o))) = rdN o 0 (h.get i) := ld_n rfl rfl rfl
theorem li41 : loadA Try.T h 41 (.iptr row o) = (cut row o 0).map .agg := ldi_n rfl rfl rfl
theorem st41 : storeA Try.T h 41 (.ptr (some (i, o))) v = stC h i o 0 v.cells := st_n rfl rfl
theorem lE41 [Inhabited α] (p : Sl E h i a l) (h0 : 0 ≤ j) (h1 : j < l.length) (h4 : Seen (Nat.beq E.sz 0)) : loadA Try.T h 41 (a.at E.sz 0 j) = some (.agg (E.f (l[j.toNat]!))) := p.ldn h0 h1 rfl rfl (Nat.eq_of_beq_eq_true h4.eq).symm
theorem Td42 : (Try.T 42).desc = .struct [(41, 0, false)] := rfl
theorem Tz42 : (Try.T 42).zero = [] := rfl
theorem ld42 : loadA Try.T h 42 (.ptr (some (i, o))) = rdN o 0 (h.get i) := ld_n rfl rfl rfl
theorem li42 : loadA Try.T h 42 (.iptr row o) = (cut row o 0).map .agg := ldi_n rfl rfl rfl
theorem st42 : storeA Try.T h 42 (.ptr (some (i, o))) v = stC h i o 0 v.cells := st_n rfl rfl
theorem lE42 [Inhabited α] (p : Sl E h i a l) (h0 : 0 ≤ j) (h1 : j < l.length) (h4 : Seen (Nat.beq E.sz 0)) : loadA Try.T h 42 (a.at E.sz 0 j) = some (.agg (E.f (l[j.toNat]!))) := p.ldn h0 h1 rfl rfl (Nat.eq_of_beq_eq_true h4.eq).symm
theorem Td43 : (Try.T 43).desc = .struct [(41, 0, false)] := rfl
theorem Tz43 : (Try.T 43).zero = [] := rfl
theorem ld43 : loadA Try.T h 43 (.ptr (some (i, o))) = rdN o 0 (h.get i) := ld_n rfl rfl rfl
theorem li43 : loadA Try.T h 43 (.iptr row o) = (cut row o 0).map .agg := ldi_n rfl rfl rfl
theorem st43 : storeA Try.T h 43 (.ptr (some (i, o))) v = stC h i o 0 v.cells := st_n rfl rfl
theorem lE43 [Inhabited α] (p : Sl E h i a l) (h0 : 0 ≤ j) (h1 : j < l.length) (h4 : Seen (Nat.beq E.sz 0)) : loadA Try.T h 43 (a.at E.sz 0 j) = some (.agg (E.f (l[j.toNat]!))) := p.ldn h0 h1 rfl rfl (Nat.eq_of_beq_eq_true h4.eq).symm
theorem Td44 : (Try.T 44).desc = .func := rfl
theorem Tz44 : (Try.T 44).zero = [.nilFunc] := rfl
theorem ld44 : loadA Try.T h 44 (.ptr (some (i, o))) = rd1 o (h.get i) := ld_1 rfl rfl
theorem li44 : loadA Try.T h 44 (.iptr row o) = row[o]? := ldi_1 rfl rfl
theorem st44 : storeA Try.T h 44 (.ptr (some (i, o))) v = stC h i o 1 v.cells := st_n rfl rfl
theorem Td45 : (Try.T 45).desc = .int .u32 := rfl
theorem Tz45 : (Try.T 45).zero = [.int .u32 0] := rfl
theorem ld45 : loadA Try.T h 45 (.ptr (some (i, o))) = rd1 o (h.get i) := ld_1 rfl rfl
theorem li45 : loadA Try.T h 45 (.iptr row o) = row[o]? := ldi_1 rfl rfl
theorem st45 : storeA Try.T h 45 (.ptr (some (i, o))) v = stC h i o 1 v.cells := st_n rfl rfl
theorem Td46 : (Try.T 46).desc = .int .u8 := rfl
theorem Tz46 : (Try.T 46).zero = [.int .u8 0] := rfl
theorem ld46 : loadA Try.T h 46 (.ptr (some (i, o))) = rd1 o (h.get i) := ld_1 rfl rfl
theorem li46 : loadA Try.T h 46 (.iptr row o) = row[o]? := ldi_1 rfl rfl
theorem st46 : storeA Try.T h 46 (.ptr (some (i, o))) v = stC h i o 1 v.cells := st_n rfl rfl
theorem l846 {l : List UInt8} (p : Sl E8 h i a l) (h0 : 0 ≤ j) (h1 : j < l.length) : loadA Try.T h 46 (a.at E8.sz 0 j) = some (.int .u8 ((l[j.toNat]!).toNat : Int)) := p.ld8 h0 h1 rfl rfl
theorem Td47 : (Try.T 47).desc = .int .u8 := rfl
theorem Tz47 : (Try.T 47).zero = [.int .u8 0] := rfl
theorem ld47 : loadA Try.T h 47 (.ptr (some (i, o))) = rd1 o (h.get i) := ld_1 rfl rfl
theorem li47 : loadA Try.T h 47 (.iptr row o) = row[o]? := ldi_1 rfl rfl
theorem st47 : storeA Try.T h 47 (.ptr (some (i, o))) v = stC h i o 1 v.cells := st_n rfl rfl
theorem l847 {l : List UInt8} (p : Sl E8 h i a l) (h0 : 0 ≤ j) (h1 : j < l.length) : loadA Try.T h 47 (a.at E8.sz 0 j) = some (.int .u8 ((l[j.toNat]!).toNat : Int)) := p.ld8 h0 h1 rfl rfl
theorem Td48 : (Try.T 48).desc = .func := rfl
theorem Tz48 : (Try.T 48).zero = [.nilFunc] := rfl
theorem ld48 : loadA Try.T h 48 (.ptr (some (i, o))) = rd1 o (h.get i) := ld_1 rfl rfl
theorem li48 : loadA Try.T h 48 (.iptr row o) = row[o]? := ldi_1 rfl rfl
theorem st48 : storeA Try.T h 48 (.ptr (some (i, o))) v = stC h i o 1 v.cells := st_n rfl rfl
theorem Td49 : (Try.T 49).desc = .pointer 5 := rfl
theorem Tz49 : (Try.T 49).zero = [.ptr none] := rfl
theorem ld49 : loadA Try.T h 49 (.ptr (some (i, o))) = rd1 o (h.get i) := ld_1 rfl rfl
theorem li49 : loadA Try.T h 49 (.iptr row o) = row[o]? := ldi_1 rfl rfl
theorem st49 : storeA Try.T h 49 (.ptr (some (i, o))) v = stC h i o 1 v.cells := st_n rfl rfl
theorem Td50 : (Try.T 50).desc = .int .i32 := rfl
theorem Tz50 : (Try.T 50).zero = [.int .i32 0] := rfl
theorem ld50 : loadA Try.T h 50 (.ptr (some (i, o))) = rd1 o (h.get i) := ld_1 rfl rfl
theorem li50 : loadA Try.T h 50 (.iptr row o) = row[o]? := ldi_1 rfl rfl
theorem st50 : storeA Try.T h 50 (.ptr (some (i, o))) v = stC h i o 1 v.cells := st_n rfl rfl
theorem Td51 : (Try.T 51).desc = .int .i32 := rfl
theorem Tz51 : (Try.T 51).zero = [.int .i32 0] := rfl
theorem ld51 : loadA Try.T h 51 (.ptr (some (i, o))) = rd1 o (h.get i) := ld_1 rfl rfl
theorem li51 : loadA Try.T h 51 (.iptr row o) = row[o]? := ldi_1 rfl rfl
theorem st51 : storeA Try.T h 51 (.ptr (some (i, o))) v = stC h i o 1 v.cells := st_n rfl rfl
theorem Td52 : (Try.T 52).desc = .struct [(12, 0, true), (12, 1, true), (45, 2, true), (46, 3, true), (5, 4, true), (5, 5, true), (47, 6, true), (48, 7, true), (49, 8, true), (50, 9, true), (51, 10, true)] := rfl
theorem Tz52 : (Try.T 52).zero = [.int .u64 0, .int .u64 0, .int .u32 0, .int .u8 0, .int .u8 0, .int .u8 0, .int .u8 0, .nilFunc, .ptr none, .int .i32 0, .int .i32 0] := rfl
theorem ld52 : loadA Try.T h 52 (.ptr (some (i, o))) = rdN o 11 (h.get i) := ld_n rfl rfl rfl
theorem li52 : loadA Try.T h 52 (.iptr row o) = (cut row o 11).map .agg := ldi_n rfl rfl rfl
theorem st52 : storeA Try.T h 52 (.ptr (some (i, o))) v = stC h i o 11 v.cells := st_n rfl rfl
theorem lE52 [Inhabited α] (p : Sl E h i a l) (h0 : 0 ≤ j) (h1 : j < l.length) (h4 : Seen (Nat.beq E.sz 11)) : loadA Try.T h 52 (a.at E.sz 0 j) = some (.agg (E.f (l[j.toNat]!))) := p.ldn h0 h1 rfl rfl (Nat.eq_of_beq_eq_true h4.eq).symm
theorem fa52_0 : faR Try.T 52 0 (some (.ptr (some (i, o)))) = some (.ptr (some (i, o + 0))) := fa_ptr rfl (by decide) rfl
theorem fi52_0 : faR Try.T 52 0 (some (.iptr row o)) = some (.iptr row (o + 0)) := fa_iptr rfl (by decide) rfl
theorem fE52_0 (p : Sl E h i a l) (h0 : 0 ≤ j) (h1 : j < l.length) : faR Try.T 52 0 (some (a.at E.sz off0 j)) = some (a.at E.sz (off0 + 0) j) := p.fa h0 h1 rfl (by decide) rfl
theorem fl52_0 : fldR Try.T 52 0 (some (.agg cs)) = cs[0]? := fld_1 rfl rfl rfl
theorem fa52_1 : faR Try.T 52 1 (some (.ptr (some (i, o)))) = some (.ptr (some (i, o + 1))) := fa_ptr rfl (by decide) rfl
theorem fi52_1 : faR Try.T 52 1 (some (.iptr row o)) = some (.iptr row (o + 1)) := fa_iptr rfl (by decide) rfl
theorem fE52_1 (p : Sl E h i a l) (h0 : 0 ≤ j) (h1 : j < l.length) : faR Try.T 52 1 (some (a.at E.sz off0 j)) = some (a.at E.sz (off0 + 1) j) := p.fa h0 h1 rfl (by decide) rfl
theorem fl52_1 : fldR Try.T 52 1 (some (.agg cs)) = cs[1]? := fld_1 rfl rfl rfl
theorem fa52_2 : faR Try.T 52 2 (some (.ptr (some (i, o)))) = some (.ptr (some (i, o + 2))) := fa_ptr rfl (by decide) rfl
theorem fi52_2 : faR Try.T 52 2 (some (.iptr row o)) = some (.iptr row (o + 2)) := fa_iptr rfl (by decide) rfl
theorem fE52_2 (p : Sl E h i a l) (h0 : 0 ≤ j) (h1 : j < l.length) : faR Try.T 52 2 (some (a.at E.sz off0 j)) = some (a.at E.sz (off0 + 2) j) := p.fa h0 h1 rfl (by decide) rfl
theorem fl52_2 : fldR Try.T 52 2 (some (.agg cs)) = cs[2]? := fld_1 rfl rfl rfl
theorem fa52_3 : faR Try.T 52 3 (some (.ptr (some (i, o)))) = some (.ptr (some (i, o + 3))) := fa_ptr rfl (by decide) rfl
theorem fi52_3 : faR Try.T 52 3 (some (.iptr row o)) = some (.iptr row (o + 3)) := fa_iptr rfl (by decide) rfl
theorem fE52_3 (p : Sl E h i a l) (h0 : 0 ≤ j) (h1 : j < l.length) : faR Try.T 52 3 (some (a.at E.sz off0 j)) = some (a.at E.sz (off0 + 3) j) := p.fa h0 h1 rfl (by decide) rfl
theorem fl52_3 : fldR Try.T 52 3 (some (.agg cs)) = cs[3]? := fld_1 rfl rfl rfl
theorem fa52_4 : faR Try.T 52 4 (some (.ptr (some (i, o)))) = some (.ptr (some (i, o + 4))) := fa_ptr rfl (by decide) rfl
theorem fi52_4 : faR Try.T 52 4 (some (.iptr row o)) = some (.iptr row (o + 4)) := fa_iptr rfl (by decide) rfl
theorem fE52_4 (p : Sl E h i a l) (h0 : 0 ≤ j) (h1 : j < l.length) : faR Try.T 52 4 (some (a.at E.sz off0 j)) = some (a.at E.sz (off0 + 4) j) := p.fa h0 h1 rfl (by decide) rfl
theorem fl52_4 : fldR Try.T 52 4 (some (.agg cs)) = cs[4]? := fld_1 rfl rfl rfl
theorem fa52_5 : faR Try.T 52 5 (some (.ptr (some (i, o)))) = some (.ptr (some (i, o + 5))) := fa_ptr rfl (by decide) rfl
theorem fi52_5 : faR Try.T 52 5 (some (.iptr row o)) = some (.iptr row (o + 5)) := fa_iptr rfl (by decide) rfl
theorem fE52_5 (p : Sl E h i a l) (h0 : 0 ≤ j) (h1 : j < l.length) : faR Try.T 52 5 (some (a.at E.sz off0 j)) = some (a.at E.sz (off0 + 5) j) := p.fa h0 h1 rfl (by decide) rfl
theorem fl52_5 : fldR Try.T 52 5 (some (.agg cs)) = cs[5]? := fld_1 rfl rfl rfl
theorem fa52_6 : faR Try.T 52 6 (some (.ptr (some (i, o)))) = some (.ptr (some (i, o + 6))) := fa_ptr rfl (by decide) rfl
theorem fi52_6 : faR Try.T 52 6 (some (.iptr row o)) = some (.iptr row (o + 6)) := fa_iptr rfl (by decide) rfl
theorem fE52_6 (p : Sl E h i a l) (h0 : 0 ≤ j) (h1 : j < l.length) : faR Try.T 52 6 (some (a.at E.sz off0 j)) = some (a.at E.sz (off0 + 6) j) := p.fa h0 h1 rfl (by decide) rfl
theorem fl52_6 : fldR Try.T 52 6 (some (.agg cs)) = cs[6]? := fld_1 rfl rfl rfl
theorem fa52_7 : faR Try.T 52 7 (some (.ptr (some (i, o)))) = some (.ptr (some (i, o + 7))) := fa_ptr rfl (by decide) rfl
theorem fi52_7 : faR Try.T 52 7 (some (.iptr row o)) = some (.iptr row (o + 7)) := fa_iptr rfl (by decide) rfl
theorem fE52_7 (p : Sl E h i a l) (h0 : 0 ≤ j) (h1 : j < l.length) : faR Try.T 52 7 (some (a.at E.sz off0 j)) = some (a.at E.sz (off0 + 7) j) := p.fa h0 h1 rfl (by decide) rfl
theorem fl52_7 : fldR Try.T 52 7 (some (.agg cs)) = cs[7]? := fld_1 rfl rfl rfl
theorem fa52_8 : faR Try.T 52 8 (some (.ptr (some (i, o)))) = some (.ptr (some (i, o + 8))) := fa_ptr rfl (by decide) rfl
theorem fi52_8 : faR Try.T 52 8 (some (.iptr row o)) = some (.iptr row (o + 8)) := fa_iptr rfl (by decide) rfl
theorem fE52_8 (p : Sl E h i a l) (h0 : 0 ≤ j) (h1 : j < l.length) : faR Try.T 52 8 (some (a.at E.sz off0 j)) = some (a.at E.sz (off0 + 8) j) := p.fa h0 h1 rfl (by decide) rfl
theorem fl52_8 : fldR Try.T 52 8 (some (.agg cs)) = cs[8]? := fld_1 rfl rfl rfl
theorem fa52_9 : faR Try.T 52 9 (some (.ptr (some (i, o)))) = some (.ptr (some (i, o + 9))) := fa_ptr rfl (by decide) rfl
theorem fi52_9 : faR Try.T 52 9 (some (.iptr row o)) = some (.iptr row (o + 9)) := fa_iptr rfl (by decide) rfl
theorem fE52_9 (p : Sl E h i a l) (h0 : 0 ≤ j) (h1 : j < l.length) : faR Try.T 52 9 (some (a.at E.sz off0 j)) = some (a.at E.sz (off0 + 9) j) := p.fa h0 h1 rfl (by decide) rfl
theorem fl52_9 : fldR Try.T 52 9 (some (.agg cs)) = cs[9]? := fld_1 rfl rfl rfl
theorem fa52_10 : faR Try.T 52 10 (some (.ptr (some (i, o)))) = some (.ptr (some (i, o + 10))) := fa_ptr rfl (by decide) rfl
theorem fi52_10 : faR Try.T 52 10 (some (.iptr row o)) = some (.iptr row (o + 10)) := fa_iptr rfl (by decide) rfl
theorem fE52_10 (p : Sl E h i a l) (h0 : 0 ≤ j) (h1 : j < l.length) : faR Try.T 52 10 (some (a.at E.sz off0 j)) = some (a.at E.sz (off0 + 10) j) := p.fa h0 h1 rfl (by decide) rfl
theorem fl52_10 : fldR Try.T 52 10 (some (.agg cs)) = cs[10]? := fld_1 rfl rfl rfl
theorem Td53 : (Try.T 53).desc = .struct [(12, 0, true), (12, 1, true), (45, 2, true), (46, 3, true), (5, 4, true), (5, 5, true), (47, 6, true), (48, 7, true), (49, 8, true), (50, 9, true), (51, 10, true)] := rfl
theorem Tz53 : (Try.T 53).zero = [.int .u64 0, .int .u64 0, .int .u32 0, .int .u8 0, .int .u8 0, .int .u8 0, .int .u8 0, .nilFunc, .ptr none, .int .i32 0, .int .i32 0] := rfl
theorem ld53 : loadA Try.T h 53 (.ptr (some (i, o))) = rdN o 11 (h.get i) := ld_n rfl rfl rfl
theorem li53 : loadA Try.T h 53 (.iptr row o) = (cut row o 11).map .agg := ldi_n rfl rfl rfl
theorem st53 : storeA Try.T h 53 (.ptr (some (i, o))) v = stC h i o 11 v.cells := st_n rfl rfl
theorem lE53 [Inhabited α] (p : Sl E h i a l) (h0 : 0 ≤ j) (h1 : j < l.length) (h4 : Seen (Nat.beq E.sz 11)) : loadA Try.T h 53 (a.at E.sz 0 j) = some (.agg (E.f (l[j.toNat]!))) := p.ldn h0 h1 rfl rfl (Nat.eq_of_beq_eq_true h4.eq).symm
theorem fa53_0 : faR Try.T 53 0 (some (.ptr (some (i, o)))) = some (.ptr (some (i, o + 0))) := fa_ptr rfl (by decide) rfl
theorem fi53_0 : faR Try.T 53 0 (some (.iptr row o)) = some (.iptr row (o + 0)) := fa_iptr rfl (by decide) rfl
theorem fE53_0 (p : Sl E h i a l) (h0 : 0 ≤ j) (h1 : j < l.length) : faR Try.T 53 0 (some (a.at E.sz off0 j)) = some (a.at E.sz (off0 + 0) j) := p.fa h0 h1 rfl (by decide) rfl
theorem fl53_0 : fldR Try.T 53 0 (some (.agg cs)) = cs[0]? := fld_1 rfl rfl rfl
theorem fa53_1 : faR Try.T 53 1 (some (.ptr (some (i, o)))) = some (.ptr (some (i, o + 1))) := fa_ptr rfl (by decide) rfl
theorem fi53_1 : faR Try.T 53 1 (some (.iptr row o)) = some (.iptr row (o + 1)) := fa_iptr rfl (by decide) rfl
theorem fE53_1 (p : Sl E h i a l) (h0 : 0 ≤ j) (h1 : j < l.length) : faR Try.T 53 1 (some (a.at E.sz off0 j)) = some (a.at E.sz (off0 + 1) j) := p.fa h0 h1 rfl (by decide) rfl
theorem fl53_1 : fldR Try.T 53 1 (some (.agg cs)) = cs[1]? := fld_1 rfl rfl rfl
theorem fa53_2 : faR Try.T 53 2 (some (.ptr (some (i, o)))) = some (.ptr (some (i, o + 2))) := fa_ptr rfl (by decide) rfl
theorem fi53_2 : faR Try.T 53 2 (some (.iptr row o)) = some (.iptr row (o + 2)) := fa_iptr rfl (by decide) rfl
theorem fE53_2 (p : Sl E h i a l) (h0 : 0 ≤ j) (h1 : j < l.length) : faR Try.T 53 2 (some (a.at E.sz off0 j)) = some (a.at E.sz (off0 + 2) j) := p.fa h0 h1 rfl (by decide) rfl
theorem fl53_2 : fldR Try.T 53 2 (some (.agg cs)) = cs[2]? := fld_1 rfl rfl rfl
theorem fa53_3 : faR Try.T 53 3 (some (.ptr (some (i, o)))) = some (.ptr (some (i, o + 3))) := fa_ptr rfl (by decide) rfl
theorem fi53_3 : faR Try.T 53 3 (some (.iptr row o)) = some (.iptr row (o + 3)) := fa_iptr rfl (by decide) rfl
theorem fE53_3 (p : Sl E h i a l) (h0 : 0 ≤ j) (h1 : j < l.length) : faR Try.T 53 3 (some (a.at E.sz off0 j)) = some (a.at E.sz (off0 + 3) j) := p.fa h0 h1 rfl (by decide) rfl
theorem fl53_3 : fldR Try.T 53 3 (some (.agg cs)) = cs[3]? := fld_1 rfl rfl rfl
theorem fa53_4 : faR Try.T 53 4 (some (.ptr (some (i, o)))) = some (.ptr (some (i, o + 4))) := fa_ptr rfl (by decide) rfl
theorem fi53_4 : faR Try.T 53 4 (some (.iptr row o)) = some (.iptr row (o + 4)) := fa_iptr rfl (by decide) rfl
theorem fE53_4 (p : Sl E h i a l) (h0 : 0 ≤ j) (h1 : j < l.length) : faR Try.T 53 4 (some (a.at E.sz off0 j)) = some (a.at E.sz (off0 + 4) j) := p.fa h0 h1 rfl (by decide) rfl
theorem fl53_4 : fldR Try.T 53 4 (some (.agg cs)) = cs[4]? := fld_1 rfl rfl rfl
theorem fa53_5 : faR Try.T 53 5 (some (.ptr (some (i, o)))) = some (.ptr (some (i, o + 5))) := fa_ptr rfl (by decide) rfl
theorem fi53_5 : faR Try.T 53 5 (some (.iptr row o)) = some (.iptr row (o + 5)) := fa_iptr rfl (by decide) rfl
theorem fE53_5 (p : Sl E h i a l) (h0 : 0 ≤ j) (h1 : j < l.length) : faR Try.T 53 5 (some (a.at E.sz off0 j)) = some (a.at E.sz (off0 + 5) j) := p.fa h0 h1 rfl (by decide) rfl
theorem fl53_5 : fldR Try.T 53 5 (some (.agg cs)) = cs[5]? := fld_1 rfl rfl rfl
theorem fa53_6 : faR Try.T 53 6 (some (.ptr (some (i, o)))) = some (.ptr (some (i, o + 6))) := fa_ptr rfl (by decide) rfl
theorem fi53_6 : faR Try.T 53 6 (some (.iptr row o)) = some (.iptr row (o + 6)) := fa_iptr rfl (by decide) rfl
theorem fE53_6 (p : Sl E h i a l) (h0 : 0 ≤ j) (h1 : j < l.length) : faR Try.T 53 6 (some (a.at E.sz off0 j)) = some (a.at E.sz (off0 + 6) j) := p.fa h0 h1 rfl (by decide) rfl
theorem fl53_6 : fldR Try.T 53 6 (some (.agg cs)) = cs[6]? := fld_1 rfl rfl rfl
theorem fa53_7 : faR Try.T 53 7 (some (.ptr (some (i, o)))) = some (.ptr (some (i, o + 7))) := fa_ptr rfl (by decide) rfl
theorem fi53_7 : faR Try.T 53 7 (some (.iptr row o)) = some (.iptr row (o + 7)) := fa_iptr rfl (by decide) rfl
theorem fE53_7 (p : Sl E h i a l) (h0 : 0 ≤ j) (h1 : j < l.length) : faR Try.T 53 7 (some (a.at E.sz off0 j)) = some (a.at E.sz (off0 + 7) j) := p.fa h0 h1 rfl (by decide) rfl
theorem fl53_7 : fldR Try.T 53 7 (some (.agg cs)) = cs[7]? := fld_1 rfl rfl rfl
theorem fa53_8 : faR Try.T 53 8 (some (.ptr (some (i, o)))) = some (.ptr (some (i, o + 8))) := fa_ptr rfl (by decide) rfl
theorem fi53_8 : faR Try.T 53 8 (some (.iptr row o)) = some (.iptr row (o + 8)) := fa_iptr rfl (by decide) rfl
theorem fE53_8 (p : Sl E h i a l) (h0 : 0 ≤ j) (h1 : j < l.length) : faR Try.T 53 8 (some (a.at E.sz off0 j)) = some (a.at E.sz (off0 + 8) j) := p.fa h0 h1 rfl (by decide) rfl
theorem fl53_8 : fldR Try.T 53 8 (some (.agg cs)) = cs[8]? := fld_1 rfl rfl rfl
theorem fa53_9 : faR Try.T 53 9 (some (.ptr (some (i, o)))) = some (.ptr (some (i, o + 9))) := fa_ptr rfl (by decide) rfl
theorem fi53_9 : faR Try.T 53 9 (some (.iptr row o)) = some (.iptr row (o + 9)) := fa_iptr rfl (by decide) rfl
theorem fE53_9 (p : Sl E h i a l) (h0 : 0 ≤ j) (h1 : j < l.length) : faR Try.T 53 9 (some (a.at E.sz off0 j)) = some (a.at E.sz (off0 + 9) j) := p.fa h0 h1 rfl (by decide) rfl
theorem fl53_9 : fldR Try.T 53 9 (some (.agg cs)) = cs[9]? := fld_1 rfl rfl rfl
theorem fa53_10 : faR Try.T 53 10 (some (.ptr (some (i, o)))) = some (.ptr (some (i, o + 10))) := fa_ptr rfl (by decide) rfl
theorem fi53_10 : faR Try.T 53 10 (some (.iptr row o)) = some (.iptr row (o + 10)) := fa_iptr rfl (by decide) rfl
theorem fE53_10 (p : Sl E h i a l) (h0 : 0 ≤ j) (h1 : j < l.length) : faR Try.T 53 10 (some (a.at E.sz off0 j)) = some (a.at E.sz (off0 + 10) j) := p.fa h0 h1 rfl (by decide) rfl
theorem fl53_10 : fldR Try.T 53 10 (some (.agg cs)) = cs[10]? := fld_1 rfl rfl rfl
theorem ci2 {a : Nat} : convA Try.T h a 2 (.int k x) = cvI (Try.T a).desc (.int .i64) h x := conv_i rfl
theorem ci3 {a : Nat} : convA Try.T h a 3 (.int k x) = cvI (Try.T a).desc (.int .i64) h x := conv_i rfl
theorem ci5 {a : Nat} : convA Try.T h a 5 (.int k x) = cvI (Try.T a).desc (.int .u8) h x := conv_i rfl
theorem ci6 {a : Nat} : convA Try.T h a 6 (.int k x) = cvI (Try.T a).desc (.int .u8) h x := conv_i rfl
theorem ci12 {a : Nat} : convA Try.T h a 12 (.int k x) = cvI (Try.T a).desc (.int .u64) h x := conv_i rfl
theorem ci21 {a : Nat} : convA Try.T h a 21 (.int k x) = cvI (Try.T a).desc (.int .i32) h x := conv_i rfl
theorem ci24 {a : Nat} : convA Try.T h a 24 (.int k x) = cvI (Try.T a).desc (.int .i64) h x := conv_i rfl
theorem ci37 {a : Nat} : convA Try.T h a 37 (.int k x) = cvI (Try.T a).desc (.int .u64) h x := conv_i rfl
theorem ci45 {a : Nat} : convA Try.T h a 45 (.int k x) = cvI (Try.T a).desc (.int .u32) h x := conv_i rfl
theorem ci46 {a : Nat} : convA Try.T h a 46 (.int k x) = cvI (Try.T a).desc (.int .u8) h x := conv_i rfl
theorem ci47 {a : Nat} : convA Try.T h a 47 (.int k x) = cvI (Try.T a).desc (.int .u8) h x := conv_i rfl
theorem ci50 {a : Nat} : convA Try.T h a 50 (.int k x) = cvI (Try.T a).desc (.int .i32) h x := conv_i rfl
theorem ci51 {a : Nat} : convA Try.T h a 51 (.int k x) = cvI (Try.T a).desc (.int .i32) h x := conv_i rfl
end tf
attribute [go_sem] Td1 Tz1 ld1 li1 st1 Td2 Tz2 ld2 li2 st2 lI2 Td3 Tz3 ld3 li3 st3 lI3 Td4 Tz4 ld4 li4 st4 beql4 bneq4 Td5 Tz5 ld5 li5 st5 l85 Td6 Tz6 ld6 li6 st6 l86 Td7 Tz7 ld7 li7
attribute [go_sem] st7 lE7 fa7_0 fi7_0 fE7_0 fl7_0 fa7_1 fi7_1 fE7_1 fl7_1 fa7_2 fi7_2 fE7_2 fl7_2 fa7_3 fi7_3 fE7_3 fl7_3 Td8 Tz8 ld8 li8 st8 lE8 fa8_0 fi8_0 fE8_0 fl8_0 fa8_1 fi8_1 fE8_1 fl8_1 fa8_2 fi8_2 fE8_2 fl8_2 fa8_3 fi8_3 fE8_3 fl8_3
attribute [go_sem] Td9 Tz9 ld9 li9 st9 len9 ix9 Td10 Tz10 ld10 li10 st10 len10 ix10 Td11 Tz11 ld11 li11 st11 len11 ix11 Td12 Tz12 ld12 li12 st12 Td13 Tz13 ld13 li13 st13 lE13 fa13_0 fi13_0 fE13_0 fl13_0 fa13_1 fi13_1 fE13_1 fl13_1
attribute [go_sem] Td14 Tz14 ld14 li14 st14 lE14 fa14_0 fi14_0 fE14_0 fl14_0 fa14_1 fi14_1 fE14_1 fl14_1 Td15 Tz15 ld15 li15 st15 Td16 Tz16 ld16 li16 st16 Td17 Tz17 ld17 li17 st17 Td18 Tz18 ld18 li18 st18 lE18 fa18_0 fi18_0 fE18_0 fl18_0 Td19
attribute [go_sem] Tz19 ld19 li19 st19 lE19 fa19_0 fi19_0 fE19_0 fl19_0 Td21 Tz21 ld21 li21 st21 Td22 Tz22 ld22 li22 st22 Td23 Tz23 ld23 li23 st23 len23 ix23 bs23 sl23 sm23 sn23 cs23_9 cb9_23 cs23_10 cb10_23 cs23_11 cb11_23 Td24 Tz24 ld24 li24
attribute [go_sem] st24 lI24 Td26 Tz26 ld26 li26 st26 Td28 Tz28 ld28 li28 st28 Td29 Tz29 ld29 li29 st29 Td31 Tz31 ld31 li31 st31 Td32 Tz32 ld32 li32 st32 Td33 Tz33 ld33 li33 st33 Td34 Tz34 ld34 li34 st34 Td35 Tz35 ld35
attribute [go_sem] li35 st35 Td36 Tz36 ld36 li36 st36 Td37 Tz37 ld37 li37 st37 Td38 Tz38 ld38 li38 st38 Td39 Tz39 ld39 li39 st39 lE39 fa39_0 fi39_0 fE39_0 fl39_0 fa39_1 fi39_1 fE39_1 fl39_1 fa39_2 fi39_2 fE39_2 fl39_2 fa39_3 fi39_3 fE39_3 fl39_3 Td40
attribute [go_sem] Tz40 ld40 li40 st40 lE40 fa40_0 fi40_0 fE40_0 fl40_0 fa40_1 fi40_1 fE40_1 fl40_1 fa40_2 fi40_2 fE40_2 fl40_2 fa40_3 fi40_3 fE40_3 fl40_3 Td41 Tz41 ld41 li41 st41 lE41 Td42 Tz42 ld42 li42 st42 lE42 Td43 Tz43 ld43 li43 st43 lE43 Td44
attribute [go_sem] Tz44 ld44 li44 st44 Td45 Tz45 ld45 li45 st45 Td46 Tz46 ld46 li46 st46 l846 Td47 Tz47 ld47 li47 st47 l847 Td48 Tz48 ld48 li48 st48 Td49 Tz49 ld49 li49 st49 Td50 Tz50 ld50 li50 st50 Td51 Tz51 ld51 li51
attribute [go_sem] st51 Td52 Tz52 ld52 li52 st52 lE52 fa52_0 fi52_0 fE52_0 fl52_0 fa52_1 fi52_1 fE52_1 fl52_1 fa52_2 fi52_2 fE52_2 fl52_2 fa52_3 fi52_3 fE52_3 fl52_3 fa52_4 fi52_4 fE52_4 fl52_4 fa52_5 fi52_5 fE52_5 fl52_5 fa52_6 fi52_6 fE52_6 fl52_6 fa52_7 fi52_7 fE52_7 fl52_7 fa52_8
attribute [go_sem] fi52_8 fE52_8 fl52_8 fa52_9 fi52_9 fE52_9 fl52_9 fa52_10 fi52_10 fE52_10 fl52_10 Td53 Tz53 ld53 li53 st53 lE53 fa53_0 fi53_0 fE53_0 fl53_0 fa53_1 fi53_1 fE53_1 fl53_1 fa53_2 fi53_2 fE53_2 fl53_2 fa53_3 fi53_3 fE53_3 fl53_3 fa53_4 fi53_4 fE53_4 fl53_4 fa53_5 fi53_5 fE53_5
attribute [go_sem] fl53_5 fa53_6 fi53_6 fE53_6 fl53_6 fa53_7 fi53_7 fE53_7 fl53_7 fa53_8 fi53_8 fE53_8 fl53_8 fa53_9 fi53_9 fE53_9 fl53_9 fa53_10 fi53_10 fE53_10 fl53_10 ci2 ci3 ci5 ci6 ci12 ci21 ci24 ci37 ci45 ci46 ci47 ci50 ci51
end Try
end Go.Proofs
