/- Plain arithmetic of the code's numbers. -/
import Derived.Test.YtanbckdhlmhdeaaAbsList
set_option linter.unusedSimpArgs false
set_option linter.unusedVariables false
namespace Go.Abs
theorem tmod_nn {x y : Int} (h : 0 ≤ x) : x.tmod y = x % y := Int.tmod_eq_emod_of_nonneg h
theorem tdiv_nn {x y : Int} (h : 0 ≤ x) : x.tdiv y = x / y := Int.tdiv_eq_ediv_of_nonneg h
theorem shr_eq {k : IntKind} {x y : Int} (h : y.toNat ≤ k.bits) : shrI k x y = x / 2 ^ y.toNat := by
  unfold shrI
  rw [Nat.min_eq_left h]
  exact Int.fdiv_eq_ediv_of_nonneg _ (Int.le_of_lt (Int.pow_pos (by decide)))
theorem shr_i64 {x y : Int} (h0 : y ≤ 64) : shrI .i64 x y = x / 2 ^ y.toNat := shr_eq (by show y.toNat ≤ 64; omega)
theorem shr_u8 {x y : Int} (h0 : y ≤ 8) : shrI .u8 x y = x / 2 ^ y.toNat := shr_eq (by show y.toNat ≤ 8; omega)
theorem shl_i64 {x y : Int} (h1 : y ≤ 64) (h2 : -9223372036854775808 ≤ x * 2 ^ y.toNat) (h3 : x * 2 ^ y.toNat ≤ 9223372036854775807) : shlI .i64 x y = x * 2 ^ y.toNat := by
  unfold shlI
  rw [Nat.min_eq_left (by show y.toNat ≤ 64; omega), wrap_i64 h2 h3]
theorem bv_nat {n : Nat} (x : Nat) (h : x < 2 ^ n) : (BitVec.ofInt n (x : Int)).toNat = x := by
  rw [BitVec.toNat_ofInt]
  have : ((x : Int) % ((2 ^ n : Nat) : Int)) = (x : Int) := Int.emod_eq_of_lt (by omega) (by exact_mod_cast h)
  rw [this]; rfl
theorem wrap_small {k : IntKind} {x : Nat} (h : x < 2 ^ (k.bits - 1)) : k.wrap (x : Int) = x := by
  cases k <;> simp [IntKind.wrap, IntKind.signed, IntKind.bits] at h ⊢ <;> omega
theorem and_nn {k : IntKind} {x y : Nat} (hx : x < 2 ^ (k.bits - 1)) (hy : y < 2 ^ (k.bits - 1)) : andI k (x : Int) (y : Int) = ((x &&& y : Nat) : Int) := by
  have hb : 2 ^ (k.bits - 1) ≤ 2 ^ k.bits := Nat.pow_le_pow_right (by decide) (by omega)
  unfold andI
  rw [BitVec.toNat_and, bv_nat x (by omega), bv_nat y (by omega)]
  exact wrap_small (Nat.lt_of_le_of_lt Nat.and_le_left hx)
theorem or_nn {k : IntKind} {x y : Nat} (hx : x < 2 ^ (k.bits - 1)) (hy : y < 2 ^ (k.bits - 1)) : orI k (x : Int) (y : Int) = ((x ||| y : Nat) : Int) := by
  have hb : 2 ^ (k.bits - 1) ≤ 2 ^ k.bits := Nat.pow_le_pow_right (by decide) (by omega)
  unfold orI
  rw [BitVec.toNat_or, bv_nat x (by omega), bv_nat y (by omega)]
  exact wrap_small (Nat.or_lt_two_pow hx hy)
/-- The low bits. -/
theorem and_low {x : Int} {b : Nat} (h0 : 0 ≤ x) (h1 : x < 9223372036854775808) (hb : b ≤ 62) : andI .i64 x (2 ^ b - 1) = x % 2 ^ b := by
  obtain ⟨n, rfl⟩ := Int.eq_ofNat_of_zero_le h0
  have hp : (2 : Nat) ^ b ≤ 2 ^ 62 := Nat.pow_le_pow_right (by decide) hb
  have hp0 : 0 < 2 ^ b := Nat.pos_of_ne_zero (by simp)
  have e : ((2 : Int) ^ b - 1) = ((2 ^ b - 1 : Nat) : Int) := by
    rw [Int.ofNat_sub hp0]; push_cast; rfl
  rw [e, and_nn (by simp [IntKind.bits]; omega) (by simp [IntKind.bits]; omega), Nat.and_two_pow_sub_one_eq_mod]
  push_cast; rfl
/-- Bits laid under others. -/
theorem or_low {x y : Int} {b : Nat} (h0 : 0 ≤ x) (hy : 0 ≤ y) (hy2 : y < 2 ^ b) (h1 : x * 2 ^ b + y < 9223372036854775808) : orI .i64 (x * 2 ^ b) y = x * 2 ^ b + y := by
  obtain ⟨n, rfl⟩ := Int.eq_ofNat_of_zero_le h0
  obtain ⟨m, rfl⟩ := Int.eq_ofNat_of_zero_le hy
  have hm : m < 2 ^ b := by exact_mod_cast hy2
  have e : ((n : Int) * 2 ^ b) = ((n * 2 ^ b : Nat) : Int) := by push_cast; rfl
  rw [e] at h1 ⊢
  rw [or_nn (by simp [IntKind.bits]; omega) (by simp [IntKind.bits]; omega)]
  have : n * 2 ^ b ||| m = n * 2 ^ b + m := by
    have := Nat.two_pow_add_eq_or_of_lt hm n
    rw [Nat.mul_comm n, ← this]
  rw [this]; push_cast; rfl
theorem ofNat_toNat {n : Nat} (h : n < 256) : (UInt8.ofNat n).toNat = n := by
  rw [UInt8.toNat_ofNat']; omega
theorem e8_of {e : Int} (h0 : 0 ≤ e) (h1 : e < 256) : [AV.int .u8 e] = E8.f (UInt8.ofNat e.toNat) := by
  show [AV.int .u8 e] = [.int .u8 (((UInt8.ofNat e.toNat).toNat : Nat) : Int)]
  rw [ofNat_toNat (by omega), Int.toNat_of_nonneg h0]
theorem wrap_u32 {x : Int} : IntKind.u32.wrap x = x % 4294967296 := by simp [IntKind.wrap, IntKind.signed, IntKind.bits]
theorem wrap_u64 {x : Int} : IntKind.u64.wrap x = x % 18446744073709551616 := by simp [IntKind.wrap, IntKind.signed, IntKind.bits]
theorem wrap_i32 {x : Int} (h1 : -2147483648 ≤ x) (h2 : x ≤ 2147483647) : IntKind.i32.wrap x = x := by
  simp only [IntKind.wrap, IntKind.signed, IntKind.bits]
  simp
  omega
theorem bs_one {T : Tys} {h : AH} {t e : TypeId} {v : AV} (h1 : (T t).desc = .slice e) (hok : okT T e = true) (hs : (T e).size = 1) (hz : (T e).zero.length = 1) (hv : Seen (match v with | .agg _ | .tuple _ => false | _ => true)) :
    bsR T h t 1 (some [(0, v)]) = some (.val (.slice (some (h.size, 0)) 1 1 1 true) (h.push (.cells [v]))) := by
  have := hv.eq
  refine bsR_one h1 hok hs hz ?_ ?_ <;> (cases v <;> first | rfl | simp at this)
theorem ss_n {T : Tys} {t : Nat} {s : List UInt8} {y : Int} (ht : (T t).desc = .string) (h0 : 0 ≤ y) (h1 : y ≤ s.length) : sliceA T t (.str s) none (some y) none = some (.str (s.take y.toNat)) := by
  simp [sliceA, ht, h0, h1]
theorem ss_l {T : Tys} {t : Nat} {s : List UInt8} {x : Int} (ht : (T t).desc = .string) (h0 : 0 ≤ x) (h1 : x ≤ s.length) : sliceA T t (.str s) (some x) none none = some (.str (s.drop x.toNat)) := by
  simp only [sliceA, ht]
  simp [h0, h1]
  rw [List.take_of_length_le (by rw [List.length_drop]; exact Nat.le_refl _)]
theorem ss_b {T : Tys} {t : Nat} {s : List UInt8} {x y : Int} (ht : (T t).desc = .string) (h0 : 0 ≤ x) (h1 : x ≤ y) (h2 : y ≤ s.length) : sliceA T t (.str s) (some x) (some y) none = some (.str ((s.drop x.toNat).take (y.toNat - x.toNat))) := by
  simp [sliceA, ht, h0, h1, h2]
/-- A slice written out, of values of one cell. -/
def bsOk : Nat → List (Nat × AV) → Bool
  | _, [] => true
  | k, (i, v) :: r => Nat.beq i k && (match v with | .agg _ | .tuple _ => false | _ => true) && bsOk (k + 1) r
theorem fill_row {sz : Nat} (hs : sz = 1) : ∀ (l : List (Nat × AV)) (A B : List AV), bsOk A.length l = true → B.length = l.length → fillA (fun i => some (i * sz, sz)) (A ++ B) l = some (A ++ l.map (·.2))
  | [], A, B, _, hb => by
    have : B = [] := List.eq_nil_of_length_eq_zero (by simpa using hb)
    subst this; simp [fillA]
  | (i, v) :: r, A, [], h, hb => by simp at hb
  | (i, v) :: r, A, b :: B, h, hb => by
    subst hs
    simp only [bsOk, Bool.and_eq_true] at h
    have hi := Nat.eq_of_beq_eq_true h.1.1
    subst hi
    have hc : v.cells = [v] ∧ v.one = true := by
      have := h.1.2
      cases v <;> first | exact ⟨rfl, rfl⟩ | simp at this
    have ih := fill_row rfl r (A ++ [v]) B (by rw [List.length_append]; exact h.2) (by simpa using hb)
    simp only [fillA, hc.1]
    rw [if_pos ⟨rfl, by simp, by simp [hc.2]⟩]
    have ho : over (A ++ b :: B) (A.length * 1) [v] = (A ++ [v]) ++ B := by
      unfold over
      rw [Nat.mul_one, List.take_left]
      have : (A ++ b :: B).drop (A.length + [v].length) = B := by rw [← List.drop_drop, List.drop_left]; rfl
      rw [this]
    rw [ho, ih]; simp
theorem bs_row {T : Tys} {h : AH} {t e n : Nat} {l : List (Nat × AV)} (h1 : (T t).desc = .slice e) (hok : okT T e = true) (hs : (T e).size = 1) (hz : (T e).zero.length = 1) (hn : Seen (Nat.beq l.length n && (Nat.ble n 10000 && bsOk 0 l))) :
    bsR T h t n (some l) = some (.val (.slice (some (h.size, 0)) n n 1 true) (h.push (.cells (l.map (·.2))))) := by
  have hn := hn.eq
  simp only [Bool.and_eq_true] at hn
  have hl := Nat.eq_of_beq_eq_true hn.1
  have hl2 := Nat.le_of_ble_eq_true hn.2.1
  have hrep : ∀ m, (rep (T e).zero m).length = m := by
    intro m
    induction m with
    | zero => rfl
    | succ m ih => rw [rep, List.length_append, ih, hz]; omega
  have := fill_row (sz := (T e).size) hs l [] (rep (T e).zero n) hn.2.2 (by rw [hrep, hl])
  simp only [List.nil_append] at this
  rw [bsR_some h1 ⟨hok, by rw [hs]; omega, by rw [hs]; exact hz⟩ this, hs]
/-- What a function that makes a new slice of bytes leaves. -/
def NewB (h : AH) (l : List UInt8) (a : AV) (h' : AH) : Prop := (∃ i, h.size ≤ i ∧ Ow E8 h' i a l) ∧ Keeps h.size h h'
attribute [go_sem] List.map_cons List.map_nil tmod_nn tdiv_nn shr_i64 shr_u8 wrap_u8 wrap_u32 wrap_u64 wrap_i32
end Go.Abs
