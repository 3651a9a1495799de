/- Slices of the abstract machine that a function has made itself. -/
import Derived.Test.YtanbckdhlmhdeaaAbsWalk
set_option linter.unusedSimpArgs false
set_option linter.unusedVariables false
namespace Go.Abs
/-- Blocks below b are as they were; none is taken away. -/
def Keeps (b : Nat) (h h' : AH) : Prop := h.size ≤ h'.size ∧ ∀ i, i < b → h'.get i = h.get i
theorem Keeps.refl (b : Nat) (h : AH) : Keeps b h h := ⟨Nat.le_refl _, fun _ _ => rfl⟩
theorem Keeps.trans {b c : Nat} {h h' h2 : AH} (a : Keeps b h h') (k : Keeps c h' h2) (hbc : b ≤ c) : Keeps b h h2 := ⟨Nat.le_trans a.1 k.1, fun i hi => (k.2 i (by omega)).trans (a.2 i hi)⟩
theorem Keeps.push {b : Nat} {h h' : AH} (k : Keeps b h h') (hb : b ≤ h'.size) (o : AO) : Keeps b h (h'.push o) := by
  refine ⟨by simp; exact Nat.le_succ_of_le k.1, fun i hi => ?_⟩
  rw [AH.get_push, if_neg (by omega)]
  exact k.2 i hi
theorem Keeps.set {b : Nat} {h h' : AH} (k : Keeps b h h') {j : Nat} (hj : b ≤ j) (o : AO) : Keeps b h (h'.set j o) := by
  refine ⟨by simpa using k.1, fun i hi => ?_⟩
  rw [AH.get_set, if_neg (by omega)]
  exact k.2 i hi
/-- A slice that fills its block, or none: its cells. -/
inductive Tt (b : Nat) (h : AH) (sz : Nat) : AV → List AV → Prop
  | none (ex : Bool) (z : Nat) : Tt b h sz (.slice none 0 0 z ex) []
  | some (i n : Nat) (ex : Bool) (cs : List AV) (hi : h.get i = some (.cells cs)) (hb : b ≤ i) (hs : i < h.size) (hl : cs.length = n * sz) : Tt b h sz (.slice (some (i, 0)) n n sz ex) cs
theorem Tt.le {b b' : Nat} {h : AH} {sz : Nat} {a : AV} {cs : List AV} (t : Tt b h sz a cs) (hb : b' ≤ b) : Tt b' h sz a cs := by
  cases t with
  | none ex z => exact .none ex z
  | some i n ex cs hi hbi hs hl => exact .some i n ex cs hi (Nat.le_trans hb hbi) hs hl
theorem Tt.keep {b c : Nat} {h h' : AH} {sz : Nat} {a : AV} {cs : List AV} (t : Tt b h sz a cs) (k : Keeps c h h') (hc : h.size ≤ c) : Tt b h' sz a cs := by
  cases t with
  | none ex z => exact .none ex z
  | some i n ex cs hi hbi hs hl => exact .some i n ex cs (by rw [k.2 i (by omega)]; exact hi) hbi (Nat.lt_of_lt_of_le hs k.1) hl
theorem Tt.len {b : Nat} {h : AH} {sz n : Nat} {a : AV} {cs : List AV} (t : Tt b h sz a cs) (hl : cs.length = n * sz) (hz : 0 < sz) : lenA a = Option.some n := by
  cases t with
  | none ex z =>
    have : n = 0 := by
      rcases Nat.eq_zero_or_pos n with h0 | h0
      · exact h0
      · have := Nat.mul_pos h0 hz; simp at hl; omega
    subst this; rfl
  | some i m ex cs hi hbi hs hl2 =>
    have : m = n := Nat.eq_of_mul_eq_mul_right hz (hl2.symm.trans hl)
    subst this; rfl
theorem cut_all (cs : List AV) : cut cs 0 cs.length = some cs := by simp [cut]
theorem Tt.elems {b : Nat} {h : AH} {sz n : Nat} {a : AV} {cs : List AV} (t : Tt b h sz a cs) (hl : cs.length = n * sz) (hz : 0 < sz) : elems h sz n a = Option.some cs := by
  cases t with
  | none ex z =>
    have : n = 0 := by
      rcases Nat.eq_zero_or_pos n with h0 | h0
      · exact h0
      · have := Nat.mul_pos h0 hz; simp at hl; omega
    subst this; rfl
  | some i m ex cs hi hbi hs hl2 =>
    have : m = n := Nat.eq_of_mul_eq_mul_right hz (hl2.symm.trans hl)
    subst this
    simp only [Abs.elems]
    by_cases h0 : m = 0
    · subst h0
      have : cs = [] := List.eq_nil_of_length_eq_zero (by simpa using hl)
      subst this
      simp
    · rw [if_neg (by omega), if_pos (by simp)]
      simp only [AH.read, hi, ← hl]
      exact cut_all cs

/-- append to a slice that fills its block. -/
theorem Tt.append {T : Tys} {b : Nat} {h : AH} {t xt e : TypeId} {sz n m : Nat} {a x : AV} {cs new : List AV} (ha : Tt b h sz a cs) (ht : (T t).desc = .slice e) (hxt : (∃ e', (T xt).desc = .slice e') ∨ (T xt).desc = .string) (hok : okT T e = true)
    (hsz : (T e).size = sz) (hz : 0 < sz) (hzl : (T e).zero.length = sz) (hby : 0 < (T e).bytes) (hcs : cs.length = m * sz) (hlen : lenA x = Option.some n) (hel : Abs.elems h sz n x = Option.some new) (hnew : new.length = n * sz)
    (hroom : (m + n) * (T e).bytes ≤ 140737488355328) (hmx : m + n ≤ 9223372036854775807) (hb : b ≤ h.size) :
    ∃ z h', appendA T h t xt a x = Option.some (z, h') ∧ Tt b h' sz z (cs ++ new) ∧ Keeps b h h' := by
  rcases hxt with ⟨e', hxt⟩ | hxt
  all_goals
    unfold appendA
    simp only [ht, hxt, hok, hlen, hsz, hel, Bool.not_true, Bool.false_eq_true, if_false]
    have hel2 := ha.elems hcs hz
    cases ha with
    | none ex z =>
      have hm : m = 0 := by
        rcases Nat.eq_zero_or_pos m with h0 | h0
        · exact h0
        · have := Nat.mul_pos h0 hz; simp at hcs; omega
      subst hm
      by_cases hn : n = 0
      · subst hn
        have : new = [] := List.eq_nil_of_length_eq_zero (by simpa using hnew)
        subst this
        exact ⟨_, h, rfl, .none _ _, Keeps.refl _ _⟩
      · dsimp only
        rw [if_neg (by omega), if_pos ⟨hroom, hby, hzl, hmx⟩, hel2]
        refine ⟨_, _, rfl, ?_, (Keeps.refl _ _).push hb _⟩
        rw [Nat.zero_add]
        exact .some _ _ _ _ (by rw [AH.get_push, if_pos rfl]) hb (by simp) (by simpa using hnew)
    | some i m' ex cs hi hbi hs hl2 =>
      have hm : m' = m := Nat.eq_of_mul_eq_mul_right hz (hl2.symm.trans hcs)
      subst hm
      by_cases hn : n = 0
      · subst hn
        have : new = [] := List.eq_nil_of_length_eq_zero (by simpa using hnew)
        subst this
        simp only [Nat.add_zero, Nat.le_refl, if_true, List.append_nil]
        exact ⟨_, h, rfl, .some i m' ex cs hi hbi hs hl2, Keeps.refl _ _⟩
      · dsimp only
        rw [if_neg (by omega), if_pos ⟨hroom, hby, hzl, hmx⟩, hel2]
        have hl3 : (cs ++ new).length = (m' + n) * sz := by rw [List.length_append, hl2, hnew, Nat.add_mul]
        cases ex with
        | true =>
          simp only [if_true]
          exact ⟨_, _, rfl, .some _ _ _ _ (by rw [AH.get_push, if_pos rfl]) hb (by simp) hl3, (Keeps.refl _ _).push hb _⟩
        | false =>
          simp only [Bool.false_eq_true, if_false, hi, if_true]
          exact ⟨_, _, rfl, .some _ _ _ _ (by rw [AH.get_push]; simp) hb (by simp) hl3, ((Keeps.refl _ _).set hbi _).push (by simpa using hb) _⟩
/-- append of a literal. -/
theorem Tt.appendLit {T : Tys} {b : Nat} {h : AH} {t xt e : TypeId} {sz n m : Nat} {a : AV} {cs new : List AV} (ha : Tt b h sz a cs) (ht : (T t).desc = .slice e) (hxt : (T xt).desc = .slice e) (hok : okT T e = true)
    (hsz : (T e).size = sz) (hz : 0 < sz) (hzl : (T e).zero.length = sz) (hby : 0 < (T e).bytes) (hcs : cs.length = m * sz) (hnew : new.length = n * sz) (hn : 0 < n)
    (hroom : (m + n) * (T e).bytes ≤ 140737488355328) (hmx : m + n ≤ 9223372036854775807) (hb : b ≤ h.size) :
    ∃ z h', appendA T (h.push (.cells new)) t xt a (.slice (Option.some (h.size, 0)) n n sz true) = Option.some (z, h') ∧ Tt b h' sz z (cs ++ new) ∧ Keeps b h h' := by
  have k := (Keeps.refl b h).push hb (.cells new)
  have ha2 : Tt b (h.push (.cells new)) sz a cs := ha.keep ((Keeps.refl h.size h).push (Nat.le_refl _) (.cells new)) (Nat.le_refl _)
  have hx : Tt b (h.push (.cells new)) sz (.slice (Option.some (h.size, 0)) n n sz true) new := .some _ _ _ _ (by rw [AH.get_push, if_pos rfl]) hb (by simp) hnew
  obtain ⟨z, h', h1, h2, h3⟩ := ha2.append ht (.inl ⟨e, hxt⟩) hok hsz hz hzl hby hcs (hx.len hnew hz) (hx.elems hnew hz) hnew hroom hmx (by simp; omega)
  exact ⟨z, h', h1, h2, k.trans h3 (Nat.le_refl _)⟩

theorem Tt.lenB {T : Tys} {b : Nat} {h : AH} {t e sz n : Nat} {a : AV} {cs : List AV} (ha : Tt b h sz a cs) (ht : (T t).desc = .slice e) (hl : cs.length = n * sz) (hz : 0 < sz) : builtinA T h .len [t] [a] = Option.some (.int .i64 n, h) := by
  have := ha.len hl hz
  cases ha with
  | none ex z =>
    simp only [lenA, Option.some.injEq] at this
    subst this
    simp only [builtinA, ht]
  | some i m ex cs hi hbi hs hl2 =>
    simp only [lenA, Option.some.injEq] at this
    subst this
    simp only [builtinA, ht]
/-! ### Bytes -/
def cellsB (l : List Nat) : List AV := l.map fun x : Nat => .int .u8 (x : Int)
theorem cellsB_append (l r : List Nat) : cellsB (l ++ r) = cellsB l ++ cellsB r := by simp [cellsB]
theorem cellsB_length (l : List Nat) : (cellsB l).length = l.length := by simp [cellsB]
def strB (l : List Nat) : List UInt8 := l.map UInt8.ofNat
theorem bytesOf_cellsB : ∀ l : List Nat, bytesOf (cellsB l) = Option.some (strB l)
  | [] => rfl
  | x :: l => by
    have := bytesOf_cellsB l
    simp only [cellsB, List.map_cons, bytesOf] at this ⊢
    rw [this]
    simp [strB]
theorem Tt.convS {T : Tys} {b : Nat} {h : AH} {t u e : Nat} {a : AV} {l : List Nat} (ha : Tt b h 1 a (cellsB l)) (ht : (T t).desc = .slice e) (he : (T e).desc = .int .u8) (hu : (T u).desc = .string) : convA T h t u a = Option.some (.str (strB l), h) := by
  have h1 := ha.len (n := l.length) (by rw [cellsB_length]; omega) (by omega)
  have h2 := ha.elems (n := l.length) (by rw [cellsB_length]; omega) (by omega)
  have h3 := bytesOf_cellsB l
  generalize cellsB l = cs at ha h1 h2 h3
  cases ha with
  | none ex z =>
    simp only [lenA, Option.some.injEq] at h1
    rw [← h1] at h2
    simp only [convA, ht, hu, he, lenA, h2, h3, Option.map_some]
  | some i m ex cs hi hbi hs hl2 =>
    simp only [lenA, Option.some.injEq] at h1
    subst h1
    simp only [convA, ht, hu, he, lenA, h2, h3, Option.map_some]

/-! ### A slice that is read: n elements of sz cells each -/
inductive Rs (h : AH) (sz : Nat) : AV → List AV → Prop
  | none (ex : Bool) (z : Nat) : Rs h sz (.slice none 0 0 z ex) []
  | some (i o n cap : Nat) (ex : Bool) (all cs : List AV) (hi : h.get i = some (.cells all)) (hl : (all.drop o).take (n * sz) = cs) (hn : cs.length = n * sz) (hc : n ≤ cap) : Rs h sz (.slice (some (i, o)) n cap sz ex) cs
  | isl (row : List AV) (off n cap : Nat) (cs : List AV) (hl : (row.drop off).take (n * sz) = cs) (hn : cs.length = n * sz) (hc : n ≤ cap) (h1 : cs.all AV.one = true) : Rs h sz (.islice row off n cap sz) cs
theorem Tt.rs {b : Nat} {h : AH} {sz : Nat} {a : AV} {cs : List AV} (t : Tt b h sz a cs) : Rs h sz a cs := by
  cases t with
  | none ex z => exact .none ex z
  | some i n ex cs hi hbi hs hl => exact .some i 0 n n ex cs cs hi (by rw [List.drop_zero, ← hl, List.take_length]) hl (Nat.le_refl _)
theorem Rs.keep {c : Nat} {h h' : AH} {sz : Nat} {a : AV} {cs : List AV} (t : Rs h sz a cs) (k : Keeps c h h') (hc : ∀ i o n cap z ex, a = .slice (Option.some (i, o)) n cap z ex → i < c) : Rs h' sz a cs := by
  cases t with
  | none ex z => exact .none ex z
  | some i o n cap ex all cs hi hl hn hcap => exact .some i o n cap ex all cs (by rw [k.2 i (hc _ _ _ _ _ _ rfl)]; exact hi) hl hn hcap
  | isl row off n cap cs hl hn hcap h1 => exact .isl row off n cap cs hl hn hcap h1
theorem Rs.len {h : AH} {sz n : Nat} {a : AV} {cs : List AV} (t : Rs h sz a cs) (hl : cs.length = n * sz) (hz : 0 < sz) : lenA a = Option.some n := by
  cases t with
  | none ex z =>
    have : n = 0 := by
      rcases Nat.eq_zero_or_pos n with h0 | h0
      · exact h0
      · have := Nat.mul_pos h0 hz; simp at hl; omega
    subst this; rfl
  | some i o m cap ex all cs hi hl2 hn hc =>
    have : m = n := Nat.eq_of_mul_eq_mul_right hz (hn.symm.trans hl)
    subst this; rfl
  | isl row off m cap cs hl2 hn hc =>
    have : m = n := Nat.eq_of_mul_eq_mul_right hz (hn.symm.trans hl)
    subst this; rfl
theorem Rs.lenB {T : Tys} {h : AH} {t e sz n : Nat} {a : AV} {cs : List AV} (ha : Rs h sz a cs) (ht : (T t).desc = .slice e) (hl : cs.length = n * sz) (hz : 0 < sz) : builtinA T h .len [t] [a] = Option.some (.int .i64 n, h) := by
  have := ha.len hl hz
  cases ha <;> (simp only [lenA, Option.some.injEq] at this; subst this; simp only [builtinA, ht])
theorem Rs.elems {h : AH} {sz n : Nat} {a : AV} {cs : List AV} (t : Rs h sz a cs) (hl : cs.length = n * sz) (hz : 0 < sz) : Abs.elems h sz n a = Option.some cs := by
  have hln := t.len hl hz
  have cutd : ∀ (all : List AV) (o : Nat), (all.drop o).take (n * sz) = cs → cut all o (n * sz) = Option.some cs ∨ n = 0 := by
    intro all o h1
    by_cases h0 : n = 0
    · exact .inr h0
    · refine .inl ?_
      have hpos : 0 < n * sz := Nat.mul_pos (by omega) hz
      have : o + n * sz ≤ all.length := by
        have := congrArg List.length h1
        simp only [List.length_take, List.length_drop, hl] at this
        omega
      unfold cut
      rw [if_pos this, h1]
  cases t with
  | none ex z =>
    simp only [lenA, Option.some.injEq] at hln
    subst hln; rfl
  | some i o m cap ex all cs hi hl2 hn hc =>
    simp only [lenA, Option.some.injEq] at hln
    subst hln
    simp only [Abs.elems]
    rcases cutd all o hl2 with h1 | h1
    · by_cases h0 : m = 0
      · subst h0
        have : cs = [] := List.eq_nil_of_length_eq_zero (by simpa using hn)
        subst this; simp
      · rw [if_neg (by omega), if_pos (by simp [hc])]
        simp only [AH.read, hi]
        exact h1
    · subst h1
      have : cs = [] := List.eq_nil_of_length_eq_zero (by simpa using hn)
      subst this; simp
  | isl row off m cap cs hl2 hn hc h1 =>
    simp only [lenA, Option.some.injEq] at hln
    subst hln
    simp only [Abs.elems]
    rcases cutd row off hl2 with h2 | h2
    · by_cases h0 : m = 0
      · subst h0
        have : cs = [] := List.eq_nil_of_length_eq_zero (by simpa using hn)
        subst this; simp
      · rw [if_neg (by omega), if_pos (by simp [hc]), h2]
        simp [h1]
    · subst h2
      have : cs = [] := List.eq_nil_of_length_eq_zero (by simpa using hn)
      subst this; simp
/-- An element of one cell, by its number. -/
theorem Rs.at1 {T : Tys} {h : AH} {t e j : Nat} {k : IntKind} {a v : AV} {cs : List AV} (ha : Rs h 1 a cs) (ht : (T t).desc = .slice e) (hok : okT T e = true) (hsz : (T e).size = 1) (hag : (T e).desc.isAgg = false) (hj : cs[j]? = Option.some v) :
    ∃ p, idxA T t a (.int k j) = Option.some p ∧ loadA T h e p = Option.some v := by
  have hlt : j < cs.length := (List.getElem?_eq_some_iff.1 hj).1
  have hb : (T e).desc ≠ .bad := okT_ne hok
  cases ha with
  | none ex z => simp at hlt
  | some i o n cap ex all cs hi hl hn hc =>
    rw [Nat.mul_one] at hn hl
    refine ⟨.ptr (Option.some (i, o + j)), ?_, ?_⟩
    · simp only [idxA, ht]
      rw [if_pos ⟨hok, by omega, by omega, hsz.symm⟩]
      simp
    · have hget : all[o + j]? = Option.some v := by
        rw [← hl, List.getElem?_take, if_pos (by omega), List.getElem?_drop] at hj
        exact hj
      have hlt2 : o + j < all.length := (List.getElem?_eq_some_iff.1 hget).1
      have hr : h.read i (o + j) 1 = Option.some [v] := by
        simp only [AH.read, hi, cut]
        rw [if_pos (by omega)]
        congr 1
        rw [List.take_one]
        simp [List.head?_drop, hget]
      unfold loadA
      cases hd : (T e).desc <;> simp_all [TD.isAgg]
  | isl row off n cap cs hl hn hc h1 =>
    rw [Nat.mul_one] at hn hl
    refine ⟨.iptr row (off + j), ?_, ?_⟩
    · simp only [idxA, ht]
      rw [if_pos ⟨hok, by omega, by omega, hc, hsz.symm⟩]
      simp
    · have hget : row[off + j]? = Option.some v := by
        rw [← hl, List.getElem?_take, if_pos (by omega), List.getElem?_drop] at hj
        exact hj
      unfold loadA
      cases hd : (T e).desc <;> simp_all [TD.isAgg]
/-- A part of it: from lo on, up to hi. -/
theorem Rs.part {T : Tys} {h : AH} {t e sz lo hi : Nat} {a : AV} {cs : List AV} {n : Nat} (ha : Rs h sz a cs) (ht : (T t).desc = .slice e) (hok : okT T e = true) (hsz : (T e).size = sz) (hz : 0 < sz) (hl : cs.length = n * sz) (h1 : lo ≤ hi) (h2 : hi ≤ n) {l u : Option Int} (hlo : l.getD 0 = (lo : Int)) (hhi : u.getD (n : Int) = (hi : Int)) :
    ∃ z, sliceA T t a l u Option.none = Option.some z ∧ Rs h sz z ((cs.drop (lo * sz)).take ((hi - lo) * sz)) ∧ (∀ i o n cap z' ex, z = .slice (Option.some (i, o)) n cap z' ex → ∃ o n cap ex, a = .slice (Option.some (i, o)) n cap z' ex) := by
  have hln := ha.len hl hz
  have hle : lo * sz + (hi - lo) * sz ≤ n * sz := by rw [← Nat.add_mul]; exact Nat.mul_le_mul_right _ (by omega)
  cases ha with
  | none ex z =>
    simp only [lenA, Option.some.injEq] at hln
    subst hln
    have hlo0 : lo = 0 := by omega
    have hhi0 : hi = 0 := by omega
    subst hlo0; subst hhi0
    refine ⟨.slice Option.none 0 0 z true, ?_, ?_, ?_⟩
    · simp only [sliceA, ht, hok, hlo, hhi]
      simp_all
    · simpa using Rs.none (h := h) (sz := sz) true z
    · intro i o n cap z' ex he; simp at he
  | some i o m cap ex all cs hi' hl2 hn hc =>
    simp only [lenA, Option.some.injEq] at hln
    subst hln
    refine ⟨.slice (Option.some (i, o + lo * sz)) (hi - lo) (cap - lo) sz (ex || false), ?_, ?_, ?_⟩
    · simp only [sliceA, ht, hok, hlo, hhi]
      simp only [Option.isSome_none, Bool.false_eq_true, false_and, if_false, Bool.not_true, Option.getD_none]
      rw [if_pos (by omega), if_pos hsz.symm]
      simp
    · refine .some i (o + lo * sz) (hi - lo) (cap - lo) _ all _ hi' ?_ ?_ (by omega)
      · rw [← hl2, List.drop_take, List.take_take, List.drop_drop, Nat.min_eq_left (by omega)]
      · rw [List.length_take, List.length_drop, hl]; omega
    · intro i2 o2 n2 cap2 z2 ex2 he
      simp only [AV.slice.injEq, Option.some.injEq, Prod.mk.injEq] at he
      obtain ⟨⟨rfl, _⟩, _, _, rfl, _⟩ := he
      exact ⟨_, _, _, _, rfl⟩
  | isl row off m cap cs hl2 hn hc h3 =>
    simp only [lenA, Option.some.injEq] at hln
    subst hln
    refine ⟨.islice row (off + lo * sz) (hi - lo) (cap - lo) sz, ?_, ?_, ?_⟩
    · simp only [sliceA, ht, hok, hlo, hhi]
      simp only [Option.isSome_none, Bool.false_eq_true, false_and, if_false, Bool.not_true, Option.getD_none]
      rw [if_pos (by omega)]
      simp
    · refine .isl row (off + lo * sz) (hi - lo) (cap - lo) _ ?_ ?_ (by omega) ?_
      · rw [← hl2, List.drop_take, List.take_take, List.drop_drop, Nat.min_eq_left (by omega)]
      · rw [List.length_take, List.length_drop, hl]; omega
      · rw [List.all_eq_true] at h3 ⊢
        intro x hx
        exact h3 x (List.mem_of_mem_drop (List.mem_of_mem_take hx))
    · intro i2 o2 n2 cap2 z2 ex2 he
      simp at he
end Go.Abs
