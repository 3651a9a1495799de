/- Slices of the abstract machine that a function has made itself. -/
import Derived.Test.YtbmfigafbilbmaaAbsWalk
set_option linter.unusedSimpArgs false
set_option linter.unusedVariables false
namespace Go.Abs
/-- Blocks below b are as they were; none is taken away. -/
def Keeps (b : Nat) (h h' : AH) : Prop := h.size ≤ h'.size ∧ ∀ i, i < b → h'.get i = h.get i
theorem Keeps.refl (b : Nat) (h : AH) : Keeps b h h := ⟨Nat.le_refl _, fun _ _ => rfl⟩
theorem Keeps.trans {b c : Nat} {h h' h2 : AH} (a : Keeps b h h') (k : Keeps c h' h2) (hbc : b ≤ c) : Keeps b h h2 := ⟨Nat.le_trans a.1 k.1, fun i hi => (k.2 i (by omega)).trans (a.2 i hi)⟩
theorem Keeps.push {b : Nat} {h h' : AH} (k : Keeps b h h') (hb : b ≤ h'.size) (o : AO) : Keeps b h (h'.push o) := by
  refine ⟨by simp; exact Nat.le_succ_of_le k.1, fun i hi => ?_⟩
  rw [AH.get_push, if_neg (by omega)]
  exact k.2 i hi
theorem Keeps.set {b : Nat} {h h' : AH} (k : Keeps b h h') {j : Nat} (hj : b ≤ j) (o : AO) : Keeps b h (h'.set j o) := by
  refine ⟨by simpa using k.1, fun i hi => ?_⟩
  rw [AH.get_set, if_neg (by omega)]
  exact k.2 i hi
/-- A slice that fills its block, or none: its cells. -/
inductive Tt (b : Nat) (h : AH) (sz : Nat) : AV → List AV → Prop
  | none (ex : Bool) (z : Nat) : Tt b h sz (.slice none 0 0 z ex) []
  | some (i n : Nat) (ex : Bool) (cs : List AV) (hi : h.get i = some (.cells cs)) (hb : b ≤ i) (hs : i < h.size) (hl : cs.length = n * sz) : Tt b h sz (.slice (some (i, 0)) n n sz ex) cs
theorem Tt.le {b b' : Nat} {h : AH} {sz : Nat} {a : AV} {cs : List AV} (t : Tt b h sz a cs) (hb : b' ≤ b) : Tt b' h sz a cs := by
  cases t with
  | none ex z => exact .none ex z
  | some i n ex cs hi hbi hs hl => exact .some i n ex cs hi (Nat.le_trans hb hbi) hs hl
theorem Tt.keep {b c : Nat} {h h' : AH} {sz : Nat} {a : AV} {cs : List AV} (t : Tt b h sz a cs) (k : Keeps c h h') (hc : h.size ≤ c) : Tt b h' sz a cs := by
  cases t with
  | none ex z => exact .none ex z
  | some i n ex cs hi hbi hs hl => exact .some i n ex cs (by rw [k.2 i (by omega)]; exact hi) hbi (Nat.lt_of_lt_of_le hs k.1) hl
theorem Tt.len {b : Nat} {h : AH} {sz n : Nat} {a : AV} {cs : List AV} (t : Tt b h sz a cs) (hl : cs.length = n * sz) (hz : 0 < sz) : lenA a = Option.some n := by
  cases t with
  | none ex z =>
    have : n = 0 := by
      rcases Nat.eq_zero_or_pos n with h0 | h0
      · exact h0
      · have := Nat.mul_pos h0 hz; simp at hl; omega
    subst this; rfl
  | some i m ex cs hi hbi hs hl2 =>
    have : m = n := Nat.eq_of_mul_eq_mul_right hz (hl2.symm.trans hl)
    subst this; rfl
theorem cut_all (cs : List AV) : cut cs 0 cs.length = some cs := by simp [cut]
theorem Tt.elems {b : Nat} {h : AH} {sz n : Nat} {a : AV} {cs : List AV} (t : Tt b h sz a cs) (hl : cs.length = n * sz) (hz : 0 < sz) : elems h sz n a = Option.some cs := by
  cases t with
  | none ex z =>
    have : n = 0 := by
      rcases Nat.eq_zero_or_pos n with h0 | h0
      · exact h0
      · have := Nat.mul_pos h0 hz; simp at hl; omega
    subst this; rfl
  | some i m ex cs hi hbi hs hl2 =>
    have : m = n := Nat.eq_of_mul_eq_mul_right hz (hl2.symm.trans hl)
    subst this
    simp only [Abs.elems]
    by_cases h0 : m = 0
    · subst h0
      have : cs = [] := List.eq_nil_of_length_eq_zero (by simpa using hl)
      subst this
      simp
    · rw [if_neg (by omega), if_pos (by simp)]
      simp only [AH.read, hi, ← hl]
      exact cut_all cs

/-- append to a slice that fills its block. -/
theorem Tt.append {T : Tys} {b : Nat} {h : AH} {t xt e : TypeId} {sz n m : Nat} {a x : AV} {cs new : List AV} (ha : Tt b h sz a cs) (ht : (T t).desc = .slice e) (hxt : (∃ e', (T xt).desc = .slice e') ∨ (T xt).desc = .string) (hok : okT T e = true)
    (hsz : (T e).size = sz) (hz : 0 < sz) (hzl : (T e).zero.length = sz) (hby : 0 < (T e).bytes) (hcs : cs.length = m * sz) (hlen : lenA x = Option.some n) (hel : Abs.elems h sz n x = Option.some new) (hnew : new.length = n * sz)
    (hroom : (m + n) * (T e).bytes ≤ 140737488355328) (hmx : m + n ≤ 9223372036854775807) (hb : b ≤ h.size) :
    ∃ z h', appendA T h t xt a x = Option.some (z, h') ∧ Tt b h' sz z (cs ++ new) ∧ Keeps b h h' := by
  rcases hxt with ⟨e', hxt⟩ | hxt
  all_goals
    unfold appendA
    simp only [ht, hxt, hok, hlen, hsz, hel, Bool.not_true, Bool.false_eq_true, if_false]
    have hel2 := ha.elems hcs hz
    cases ha with
    | none ex z =>
      have hm : m = 0 := by
        rcases Nat.eq_zero_or_pos m with h0 | h0
        · exact h0
        · have := Nat.mul_pos h0 hz; simp at hcs; omega
      subst hm
      by_cases hn : n = 0
      · subst hn
        have : new = [] := List.eq_nil_of_length_eq_zero (by simpa using hnew)
        subst this
        exact ⟨_, h, rfl, .none _ _, Keeps.refl _ _⟩
      · dsimp only
        rw [if_neg (by omega), if_pos ⟨hroom, hby, hzl, hmx⟩, hel2]
        refine ⟨_, _, rfl, ?_, (Keeps.refl _ _).push hb _⟩
        rw [Nat.zero_add]
        exact .some _ _ _ _ (by rw [AH.get_push, if_pos rfl]) hb (by simp) (by simpa using hnew)
    | some i m' ex cs hi hbi hs hl2 =>
      have hm : m' = m := Nat.eq_of_mul_eq_mul_right hz (hl2.symm.trans hcs)
      subst hm
      by_cases hn : n = 0
      · subst hn
        have : new = [] := List.eq_nil_of_length_eq_zero (by simpa using hnew)
        subst this
        simp only [Nat.add_zero, Nat.le_refl, if_true, List.append_nil]
        exact ⟨_, h, rfl, .some i m' ex cs hi hbi hs hl2, Keeps.refl _ _⟩
      · dsimp only
        rw [if_neg (by omega), if_pos ⟨hroom, hby, hzl, hmx⟩, hel2]
        have hl3 : (cs ++ new).length = (m' + n) * sz := by rw [List.length_append, hl2, hnew, Nat.add_mul]
        cases ex with
        | true =>
          simp only [if_true]
          exact ⟨_, _, rfl, .some _ _ _ _ (by rw [AH.get_push, if_pos rfl]) hb (by simp) hl3, (Keeps.refl _ _).push hb _⟩
        | false =>
          simp only [Bool.false_eq_true, if_false, hi, if_true]
          exact ⟨_, _, rfl, .some _ _ _ _ (by rw [AH.get_push]; simp) hb (by simp) hl3, ((Keeps.refl _ _).set hbi _).push (by simpa using hb) _⟩
/-- append of a literal. -/
theorem Tt.appendLit {T : Tys} {b : Nat} {h : AH} {t xt e : TypeId} {sz n m : Nat} {a : AV} {cs new : List AV} (ha : Tt b h sz a cs) (ht : (T t).desc = .slice e) (hxt : (T xt).desc = .slice e) (hok : okT T e = true)
    (hsz : (T e).size = sz) (hz : 0 < sz) (hzl : (T e).zero.length = sz) (hby : 0 < (T e).bytes) (hcs : cs.length = m * sz) (hnew : new.length = n * sz) (hn : 0 < n)
    (hroom : (m + n) * (T e).bytes ≤ 140737488355328) (hmx : m + n ≤ 9223372036854775807) (hb : b ≤ h.size) :
    ∃ z h', appendA T (h.push (.cells new)) t xt a (.slice (Option.some (h.size, 0)) n n sz true) = Option.some (z, h') ∧ Tt b h' sz z (cs ++ new) ∧ Keeps b h h' := by
  have k := (Keeps.refl b h).push hb (.cells new)
  have ha2 : Tt b (h.push (.cells new)) sz a cs := ha.keep ((Keeps.refl h.size h).push (Nat.le_refl _) (.cells new)) (Nat.le_refl _)
  have hx : Tt b (h.push (.cells new)) sz (.slice (Option.some (h.size, 0)) n n sz true) new := .some _ _ _ _ (by rw [AH.get_push, if_pos rfl]) hb (by simp) hnew
  obtain ⟨z, h', h1, h2, h3⟩ := ha2.append ht (.inl ⟨e, hxt⟩) hok hsz hz hzl hby hcs (hx.len hnew hz) (hx.elems hnew hz) hnew hroom hmx (by simp; omega)
  exact ⟨z, h', h1, h2, k.trans h3 (Nat.le_refl _)⟩

theorem Tt.lenB {T : Tys} {b : Nat} {h : AH} {t e sz n : Nat} {a : AV} {cs : List AV} (ha : Tt b h sz a cs) (ht : (T t).desc = .slice e) (hl : cs.length = n * sz) (hz : 0 < sz) : builtinA T h .len [t] [a] = Option.some (.int .i64 n, h) := by
  have := ha.len hl hz
  cases ha with
  | none ex z =>
    simp only [lenA, Option.some.injEq] at this
    subst this
    simp only [builtinA, ht]
  | some i m ex cs hi hbi hs hl2 =>
    simp only [lenA, Option.some.injEq] at this
    subst this
    simp only [builtinA, ht]
/-! ### Bytes -/
def cellsB (l : List Nat) : List AV := l.map fun x : Nat => .int .u8 (x : Int)
theorem cellsB_append (l r : List Nat) : cellsB (l ++ r) = cellsB l ++ cellsB r := by simp [cellsB]
theorem cellsB_length (l : List Nat) : (cellsB l).length = l.length := by simp [cellsB]
def strB (l : List Nat) : List UInt8 := l.map UInt8.ofNat
theorem bytesOf_cellsB : ∀ l : List Nat, bytesOf (cellsB l) = Option.some (strB l)
  | [] => rfl
  | x :: l => by
    have := bytesOf_cellsB l
    simp only [cellsB, List.map_cons, bytesOf] at this ⊢
    rw [this]
    simp [strB]
theorem Tt.convS {T : Tys} {b : Nat} {h : AH} {t u e : Nat} {a : AV} {l : List Nat} (ha : Tt b h 1 a (cellsB l)) (ht : (T t).desc = .slice e) (he : (T e).desc = .int .u8) (hu : (T u).desc = .string) : convA T h t u a = Option.some (.str (strB l), h) := by
  have h1 := ha.len (n := l.length) (by rw [cellsB_length]; omega) (by omega)
  have h2 := ha.elems (n := l.length) (by rw [cellsB_length]; omega) (by omega)
  have h3 := bytesOf_cellsB l
  generalize cellsB l = cs at ha h1 h2 h3
  cases ha with
  | none ex z =>
    simp only [lenA, Option.some.injEq] at h1
    rw [← h1] at h2
    simp only [convA, ht, hu, he, lenA, h2, h3, Option.map_some]
  | some i m ex cs hi hbi hs hl2 =>
    simp only [lenA, Option.some.injEq] at h1
    subst h1
    simp only [convA, ht, hu, he, lenA, h2, h3, Option.map_some]
end Go.Abs
