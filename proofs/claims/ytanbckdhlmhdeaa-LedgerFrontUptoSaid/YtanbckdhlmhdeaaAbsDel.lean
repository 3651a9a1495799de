/- A slice from whose front elements are taken in place; three indices; clear. -/
import Derived.Test.YtanbckdhlmhdeaaAbsUnroll
set_option linter.unusedSimpArgs false
set_option linter.unusedVariables false
namespace Go.Abs
section del
variable {α : Type} {E : Enc α} {T : Tys} {h h' : AH} {i : Nat} {a : AV} {l : List α}
/-- A slice expression with three indices. -/
theorem sl_3 {t e : TypeId} {o len cap z : Nat} {ex : Bool} {lo hi m : Int} (ht : (T t).desc = .slice e) (he : okT T e = true) (hz : z = (T e).size) (h0 : 0 ≤ lo) (h1 : lo ≤ hi) (h2 : hi ≤ m) (h3 : m ≤ cap) (h4 : len ≤ cap) :
    sliceA T t (.slice (some (i, o)) len cap z ex) (some lo) (some hi) (some m) = some (.slice (some (i, o + lo.toNat * z)) (hi.toNat - lo.toNat) (m.toNat - lo.toNat) z true) := by
  simp only [sliceA, ht, he]
  simp only [Option.isSome_some, Option.isNone_some, Bool.false_eq_true, and_false, if_false, Bool.not_true, Option.getD_some]
  rw [if_pos ⟨h0, h1, h2, h3, h4⟩, if_pos hz]
  simp
theorem sl_3n {t e : TypeId} {z : Nat} {ex : Bool} (ht : (T t).desc = .slice e) (he : okT T e = true) :
    sliceA T t (.slice none 0 0 z ex) (some 0) (some 0) (some 0) = some (.slice none 0 0 z true) := by
  simp [sliceA, ht, he]
/-- A slice expression up to the capacity. -/
theorem sl_2 {t e : TypeId} {o len cap z : Nat} {ex : Bool} {lo hi : Int} (ht : (T t).desc = .slice e) (he : okT T e = true) (hz : z = (T e).size) (h0 : 0 ≤ lo) (h1 : lo ≤ hi) (h3 : hi ≤ cap) (h4 : len ≤ cap) :
    sliceA T t (.slice (some (i, o)) len cap z ex) (some lo) (some hi) none = some (.slice (some (i, o + lo.toNat * z)) (hi.toNat - lo.toNat) (cap - lo.toNat) z ex) := by
  simp only [sliceA, ht, he]
  simp only [Option.isSome_none, Bool.false_eq_true, false_and, if_false, Bool.not_true, Option.getD_some, Option.getD_none]
  rw [if_pos ⟨h0, h1, by omega, by omega, h4⟩, if_pos hz]
  simp
/-- The front alone; the block stays. -/
theorem Ow.front {n cap : Nat} {ex : Bool} (o : Ow E h i (.slice (some (i, 0)) n cap E.sz ex) l) {k : Nat} (hk : k ≤ n) (ex' : Bool) : Ow E h i (.slice (some (i, 0)) k cap E.sz ex') (l.take k) := by
  cases o with
  | blk n cap ex l junk hi hs hn hc hj =>
    refine .blk k cap ex' (l.take k) (E.all (l.drop k) ++ junk) ?_ hs (by rw [List.length_take]; omega) (by omega) ?_
    · rw [hi, ← List.append_assoc, ← E.all_app, List.take_append_drop]
    · rw [List.length_append, E.all_len, List.length_drop, hj, ← Nat.add_mul]
      congr 1; omega
/-- An append that finds room. -/
theorem Ow.append_in {n cap : Nat} {ex : Bool} (o : Ow E h i (.slice (some (i, 0)) n cap E.sz ex) l) {t xt e : TypeId} {x : AV} {new : List α} (ht : (T t).desc = .slice e) (hxt : ∃ e', (T xt).desc = .slice e') (hok : okT T e = true) (hsz : (T e).size = E.sz)
    (hlen : Abs.lenA x = some new.length) (hel : Abs.elems h E.sz new.length x = some (E.all new)) (hfit : n + new.length ≤ cap) :
    ∃ h', appendA T h t xt (.slice (some (i, 0)) n cap E.sz ex) x = some (.slice (some (i, 0)) (n + new.length) cap E.sz ex, h') ∧ Ow E h' i (.slice (some (i, 0)) (n + new.length) cap E.sz ex) (l ++ new) ∧ h'.size = h.size ∧ ∀ j, ¬ j = i → h'.get j = h.get j := by
  obtain ⟨e', hxt⟩ := hxt
  unfold appendA
  simp only [ht, hxt, hok, hlen, hsz, hel, Bool.not_true, Bool.false_eq_true, if_false]
  cases o with
  | blk n cap ex l junk hi hs hn hc hj =>
    subst hn
    rw [if_pos hfit]
    by_cases hn : new = []
    · subst hn
      have : E.all ([] : List α) = [] := rfl
      simp only [this, if_true, List.length_nil, Nat.add_zero, List.append_nil]
      exact ⟨h, rfl, .blk _ _ _ _ _ hi hs rfl hc hj, rfl, fun _ _ => rfl⟩
    · have hne : ¬ E.all new = [] := by
        intro e
        have := E.all_len new
        rw [e] at this
        have := Nat.mul_pos (List.length_pos_iff.2 hn) E.pos
        simp at *; omega
      rw [if_neg hne]; simp only [if_true]
      have hle : new.length * E.sz ≤ junk.length := by rw [hj]; exact Nat.mul_le_mul_right _ (by omega)
      have hov : over (E.all l ++ junk) (0 + l.length * E.sz) (E.all new) = E.all (l ++ new) ++ junk.drop (new.length * E.sz) := by
        unfold over
        rw [Nat.zero_add, ← E.all_len l, List.take_left, E.all_app, E.all_len new, ← List.drop_drop, List.drop_left]
      have hw : h.write i (0 + l.length * E.sz) (E.all new) = some (h.set i (.cells (E.all (l ++ new) ++ junk.drop (new.length * E.sz)))) := by
        rw [write_eq, hi, wrO_some (by rw [List.length_append, E.all_len, E.all_len]; omega), hov]
      rw [hw]
      refine ⟨_, rfl, ?_, by simp, fun j hne => by rw [AH.get_set, if_neg hne]⟩
      refine .blk _ _ _ _ _ (by rw [AH.get_set, if_pos rfl]) (by simpa using hs) (by simp) hfit ?_
      rw [List.length_drop, hj, ← Nat.sub_mul]
      congr 1; omega
/-- What lies behind the elements is cleared. -/
theorem Ow.clear_tail {n cap m : Nat} {ex ex' : Bool} (o : Ow E h i (.slice (some (i, 0)) n cap E.sz ex) l) {t e : TypeId} (c : Nat) (ht : (T t).desc = .slice e) (hok : okT T e = true) (hsz : (T e).size = E.sz) (hzl : (T e).zero.length = E.sz) (hm : n + m ≤ cap) :
    ∃ h', clearA T h t (.slice (some (i, n * E.sz)) m c E.sz ex') = some (.tuple [], h') ∧ Ow E h' i (.slice (some (i, 0)) n cap E.sz ex) l ∧ h'.size = h.size ∧ ∀ j, ¬ j = i → h'.get j = h.get j := by
  unfold clearA
  simp only [ht, hok, Bool.not_true, Bool.false_eq_true, if_false, hsz, hzl, and_self, if_true]
  by_cases h0 : m = 0
  · rw [if_pos h0]; exact ⟨h, rfl, o, rfl, fun _ _ => rfl⟩
  · rw [if_neg h0]
    cases o with
    | blk n cap ex l junk hi hs hn hc hj =>
      subst hn
      have hrep : ∀ k, (rep (T e).zero k).length = k * E.sz := by
        intro k
        induction k with
        | zero => simp [rep]
        | succ k ih => rw [rep, List.length_append, ih, hzl, Nat.add_mul]; omega
      have hle : m * E.sz ≤ junk.length := by rw [hj]; exact Nat.mul_le_mul_right _ (by omega)
      have hov : over (E.all l ++ junk) (l.length * E.sz) (rep (T e).zero m) = E.all l ++ (rep (T e).zero m ++ junk.drop (m * E.sz)) := by
        unfold over
        rw [← E.all_len l, List.take_left, hrep, ← List.drop_drop, List.drop_left, List.append_assoc]
      have hw : h.write i (l.length * E.sz) (rep (T e).zero m) = some (h.set i (.cells (E.all l ++ (rep (T e).zero m ++ junk.drop (m * E.sz))))) := by
        rw [write_eq, hi, wrO_some (by rw [List.length_append, E.all_len, hrep]; omega), hov]
      rw [hw]
      refine ⟨_, rfl, ?_, by simp, fun j hne => by rw [AH.get_set, if_neg hne]⟩
      refine .blk _ _ _ _ _ (by rw [AH.get_set, if_pos rfl]) (by simpa using hs) rfl hc ?_
      rw [List.length_append, hrep, List.length_drop, hj]
      rw [hj] at hle
      omega
/-- A slice written out of one element of several cells. -/
theorem bsR_agg {t e n : Nat} {cs : List AV} (h1 : (T t).desc = .slice e) (hok : okT T e = true) (hs : (T e).size = n) (hz : (T e).zero.length = n) (hn : n ≤ 1000) (hc : cs.length = n) (ho : cs.all AV.one = true) :
    bsR T h t 1 (some [(0, .agg cs)]) = some (.val (.slice (some (h.size, 0)) 1 1 n true) (h.push (.cells cs))) := by
  have h3 : fillA (fun i => some (i * (T e).size, (T e).size)) (rep (T e).zero 1) [(0, .agg cs)] = some cs := by
    have hl : (rep (T e).zero 1).length = n := by simp [rep, hz]
    simp only [fillA, hs, cells_agg, hc, hl, Nat.zero_mul, Nat.zero_add, ho]
    rw [if_pos (by simp)]
    unfold over
    rw [List.take_zero, List.nil_append, Nat.zero_add, hc, List.drop_of_length_le (by rw [hl]; exact Nat.le_refl _), List.append_nil]
  rw [bsR_some h1 ⟨hok, by rw [hs]; omega, by rw [hs]; exact hz⟩ h3, hs]
end del
section endr
variable {P : Program} {T : Tys}
/-- A range that ends in e, whatever it is. -/
theorem EndR_fin {l : Nat} {R : AO} {e : Ex} {tm tm0 : Tm} {ps : List Nat} {as b : Code} {mk : List Nat} {Q : Ex → St → Prop} {h2 : AH} (hR : R = .loop .ready none tm0 ps as b) (hl : h2.get l = some (R.fin e)) (hq : Q e ⟨tm, mk, h2.set l .dead⟩) : EndR l tm mk Q h2 := by
  subst hR
  cases e with
  | normal => exact EndR_none hl (by decide) hq
  | exit i => exact EndR_jump (e := .exit i) hl rfl (by intro h; cases h) hq
  | goto i => exact EndR_jump (e := .goto i) hl rfl (by intro h; cases h) hq
  | ret => exact EndR_jump (e := .ret) hl rfl (by intro h; cases h) hq
end endr
end Go.Abs
