/- pack: numbers and texts as they stand in blocks, of code and reference. -/
import Derived.Test.YtmpeofjfagdgkaaPfxPlain
import Derived.Test.YtmpeofjfagdgkaaTabIter
import Derived.Test.YtmpeofjfagdgkaaHufBack
import Derived.Test.YtmpeofjfagdgkaaAbsB
set_option linter.unusedSimpArgs false
set_option linter.unusedVariables false
namespace Go.Proofs.Ytmpeofjfagdgkaa
open Go.Abs
open Int renaming reduceEq → i_0, reduceLE → i_1, reduceLT → i_2, reduceNe → i_3, reduceNeg → i_4, reduceAdd → i_5, reduceSub → i_6, reduceMul → i_7, reduceToNat → i_8
open Nat renaming reduceLT → n_0, reduceLeDiff → n_1, reduceEqDiff → n_2, reduceAdd → n_3, reduceSub → n_4, reduceMul → n_5
set_option maxRecDepth 100000
def numB (bits first n : Int) : List UInt8 := (putS bits first n).2
def textB (s : List UInt8) : List UInt8 := if 65536 < s.length then [] else if (bitsLen s + 7) / 8 < s.length then numB 7 128 ((bitsLen s + 7) / 8) ++ putB s else numB 7 0 s.length ++ s
theorem putL_len5 : ∀ (k n : Nat), n < 128 ^ (k + 1) → (putL n).length ≤ k + 1 := by
  intro k
  induction k with
  | zero => intro n h; rw [putL, if_neg (by omega)]; simp
  | succ k ih =>
    intro n h
    rw [putL]
    split
    · rw [List.length_cons]
      have : n / 128 < 128 ^ (k + 1) := by
        rw [Nat.div_lt_iff_lt_mul (by decide)]
        rw [Nat.pow_succ] at h; exact h
      have := ih _ this
      omega
    · simp
theorem numB_len (b f n : Int) : (numB b f n).length ≤ 6 := by
  unfold numB putS
  split
  · simp
  · split
    · simp
    · rename_i h1 h2
      simp only [List.length_cons]
      have hn : (n - (2 ^ b.toNat - 1)).toNat < 128 ^ (4 + 1) := by
        have hp := pow_le8 (b := b) (by omega) (by omega)
        have : (128 : Nat) ^ (4 + 1) = 34359738368 := by decide
        omega
      have := putL_len5 4 _ hn
      omega
/-- Bytes that were put behind a slice of one's own. -/
def AppB (h : AH) (i : Nat) (l : List UInt8) (v : AV) (h' : AH) : Prop := ∃ i', Ow E8 h' i' v l ∧ (i' = i ∨ h.size ≤ i') ∧ h.size ≤ h'.size ∧ ∀ j, j < h.size → ¬ j = i → h'.get j = h.get j
theorem AppB.new {h h' : AH} {l : List UInt8} {v : AV} (a : AppB h h.size l v h') : NewB h l v h' := by
  obtain ⟨i', o, hi, hz, hf⟩ := a
  exact ⟨⟨i', by omega, o⟩, hz, fun b hb => hf b hb (by omega)⟩
set_option maxHeartbeats 4000000 in
theorem number (a : AV) (i : Nat) (l : List UInt8) (b f n : Int) (h0 : AH) (ha : Ow E8 h0 i a l) (hl : l.length ≤ 10000000000) :
    callW Try.prog Try.T 39 [a, .int .i64 b, .int .i64 f, .int .i64 n] h0 fun v h' => AppB h0 i (l ++ numB b f n) v h' := by
  refine callW_hide fun KK hKK => ?_
  have hn := numB_len b f n
  refine callW_in (n := 21) (rs := [.tmp 8]) (m := 21) Try.func39 rfl rfl rfl rfl fun tr ht => ?_; have e0 := ht 0 _ rfl; have e1 := ht 1 _ rfl; have e2 := ht 2 _ rfl; have e3 := ht 3 _ rfl; clear ht
  repeat' (first
      | with_reducible first | refine Nx.h ?_ | (refine hK _ _ ?_; clear hK K)
      | ((with_reducible refine q_eo ?_ ?_); exact rfl)
      | ((with_reducible first | (refine Ny.h ?_; intro K hK) | (refine c_drw (by decide +kernel) ?_; intro K hK) | refine c_cond ?_ | show endW _ _ _ _ _ | (refine Nz.h ?_ ?_ <;> intro _) | fail) <;> try simp (disch := first | exact dz | fail) only [go_sem, i_0, i_1, i_2, i_3, i_4, i_5, i_6, i_7, i_8, n_0, n_1, n_2, n_3, n_4, n_5, reduceCtorEq, reduceIte, e0, e1, e2, e3]))
  refine callM_of (put b f n h0) ?_
  rintro v h1 ⟨p, rfl, ⟨j, hj, oj⟩, k1⟩
  have o1 := ha.frame (h' := h1) (fun hi => k1.2 i hi) k1.1
  have sj := oj.sl
  have z1 := k1.1
  refine vI ?_; repeat' (first
      | with_reducible first | refine Nx.h ?_ | (refine hK _ _ ?_; clear hK K)
      | ((with_reducible refine q_eo ?_ ?_); exact rfl)
      | ((with_reducible first | refine vO ?_ | (refine Ny.h ?_; intro K hK) | (refine c_drw (by decide +kernel) ?_; intro K hK) | refine c_cond ?_ | show endW _ _ _ _ _ | (refine Nz.h ?_ ?_ <;> intro _) | fail) <;> try simp (disch := first | exact dz | fail) only [go_sem, i_0, i_1, i_2, i_3, i_4, i_5, i_6, i_7, i_8, n_0, n_1, n_2, n_3, n_4, n_5, reduceCtorEq, reduceIte, e0, e1, e2, e3]))
  refine Try.ap33 o1 sj (by exact .mk) (by unfold numB at hn; omega) fun z h2 i2 o2 hi2 hz2 hf2 => ?_
  refine vI ?_; repeat' (first
      | with_reducible first | refine Nx.h ?_ | (refine hK _ _ ?_; clear hK K)
      | ((with_reducible refine q_eo ?_ ?_); exact rfl)
      | ((with_reducible first | refine vO ?_ | (refine Ny.h ?_; intro K hK) | (refine c_drw (by decide +kernel) ?_; intro K hK) | refine c_cond ?_ | show endW _ _ _ _ _ | (refine Nz.h ?_ ?_ <;> intro _) | fail) <;> try simp (disch := first | exact dz | fail) only [go_sem, i_0, i_1, i_2, i_3, i_4, i_5, i_6, i_7, i_8, n_0, n_1, n_2, n_3, n_4, n_5, reduceCtorEq, reduceIte, e0, e1, e2, e3]))
  exact hKK _ _ ⟨i2, o2, by omega, by omega, fun x hx hxi => by rw [hf2 x (by omega) hxi, k1.2 x hx]⟩
theorem bitsLen_nn (s : List UInt8) : 0 ≤ bitsLen s := by
  have := bitsLen_le s
  first | exact this.1 | omega
theorem putB_len2 (s : List UInt8) : ((putB s).length : Int) = (bitsLen s + 7) / 8 := put_len s
set_option maxHeartbeats 4000000 in
theorem text (s : List UInt8) (h0 : AH) : callW Try.prog Try.T 24 [.str s] h0 fun v h' => NewB h0 (textB s) v h' := by
  refine callW_hide fun KK hKK => ?_
  refine callW_in (n := 23) (rs := [.tmp 2]) (m := 23) Try.func24 rfl rfl rfl rfl fun tr ht => ?_; have e0 := ht 0 _ rfl; clear ht
  by_cases hs : 65536 < s.length
  · repeat' (first
      | with_reducible first | refine Nx.h ?_ | (refine hK _ _ ?_; clear hK K)
      | ((with_reducible refine q_eo ?_ ?_); exact rfl)
      | ((with_reducible first | (refine Ny.h ?_; intro K hK) | (refine c_drw (by decide +kernel) ?_; intro K hK) | refine c_cond ?_ | show endW _ _ _ _ _ | (refine Nz.h ?_ ?_ <;> intro _) | fail) <;> try simp (disch := first | exact dz | fail) only [go_sem, i_0, i_1, i_2, i_3, i_4, i_5, i_6, i_7, i_8, n_0, n_1, n_2, n_3, n_4, n_5, reduceCtorEq, reduceIte, e0]))
    exact hKK _ _ ⟨⟨_, Nat.le_refl _, by unfold textB; rw [if_pos hs]; exact .nil0 _ _⟩, Keeps.refl _ _⟩
  · have ht : textB s = if (bitsLen s + 7) / 8 < s.length then numB 7 128 ((bitsLen s + 7) / 8) ++ putB s else numB 7 0 s.length ++ s := by unfold textB; rw [if_neg hs]
    repeat' (first
      | with_reducible first | refine Nx.h ?_ | (refine hK _ _ ?_; clear hK K)
      | ((with_reducible refine q_eo ?_ ?_); exact rfl)
      | ((with_reducible first | (refine Ny.h ?_; intro K hK) | (refine c_drw (by decide +kernel) ?_; intro K hK) | refine c_cond ?_ | show endW _ _ _ _ _ | (refine Nz.h ?_ ?_ <;> intro _) | fail) <;> try simp (disch := first | exact dz | fail) only [go_sem, i_0, i_1, i_2, i_3, i_4, i_5, i_6, i_7, i_8, n_0, n_1, n_2, n_3, n_4, n_5, reduceCtorEq, reduceIte, e0]))
    refine callM_of (hlen s h0 (by omega)) ?_
    rintro v h1 ⟨rfl, k1⟩
    have hpl := putB_len2 s
    generalize hL : (bitsLen s + 7) / 8 = L at *
    by_cases hc : L < s.length
    · rw [if_pos hc] at ht
      refine vI ?_; repeat' (first
      | with_reducible first | refine Nx.h ?_ | (refine hK _ _ ?_; clear hK K)
      | ((with_reducible refine q_eo ?_ ?_); exact rfl)
      | ((with_reducible first | refine vO ?_ | (refine Ny.h ?_; intro K hK) | (refine c_drw (by decide +kernel) ?_; intro K hK) | refine c_cond ?_ | show endW _ _ _ _ _ | (refine Nz.h ?_ ?_ <;> intro _) | fail) <;> try simp (disch := first | exact dz | fail) only [go_sem, i_0, i_1, i_2, i_3, i_4, i_5, i_6, i_7, i_8, n_0, n_1, n_2, n_3, n_4, n_5, reduceCtorEq, reduceIte, e0]))
      refine callM_of (number (.slice none 0 0 0 true) h1.size [] 7 128 L h1 (.nil0 _ _) (by simp)) ?_
      rintro v2 h2 ⟨i2, o2, hi2, hz2, hf2⟩
      refine vI ?_; repeat' (first
      | with_reducible first | refine Nx.h ?_ | (refine hK _ _ ?_; clear hK K)
      | ((with_reducible refine q_eo ?_ ?_); exact rfl)
      | ((with_reducible first | refine vO ?_ | (refine Ny.h ?_; intro K hK) | (refine c_drw (by decide +kernel) ?_; intro K hK) | refine c_cond ?_ | show endW _ _ _ _ _ | (refine Nz.h ?_ ?_ <;> intro _) | fail) <;> try simp (disch := first | exact dz | fail) only [go_sem, i_0, i_1, i_2, i_3, i_4, i_5, i_6, i_7, i_8, n_0, n_1, n_2, n_3, n_4, n_5, reduceCtorEq, reduceIte, e0]))
      refine callM_of (hput s h2 (by omega)) ?_
      rintro v3 h3 ⟨⟨j, hj, oj⟩, k3⟩
      have o2' := o2.frame (h' := h3) (fun hi => k3.2 i2 hi) k3.1
      have hn := numB_len 7 128 L
      have z1 := k1.1
      have z3 := k3.1
      refine vI ?_; repeat' (first
      | with_reducible first | refine Nx.h ?_ | (refine hK _ _ ?_; clear hK K)
      | ((with_reducible refine q_eo ?_ ?_); exact rfl)
      | ((with_reducible first | refine vO ?_ | (refine Ny.h ?_; intro K hK) | (refine c_drw (by decide +kernel) ?_; intro K hK) | refine c_cond ?_ | show endW _ _ _ _ _ | (refine Nz.h ?_ ?_ <;> intro _) | fail) <;> try simp (disch := first | exact dz | fail) only [go_sem, i_0, i_1, i_2, i_3, i_4, i_5, i_6, i_7, i_8, n_0, n_1, n_2, n_3, n_4, n_5, reduceCtorEq, reduceIte, e0]))
      refine Try.ap33 o2' oj.sl (by exact .mk) (by simp only [List.nil_append]; omega) fun z h4 i4 o4 hi4 hz4 hf4 => ?_
      refine vI ?_; repeat' (first
      | with_reducible first | refine Nx.h ?_ | (refine hK _ _ ?_; clear hK K)
      | ((with_reducible refine q_eo ?_ ?_); exact rfl)
      | ((with_reducible first | refine vO ?_ | (refine Ny.h ?_; intro K hK) | (refine c_drw (by decide +kernel) ?_; intro K hK) | refine c_cond ?_ | show endW _ _ _ _ _ | (refine Nz.h ?_ ?_ <;> intro _) | fail) <;> try simp (disch := first | exact dz | fail) only [go_sem, i_0, i_1, i_2, i_3, i_4, i_5, i_6, i_7, i_8, n_0, n_1, n_2, n_3, n_4, n_5, reduceCtorEq, reduceIte, e0]))
      refine hKK _ _ ⟨⟨i4, by omega, by rw [ht]; simpa using o4⟩, by omega, fun b hb => ?_⟩
      rw [hf4 b (by omega) (by omega), k3.2 b (by omega), hf2 b (by omega) (by omega), k1.2 b hb]
    · rw [if_neg hc] at ht
      refine vI ?_; repeat' (first
      | with_reducible first | refine Nx.h ?_ | (refine hK _ _ ?_; clear hK K)
      | ((with_reducible refine q_eo ?_ ?_); exact rfl)
      | ((with_reducible first | refine vO ?_ | (refine Ny.h ?_; intro K hK) | (refine c_drw (by decide +kernel) ?_; intro K hK) | refine c_cond ?_ | show endW _ _ _ _ _ | (refine Nz.h ?_ ?_ <;> intro _) | fail) <;> try simp (disch := first | exact dz | fail) only [go_sem, i_0, i_1, i_2, i_3, i_4, i_5, i_6, i_7, i_8, n_0, n_1, n_2, n_3, n_4, n_5, reduceCtorEq, reduceIte, e0]))
      refine callM_of (number (.slice none 0 0 0 true) h1.size [] 7 0 s.length h1 (.nil0 _ _) (by simp)) ?_
      rintro v2 h2 ⟨i2, o2, hi2, hz2, hf2⟩
      have hn := numB_len 7 0 s.length
      have z1 := k1.1
      refine vI ?_; repeat' (first
      | with_reducible first | refine Nx.h ?_ | (refine hK _ _ ?_; clear hK K)
      | ((with_reducible refine q_eo ?_ ?_); exact rfl)
      | ((with_reducible first | refine vO ?_ | (refine Ny.h ?_; intro K hK) | (refine c_drw (by decide +kernel) ?_; intro K hK) | refine c_cond ?_ | show endW _ _ _ _ _ | (refine Nz.h ?_ ?_ <;> intro _) | fail) <;> try simp (disch := first | exact dz | fail) only [go_sem, i_0, i_1, i_2, i_3, i_4, i_5, i_6, i_7, i_8, n_0, n_1, n_2, n_3, n_4, n_5, reduceCtorEq, reduceIte, e0]))
      refine Try.as33_9 o2 (by simp only [List.nil_append]; omega) fun z h4 i4 o4 hi4 hz4 hf4 => ?_
      refine vI ?_; repeat' (first
      | with_reducible first | refine Nx.h ?_ | (refine hK _ _ ?_; clear hK K)
      | ((with_reducible refine q_eo ?_ ?_); exact rfl)
      | ((with_reducible first | refine vO ?_ | (refine Ny.h ?_; intro K hK) | (refine c_drw (by decide +kernel) ?_; intro K hK) | refine c_cond ?_ | show endW _ _ _ _ _ | (refine Nz.h ?_ ?_ <;> intro _) | fail) <;> try simp (disch := first | exact dz | fail) only [go_sem, i_0, i_1, i_2, i_3, i_4, i_5, i_6, i_7, i_8, n_0, n_1, n_2, n_3, n_4, n_5, reduceCtorEq, reduceIte, e0]))
      refine hKK _ _ ⟨⟨i4, by omega, by rw [ht]; simpa using o4⟩, by omega, fun b hb => ?_⟩
      rw [hf4 b (by omega) (by omega), hf2 b (by omega) (by omega), k1.2 b hb]
end Go.Proofs.Ytmpeofjfagdgkaa
