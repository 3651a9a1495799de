/- table: field.Size. -/
import Derived.Test.YtmpeofjfagdgkaaTabSize
set_option linter.unusedSimpArgs false
set_option linter.unusedVariables false
namespace Go.Proofs.Ytmpeofjfagdgkaa
open Go.Abs
open Int renaming reduceEq → i_0, reduceLE → i_1, reduceLT → i_2, reduceNe → i_3, reduceNeg → i_4, reduceAdd → i_5, reduceSub → i_6, reduceMul → i_7, reduceToNat → i_8
open Nat renaming reduceLT → n_0, reduceLeDiff → n_1, reduceEqDiff → n_2, reduceAdd → n_3, reduceSub → n_4, reduceMul → n_5
set_option maxRecDepth 100000
theorem szs_take {l : List Fd} {k : Nat} {x : Fd} (h : l[k]? = some x) : szs (l.take (k + 1)) = szs (l.take k) + sz1 x := by
  rw [List.take_add_one, h, szs_app]; simp [szs]
theorem bang_some {l : List Fd} {k : Nat} (h : k < l.length) : l[k]? = some (l[k]!) := by rw [getElem!_pos l k h]; exact List.getElem?_eq_getElem h
set_option maxHeartbeats 4000000 in
theorem fieldSize (a : AV) (i : Nat) (l : List Fd) (h0 : AH) (ha : Sl EF h0 i a l) (hl : l.length ≤ 140737488355328) : callW Try.prog Try.T 35 [a] h0 fun v h' => v = .int .i64 (W (szs l)) ∧ Keeps h0.size h0 h' := by
  refine callW_in (n := 24) (rs := [.tmp 2]) (m := 24) Try.func35 rfl rfl rfl rfl fun tr ht => ?_; have e0 := ht 0 _ rfl; clear ht
  repeat' (first
      | with_reducible first | refine Nx.h ?_ | (refine hK _ _ ?_; clear hK K)
      | ((with_reducible refine q_eo ?_ ?_); exact rfl)
      | ((with_reducible first | (refine Ny.h ?_; intro K hK) | (refine c_drw (by decide +kernel) ?_; intro K hK) | refine c_cond ?_ | show endW _ _ _ _ _ | (refine Nz.h ?_ ?_ <;> intro _) | fail) <;> try simp (disch := first | exact dz | fail) only [go_sem, i_0, i_1, i_2, i_3, i_4, i_5, i_6, i_7, i_8, n_0, n_1, n_2, n_3, n_4, n_5, reduceCtorEq, reduceIte, e0]))
  refine c_loopF 8388392 (fun m tm h => ∃ (k : Nat), tm.get 3 = .int .i64 (W (szs (l.take k))) ∧ tm.get 8 = .int .i64 k ∧ k ≤ l.length ∧ Keeps h0.size h0 h ∧ m = l.length - k) (l.length) (by kernel_rfl) ?_ ?_
  · refine ⟨0, ?_, ?_, by omega, Keeps.refl _ _, rfl⟩
    · (first | with_reducible rfl | (simp (disch := first | exact dz | fail) only [go_sem, i_0, i_1, i_2, i_3, i_4, i_5, i_6, i_7, i_8, n_0, n_1, n_2, n_3, n_4, n_5, reduceCtorEq, reduceIte] <;> first | with_reducible rfl | (congr 1 <;> omega)))
    · (first | with_reducible rfl | (simp (disch := first | exact dz | fail) only [go_sem, i_0, i_1, i_2, i_3, i_4, i_5, i_6, i_7, i_8, n_0, n_1, n_2, n_3, n_4, n_5, reduceCtorEq, reduceIte] <;> first | with_reducible rfl | (congr 1 <;> omega)))
  · rintro m tr2 h2 ho ⟨k, t3, t8, hk, hh, rfl⟩
    have k6 := ho 6 (Seen.of rfl); simp (disch := first | exact dz | fail) only [go_sem, i_0, i_1, i_2, i_3, i_4, i_5, i_6, i_7, i_8, n_0, n_1, n_2, n_3, n_4, n_5, reduceCtorEq, reduceIte, e0] at k6; have k7 := ho 7 (Seen.of rfl); simp (disch := first | exact dz | fail) only [go_sem, i_0, i_1, i_2, i_3, i_4, i_5, i_6, i_7, i_8, n_0, n_1, n_2, n_3, n_4, n_5, reduceCtorEq, reduceIte, e0] at k7
    have s2 : Sl EF h2 i a l := ha.frame (fun hi => hh.2 i hi) hh.1
    by_cases hc : k < l.length
    · rcases hx : l[k]! with ⟨x1, x2, x3⟩
      have hs := szs_take (bang_some hc)
      rw [hx] at hs
      have z2 := hh.1
      repeat' (first
      | with_reducible first | refine Nx.h ?_ | (refine hK _ _ ?_; clear hK K)
      | ((with_reducible refine q_eo ?_ ?_); exact rfl)
      | ((with_reducible first | (refine Ny.h ?_; intro K hK) | (refine c_drw (by decide +kernel) ?_; intro K hK) | refine c_cond ?_ | show endW _ _ _ _ _ | (refine Nz.h ?_ ?_ <;> intro _) | fail) <;> try simp (disch := first | exact dz | fail) only [go_sem, i_0, i_1, i_2, i_3, i_4, i_5, i_6, i_7, i_8, n_0, n_1, n_2, n_3, n_4, n_5, reduceCtorEq, reduceIte, e0, k6, k7, t3, t8, hx, EFf]))
      try dsimp only
      refine ⟨rfl, l.length - (k + 1), by omega, k + 1, ?_, ?_, by omega, ?_, rfl⟩
      · have : IntKind.i64.wrap (W (szs (List.take k l)) + IntKind.i64.wrap (IntKind.i64.wrap ((x1.length : Int) + x2.length) + 32)) = W (szs (List.take (k + 1) l)) := by
          rw [hs]; show W (W _ + W (W _ + 32)) = _
          rw [W_addl, W_addl, W_addr]; rfl
        rw [this]
        (first | with_reducible rfl | (simp (disch := first | exact dz | fail) only [go_sem, i_0, i_1, i_2, i_3, i_4, i_5, i_6, i_7, i_8, n_0, n_1, n_2, n_3, n_4, n_5, reduceCtorEq, reduceIte] <;> first | with_reducible rfl | (congr 1 <;> omega)))
      · (first | with_reducible rfl | (simp (disch := first | exact dz | fail) only [go_sem, i_0, i_1, i_2, i_3, i_4, i_5, i_6, i_7, i_8, n_0, n_1, n_2, n_3, n_4, n_5, reduceCtorEq, reduceIte] <;> first | with_reducible rfl | (congr 1 <;> omega)))
      · exact ((hh.push z2 _).set z2 _)
    · repeat' (first
      | with_reducible first | refine Nx.h ?_ | (refine hK _ _ ?_; clear hK K)
      | ((with_reducible refine q_eo ?_ ?_); exact rfl)
      | ((with_reducible first | (refine Ny.h ?_; intro K hK) | (refine c_drw (by decide +kernel) ?_; intro K hK) | refine c_cond ?_ | show endW _ _ _ _ _ | (refine Nz.h ?_ ?_ <;> intro _) | fail) <;> try simp (disch := first | exact dz | fail) only [go_sem, i_0, i_1, i_2, i_3, i_4, i_5, i_6, i_7, i_8, n_0, n_1, n_2, n_3, n_4, n_5, reduceCtorEq, reduceIte, e0, k6, k7, t3, t8]))
      all_goals try dsimp only
      have : List.take k l = l := List.take_of_length_le (by omega)
      rw [this]
      exact ⟨rfl, hh⟩
/-- Elements go from the front, in place. -/
theorem deleteF (a : AV) (i : Nat) (l : List Fd) (j : Int) (h0 : AH) (ha : Ow EF h0 i a l) (hl : l.length ≤ 1000000) (hj0 : 0 ≤ j) (hj1 : j ≤ l.length) :
    callW Try.prog Try.T 72 [a, .int .i64 0, .int .i64 j] h0 fun v h' => Ow EF h' i v (l.drop j.toNat) ∧ h'.size = h0.size ∧ ∀ b, ¬ b = i → h'.get b = h0.get b := by
  refine callW_in (n := 33) (rs := [.tmp 6]) (m := 33) Try.func72 rfl rfl rfl rfl fun tr ht => ?_; have e0 := ht 0 _ rfl; have e1 := ht 1 _ rfl; have e2 := ht 2 _ rfl; clear ht
  have hs := ha.sl
  cases ha with
  | nil0 ex z =>
    simp at hj1
    obtain rfl : j = 0 := by omega
    have q : sliceA Try.T 28 (.slice none 0 0 z ex) (some 0) (some 0) (some ((0 : Nat) : Int)) = some (.slice none 0 0 z true) := sl_3n (e := 45) rfl rfl
    repeat' (first
      | with_reducible first | refine Nx.h ?_ | (refine hK _ _ ?_; clear hK K)
      | ((with_reducible refine q_eo ?_ ?_); exact rfl)
      | ((with_reducible first | (refine Ny.h ?_; intro K hK) | (refine c_drw (by decide +kernel) ?_; intro K hK) | refine c_cond ?_ | show endW _ _ _ _ _ | (refine Nz.h ?_ ?_ <;> intro _) | fail) <;> try simp (disch := first | exact dz | fail) only [go_sem, i_0, i_1, i_2, i_3, i_4, i_5, i_6, i_7, i_8, n_0, n_1, n_2, n_3, n_4, n_5, reduceCtorEq, reduceIte, e0, e1, e2, q]))
    all_goals exact ⟨.nil0 _ _, fun _ _ => trivial⟩
  | blk n cap ex l junk hi hsz hn hc hjj =>
    subst hn
    have ho : Ow EF h0 i (.slice (some (i, 0)) l.length cap EF.sz ex) l := .blk _ cap ex l junk hi hsz rfl hc hjj
    have q := sl_3 (T := Try.T) (i := i) (o := 0) (len := l.length) (cap := cap) (z := EF.sz) (ex := ex) (t := 28) (e := 45) (lo := 0) (hi := j) (m := (l.length : Int)) rfl rfl rfl (by omega) hj0 (by omega) (by omega) hc
    by_cases h0 : j = 0
    · subst h0
      repeat' (first
      | with_reducible first | refine Nx.h ?_ | (refine hK _ _ ?_; clear hK K)
      | ((with_reducible refine q_eo ?_ ?_); exact rfl)
      | ((with_reducible first | (refine Ny.h ?_; intro K hK) | (refine c_drw (by decide +kernel) ?_; intro K hK) | refine c_cond ?_ | show endW _ _ _ _ _ | (refine Nz.h ?_ ?_ <;> intro _) | fail) <;> try simp (disch := first | exact dz | fail) only [go_sem, i_0, i_1, i_2, i_3, i_4, i_5, i_6, i_7, i_8, n_0, n_1, n_2, n_3, n_4, n_5, reduceCtorEq, reduceIte, e0, e1, e2, q]))
      all_goals exact ⟨ho, fun _ _ => trivial⟩
    · repeat' (first
      | with_reducible first | refine Nx.h ?_ | (refine hK _ _ ?_; clear hK K)
      | ((with_reducible refine q_eo ?_ ?_); exact rfl)
      | ((with_reducible first | (refine Ny.h ?_; intro K hK) | (refine c_drw (by decide +kernel) ?_; intro K hK) | refine c_cond ?_ | show endW _ _ _ _ _ | (refine Nz.h ?_ ?_ <;> intro _) | fail) <;> try simp (disch := first | exact dz | fail) only [go_sem, i_0, i_1, i_2, i_3, i_4, i_5, i_6, i_7, i_8, n_0, n_1, n_2, n_3, n_4, n_5, reduceCtorEq, reduceIte, e0, e1, e2, q]))
      have hfr : AV.part 0 0 (AV.slice (some (i, 0)) l.length cap EF.sz ex) = .slice (some (i, 0)) 0 cap EF.sz ex := by simp [AV.part]
      have hp := hs.part (lo := j) (hi := (l.length : Int)) hj0 hj1 (Int.le_refl _)
      have hlp : (l.drop j.toNat).take ((l.length : Int).toNat - j.toNat) = l.drop j.toNat := by
        rw [Int.toNat_natCast]; exact List.take_of_length_le (by rw [List.length_drop]; omega)
      rw [hlp] at hp
      rw [hfr]
      have hld : (l.drop j.toNat).length = l.length - j.toNat := List.length_drop
      obtain ⟨h1, q1, o1, z1, f1⟩ := (ho.front (k := 0) (by omega) ex).append_in (T := Try.T) (t := 28) (xt := 28) (e := 45) rfl ⟨_, rfl⟩ rfl rfl hp.lenA hp.elems (by rw [hld]; omega)
      rw [Nat.zero_add, hld] at q1 o1
      rw [q1]
      rw [List.take_zero, List.nil_append] at o1
      have l1 := o1.sl.len (T := Try.T) (h' := h1) (t := 28) (e := 45) rfl
      rw [hld] at l1
      have q2 := sl_2 (T := Try.T) (i := i) (o := 0) (len := l.length - j.toNat) (cap := cap) (z := EF.sz) (ex := ex) (t := 28) (e := 45) (lo := ((l.length - j.toNat : Nat) : Int)) (hi := (l.length : Int)) rfl rfl rfl (by omega) (by omega) (by omega) (by omega)
      rw [Int.toNat_natCast, Int.toNat_natCast, Nat.zero_add, show l.length - (l.length - j.toNat) = j.toNat by omega] at q2
      obtain ⟨h3, q3, o3, z3, f3⟩ := o1.clear_tail (T := Try.T) (t := 28) (e := 45) (m := j.toNat) (ex' := ex) (cap - (l.length - j.toNat)) rfl rfl rfl rfl (by omega)
      have q4 : builtinA Try.T h1 .clear [28] [AV.slice (some (i, (l.length - j.toNat) * EF.sz)) j.toNat (cap - (l.length - j.toNat)) EF.sz ex] = some (.tuple [], h3) := q3
      refine vI ?_; repeat' (first
      | with_reducible first | refine Nx.h ?_ | (refine hK _ _ ?_; clear hK K)
      | ((with_reducible refine q_eo ?_ ?_); exact rfl)
      | ((with_reducible first | refine vO ?_ | (refine Ny.h ?_; intro K hK) | (refine c_drw (by decide +kernel) ?_; intro K hK) | refine c_cond ?_ | show endW _ _ _ _ _ | (refine Nz.h ?_ ?_ <;> intro _) | fail) <;> try simp (disch := first | exact dz | fail) only [go_sem, i_0, i_1, i_2, i_3, i_4, i_5, i_6, i_7, i_8, n_0, n_1, n_2, n_3, n_4, n_5, reduceCtorEq, reduceIte, e0, e1, e2, l1, q2, q4]))
      try exact ⟨o3, z3.trans z1, fun b hb => (f3 b hb).trans (f1 b hb)⟩
end Go.Proofs.Ytmpeofjfagdgkaa
