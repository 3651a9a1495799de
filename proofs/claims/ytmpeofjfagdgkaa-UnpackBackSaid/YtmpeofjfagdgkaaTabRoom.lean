/- table: room, and the reference's Size and shrink. -/
import Derived.Test.YtmpeofjfagdgkaaTabField
set_option linter.unusedSimpArgs false
set_option linter.unusedVariables false
namespace Go.Proofs.Ytmpeofjfagdgkaa
open Go.Abs
open Int renaming reduceEq → i_0, reduceLE → i_1, reduceLT → i_2, reduceNe → i_3, reduceNeg → i_4, reduceAdd → i_5, reduceSub → i_6, reduceMul → i_7, reduceToNat → i_8
open Nat renaming reduceLT → n_0, reduceLeDiff → n_1, reduceEqDiff → n_2, reduceAdd → n_3, reduceSub → n_4, reduceMul → n_5
set_option maxRecDepth 100000
/-- The code's table: its block p, its list's block i. -/
structure Tb (h : AH) (p i : Nat) (l : List Fd) (m : Int) (a : AV) : Prop where
  g : h.get p = some (.cells [.int .i64 m, .int .i64 (W (szs l)), a])
  o : Ow EF h i a l
  ps : p < h.size
  is : i < h.size
  ne : ¬ p = i
/-- The reference's table. -/
structure Rb (h : AH) (p i : Nat) (l : List Fd) (m : Int) (a : AV) : Prop where
  g : h.get p = some (.cells [a, .int .i64 m])
  o : Ow EF h i a l
  ps : p < h.size
  is : i < h.size
  ne : ¬ p = i
/-- All but two blocks as they were. -/
def But2 (p i : Nat) (h h' : AH) : Prop := h.size ≤ h'.size ∧ ∀ b, b < h.size → ¬ b = p → ¬ b = i → h'.get b = h.get b
theorem shr_drop {lim : Int} {l : List Fd} {k : Nat} {x : Fd} (hx : l[k]? = some x) (hs : W (szs (l.drop k)) > lim) : shr lim (l.drop k) = shr lim (l.drop (k + 1)) := by
  have hk := (List.getElem?_eq_some_iff.1 hx).1
  rw [List.drop_eq_getElem_cons hk] at hs ⊢
  rw [shr, if_pos hs]
theorem shr_stop {lim : Int} {l : List Fd} (hs : ¬ W (szs l) > lim) : shr lim l = l := by
  cases l with
  | nil => rfl
  | cons x r => rw [shr, if_neg hs]
theorem szs_drop {l : List Fd} {k : Nat} {x : Fd} (h : l[k]? = some x) : szs (l.drop k) = sz1 x + szs (l.drop (k + 1)) := by
  have hk := List.getElem?_eq_some_iff.1 h
  rw [List.drop_eq_getElem_cons hk.1, hk.2, szs]
set_option maxHeartbeats 4000000 in
theorem room (p i : Nat) (l : List Fd) (M lim : Int) (a : AV) (h0 : AH) (ht : Tb h0 p i l M a) (hl : l.length ≤ 1000000) :
    callW Try.prog Try.T 57 [.ptr (some (p, 0)), .int .i64 lim] h0 fun v h' => (∃ a', Tb h' p i (shr lim l) M a') ∧ But2 p i h0 h' := by
  refine callW_in (n := 47) (rs := []) (m := 47) Try.func57 rfl rfl rfl rfl fun tr ht => ?_; have e0 := ht 0 _ rfl; have e1 := ht 1 _ rfl; clear ht
  repeat' (first
      | with_reducible first | refine Nx.h ?_ | (refine hK _ _ ?_; clear hK K)
      | ((with_reducible refine q_eo ?_ ?_); exact rfl)
      | ((with_reducible first | (refine Ny.h ?_; intro K hK) | (refine c_drw (by decide +kernel) ?_; intro K hK) | refine c_cond ?_ | show endW _ _ _ _ _ | (refine Nz.h ?_ ?_ <;> intro _) | fail) <;> try simp (disch := first | exact dz | fail) only [go_sem, i_0, i_1, i_2, i_3, i_4, i_5, i_6, i_7, i_8, n_0, n_1, n_2, n_3, n_4, n_5, reduceCtorEq, reduceIte, e0, e1]))
  refine c_loopF 274877906928 (fun m tm h => ∃ (k : Nat), tm.get 4 = .int .i64 k ∧ k ≤ l.length ∧ h.get p = some (.cells [.int .i64 M, .int .i64 (W (szs (l.drop k))), a]) ∧ h0.size ≤ h.size ∧ (∀ b, b < h0.size → ¬ b = p → h.get b = h0.get b) ∧ shr lim l = shr lim (l.drop k) ∧ m = l.length - k) (l.length) (by kernel_rfl) ?_ ?_
  · refine ⟨0, ?_, by omega, ht.g, Nat.le_refl _, fun _ _ _ => rfl, rfl, rfl⟩
    (first | with_reducible rfl | (simp (disch := first | exact dz | fail) only [go_sem, i_0, i_1, i_2, i_3, i_4, i_5, i_6, i_7, i_8, n_0, n_1, n_2, n_3, n_4, n_5, reduceCtorEq, reduceIte] <;> first | with_reducible rfl | (congr 1 <;> omega)))
  · rintro m' tr2 h2 ho ⟨k, t4, hk, hg, hz, hf, hsh, rfl⟩
    have k0 := ho 0 (Seen.of rfl); simp (disch := first | exact dz | fail) only [go_sem, i_0, i_1, i_2, i_3, i_4, i_5, i_6, i_7, i_8, n_0, n_1, n_2, n_3, n_4, n_5, reduceCtorEq, reduceIte, e0, e1] at k0; have k1 := ho 1 (Seen.of rfl); simp (disch := first | exact dz | fail) only [go_sem, i_0, i_1, i_2, i_3, i_4, i_5, i_6, i_7, i_8, n_0, n_1, n_2, n_3, n_4, n_5, reduceCtorEq, reduceIte, e0, e1] at k1
    obtain ⟨hg0, hO, hps, his, hne⟩ := ht
    have o2 : Ow EF h2 i a l := hO.frame (fun _ => hf i his (by omega)) hz
    have s2 := o2.sl
    have fin : ∀ (v : AV) (h3 : AH), Ow EF h3 i v (l.drop (k : Int).toNat) → h3.size = h2.size → (∀ b, ¬ b = i → h3.get b = h2.get b) → l.drop k = shr lim l → (∃ a', Tb (h3.set p (.cells [.int .i64 M, .int .i64 (W (szs (l.drop k))), v])) p i (shr lim l) M a') ∧ But2 p i h0 (h3.set p (.cells [.int .i64 M, .int .i64 (W (szs (l.drop k))), v])) := by
      intro v h3 o3 z3 f3 he
      rw [Int.toNat_natCast] at o3
      rw [← he]
      refine ⟨⟨v, by rw [AH.get_set, if_pos rfl], o3.frame (fun _ => by rw [AH.get_set, if_neg (by omega)]) (by simp), by simp; omega, by simp; omega, hne⟩, by simp; omega, fun b hb hbp hbi => ?_⟩
      rw [AH.get_set, if_neg hbp, f3 b hbi, hf b hb hbp]
    by_cases hc : k < l.length
    · rcases hx : l[k]! with ⟨x1, x2, x3⟩
      have hbx := bang_some hc
      rw [hx] at hbx
      repeat' (first
      | with_reducible first | refine Nx.h ?_ | (refine hK _ _ ?_; clear hK K)
      | ((with_reducible refine q_eo ?_ ?_); exact rfl)
      | ((with_reducible first | (refine Ny.h ?_; intro K hK) | (refine c_drw (by decide +kernel) ?_; intro K hK) | refine c_cond ?_ | show endW _ _ _ _ _ | (refine Nz.h ?_ ?_ <;> intro _) | fail) <;> try simp (disch := first | exact dz | fail) only [go_sem, i_0, i_1, i_2, i_3, i_4, i_5, i_6, i_7, i_8, n_0, n_1, n_2, n_3, n_4, n_5, reduceCtorEq, reduceIte, e0, e1, k0, k1, t4, hg, hx, EFf]))
      · rename_i hgt
        have qb := fun h : AH => bsR_agg (T := Try.T) (h := h) (t := 28) (e := 45) (n := 3) (cs := [.str x1, .str x2, .bool x3]) rfl rfl rfl rfl (by omega) rfl rfl
        have p2 : p < h2.size := by omega
        refine c_looseW [(3, 12), (3, 13)] (by decide +kernel) ?_; repeat' (first
      | with_reducible first | refine Nx.h ?_ | (refine hK _ _ ?_; clear hK K)
      | ((with_reducible refine q_eo ?_ ?_); exact rfl)
      | ((with_reducible first | (refine Ny.h ?_; intro K hK) | (refine c_drw (by decide +kernel) ?_; intro K hK) | refine c_cond ?_ | show endW _ _ _ _ _ | (refine Nz.h ?_ ?_ <;> intro _) | fail) <;> try simp (disch := first | exact dz | fail) only [go_sem, i_0, i_1, i_2, i_3, i_4, i_5, i_6, i_7, i_8, n_0, n_1, n_2, n_3, n_4, n_5, reduceCtorEq, reduceIte, e0, e1, k0, k1, t4, hg, hx, EFf, qb])
      | with_reducible refine obl_and (by simp (disch := first | exact dz | fail) only [go_sem, i_0, i_1, i_2, i_3, i_4, i_5, i_6, i_7, i_8, n_0, n_1, n_2, n_3, n_4, n_5, reduceCtorEq, reduceIte, e0, e1, k0, k1, t4, hg, hx, EFf, qb]) ?_)
        refine cM_hide fun hb hhb => ?_
        have sb : Sl EF hb h2.size (.slice (some (h2.size, 0)) 1 1 3 true) [(x1, x2, x3)] := (Ow.full (E := EF) 1 true [(x1, x2, x3)] (by rw [hhb]; simp (disch := first | exact dz | fail) only [go_sem, i_0, i_1, i_2, i_3, i_4, i_5, i_6, i_7, i_8, n_0, n_1, n_2, n_3, n_4, n_5, reduceCtorEq, reduceIte]; rfl) (by rw [hhb]; simp) rfl).sl
        refine callM_of (fieldSize _ _ _ _ sb (by simp)) ?_
        rintro v h4 ⟨rfl, hk4⟩
        have zb : hb.size = h2.size + 1 := by rw [hhb]; simp
        have gb : hb.get p = some (.cells [.int .i64 M, .int .i64 (W (szs (l.drop k))), a]) := by rw [hhb]; simp (disch := first | exact dz | fail) only [go_sem, i_0, i_1, i_2, i_3, i_4, i_5, i_6, i_7, i_8, n_0, n_1, n_2, n_3, n_4, n_5, reduceCtorEq, reduceIte, hg]
        have g4 := (hk4.2 p (by omega)).trans gb
        have z4 := hk4.1
        refine vI ?_; repeat' (first
      | with_reducible first | refine Nx.h ?_ | (refine hK _ _ ?_; clear hK K)
      | ((with_reducible refine q_eo ?_ ?_); exact rfl)
      | ((with_reducible first | refine vO ?_ | (refine Ny.h ?_; intro K hK) | (refine c_drw (by decide +kernel) ?_; intro K hK) | refine c_cond ?_ | show endW _ _ _ _ _ | (refine Nz.h ?_ ?_ <;> intro _) | fail) <;> try simp (disch := first | exact dz | fail) only [go_sem, i_0, i_1, i_2, i_3, i_4, i_5, i_6, i_7, i_8, n_0, n_1, n_2, n_3, n_4, n_5, reduceCtorEq, reduceIte, e0, e1, k0, k1, t4, hg, g4, gb, hx])
      | with_reducible refine obl_and (by simp (disch := first | exact dz | fail) only [go_sem, i_0, i_1, i_2, i_3, i_4, i_5, i_6, i_7, i_8, n_0, n_1, n_2, n_3, n_4, n_5, reduceCtorEq, reduceIte, e0, e1, k0, k1, t4, hg, g4, gb, hx]) ?_)
        try dsimp only
        have hw : IntKind.i64.wrap (W (szs (l.drop k)) - W (szs [(x1, x2, x3)])) = W (szs (l.drop (k + 1))) := by
          show W (W _ - W _) = _
          rw [W_subl, W_subr, szs_drop hbx]; congr 1; simp only [szs]; omega
        rw [hw]
        refine ⟨rfl, l.length - (k + 1), by omega, k + 1, ?_, by omega, by rw [AH.get_set, if_pos rfl], by simp; omega, fun b hb hbp => ?_, by rw [hsh]; exact shr_drop hbx hgt, rfl⟩
        · (first | with_reducible rfl | (simp (disch := first | exact dz | fail) only [go_sem, i_0, i_1, i_2, i_3, i_4, i_5, i_6, i_7, i_8, n_0, n_1, n_2, n_3, n_4, n_5, reduceCtorEq, reduceIte] <;> first | with_reducible rfl | (congr 1 <;> omega)))
        · rw [AH.get_set, if_neg hbp, hk4.2 b (by omega), hhb, AH.get_push, if_neg (by omega)]
          exact hf b hb hbp
      · refine callM_of (deleteF a i l k h2 o2 hl (by omega) (by omega)) ?_
        rintro v h3 ⟨o3, z3, f3⟩
        have g3 := (f3 p hne).trans hg
        refine vI ?_; repeat' (first
      | with_reducible first | refine Nx.h ?_ | (refine hK _ _ ?_; clear hK K)
      | ((with_reducible refine q_eo ?_ ?_); exact rfl)
      | ((with_reducible first | refine vO ?_ | (refine Ny.h ?_; intro K hK) | (refine c_drw (by decide +kernel) ?_; intro K hK) | refine c_cond ?_ | show endW _ _ _ _ _ | (refine Nz.h ?_ ?_ <;> intro _) | fail) <;> try simp (disch := first | exact dz | fail) only [go_sem, i_0, i_1, i_2, i_3, i_4, i_5, i_6, i_7, i_8, n_0, n_1, n_2, n_3, n_4, n_5, reduceCtorEq, reduceIte, e0, e1, k0, k1, t4, g3])
      | with_reducible refine obl_and (by simp (disch := first | exact dz | fail) only [go_sem, i_0, i_1, i_2, i_3, i_4, i_5, i_6, i_7, i_8, n_0, n_1, n_2, n_3, n_4, n_5, reduceCtorEq, reduceIte, e0, e1, k0, k1, t4, g3]) ?_)
        try dsimp only
        exact fin v h3 o3 z3 f3 (by rw [hsh]; exact (shr_stop (by assumption)).symm)
    · repeat' (first
      | with_reducible first | refine Nx.h ?_ | (refine hK _ _ ?_; clear hK K)
      | ((with_reducible refine q_eo ?_ ?_); exact rfl)
      | ((with_reducible first | (refine Ny.h ?_; intro K hK) | (refine c_drw (by decide +kernel) ?_; intro K hK) | refine c_cond ?_ | show endW _ _ _ _ _ | (refine Nz.h ?_ ?_ <;> intro _) | fail) <;> try simp (disch := first | exact dz | fail) only [go_sem, i_0, i_1, i_2, i_3, i_4, i_5, i_6, i_7, i_8, n_0, n_1, n_2, n_3, n_4, n_5, reduceCtorEq, reduceIte, e0, e1, k0, k1, t4, hg])
      | with_reducible refine obl_and (by simp (disch := first | exact dz | fail) only [go_sem, i_0, i_1, i_2, i_3, i_4, i_5, i_6, i_7, i_8, n_0, n_1, n_2, n_3, n_4, n_5, reduceCtorEq, reduceIte, e0, e1, k0, k1, t4, hg]) ?_)
      refine callM_of (deleteF a i l k h2 o2 hl (by omega) (by omega)) ?_
      rintro v h3 ⟨o3, z3, f3⟩
      have g3 := (f3 p hne).trans hg
      refine vI ?_; repeat' (first
      | with_reducible first | refine Nx.h ?_ | (refine hK _ _ ?_; clear hK K)
      | ((with_reducible refine q_eo ?_ ?_); exact rfl)
      | ((with_reducible first | refine vO ?_ | (refine Ny.h ?_; intro K hK) | (refine c_drw (by decide +kernel) ?_; intro K hK) | refine c_cond ?_ | show endW _ _ _ _ _ | (refine Nz.h ?_ ?_ <;> intro _) | fail) <;> try simp (disch := first | exact dz | fail) only [go_sem, i_0, i_1, i_2, i_3, i_4, i_5, i_6, i_7, i_8, n_0, n_1, n_2, n_3, n_4, n_5, reduceCtorEq, reduceIte, e0, e1, k0, k1, t4, g3])
      | with_reducible refine obl_and (by simp (disch := first | exact dz | fail) only [go_sem, i_0, i_1, i_2, i_3, i_4, i_5, i_6, i_7, i_8, n_0, n_1, n_2, n_3, n_4, n_5, reduceCtorEq, reduceIte, e0, e1, k0, k1, t4, g3]) ?_)
      try dsimp only
      exact fin v h3 o3 z3 f3 (by rw [hsh, List.drop_of_length_le (by omega)]; rfl)
theorem ldF0 {h : AH} {i k : Nat} {a : AV} {l : List Fd} {x1 x2 : List UInt8} {x3 : Bool} (s : Sl EF h i a l) (hc : k < l.length) (hx : l[k]! = (x1, x2, x3)) : loadA Try.T h 9 (a.at EF.sz 0 (k : Int)) = some (.str x1) :=
  s.ld (by omega) (by omega) (by rw [Int.toNat_natCast, hx]; rfl) (by decide) rfl rfl
theorem ldF1 {h : AH} {i k : Nat} {a : AV} {l : List Fd} {x1 x2 : List UInt8} {x3 : Bool} (s : Sl EF h i a l) (hc : k < l.length) (hx : l[k]! = (x1, x2, x3)) : loadA Try.T h 9 (a.at EF.sz 1 (k : Int)) = some (.str x2) :=
  s.ld (by omega) (by omega) (by rw [Int.toNat_natCast, hx]; rfl) (by decide) rfl rfl
theorem Ow.pick {α : Type} {E : Enc α} {h : AH} {i i' b : Nat} {a : AV} {l : List α} (o : Ow E h i' a l) (hi : i < h.size) (hc : i' = i ∨ b ≤ i') : ∃ k, Ow E h k a l ∧ k < h.size ∧ (k = i ∨ b ≤ k) := by
  cases o with
  | nil0 ex z => exact ⟨i, .nil0 ex z, hi, .inl rfl⟩
  | blk n cap ex l junk q hs hn hc' hj => exact ⟨i', .blk n cap ex l junk q hs hn hc' hj, hs, hc⟩
set_option maxHeartbeats 4000000 in
theorem refSize (p i : Nat) (l : List Fd) (M : Int) (a : AV) (h0 : AH) (ht : Rb h0 p i l M a) (hl : l.length ≤ 1000000) :
    callW Try.prog Try.T 23 [.ptr (some (p, 0))] h0 fun v h' => v = .int .i64 (W (szs l)) ∧ h' = h0 := by
  obtain ⟨hg, hO, hps, his, hne⟩ := ht
  have s2 := hO.sl
  refine callW_in (n := 37) (rs := [.tmp 2]) (m := 37) Try.func23 rfl rfl rfl rfl fun tr ht => ?_; have e0 := ht 0 _ rfl; clear ht
  repeat' (first
      | with_reducible first | refine Nx.h ?_ | (refine hK _ _ ?_; clear hK K)
      | ((with_reducible refine q_eo ?_ ?_); exact rfl)
      | ((with_reducible first | (refine Ny.h ?_; intro K hK) | (refine c_drw (by decide +kernel) ?_; intro K hK) | refine c_cond ?_ | show endW _ _ _ _ _ | (refine Nz.h ?_ ?_ <;> intro _) | fail) <;> try simp (disch := first | exact dz | fail) only [go_sem, i_0, i_1, i_2, i_3, i_4, i_5, i_6, i_7, i_8, n_0, n_1, n_2, n_3, n_4, n_5, reduceCtorEq, reduceIte, e0]))
  refine c_loopF 68719476728 (fun m tm h => ∃ (k : Nat), tm.get 3 = .int .i64 (W (szs (l.take k))) ∧ tm.get 4 = .int .i64 k ∧ k ≤ l.length ∧ h = h0 ∧ m = l.length - k) (l.length) (by kernel_rfl) ?_ ?_
  · refine ⟨0, ?_, ?_, by omega, rfl, rfl⟩
    · (first | with_reducible rfl | (simp (disch := first | exact dz | fail) only [go_sem, i_0, i_1, i_2, i_3, i_4, i_5, i_6, i_7, i_8, n_0, n_1, n_2, n_3, n_4, n_5, reduceCtorEq, reduceIte] <;> first | with_reducible rfl | (congr 1 <;> omega)))
    · (first | with_reducible rfl | (simp (disch := first | exact dz | fail) only [go_sem, i_0, i_1, i_2, i_3, i_4, i_5, i_6, i_7, i_8, n_0, n_1, n_2, n_3, n_4, n_5, reduceCtorEq, reduceIte] <;> first | with_reducible rfl | (congr 1 <;> omega)))
  · rintro m tr2 h2 ho ⟨k, t3, t4, hk, rfl, rfl⟩
    have k0 := ho 0 (Seen.of rfl); simp (disch := first | exact dz | fail) only [go_sem, i_0, i_1, i_2, i_3, i_4, i_5, i_6, i_7, i_8, n_0, n_1, n_2, n_3, n_4, n_5, reduceCtorEq, reduceIte, e0] at k0
    by_cases hc : k < l.length
    · rcases hx : l[k]! with ⟨x1, x2, x3⟩
      have hs := szs_take (bang_some hc)
      rw [hx] at hs
      have l0 := ldF0 s2 hc hx
      have l1 := ldF1 s2 hc hx
      repeat' (first
      | with_reducible first | refine Nx.h ?_ | (refine hK _ _ ?_; clear hK K)
      | ((with_reducible refine q_eo ?_ ?_); exact rfl)
      | ((with_reducible first | (refine Ny.h ?_; intro K hK) | (refine c_drw (by decide +kernel) ?_; intro K hK) | refine c_cond ?_ | show endW _ _ _ _ _ | (refine Nz.h ?_ ?_ <;> intro _) | fail) <;> try simp (disch := first | exact dz | fail) only [go_sem, i_0, i_1, i_2, i_3, i_4, i_5, i_6, i_7, i_8, n_0, n_1, n_2, n_3, n_4, n_5, reduceCtorEq, reduceIte, e0, k0, t3, t4, hg, l0, l1]))
      try dsimp only
      have hw : IntKind.i64.wrap (W (szs (List.take k l)) + IntKind.i64.wrap (IntKind.i64.wrap ((x1.length : Int) + x2.length) + 32)) = W (szs (List.take (k + 1) l)) := by
        rw [hs]; show W (W _ + W (W _ + 32)) = _
        rw [W_addl, W_addl, W_addr]; rfl
      rw [hw]
      refine ⟨rfl, l.length - (k + 1), by omega, k + 1, ?_, ?_, by omega, rfl, rfl⟩
      · (first | with_reducible rfl | (simp (disch := first | exact dz | fail) only [go_sem, i_0, i_1, i_2, i_3, i_4, i_5, i_6, i_7, i_8, n_0, n_1, n_2, n_3, n_4, n_5, reduceCtorEq, reduceIte] <;> first | with_reducible rfl | (congr 1 <;> omega)))
      · (first | with_reducible rfl | (simp (disch := first | exact dz | fail) only [go_sem, i_0, i_1, i_2, i_3, i_4, i_5, i_6, i_7, i_8, n_0, n_1, n_2, n_3, n_4, n_5, reduceCtorEq, reduceIte] <;> first | with_reducible rfl | (congr 1 <;> omega)))
    · repeat' (first
      | with_reducible first | refine Nx.h ?_ | (refine hK _ _ ?_; clear hK K)
      | ((with_reducible refine q_eo ?_ ?_); exact rfl)
      | ((with_reducible first | (refine Ny.h ?_; intro K hK) | (refine c_drw (by decide +kernel) ?_; intro K hK) | refine c_cond ?_ | show endW _ _ _ _ _ | (refine Nz.h ?_ ?_ <;> intro _) | fail) <;> try simp (disch := first | exact dz | fail) only [go_sem, i_0, i_1, i_2, i_3, i_4, i_5, i_6, i_7, i_8, n_0, n_1, n_2, n_3, n_4, n_5, reduceCtorEq, reduceIte, e0, k0, t3, t4, hg]))
      rw [List.take_of_length_le (by omega)]
/-- A list without its eldest, copied. -/
theorem shr_cons {lim : Int} {x : Fd} {r : List Fd} : shr lim (x :: r) = if W (szs (x :: r)) > lim then shr lim r else x :: r := rfl
set_option maxHeartbeats 4000000 in
theorem shrink (p i : Nat) (l : List Fd) (M n : Int) (a : AV) (h0 : AH) (ht : Rb h0 p i l M a) (hl : l.length ≤ 1000000) :
    callW Try.prog Try.T 62 [.ptr (some (p, 0)), .int .i64 n] h0 fun v h' => (∃ a' i', Rb h' p i' (shr (W (M - n)) l) M a' ∧ (i' = i ∨ h0.size ≤ i')) ∧ But2 p i h0 h' := by
  refine callW_in (n := 52) (rs := []) (m := 52) Try.func62 rfl rfl rfl rfl fun tr ht => ?_; have e0 := ht 0 _ rfl; have e1 := ht 1 _ rfl; clear ht
  repeat' (first
      | with_reducible first | refine Nx.h ?_ | (refine hK _ _ ?_; clear hK K)
      | ((with_reducible refine q_eo ?_ ?_); exact rfl)
      | ((with_reducible first | (refine Ny.h ?_; intro K hK) | (refine c_drw (by decide +kernel) ?_; intro K hK) | refine c_cond ?_ | show endW _ _ _ _ _ | (refine Nz.h ?_ ?_ <;> intro _) | fail) <;> try simp (disch := first | exact dz | fail) only [go_sem, i_0, i_1, i_2, i_3, i_4, i_5, i_6, i_7, i_8, n_0, n_1, n_2, n_3, n_4, n_5, reduceCtorEq, reduceIte, e0, e1]))
  refine callM_of (refSize p i l M a h0 ht hl) ?_
  rintro v h1 ⟨rfl, rfl⟩
  refine vI ?_; repeat' (first
      | with_reducible first | refine Nx.h ?_ | (refine hK _ _ ?_; clear hK K)
      | ((with_reducible refine q_eo ?_ ?_); exact rfl)
      | ((with_reducible first | refine vO ?_ | (refine Ny.h ?_; intro K hK) | (refine c_drw (by decide +kernel) ?_; intro K hK) | refine c_cond ?_ | show endW _ _ _ _ _ | (refine Nz.h ?_ ?_ <;> intro _) | fail) <;> try simp (disch := first | exact dz | fail) only [go_sem, i_0, i_1, i_2, i_3, i_4, i_5, i_6, i_7, i_8, n_0, n_1, n_2, n_3, n_4, n_5, reduceCtorEq, reduceIte, e0, e1]))
  refine c_loopF 4503599627370384 (fun m tm h => ∃ (r : List Fd) (a1 : AV) (i1 : Nat), tm.get 4 = .int .i64 (W (szs r)) ∧ Rb h p i1 r M a1 ∧ (i1 = i ∨ h1.size ≤ i1) ∧ But2 p i h1 h ∧ shr (W (M - n)) l = shr (W (M - n)) r ∧ r.length ≤ l.length ∧ m = r.length) (l.length) (by kernel_rfl) ?_ ?_
  · refine ⟨l, a, i, ?_, ht, .inl rfl, ⟨Nat.le_refl _, fun _ _ _ _ => rfl⟩, rfl, Nat.le_refl _, rfl⟩
    (first | with_reducible rfl | (simp (disch := first | exact dz | fail) only [go_sem, i_0, i_1, i_2, i_3, i_4, i_5, i_6, i_7, i_8, n_0, n_1, n_2, n_3, n_4, n_5, reduceCtorEq, reduceIte] <;> first | with_reducible rfl | (congr 1 <;> omega)))
  · rintro m tr2 h2 ho ⟨r, a1, i1, t4, ht2, hi1, hb2, hsh, hrl, rfl⟩
    have k0 := ho 0 (Seen.of rfl); simp (disch := first | exact dz | fail) only [go_sem, i_0, i_1, i_2, i_3, i_4, i_5, i_6, i_7, i_8, n_0, n_1, n_2, n_3, n_4, n_5, reduceCtorEq, reduceIte, e0, e1] at k0; have k1 := ho 1 (Seen.of rfl); simp (disch := first | exact dz | fail) only [go_sem, i_0, i_1, i_2, i_3, i_4, i_5, i_6, i_7, i_8, n_0, n_1, n_2, n_3, n_4, n_5, reduceCtorEq, reduceIte, e0, e1] at k1
    obtain ⟨hg, hO, hps, his, hne⟩ := ht2
    have s2 := hO.sl
    have fin : r = shr (W (M - n)) r → (∃ a' i', Rb h2 p i' (shr (W (M - n)) l) M a' ∧ (i' = i ∨ h1.size ≤ i')) ∧ But2 p i h1 h2 := fun e => ⟨⟨a1, i1, by rw [hsh, ← e]; exact ⟨hg, hO, hps, his, hne⟩, hi1⟩, hb2⟩
    cases r with
    | nil =>
      repeat' (first
      | with_reducible first | refine Nx.h ?_ | (refine hK _ _ ?_; clear hK K)
      | ((with_reducible refine q_eo ?_ ?_); exact rfl)
      | ((with_reducible first | (refine Ny.h ?_; intro K hK) | (refine c_drw (by decide +kernel) ?_; intro K hK) | refine c_cond ?_ | show endW _ _ _ _ _ | (refine Nz.h ?_ ?_ <;> intro _) | fail) <;> try simp (disch := first | exact dz | fail) only [go_sem, i_0, i_1, i_2, i_3, i_4, i_5, i_6, i_7, i_8, n_0, n_1, n_2, n_3, n_4, n_5, reduceCtorEq, reduceIte, e0, e1, k0, k1, t4, hg, List.length_nil]))
      all_goals exact fin rfl
    | cons x r =>
      rcases x with ⟨x1, x2, x3⟩
      have l0 : loadA Try.T h2 9 (a1.at EF.sz 0 0) = some (.str x1) := ldF0 (k := 0) (x1 := x1) (x2 := x2) (x3 := x3) s2 (by simp) rfl
      have l1 : loadA Try.T h2 9 (a1.at EF.sz 1 0) = some (.str x2) := ldF1 (k := 0) (x1 := x1) (x2 := x2) (x3 := x3) s2 (by simp) rfl
      have hlc : (((x1, x2, x3) :: r : List Fd).length : Int) = r.length + 1 := by simp
      have hp := s2.part (lo := 1) (hi := (((x1, x2, x3) :: r : List Fd).length : Int)) (by omega) (by omega) (Int.le_refl _)
      have hlp : ((((x1, x2, x3) :: r : List Fd).drop (1 : Int).toNat).take ((((x1, x2, x3) :: r : List Fd).length : Int).toNat - (1 : Int).toNat)) = r := by
        show r.take _ = r
        exact List.take_of_length_le (by simp)
      rw [hlp] at hp
      have hrl' : r.length + 1 ≤ l.length := hrl
      repeat' (first
      | with_reducible first | refine Nx.h ?_ | (refine hK _ _ ?_; clear hK K)
      | ((with_reducible refine q_eo ?_ ?_); exact rfl)
      | ((with_reducible first | (refine Ny.h ?_; intro K hK) | (refine c_drw (by decide +kernel) ?_; intro K hK) | refine c_cond ?_ | show endW _ _ _ _ _ | (refine Nz.h ?_ ?_ <;> intro _) | fail) <;> try simp (disch := first | exact dz | fail) only [go_sem, i_0, i_1, i_2, i_3, i_4, i_5, i_6, i_7, i_8, n_0, n_1, n_2, n_3, n_4, n_5, reduceCtorEq, reduceIte, e0, e1, k0, k1, t4, hg, hlc, l0, l1]))
      · rename_i hgt
        refine Try.ap28 (Ow.nil0 (E := EF) (i := i1) _ _) hp (by exact .mk) (by simp; omega) fun z h3 i3 o3 hi3 z3 f3 => ?_
        rw [List.nil_append] at o3
        obtain ⟨i4, o4, his4, hi4⟩ := Ow.pick o3 (i := i1) (b := h2.size) (by omega) hi3
        have g3 := (f3 p hps hne).trans hg
        refine vI ?_; repeat' (first
      | with_reducible first | refine Nx.h ?_ | (refine hK _ _ ?_; clear hK K)
      | ((with_reducible refine q_eo ?_ ?_); exact rfl)
      | ((with_reducible first | refine vO ?_ | (refine Ny.h ?_; intro K hK) | (refine c_drw (by decide +kernel) ?_; intro K hK) | refine c_cond ?_ | show endW _ _ _ _ _ | (refine Nz.h ?_ ?_ <;> intro _) | fail) <;> try simp (disch := first | exact dz | fail) only [go_sem, i_0, i_1, i_2, i_3, i_4, i_5, i_6, i_7, i_8, n_0, n_1, n_2, n_3, n_4, n_5, reduceCtorEq, reduceIte, e0, e1, k0, k1, t4, hg, g3]))
        try dsimp only
        have hw : IntKind.i64.wrap (W (szs ((x1, x2, x3) :: r)) - IntKind.i64.wrap (IntKind.i64.wrap ((x1.length : Int) + x2.length) + 32)) = W (szs r) := by
          show W (W _ - W (W _ + 32)) = _
          rw [W_subl, W_addl, W_subr]; congr 1; simp only [szs, sz1]; omega
        rw [hw]
        have hz2 := hb2.1
        refine ⟨rfl, r.length, by omega, r, z, i4, ?_, ⟨by rw [AH.get_set, if_pos rfl], o4.frame (fun _ => by rw [AH.get_set, if_neg (by omega)]) (by simp), by simp; omega, by simp; omega, by omega⟩, by omega, ⟨by simp; omega, fun b hb hbp hbi => ?_⟩, by rw [hsh, shr_cons, if_pos hgt], by omega, rfl⟩
        · (first | with_reducible rfl | (simp (disch := first | exact dz | fail) only [go_sem, i_0, i_1, i_2, i_3, i_4, i_5, i_6, i_7, i_8, n_0, n_1, n_2, n_3, n_4, n_5, reduceCtorEq, reduceIte] <;> first | with_reducible rfl | (congr 1 <;> omega)))
        · rw [AH.get_set, if_neg hbp, f3 b (by omega) (by omega)]
          exact hb2.2 b hb hbp hbi
      · rename_i hgt
        exact fin (by rw [shr_cons, if_neg hgt])
end Go.Proofs.Ytmpeofjfagdgkaa
