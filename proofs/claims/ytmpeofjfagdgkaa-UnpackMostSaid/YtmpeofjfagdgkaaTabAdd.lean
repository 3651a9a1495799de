/- table: Add, code and reference. -/
import Derived.Test.YtmpeofjfagdgkaaTabOps
set_option linter.unusedSimpArgs false
set_option linter.unusedVariables false
namespace Go.Proofs.Ytmpeofjfagdgkaa
open Go.Abs
open Int renaming reduceEq → i_0, reduceLE → i_1, reduceLT → i_2, reduceNe → i_3, reduceNeg → i_4, reduceAdd → i_5, reduceSub → i_6, reduceMul → i_7, reduceToNat → i_8
open Nat renaming reduceLT → n_0, reduceLeDiff → n_1, reduceEqDiff → n_2, reduceAdd → n_3, reduceSub → n_4, reduceMul → n_5
set_option maxRecDepth 100000
/-- What Add leaves. -/
def addL (M : Int) (x y : List UInt8) (l : List Fd) : List Fd := if W (sz1 (x, y, false)) ≤ M then shr (W (M - W (sz1 (x, y, false)))) l ++ [(x, y, false)] else shr (W (M - W (sz1 (x, y, false)))) l
theorem shr_len (lim : Int) : ∀ l, (shr lim l).length ≤ l.length
  | [] => Nat.le_refl _
  | x :: r => by
    have := shr_len lim r
    rw [shr_cons]; split
    · simp; omega
    · exact Nat.le_refl _
set_option maxHeartbeats 4000000 in
theorem tAdd (p i : Nat) (l : List Fd) (M : Int) (x y : List UInt8) (a : AV) (h0 : AH) (ht : Tb h0 p i l M a) (hl : l.length ≤ 1000000) :
    callW Try.prog Try.T 40 [.ptr (some (p, 0)), .str x, .str y] h0 fun v h' => But2 p i h0 h' ∧ ∃ a' i', Tb h' p i' (addL M x y l) M a' ∧ (i' = i ∨ h0.size ≤ i') := by
  refine callW_in (n := 48) (rs := []) (m := 48) Try.func40 rfl rfl rfl rfl fun tr ht => ?_; have e0 := ht 0 _ rfl; have e1 := ht 1 _ rfl; have e2 := ht 2 _ rfl; clear ht
  have hw : W (szs [(x, y, false)]) = W (sz1 (x, y, false)) := by simp [szs]
  unfold addL
  generalize hn : W (sz1 (x, y, false)) = n at *
  have qb := fun h : AH => bsR_agg (T := Try.T) (h := h) (t := 28) (e := 45) (n := 3) (cs := [.str x, .str y, .bool false]) rfl rfl rfl rfl (by omega) rfl rfl
  repeat' (first
      | with_reducible first | refine Nx.h ?_ | (refine hK _ _ ?_; clear hK K)
      | ((with_reducible refine q_eo ?_ ?_); exact rfl)
      | ((with_reducible first | (refine Ny.h ?_; intro K hK) | (refine c_drw (by decide +kernel) ?_; intro K hK) | refine c_cond ?_ | show endW _ _ _ _ _ | (refine Nz.h ?_ ?_ <;> intro _) | fail) <;> try simp (disch := first | exact dz | fail) only [go_sem, i_0, i_1, i_2, i_3, i_4, i_5, i_6, i_7, i_8, n_0, n_1, n_2, n_3, n_4, n_5, reduceCtorEq, reduceIte, e0, e1, e2, qb]))
  refine cM_hide fun hb hhb => ?_
  have zb : hb.size = h0.size + 2 := by rw [hhb]; simp
  have fb : ∀ b, b < h0.size → hb.get b = h0.get b := by
    intro b hb'; rw [hhb]; simp (disch := first | exact dz | fail) only [go_sem, i_0, i_1, i_2, i_3, i_4, i_5, i_6, i_7, i_8, n_0, n_1, n_2, n_3, n_4, n_5, reduceCtorEq, reduceIte]
  have gF : hb.get h0.size = some (.cells [.str x, .str y, .bool false]) := by rw [hhb]; simp (disch := first | exact dz | fail) only [go_sem, i_0, i_1, i_2, i_3, i_4, i_5, i_6, i_7, i_8, n_0, n_1, n_2, n_3, n_4, n_5, reduceCtorEq, reduceIte]
  have gB : hb.get (h0.size + 1) = some (.cells (EF.f (x, y, false))) := by rw [hhb]; simp (disch := first | exact dz | fail) only [go_sem, i_0, i_1, i_2, i_3, i_4, i_5, i_6, i_7, i_8, n_0, n_1, n_2, n_3, n_4, n_5, reduceCtorEq, reduceIte]; rfl
  obtain ⟨hg, hO, hps, his, hne⟩ := ht
  have sb : Sl EF hb (h0.size + 1) (.slice (some (h0.size + 1, 0)) 1 1 3 true) [(x, y, false)] := (Ow.full (E := EF) 1 true [(x, y, false)] (by rw [gB]; rfl) (by omega) rfl).sl
  refine callM_of (fieldSize _ _ _ _ sb (by simp)) ?_
  rintro v h1 ⟨rfl, k1⟩
  rw [hw]
  have z1 := k1.1
  have g1 : h1.get p = some (.cells [.int .i64 M, .int .i64 (W (szs l)), a]) := by rw [k1.2 p (by omega), fb p hps, hg]
  have t1 : Tb h1 p i l M a := ⟨g1, hO.frame (fun _ => by rw [k1.2 i (by omega), fb i his]) (by omega), by omega, by omega, hne⟩
  have f1 : h1.get h0.size = some (.cells [.str x, .str y, .bool false]) := by rw [k1.2 _ (by omega), gF]
  refine vI ?_; repeat' (first
      | with_reducible first | refine Nx.h ?_ | (refine hK _ _ ?_; clear hK K)
      | ((with_reducible refine q_eo ?_ ?_); exact rfl)
      | ((with_reducible first | refine vO ?_ | (refine Ny.h ?_; intro K hK) | (refine c_drw (by decide +kernel) ?_; intro K hK) | refine c_cond ?_ | show endW _ _ _ _ _ | (refine Nz.h ?_ ?_ <;> intro _) | fail) <;> try simp (disch := first | exact dz | fail) only [go_sem, i_0, i_1, i_2, i_3, i_4, i_5, i_6, i_7, i_8, n_0, n_1, n_2, n_3, n_4, n_5, reduceCtorEq, reduceIte, e0, e1, e2, g1]))
  refine callM_of (room p i l M (W (M - n)) a h1 t1 hl) ?_
  rintro v h2 ⟨⟨a2, t2⟩, b2⟩
  have hsl := shr_len (W (M - n)) l
  generalize hs : shr (W (M - n)) l = s at *
  have t2' := t2
  obtain ⟨hg2, hO2, hps2, his2, hne2⟩ := t2'
  have z2 := b2.1
  have f2 : h2.get h0.size = some (.cells [.str x, .str y, .bool false]) := by rw [b2.2 _ (by omega) (by omega) (by omega), f1]
  have keep2 : ∀ b, b < h0.size → ¬ b = p → ¬ b = i → h2.get b = h0.get b := fun b q1 q2 q3 => by rw [b2.2 b (by omega) q2 q3, k1.2 b (by omega), fb b q1]
  refine vI ?_; repeat' (first
      | with_reducible first | refine Nx.h ?_ | (refine hK _ _ ?_; clear hK K)
      | ((with_reducible refine q_eo ?_ ?_); exact rfl)
      | ((with_reducible first | refine vO ?_ | (refine Ny.h ?_; intro K hK) | (refine c_drw (by decide +kernel) ?_; intro K hK) | refine c_cond ?_ | show endW _ _ _ _ _ | (refine Nz.h ?_ ?_ <;> intro _) | fail) <;> try simp (disch := first | exact dz | fail) only [go_sem, i_0, i_1, i_2, i_3, i_4, i_5, i_6, i_7, i_8, n_0, n_1, n_2, n_3, n_4, n_5, reduceCtorEq, reduceIte, e0, e1, e2, hg2]))
  · refine c_looseW [(4, 7)] (by decide +kernel) ?_; repeat' (first
      | with_reducible first | refine Nx.h ?_ | (refine hK _ _ ?_; clear hK K)
      | ((with_reducible refine q_eo ?_ ?_); exact rfl)
      | ((with_reducible first | (refine Ny.h ?_; intro K hK) | (refine c_drw (by decide +kernel) ?_; intro K hK) | refine c_cond ?_ | show endW _ _ _ _ _ | (refine Nz.h ?_ ?_ <;> intro _) | fail) <;> try simp (disch := first | exact dz | fail) only [go_sem, i_0, i_1, i_2, i_3, i_4, i_5, i_6, i_7, i_8, n_0, n_1, n_2, n_3, n_4, n_5, reduceCtorEq, reduceIte, e0, e1, e2, hg2, f2, qb])
      | with_reducible refine obl_and (by simp (disch := first | exact dz | fail) only [go_sem, i_0, i_1, i_2, i_3, i_4, i_5, i_6, i_7, i_8, n_0, n_1, n_2, n_3, n_4, n_5, reduceCtorEq, reduceIte, e0, e1, e2, hg2, f2, qb]) ?_)
    refine Try.al28 (x, y, false) hO2 rfl rfl (by exact .mk) (by omega) fun z h3 i3 o3 hi3 z3 f3 => ?_
    obtain ⟨i4, o4, his4, hi4⟩ := Ow.pick o3 (i := i) (b := h2.size) (by omega) hi3
    have g3 := (f3 p hps2 hne2).trans hg2
    refine vI ?_; repeat' (first
      | with_reducible first | refine Nx.h ?_ | (refine hK _ _ ?_; clear hK K)
      | ((with_reducible refine q_eo ?_ ?_); exact rfl)
      | ((with_reducible first | refine vO ?_ | (refine Ny.h ?_; intro K hK) | (refine c_drw (by decide +kernel) ?_; intro K hK) | refine c_cond ?_ | show endW _ _ _ _ _ | (refine Nz.h ?_ ?_ <;> intro _) | fail) <;> try simp (disch := first | exact dz | fail) only [go_sem, i_0, i_1, i_2, i_3, i_4, i_5, i_6, i_7, i_8, n_0, n_1, n_2, n_3, n_4, n_5, reduceCtorEq, reduceIte, e0, e1, e2, hg2, g3])
      | with_reducible refine obl_and (by simp (disch := first | exact dz | fail) only [go_sem, i_0, i_1, i_2, i_3, i_4, i_5, i_6, i_7, i_8, n_0, n_1, n_2, n_3, n_4, n_5, reduceCtorEq, reduceIte, e0, e1, e2, hg2, g3]) ?_)
    try dsimp only
    have hws : IntKind.i64.wrap (W (szs s) + n) = W (szs (s ++ [(x, y, false)])) := by
      show W (W _ + n) = _
      rw [← hn, W_addl, W_addr, szs_app]; simp [szs]
    rw [hws, if_pos (by assumption)]
    refine ⟨⟨by simp; omega, fun b hb hbp hbi => ?_⟩, z, i4, ⟨by rw [AH.get_set, if_pos rfl], o4.frame (fun _ => by rw [AH.get_set, if_neg (by omega), AH.get_set, if_neg (by omega)]) (by simp), by simp; omega, by simp; omega, by omega⟩, by omega⟩
    rw [AH.get_set, if_neg hbp, AH.get_set, if_neg hbp, f3 b (by omega) hbi]
    exact keep2 b hb hbp hbi
  · rw [if_neg (by omega)]
    exact ⟨⟨by omega, keep2⟩, a2, i, t2, .inl rfl⟩
end Go.Proofs.Ytmpeofjfagdgkaa
