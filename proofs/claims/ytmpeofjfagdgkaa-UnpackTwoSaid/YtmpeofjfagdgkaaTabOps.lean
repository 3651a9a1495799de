/- table: what is asked and what changes, code and reference. -/
import Derived.Test.YtmpeofjfagdgkaaTabRoom
set_option linter.unusedSimpArgs false
set_option linter.unusedVariables false
namespace Go.Proofs.Ytmpeofjfagdgkaa
open Go.Abs
open Int renaming reduceEq → i_0, reduceLE → i_1, reduceLT → i_2, reduceNe → i_3, reduceNeg → i_4, reduceAdd → i_5, reduceSub → i_6, reduceMul → i_7, reduceToNat → i_8
open Nat renaming reduceLT → n_0, reduceLeDiff → n_1, reduceEqDiff → n_2, reduceAdd → n_3, reduceSub → n_4, reduceMul → n_5
set_option maxRecDepth 100000
set_option maxHeartbeats 4000000 in
theorem tSize (p i : Nat) (l : List Fd) (M : Int) (a : AV) (h0 : AH) (ht : Tb h0 p i l M a) : callW Try.prog Try.T 46 [.ptr (some (p, 0))] h0 fun v h' => v = .int .i64 (W (szs l)) ∧ h' = h0 := by
  obtain ⟨hg, hO, hps, his, hne⟩ := ht
  refine callW_in (n := 9) (rs := [.tmp 2]) (m := 9) Try.func46 rfl rfl rfl rfl fun tr ht => ?_; have e0 := ht 0 _ rfl; clear ht
  repeat' (first
      | with_reducible first | refine Nx.h ?_ | (refine hK _ _ ?_; clear hK K)
      | ((with_reducible refine q_eo ?_ ?_); exact rfl)
      | ((with_reducible first | (refine Ny.h ?_; intro K hK) | (refine c_drw (by decide +kernel) ?_; intro K hK) | refine c_cond ?_ | show endW _ _ _ _ _ | (refine Nz.h ?_ ?_ <;> intro _) | fail) <;> try simp (disch := first | exact dz | fail) only [go_sem, i_0, i_1, i_2, i_3, i_4, i_5, i_6, i_7, i_8, n_0, n_1, n_2, n_3, n_4, n_5, reduceCtorEq, reduceIte, e0, hg]))
/-- What Resize answers and leaves. -/
def rsz (n M : Int) (l : List Fd) : Int × List Fd × Int := if n < 0 ∨ n > 65536 then (1, l, M) else (0, shr n l, n)
theorem But2.refl (p i : Nat) (h : AH) : But2 p i h h := ⟨Nat.le_refl _, fun _ _ _ _ => rfl⟩
set_option maxHeartbeats 4000000 in
theorem tResize (p i : Nat) (l : List Fd) (M n : Int) (a : AV) (h0 : AH) (ht : Tb h0 p i l M a) (hl : l.length ≤ 1000000) :
    callW Try.prog Try.T 53 [.ptr (some (p, 0)), .int .i64 n] h0 fun v h' => v = .int .i64 (rsz n M l).1 ∧ But2 p i h0 h' ∧ ∃ a', Tb h' p i (rsz n M l).2.1 (rsz n M l).2.2 a' := by
  refine callW_in (n := 22) (rs := [.tmp 4]) (m := 22) Try.func53 rfl rfl rfl rfl fun tr ht => ?_; have e0 := ht 0 _ rfl; have e1 := ht 1 _ rfl; clear ht
  have hg := ht.g
  unfold rsz
  repeat' (first
      | with_reducible first | refine Nx.h ?_ | (refine hK _ _ ?_; clear hK K)
      | ((with_reducible refine q_eo ?_ ?_); exact rfl)
      | ((with_reducible first | (refine Ny.h ?_; intro K hK) | (refine c_drw (by decide +kernel) ?_; intro K hK) | refine c_cond ?_ | show endW _ _ _ _ _ | (refine Nz.h ?_ ?_ <;> intro _) | fail) <;> try simp (disch := first | exact dz | fail) only [go_sem, i_0, i_1, i_2, i_3, i_4, i_5, i_6, i_7, i_8, n_0, n_1, n_2, n_3, n_4, n_5, reduceCtorEq, reduceIte, e0, e1, hg]))
  · rw [if_pos (by omega)]; exact ⟨rfl, But2.refl _ _ _, a, ht⟩
  · rw [if_pos (by omega)]; exact ⟨rfl, But2.refl _ _ _, a, ht⟩
  · obtain ⟨_, hO, hps, his, hne⟩ := ht
    refine cM_hide fun h1 hh => ?_
    have t1 : Tb h1 p i l n a := ⟨by rw [hh, AH.get_set, if_pos rfl], hO.frame (fun _ => by rw [hh, AH.get_set, if_neg (by omega)]) (by rw [hh]; simp), by rw [hh]; simpa using hps, by rw [hh]; simpa using his, hne⟩
    refine callM_of (room p i l n n a h1 t1 hl) ?_
    rintro v h2 ⟨⟨a2, t2⟩, b2⟩
    refine vI ?_; repeat' (first
      | with_reducible first | refine Nx.h ?_ | (refine hK _ _ ?_; clear hK K)
      | ((with_reducible refine q_eo ?_ ?_); exact rfl)
      | ((with_reducible first | refine vO ?_ | (refine Ny.h ?_; intro K hK) | (refine c_drw (by decide +kernel) ?_; intro K hK) | refine c_cond ?_ | show endW _ _ _ _ _ | (refine Nz.h ?_ ?_ <;> intro _) | fail) <;> try simp (disch := first | exact dz | fail) only [go_sem, i_0, i_1, i_2, i_3, i_4, i_5, i_6, i_7, i_8, n_0, n_1, n_2, n_3, n_4, n_5, reduceCtorEq, reduceIte, e0, e1]))
    rw [if_neg (by omega)]
    refine ⟨rfl, ⟨?_, fun b hb hbp hbi => ?_⟩, a2, t2⟩
    · have := b2.1; rw [hh] at this; simpa using this
    · rw [b2.2 b (by rw [hh]; simpa using hb) hbp hbi, hh, AH.get_set, if_neg hbp]
/-- What Get answers. -/
def getF (n : Int) (l : List Fd) : Fd × Int := if n < 1 ∨ n > l.length then (([], [], false), 6) else (l[l.length - n.toNat]!, 0)
theorem getF_at {n : Int} {l : List Fd} (h0 : 1 ≤ n) (h1 : n ≤ l.length) : ((l.length : Int) - n).toNat = l.length - n.toNat := by omega
set_option maxHeartbeats 4000000 in
theorem tGet (p i : Nat) (l : List Fd) (M n : Int) (a : AV) (h0 : AH) (ht : Tb h0 p i l M a) (hl : l.length ≤ 1000000) :
    callW Try.prog Try.T 87 [.ptr (some (p, 0)), .int .i64 n] h0 fun v h' => v = .tuple [.agg (EF.f (getF n l).1), .int .i64 (getF n l).2] ∧ Keeps h0.size h0 h' := by
  obtain ⟨hg, hO, hps, his, hne⟩ := ht
  have s2 := hO.sl
  refine callW_in (n := 35) (rs := [.cell 4 45, .tmp 5]) (m := 35) Try.func87 rfl rfl rfl rfl fun tr ht => ?_; have e0 := ht 0 _ rfl; have e1 := ht 1 _ rfl; clear ht
  unfold getF
  by_cases hc : n < 1 ∨ n > l.length
  · rw [if_pos hc]
    repeat' (first
      | with_reducible first | refine Nx.h ?_ | (refine hK _ _ ?_; clear hK K)
      | ((with_reducible refine q_eo ?_ ?_); exact rfl)
      | ((with_reducible first | (refine Ny.h ?_; intro K hK) | (refine c_drw (by decide +kernel) ?_; intro K hK) | refine c_cond ?_ | show endW _ _ _ _ _ | (refine Nz.h ?_ ?_ <;> intro _) | fail) <;> try simp (disch := first | exact dz | fail) only [go_sem, i_0, i_1, i_2, i_3, i_4, i_5, i_6, i_7, i_8, n_0, n_1, n_2, n_3, n_4, n_5, reduceCtorEq, reduceIte, e0, e1, hg]))
    all_goals first | exact ⟨rfl, ((Keeps.refl _ _).push (Nat.le_refl _) _).set (Nat.le_refl _) _⟩ | exact ((Keeps.refl _ _).push (Nat.le_refl _) _).set (Nat.le_refl _) _
  · rw [if_neg hc]
    have hld : ∀ c, loadA Try.T (h0.push c) 45 (a.at EF.sz 0 ((l.length : Int) - n)) = some (.agg (EF.f (l[l.length - n.toNat]!))) := by
      intro c
      rw [← getF_at (n := n) (l := l) (by omega) (by omega)]
      exact (s2.frame (h' := h0.push c) (fun _ => by rw [AH.get_push, if_neg (by omega)]) (by simp)).ldn (by omega) (by omega) rfl rfl rfl
    rcases hx : l[l.length - n.toNat]! with ⟨x1, x2, x3⟩
    repeat' (first
      | with_reducible first | refine Nx.h ?_ | (refine hK _ _ ?_; clear hK K)
      | ((with_reducible refine q_eo ?_ ?_); exact rfl)
      | ((with_reducible first | (refine Ny.h ?_; intro K hK) | (refine c_drw (by decide +kernel) ?_; intro K hK) | refine c_cond ?_ | show endW _ _ _ _ _ | (refine Nz.h ?_ ?_ <;> intro _) | fail) <;> try simp (disch := first | exact dz | fail) only [go_sem, i_0, i_1, i_2, i_3, i_4, i_5, i_6, i_7, i_8, n_0, n_1, n_2, n_3, n_4, n_5, reduceCtorEq, reduceIte, e0, e1, hg, hld, hx, EFf]))
    all_goals first | exact ⟨rfl, ((Keeps.refl _ _).push (Nat.le_refl _) _).set (Nat.le_refl _) _⟩ | exact ((Keeps.refl _ _).push (Nat.le_refl _) _).set (Nat.le_refl _) _
end Go.Proofs.Ytmpeofjfagdgkaa
