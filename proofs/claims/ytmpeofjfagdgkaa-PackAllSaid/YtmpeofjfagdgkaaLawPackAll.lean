/- 'PackAll' is true for all limits and blocks: no conditions. Code and reference answer alike and keep the same list behind each call. -/
import Derived.Test.YtmpeofjfagdgkaaPkLaw
set_option linter.unusedSimpArgs false
set_option linter.unusedVariables false
namespace Go.Proofs.Ytmpeofjfagdgkaa
open Go.Abs Go.RowKit Go.ChangeShapes
open Int renaming reduceEq → i_0, reduceLE → i_1, reduceLT → i_2, reduceNe → i_3, reduceNeg → i_4, reduceAdd → i_5, reduceSub → i_6, reduceMul → i_7, reduceToNat → i_8
open Nat renaming reduceLT → n_0, reduceLeDiff → n_1, reduceEqDiff → n_2, reduceAdd → n_3, reduceSub → n_4, reduceMul → n_5
set_option maxRecDepth 100000
/-- A call whose fields are a value. -/
structure Oq where
  k : Int
  n : Int
  v : AV
  h : v.one = true
instance : Inhabited Oq := ⟨⟨0, 0, .bool false, rfl⟩⟩
def EO : Enc Oq := ⟨3, fun x => [.int .i64 x.k, .int .i64 x.n, x.v], by decide, fun _ => rfl, fun x => by simp only [List.all_cons, List.all_nil, x.h, one_int, Bool.and_true]⟩
def WfO (x : Oq) : Prop := ∃ fs, Sl EF AH.empty 0 x.v fs ∧ fs.length ≤ 3600000000000
theorem dat_op {n : Nat} {c : List AV} (hd : DatZ Try.T (n + 4) 30 c) : ∃ x, c = EO.f x ∧ WfO x := by
  obtain ⟨v0, g0, d0⟩ := datB_f1 (b := true) (ft := 3) (off := 0) Try.Td30 hd (by simp) rfl (by decide)
  obtain ⟨v1, g1, d1⟩ := datB_f1 (b := true) (ft := 2) (off := 1) Try.Td30 hd (by simp) rfl (by decide)
  obtain ⟨v2, g2, d2⟩ := datB_f1 (b := true) (ft := 28) (off := 2) Try.Td30 hd (by simp) rfl (by decide)
  obtain ⟨k, rfl, _⟩ := datB_int rfl d0
  obtain ⟨m, rfl, _⟩ := datB_int rfl d1
  obtain ⟨fs, sf, lf⟩ := dat_fieldsZ (n := n) (i := 0) d2
  exact ⟨⟨k, m, v2, sf.one⟩, list_3 (dat_len Try.Td30 hd.dat) g0 g1 g2, fs, sf, lf⟩
set_option maxHeartbeats 8000000 in
theorem allRun (a0 : AV) (D0 : DatZ Try.T 5 22 [a0]) : callW Try.prog Try.T 3 [a0] AH.empty fun v _ => v = .bool true := by
  obtain ⟨ops, hs0, hw, _⟩ := dat_sliceB (E := EO) (Wf := WfO) (h := AH.empty) (i := 0) Try.Td22 (fun c hc => dat_op (n := 0) hc) rfl D0
  refine callW_in (n := 92) (rs := [.tmp 2]) (m := 92) Try.func3 rfl rfl rfl rfl fun tr ht => ?_; have e0 := ht 0 _ rfl; clear ht
  repeat' (first
      | with_reducible first | refine Nx.h ?_ | (refine hK _ _ ?_; clear hK K)
      | ((with_reducible refine q_eo ?_ ?_); exact rfl)
      | ((with_reducible first | (refine Ny.h ?_; intro K hK) | (refine c_drw (by decide +kernel) ?_; intro K hK) | refine c_cond ?_ | show endW _ _ _ _ _ | (refine Nz.h ?_ ?_ <;> intro _) | fail) <;> try simp (disch := first | exact dz | fail) only [go_sem, i_0, i_1, i_2, i_3, i_4, i_5, i_6, i_7, i_8, n_0, n_1, n_2, n_3, n_4, n_5, reduceCtorEq, reduceIte, e0]))
  refine callM_of (begun _) ?_
  rintro v h1 ⟨rfl, z1, -⟩
  refine vI ?_; repeat' (first
      | with_reducible first | refine Nx.h ?_ | (refine hK _ _ ?_; clear hK K)
      | ((with_reducible refine q_eo ?_ ?_); exact rfl)
      | ((with_reducible first | refine vO ?_ | (refine Ny.h ?_; intro K hK) | (refine c_drw (by decide +kernel) ?_; intro K hK) | refine c_cond ?_ | show endW _ _ _ _ _ | (refine Nz.h ?_ ?_ <;> intro _) | fail) <;> try simp (disch := first | exact dz | fail) only [go_sem, i_0, i_1, i_2, i_3, i_4, i_5, i_6, i_7, i_8, n_0, n_1, n_2, n_3, n_4, n_5, reduceCtorEq, reduceIte, e0]))
  refine callM_of (pnew 0 h1 (by omega)) ?_
  rintro v h2 ⟨e, p, rfl, he, hp, hes, hps, hc2, k2⟩
  refine vI ?_; repeat' (first
      | with_reducible first | refine Nx.h ?_ | (refine hK _ _ ?_; clear hK K)
      | ((with_reducible refine q_eo ?_ ?_); exact rfl)
      | ((with_reducible first | refine vO ?_ | (refine Ny.h ?_; intro K hK) | (refine c_drw (by decide +kernel) ?_; intro K hK) | refine c_cond ?_ | show endW _ _ _ _ _ | (refine Nz.h ?_ ?_ <;> intro _) | fail) <;> try simp (disch := first | exact dz | fail) only [go_sem, i_0, i_1, i_2, i_3, i_4, i_5, i_6, i_7, i_8, n_0, n_1, n_2, n_3, n_4, n_5, reduceCtorEq, reduceIte, e0]))
  refine callM_of (prnew 1 h2 (by have := k2.1; omega)) ?_
  rintro v h3 ⟨e2, p2, rfl, he2, hp2, he2s, hp2s, hr3, k3⟩
  have t3 : Two h3 e p 0 e2 p2 1 en0 := ⟨hc2.frame (fun b hb _ => k3.2 b hb) k3.1, hr3, by omega, by omega, by omega⟩
  clear hc2 hr3 hes hps he2s hp2s he hp he2 hp2 k2 k3
  refine vI ?_; repeat' (first
      | with_reducible first | refine Nx.h ?_ | (refine hK _ _ ?_; clear hK K)
      | ((with_reducible refine q_eo ?_ ?_); exact rfl)
      | ((with_reducible first | refine vO ?_ | (refine Ny.h ?_; intro K hK) | (refine c_drw (by decide +kernel) ?_; intro K hK) | refine c_cond ?_ | show endW _ _ _ _ _ | (refine Nz.h ?_ ?_ <;> intro _) | fail) <;> try simp (disch := first | exact dz | fail) only [go_sem, i_0, i_1, i_2, i_3, i_4, i_5, i_6, i_7, i_8, n_0, n_1, n_2, n_3, n_4, n_5, reduceCtorEq, reduceIte, e0]))
  refine c_loopF 2475880078570760549797994436 (fun m tm h => ∃ (k i i2 : Nat) (s : En), tm.get 6 = .int .i64 k ∧ Two h e p i e2 p2 i2 s ∧ EnOk s ∧ s.l.length ≤ 1024 * k ∧ k ≤ 30 ∧ k ≤ ops.length ∧ m = 30 - k) (30) (by kernel_rfl) ?_ ?_
  · refine ⟨0, 0, 1, en0, ?_, t3, en0_ok, by simp [en0], by omega, by omega, rfl⟩
    (first | with_reducible rfl | (simp (disch := first | exact dz | fail) only [go_sem, i_0, i_1, i_2, i_3, i_4, i_5, i_6, i_7, i_8, n_0, n_1, n_2, n_3, n_4, n_5, reduceCtorEq, reduceIte] <;> first | with_reducible rfl | (congr 1 <;> omega)))
  · rintro m tr2 h4 ho ⟨k, i, i2, s, t6, t4, ok, hl, hk30, hko, rfl⟩
    have k0 := ho 0 (Seen.of rfl); simp (disch := first | exact dz | fail) only [go_sem, i_0, i_1, i_2, i_3, i_4, i_5, i_6, i_7, i_8, n_0, n_1, n_2, n_3, n_4, n_5, reduceCtorEq, reduceIte, e0] at k0; have k3 := ho 3 (Seen.of rfl); simp (disch := first | exact dz | fail) only [go_sem, i_0, i_1, i_2, i_3, i_4, i_5, i_6, i_7, i_8, n_0, n_1, n_2, n_3, n_4, n_5, reduceCtorEq, reduceIte, e0] at k3; have k4 := ho 4 (Seen.of rfl); simp (disch := first | exact dz | fail) only [go_sem, i_0, i_1, i_2, i_3, i_4, i_5, i_6, i_7, i_8, n_0, n_1, n_2, n_3, n_4, n_5, reduceCtorEq, reduceIte, e0] at k4; have k5 := ho 5 (Seen.of rfl); simp (disch := first | exact dz | fail) only [go_sem, i_0, i_1, i_2, i_3, i_4, i_5, i_6, i_7, i_8, n_0, n_1, n_2, n_3, n_4, n_5, reduceCtorEq, reduceIte, e0] at k5
    have s1 := hs0.any h4 0
    by_cases hc : k < ops.length
    · by_cases hc30 : k < 30
      · obtain ⟨fs, sf0, lf⟩ : WfO (ops[k]!) := by rw [getElem!_pos ops k hc]; exact hw _ (List.getElem_mem _)
        rcases hx : ops[k]! with ⟨x1, x2, x3, x4⟩
        rw [hx] at sf0
        have l0 : ∀ h, loadA Try.T h 3 (a0.at EO.sz 0 (k : Int)) = some (.int .i64 x1) := fun h => (hs0.any h 0).ld (by omega) (by omega) (by rw [Int.toNat_natCast, hx]; rfl) (by decide) rfl rfl
        have l1 : ∀ h, loadA Try.T h 2 (a0.at EO.sz 1 (k : Int)) = some (.int .i64 x2) := fun h => (hs0.any h 0).ld (by omega) (by omega) (by rw [Int.toNat_natCast, hx]; rfl) (by decide) rfl rfl
        have l2 : ∀ h, loadA Try.T h 28 (a0.at EO.sz 2 (k : Int)) = some x3 := fun h => (hs0.any h 0).ld (by omega) (by omega) (by rw [Int.toNat_natCast, hx]; rfl) (by decide) rfl rfl
        have sAt := fun h => hs0.any h 0
        by_cases hz : x1 = 0
        · subst hz
          repeat' (first
      | with_reducible first | refine Nx.h ?_ | (refine hK _ _ ?_; clear hK K)
      | ((with_reducible refine q_eo ?_ ?_); exact rfl)
      | ((with_reducible first | (refine Ny.h ?_; intro K hK) | (refine c_drw (by decide +kernel) ?_; intro K hK) | refine c_cond ?_ | show endW _ _ _ _ _ | (refine Nz.h ?_ ?_ <;> intro _) | fail) <;> try simp (disch := first | exact dz | fail) only [go_sem, i_0, i_1, i_2, i_3, i_4, i_5, i_6, i_7, i_8, n_0, n_1, n_2, n_3, n_4, n_5, reduceCtorEq, reduceIte, k0, k3, k4, k5, t6, l0, l1, l2]))
          refine callM_of (limit e p i s x2 h4 t4.c) ?_
          rintro v h5 ⟨rfl, c5, b5⟩
          have r5 := t4.mid b5
          have s5 := hs0.any h5 0
          refine vI ?_; repeat' (first
      | with_reducible first | refine Nx.h ?_ | (refine hK _ _ ?_; clear hK K)
      | ((with_reducible refine q_eo ?_ ?_); exact rfl)
      | ((with_reducible first | refine vO ?_ | (refine Ny.h ?_; intro K hK) | (refine c_drw (by decide +kernel) ?_; intro K hK) | refine c_cond ?_ | show endW _ _ _ _ _ | (refine Nz.h ?_ ?_ <;> intro _) | fail) <;> try simp (disch := first | exact dz | fail) only [go_sem, i_0, i_1, i_2, i_3, i_4, i_5, i_6, i_7, i_8, n_0, n_1, n_2, n_3, n_4, n_5, reduceCtorEq, reduceIte, k0, k3, k4, k5, t6, l0, l1, l2]))
          refine callM_of (rlimit e2 p2 i2 s x2 h5 r5) ?_
          rintro v h6 ⟨rfl, r6, b6⟩
          have t6' := t4.step b5 c5 (.inl rfl) b6 r6 (.inl rfl)
          have ok6 := limS_ok x2 ok
          have hl6 := limS_l s x2
          rw [← hl6] at hl
          refine vI ?_; repeat' (first
      | with_reducible first | refine Nx.h ?_ | (refine hK _ _ ?_; clear hK K)
      | ((with_reducible refine q_eo ?_ ?_); exact rfl)
      | ((with_reducible first | refine vO ?_ | (refine Ny.h ?_; intro K hK) | (refine c_drw (by decide +kernel) ?_; intro K hK) | refine c_cond ?_ | show endW _ _ _ _ _ | (refine Nz.h ?_ ?_ <;> intro _) | fail) <;> try simp (disch := first | exact dz | fail) only [go_sem, i_0, i_1, i_2, i_3, i_4, i_5, i_6, i_7, i_8, n_0, n_1, n_2, n_3, n_4, n_5, reduceCtorEq, reduceIte, k0, k3, k4, k5, t6, l0, l1, l2]))
          refine ⟨rfl, 30 - (k + 1), by omega, k + 1, i, i2, limS s x2, ?_, t6', ok6, by omega, by omega, by omega, rfl⟩
          (first | with_reducible rfl | (simp (disch := first | exact dz | fail) only [go_sem, i_0, i_1, i_2, i_3, i_4, i_5, i_6, i_7, i_8, n_0, n_1, n_2, n_3, n_4, n_5, reduceCtorEq, reduceIte, t6] <;> first | with_reducible rfl | (congr 1 <;> omega)))
        · repeat' (first
      | with_reducible first | refine Nx.h ?_ | (refine hK _ _ ?_; clear hK K)
      | ((with_reducible refine q_eo ?_ ?_); exact rfl)
      | ((with_reducible first | (refine Ny.h ?_; intro K hK) | (refine c_drw (by decide +kernel) ?_; intro K hK) | refine c_cond ?_ | show endW _ _ _ _ _ | (refine Nz.h ?_ ?_ <;> intro _) | fail) <;> try simp (disch := first | exact dz | fail) only [go_sem, i_0, i_1, i_2, i_3, i_4, i_5, i_6, i_7, i_8, n_0, n_1, n_2, n_3, n_4, n_5, reduceCtorEq, reduceIte, k0, k3, k4, k5, t6, l0, l1, l2]))
          refine callM_of (block e p i 0 x3 s fs h4 t4.c ok (by omega) lf (fun h _ _ => sf0.any h 0)) ?_
          rintro v h5 ⟨b, i', j, rfl, hi', c5, hj, hji, o5, b5⟩
          have r5 := t4.mid b5
          have s5 := hs0.any h5 0
          refine vI ?_; repeat' (first
      | with_reducible first | refine Nx.h ?_ | (refine hK _ _ ?_; clear hK K)
      | ((with_reducible refine q_eo ?_ ?_); exact rfl)
      | ((with_reducible first | refine vO ?_ | (refine Ny.h ?_; intro K hK) | (refine c_drw (by decide +kernel) ?_; intro K hK) | refine c_cond ?_ | show endW _ _ _ _ _ | (refine Nz.h ?_ ?_ <;> intro _) | fail) <;> try simp (disch := first | exact dz | fail) only [go_sem, i_0, i_1, i_2, i_3, i_4, i_5, i_6, i_7, i_8, n_0, n_1, n_2, n_3, n_4, n_5, reduceCtorEq, reduceIte, k0, k3, k4, k5, t6, l0, l1, l2]))
          refine callM_of (rblock e2 p2 i2 0 x3 s fs h5 r5 ok (by omega) lf (fun h _ _ => sf0.any h 0)) ?_
          rintro v h6 ⟨b2, i2', j2, rfl, hi2', r6, hj2, hji2, o6, b6⟩
          have q4 := t4.r.es
          have q5 := t4.r.ps
          have q6 := t4.r.is
          have t6' := t4.step b5 c5 hi' b6 r6 hi2'
          have ok6 := blkS_ok fs ok
          have hl6 := blkS_len s fs
          have sb := (o5.frame (h' := h6) (fun hs => b6.2 j hs (by omega) (by omega) (by omega)) b6.1).sl
          have sb2 := o6.sl
          refine vI ?_; repeat' (first
      | with_reducible first | refine Nx.h ?_ | (refine hK _ _ ?_; clear hK K)
      | ((with_reducible refine q_eo ?_ ?_); exact rfl)
      | ((with_reducible first | refine vO ?_ | (refine Ny.h ?_; intro K hK) | (refine c_drw (by decide +kernel) ?_; intro K hK) | refine c_cond ?_ | show endW _ _ _ _ _ | (refine Nz.h ?_ ?_ <;> intro _) | fail) <;> try simp (disch := first | exact dz | fail) only [go_sem, i_0, i_1, i_2, i_3, i_4, i_5, i_6, i_7, i_8, n_0, n_1, n_2, n_3, n_4, n_5, reduceCtorEq, reduceIte, k0, k3, k4, k5, t6]))
          refine c_looseW [(16, 0)] (by decide +kernel) ?_; repeat' (first
      | with_reducible first | refine Nx.h ?_ | (refine hK _ _ ?_; clear hK K)
      | ((with_reducible refine q_eo ?_ ?_); exact rfl)
      | ((with_reducible first | (refine Ny.h ?_; intro K hK) | (refine c_drw (by decide +kernel) ?_; intro K hK) | refine c_cond ?_ | show endW _ _ _ _ _ | (refine Nz.h ?_ ?_ <;> intro _) | fail) <;> try simp (disch := first | exact dz | fail) only [go_sem, i_0, i_1, i_2, i_3, i_4, i_5, i_6, i_7, i_8, n_0, n_1, n_2, n_3, n_4, n_5, reduceCtorEq, reduceIte, k0, k3, k4, k5, t6, sb, sb2])
      | with_reducible refine obl_and (by simp (disch := first | exact dz | fail) only [go_sem, i_0, i_1, i_2, i_3, i_4, i_5, i_6, i_7, i_8, n_0, n_1, n_2, n_3, n_4, n_5, reduceCtorEq, reduceIte, k0, k3, k4, k5, t6, sb, sb2]) ?_)
          refine callM_of (held e p i' _ h6 t6'.c) ?_
          rintro v h7 ⟨rfl, rfl⟩
          have t6c := t6'
          obtain ⟨-, ⟨gr, ⟨ar, tr6⟩, -, -, -⟩, -, -, -⟩ := t6c
          refine vI ?_; repeat' (first
      | with_reducible first | refine Nx.h ?_ | (refine hK _ _ ?_; clear hK K)
      | ((with_reducible refine q_eo ?_ ?_); exact rfl)
      | ((with_reducible first | refine vO ?_ | (refine Ny.h ?_; intro K hK) | (refine c_drw (by decide +kernel) ?_; intro K hK) | refine c_cond ?_ | show endW _ _ _ _ _ | (refine Nz.h ?_ ?_ <;> intro _) | fail) <;> try simp (disch := first | exact dz | fail) only [go_sem, i_0, i_1, i_2, i_3, i_4, i_5, i_6, i_7, i_8, n_0, n_1, n_2, n_3, n_4, n_5, reduceCtorEq, reduceIte, k0, k3, k4, k5, t6, sb, sb2, gr])
      | with_reducible refine obl_and (by simp (disch := first | exact dz | fail) only [go_sem, i_0, i_1, i_2, i_3, i_4, i_5, i_6, i_7, i_8, n_0, n_1, n_2, n_3, n_4, n_5, reduceCtorEq, reduceIte, k0, k3, k4, k5, t6, sb, sb2, gr]) ?_)
          refine callM_of (refSize p2 i2' _ _ ar h7 tr6 (by omega)) ?_
          rintro v h8 ⟨rfl, rfl⟩
          refine vI ?_; repeat' (first
      | with_reducible first | refine Nx.h ?_ | (refine hK _ _ ?_; clear hK K)
      | ((with_reducible refine q_eo ?_ ?_); exact rfl)
      | ((with_reducible first | refine vO ?_ | (refine Ny.h ?_; intro K hK) | (refine c_drw (by decide +kernel) ?_; intro K hK) | refine c_cond ?_ | show endW _ _ _ _ _ | (refine Nz.h ?_ ?_ <;> intro _) | fail) <;> try simp (disch := first | exact dz | fail) only [go_sem, i_0, i_1, i_2, i_3, i_4, i_5, i_6, i_7, i_8, n_0, n_1, n_2, n_3, n_4, n_5, reduceCtorEq, reduceIte, k0, k3, k4, k5, t6, sb, sb2, gr])
      | with_reducible refine obl_and (by simp (disch := first | exact dz | fail) only [go_sem, i_0, i_1, i_2, i_3, i_4, i_5, i_6, i_7, i_8, n_0, n_1, n_2, n_3, n_4, n_5, reduceCtorEq, reduceIte, k0, k3, k4, k5, t6, sb, sb2, gr]) ?_)
          try dsimp only
          refine ⟨rfl, 30 - (k + 1), by omega, k + 1, i', i2', blkS s fs, ?_, t6', ok6, by omega, by omega, by omega, rfl⟩
          (first | with_reducible rfl | (simp (disch := first | exact dz | fail) only [go_sem, i_0, i_1, i_2, i_3, i_4, i_5, i_6, i_7, i_8, n_0, n_1, n_2, n_3, n_4, n_5, reduceCtorEq, reduceIte, t6] <;> first | with_reducible rfl | (congr 1 <;> omega)))
      · repeat' (first
      | with_reducible first | refine Nx.h ?_ | (refine hK _ _ ?_; clear hK K)
      | ((with_reducible refine q_eo ?_ ?_); exact rfl)
      | ((with_reducible first | (refine Ny.h ?_; intro K hK) | (refine c_drw (by decide +kernel) ?_; intro K hK) | refine c_cond ?_ | show endW _ _ _ _ _ | (refine Nz.h ?_ ?_ <;> intro _) | fail) <;> try simp (disch := first | exact dz | fail) only [go_sem, i_0, i_1, i_2, i_3, i_4, i_5, i_6, i_7, i_8, n_0, n_1, n_2, n_3, n_4, n_5, reduceCtorEq, reduceIte, k0, k3, k4, k5, t6])
      | with_reducible refine obl_and (by simp (disch := first | exact dz | fail) only [go_sem, i_0, i_1, i_2, i_3, i_4, i_5, i_6, i_7, i_8, n_0, n_1, n_2, n_3, n_4, n_5, reduceCtorEq, reduceIte, k0, k3, k4, k5, t6]) ?_)
    · repeat' (first
      | with_reducible first | refine Nx.h ?_ | (refine hK _ _ ?_; clear hK K)
      | ((with_reducible refine q_eo ?_ ?_); exact rfl)
      | ((with_reducible first | (refine Ny.h ?_; intro K hK) | (refine c_drw (by decide +kernel) ?_; intro K hK) | refine c_cond ?_ | show endW _ _ _ _ _ | (refine Nz.h ?_ ?_ <;> intro _) | fail) <;> try simp (disch := first | exact dz | fail) only [go_sem, i_0, i_1, i_2, i_3, i_4, i_5, i_6, i_7, i_8, n_0, n_1, n_2, n_3, n_4, n_5, reduceCtorEq, reduceIte, k0, k3, k4, k5, t6])
      | with_reducible refine obl_and (by simp (disch := first | exact dz | fail) only [go_sem, i_0, i_1, i_2, i_3, i_4, i_5, i_6, i_7, i_8, n_0, n_1, n_2, n_3, n_4, n_5, reduceCtorEq, reduceIte, k0, k3, k4, k5, t6]) ?_)
theorem lifted3 (os : Os) (started : os.Started) (H : Type) (enc : TypeId × Value → H) :
    ReturnsInHanded {} Try.checked os 3 .any (Rows.packAllSpec.pre6 enc Try.prog Try.f3 Rows.packAllRow.domain false) (Rows.packAllSpec.post enc Try.prog Try.f3 false true false false) := by
  refine returnsInHanded_of_change_sized (C := Try.checked) own started (by kernel_rfl) Try.func3
    (ChangeSpec.witness6 (enc := enc) (C := Try.checked) false ⟨#[], #[.slice none 0 0], []⟩ 8 (by kernel_rfl) (by kernel_rfl) (by kernel_rfl) (by kernel_rfl)) ?_
  intro W base args ds gs before hval hW _ hz _
  have hW' := hW
  obtain ⟨p, q, hA0, hV, rfl, _, _⟩ := hW
  have hA : DataW.TrodAll enc Try.prog W 0 (fun _ => true) true Try.f3.params.toList args.toList ds p := hA0
  rw [Try.params3] at hA hval
  obtain ⟨v0, vs0, d0, ds0, p0, q0, hargs, rfl, rfl, k0, r0⟩ := trodAll_cons hA
  obtain ⟨rfl, rfl, rfl⟩ := trodAll_nil r0
  obtain rfl : args = #[v0] := by cases args; simp_all
  obtain ⟨rfl, rfl⟩ := trodVars_none hV
  have hz0 : (DataW.weightsEach Try.prog [22] [d0]).all (· ≤ reachBytes) = true := hz
  obtain ⟨z0, hz1⟩ := reach_hd hz0
  obtain ⟨a0, w0, D0, g0, s0⟩ := arg_readB tok cl_reach (n := 5) (by rfl) (hval 0 22 v0 rfl rfl) z0 k0
  rw [s0 (by rfl)] at D0
  obtain ⟨n, h', hr⟩ := callW_run (allRun a0 D0)
  refine (calls_true mixed tok fok hr (.cons _ _ _ _ w0 .nil)).mono ?_
  rintro e W' ⟨rfl, hb⟩
  exact ⟨_, rfl, post_true laidOut (by kernel_rfl) (by kernel_rfl) Try.underlying4 rfl hW' rfl hb⟩
theorem packAll : Rows.PackAllSaid :=
  OpenClaim.holds_of_wide 3 Try.f3 rfl rfl rfl rfl rfl rfl rfl ⟨rfl, rfl, rfl, rfl, rfl⟩ rfl rfl rfl rfl rfl (by kernel_rfl) Try.func3 (by kernel_rfl)
    (of_decide_eq_true (by kernel_rfl)) (by unfold Func.isWrapper; first | (rw [if_pos (by decide +kernel)]; kernel_rfl) | (rw [if_neg (by decide +kernel)]; exact ⟨rfl, rfl⟩))
    (fun os started H enc _ => lifted3 os started H enc)
#print axioms packAll
end Go.Proofs.Ytmpeofjfagdgkaa
