/- 'UnpackBack' is true for all limits and lists: no conditions. What an encoder wrote is read, whatever limits were told to both on the way; their tables are of one size. -/
import Derived.Test.YtmpeofjfagdgkaaUpBack3
set_option linter.unusedSimpArgs false
set_option linter.unusedVariables false
namespace Go.Proofs.Ytmpeofjfagdgkaa
open Go.Abs Go.RowKit Go.ChangeShapes
open Int renaming reduceEq → i_0, reduceLE → i_1, reduceLT → i_2, reduceNe → i_3, reduceNeg → i_4, reduceAdd → i_5, reduceSub → i_6, reduceMul → i_7, reduceToNat → i_8
open Nat renaming reduceLT → n_0, reduceLeDiff → n_1, reduceEqDiff → n_2, reduceAdd → n_3, reduceSub → n_4, reduceMul → n_5
set_option maxRecDepth 100000
theorem szs_tk (l : List Fd) (k : Nat) : szs (l.take k) ≤ szs l := by
  have h1 := szs_app (l.take k) (l.drop k)
  rw [List.take_append_drop] at h1
  have h2 := szs_nn (l.drop k)
  omega
/-- A list among the lists. -/
structure Ov where
  v : AV
  h : v.one = true
instance : Inhabited Ov := ⟨⟨.bool false, rfl⟩⟩
def EV : Enc Ov := ⟨1, fun x => [x.v], by decide, fun _ => rfl, fun x => by simp only [List.all_cons, List.all_nil, x.h, Bool.and_true]⟩
def WfV (x : Ov) : Prop := ∃ fs, Sl EF AH.empty 0 x.v fs ∧ fs.length ≤ 3600000000000
theorem datB_one {T : Tys} {Ps : Nat → Prop} {Pc : Nat → Nat → Prop} {n t e : Nat} {cs : List AV} (ht : (T t).desc = .slice e) (hd : DatB T Ps Pc (n + 1) t cs) : ∃ v, cs = [v] := by
  simp only [DatB, ht] at hd
  rcases hd with rfl | ⟨row, len, cap, rfl, _⟩
  · exact ⟨_, rfl⟩
  · exact ⟨_, rfl⟩
theorem dat_ov {n : Nat} {c : List AV} (hd : DatZ Try.T (n + 3) 28 c) : ∃ x, c = EV.f x ∧ WfV x := by
  obtain ⟨v, rfl⟩ := datB_one Try.Td28 hd
  obtain ⟨fs, sf, lf⟩ := dat_fieldsZ (n := n) (i := 0) hd
  exact ⟨⟨v, sf.one⟩, rfl, fs, sf, lf⟩
/-- An encoder and a decoder, apart from each other. -/
structure Bk (h : AH) (e p i d q j : Nat) (x : En) (s : Rd) : Prop where
  c : EnC h e p i x
  r : Dc h d q j s
  n1 : ¬ e = d ∧ ¬ e = q ∧ ¬ e = j
  n2 : ¬ p = d ∧ ¬ p = q ∧ ¬ p = j
  n3 : ¬ i = d ∧ ¬ i = q ∧ ¬ i = j
theorem Dc.ps {h : AH} {d p i : Nat} {s : Rd} (t : Dc h d p i s) : p < h.size := by obtain ⟨_, ⟨_, t⟩, _, _, _⟩ := t; exact t.ps
theorem Dc.is {h : AH} {d p i : Nat} {s : Rd} (t : Dc h d p i s) : i < h.size := by obtain ⟨_, ⟨_, t⟩, _, _, _⟩ := t; exact t.is
theorem Bk.stepE {h h1 : AH} {e p i i' d q j : Nat} {x x' : En} {s : Rd} (t : Bk h e p i d q j x s) (b1 : But3 e p i h h1) (c1 : EnC h1 e p i' x') (hi : i' = i ∨ h.size ≤ i') : Bk h1 e p i' d q j x' s := by
  obtain ⟨c, r, n1, n2, n3⟩ := t
  have z1 := r.ds
  have z2 := r.ps
  have z3 := r.is
  exact ⟨c1, r.frame (fun b hb hor => b1.2 b hb (by omega) (by omega) (by omega)) b1.1, n1, n2, by omega⟩
theorem Bk.stepD {h h1 : AH} {e p i d q j j' : Nat} {x : En} {s s' : Rd} (t : Bk h e p i d q j x s) (b1 : But3 d q j h h1) (c1 : Dc h1 d q j' s') (hj : j' = j ∨ h.size ≤ j') : Bk h1 e p i d q j' x s' := by
  obtain ⟨c, r, n1, n2, n3⟩ := t
  have z1 := c.es
  have z2 := c.ps
  have z3 := c.is
  exact ⟨c.frame (fun b hb hor => b1.2 b hb (by omega) (by omega) (by omega)) b1.1, c1, by omega, by omega, by omega⟩
set_option maxHeartbeats 16000000 in
theorem backRun (a0 a1 : AV) (D0 : DatZ Try.T 2 57 [a0]) (D1 : DatZ Try.T 4 58 [a1]) : callW Try.prog Try.T 14 [a0, a1] AH.empty fun v _ => v = .bool true := by
  obtain ⟨L, hs0, -, hL⟩ := dat_ints (h := AH.empty) (i := 0) rfl rfl rfl D0.dat
  obtain ⟨Q, hs1, hw, -⟩ := dat_sliceB (E := EV) (Wf := WfV) (h := AH.empty) (i := 0) Try.Td58 (fun c hc => dat_ov (n := 0) hc) rfl D1
  refine callW_in (n := 124) (rs := [.tmp 4]) (m := 124) Try.func14 rfl rfl rfl rfl fun tr ht => ?_; have e0 := ht 0 _ rfl; have e1 := ht 1 _ rfl; clear ht
  repeat' (first
      | with_reducible first | refine Nx.h ?_ | (refine hK _ _ ?_; clear hK K)
      | ((with_reducible refine q_eo ?_ ?_); exact rfl)
      | ((with_reducible first | (refine Ny.h ?_; intro K hK) | (refine c_drw (by decide +kernel) ?_; intro K hK) | refine c_cond ?_ | show endW _ _ _ _ _ | (refine Nz.h ?_ ?_ <;> intro _) | fail) <;> try simp (disch := first | exact dz | fail) only [go_sem, i_0, i_1, i_2, i_3, i_4, i_5, i_6, i_7, i_8, n_0, n_1, n_2, n_3, n_4, n_5, reduceCtorEq, reduceIte, e0, e1]))
  refine callM_of (begun6 (K := fun v h => v = .bool true ∧ 3 < h.size) (fun h hh => ⟨rfl, hh⟩)) ?_
  rintro v h1 ⟨rfl, z1⟩
  refine vI ?_; repeat' (first
      | with_reducible first | refine Nx.h ?_ | (refine hK _ _ ?_; clear hK K)
      | ((with_reducible refine q_eo ?_ ?_); exact rfl)
      | ((with_reducible first | refine vO ?_ | (refine Ny.h ?_; intro K hK) | (refine c_drw (by decide +kernel) ?_; intro K hK) | refine c_cond ?_ | show endW _ _ _ _ _ | (refine Nz.h ?_ ?_ <;> intro _) | fail) <;> try simp (disch := first | exact dz | fail) only [go_sem, i_0, i_1, i_2, i_3, i_4, i_5, i_6, i_7, i_8, n_0, n_1, n_2, n_3, n_4, n_5, reduceCtorEq, reduceIte, e0, e1]))
  refine callM_of (pnew 0 h1 (by omega)) ?_
  rintro v h2 ⟨e, p, rfl, he, hp, hes, hps, hc2, k2⟩
  have z2 := k2.1
  refine vI ?_; repeat' (first
      | with_reducible first | refine Nx.h ?_ | (refine hK _ _ ?_; clear hK K)
      | ((with_reducible refine q_eo ?_ ?_); exact rfl)
      | ((with_reducible first | refine vO ?_ | (refine Ny.h ?_; intro K hK) | (refine c_drw (by decide +kernel) ?_; intro K hK) | refine c_cond ?_ | show endW _ _ _ _ _ | (refine Nz.h ?_ ?_ <;> intro _) | fail) <;> try simp (disch := first | exact dz | fail) only [go_sem, i_0, i_1, i_2, i_3, i_4, i_5, i_6, i_7, i_8, n_0, n_1, n_2, n_3, n_4, n_5, reduceCtorEq, reduceIte, e0, e1]))
  refine callM_of (unew 2 h2 (by omega)) ?_
  rintro v h3 ⟨d, q, rfl, hd, hq, hds, hqs, D3, k3⟩
  have B3 : Bk h3 e p 0 d q 2 en0 rdN := ⟨hc2.frame (fun b hb _ => k3.2 b hb) k3.1, D3, by omega, by omega, by omega⟩
  clear hc2 k2 k3 D3 he hp hes hps hd hq hds hqs z1 z2
  refine vI ?_; repeat' (first
      | with_reducible first | refine Nx.h ?_ | (refine hK _ _ ?_; clear hK K)
      | ((with_reducible refine q_eo ?_ ?_); exact rfl)
      | ((with_reducible first | refine vO ?_ | (refine Ny.h ?_; intro K hK) | (refine c_drw (by decide +kernel) ?_; intro K hK) | refine c_cond ?_ | show endW _ _ _ _ _ | (refine Nz.h ?_ ?_ <;> intro _) | fail) <;> try simp (disch := first | exact dz | fail) only [go_sem, i_0, i_1, i_2, i_3, i_4, i_5, i_6, i_7, i_8, n_0, n_1, n_2, n_3, n_4, n_5, reduceCtorEq, reduceIte, e0, e1]))
  refine c_loopF 10633823966279326983230456465063149072 (fun m tm h => ∃ (k i j : Nat) (x : En) (s : Rd), tm.get 9 = .int .i64 k ∧ Bk h e p i d q j x s ∧ Pair2 x s ∧ x.l.length ≤ 1024 * k ∧ k ≤ 20 ∧ k ≤ Q.length ∧ m = 20 - k) (20) (by kernel_rfl) ?_ ?_
  · refine ⟨0, 0, 2, en0, rdN, ?_, B3, pair0, by simp [en0], by omega, by omega, rfl⟩
    (first | with_reducible rfl | (simp (disch := first | exact dz | fail) only [go_sem, i_0, i_1, i_2, i_3, i_4, i_5, i_6, i_7, i_8, n_0, n_1, n_2, n_3, n_4, n_5, reduceCtorEq, reduceIte] <;> first | with_reducible rfl | (congr 1 <;> omega)))
  · clear B3
    rintro m tr2 h4 ho ⟨k, i, j, x, s, t9, B4, P4, hl4, hk20, hkQ, rfl⟩
    have k0 := ho 0 (Seen.of rfl); simp (disch := first | exact dz | fail) only [go_sem, i_0, i_1, i_2, i_3, i_4, i_5, i_6, i_7, i_8, n_0, n_1, n_2, n_3, n_4, n_5, reduceCtorEq, reduceIte, e0, e1] at k0; have k1 := ho 1 (Seen.of rfl); simp (disch := first | exact dz | fail) only [go_sem, i_0, i_1, i_2, i_3, i_4, i_5, i_6, i_7, i_8, n_0, n_1, n_2, n_3, n_4, n_5, reduceCtorEq, reduceIte, e0, e1] at k1; have k5 := ho 5 (Seen.of rfl); simp (disch := first | exact dz | fail) only [go_sem, i_0, i_1, i_2, i_3, i_4, i_5, i_6, i_7, i_8, n_0, n_1, n_2, n_3, n_4, n_5, reduceCtorEq, reduceIte, e0, e1] at k5; have k6 := ho 6 (Seen.of rfl); simp (disch := first | exact dz | fail) only [go_sem, i_0, i_1, i_2, i_3, i_4, i_5, i_6, i_7, i_8, n_0, n_1, n_2, n_3, n_4, n_5, reduceCtorEq, reduceIte, e0, e1] at k6; have k7 := ho 7 (Seen.of rfl); simp (disch := first | exact dz | fail) only [go_sem, i_0, i_1, i_2, i_3, i_4, i_5, i_6, i_7, i_8, n_0, n_1, n_2, n_3, n_4, n_5, reduceCtorEq, reduceIte, e0, e1] at k7
    have s1 := hs1.any h4 0
    have s0 := hs0.any h4 0
    by_cases hc : k < Q.length
    · by_cases hc20 : k < 20
      · obtain ⟨fs, sf0, lf⟩ : WfV (Q[k]!) := by rw [getElem!_pos Q k hc]; exact hw _ (List.getElem_mem _)
        rcases hx : Q[k]! with ⟨xv, xh⟩
        rw [hx] at sf0
        have l1 : ∀ h, loadA Try.T h 28 (a1.at EV.sz 0 (k : Int)) = some xv := fun h => (hs1.any h 0).ld (by omega) (by omega) (by rw [Int.toNat_natCast, hx]; rfl) (by decide) rfl rfl
        have sAt := fun h => hs1.any h 0
        have sIt := fun h => hs0.any h 0
        have hcs : (k < L.length ∧ 0 ≤ L[k]! ∧ L[k]! ≤ 65536) ∨ (k < L.length ∧ 0 ≤ L[k]! ∧ ¬ L[k]! ≤ 65536) ∨ (k < L.length ∧ ¬ 0 ≤ L[k]!) ∨ ¬ k < L.length := by omega
        have l0 : k < L.length → ∀ h, loadA Try.T h 3 (a0.at EI.sz 0 (k : Int)) = some (.int .i64 (L[k]!)) := fun hk h => (hs0.any h 0).ld (by omega) (by omega) (by rw [Int.toNat_natCast]; rfl) (by decide) rfl rfl
        generalize L[k]! = y at *
        rcases hcs with ⟨d1, d2, d3⟩ | ⟨d1, d2, d3⟩ | ⟨d1, d2⟩ | d1
        case' inl =>
          have l0 := l0 d1
          repeat' (first
      | with_reducible first | refine Nx.h ?_ | (refine hK _ _ ?_; clear hK K)
      | ((with_reducible refine q_eo ?_ ?_); exact rfl)
      | ((with_reducible first | (refine Ny.h ?_; intro K hK) | (refine c_drw (by decide +kernel) ?_; intro K hK) | refine c_cond ?_ | show endW _ _ _ _ _ | (refine Nz.h ?_ ?_ <;> intro _) | fail) <;> try simp (disch := first | exact dz | fail) only [go_sem, i_0, i_1, i_2, i_3, i_4, i_5, i_6, i_7, i_8, n_0, n_1, n_2, n_3, n_4, n_5, reduceCtorEq, reduceIte, k0, k1, k5, k6, k7, t9, l0, l1]))
          refine callM_of (limit e p i x y h4 B4.c) ?_
          rintro v h5 ⟨rfl, c5, b5⟩
          rw [show limE y = 0 from if_neg (by omega)]
          have B5 := B4.stepE b5 c5 (.inl rfl)
          have s5 := hs0.any h5 0
          clear c5 b5
          refine vI ?_; repeat' (first
      | with_reducible first | refine Nx.h ?_ | (refine hK _ _ ?_; clear hK K)
      | ((with_reducible refine q_eo ?_ ?_); exact rfl)
      | ((with_reducible first | refine vO ?_ | (refine Ny.h ?_; intro K hK) | (refine c_drw (by decide +kernel) ?_; intro K hK) | refine c_cond ?_ | show endW _ _ _ _ _ | (refine Nz.h ?_ ?_ <;> intro _) | fail) <;> try simp (disch := first | exact dz | fail) only [go_sem, i_0, i_1, i_2, i_3, i_4, i_5, i_6, i_7, i_8, n_0, n_1, n_2, n_3, n_4, n_5, reduceCtorEq, reduceIte, k0, k1, k5, k6, k7, t9, l0, l1]))
          refine callM_of (dlimit d q j s y h5 B5.r) ?_
          rintro v hX ⟨rfl, c6, b6⟩
          rw [show dLimE y = 0 from if_neg (by omega)]
          have BX := B5.stepD b6 c6 (.inl rfl)
          have PX := P4.lim d2 d3
          have hlX : (limS x y).l.length ≤ 1024 * k := by rw [limS_l]; exact hl4
          have sX := hs1.any hX 0
          clear B4 B5 c6 b6 P4
          generalize limS x y = xX at *
          generalize dLimS s y = sX2 at *
          refine vI ?_; repeat' (first
      | with_reducible first | refine Nx.h ?_ | (refine hK _ _ ?_; clear hK K)
      | ((with_reducible refine q_eo ?_ ?_); exact rfl)
      | ((with_reducible first | refine vO ?_ | (refine Ny.h ?_; intro K hK) | (refine c_drw (by decide +kernel) ?_; intro K hK) | refine c_cond ?_ | show endW _ _ _ _ _ | (refine Nz.h ?_ ?_ <;> intro _) | fail) <;> try simp (disch := first | exact dz | fail) only [go_sem, i_0, i_1, i_2, i_3, i_4, i_5, i_6, i_7, i_8, n_0, n_1, n_2, n_3, n_4, n_5, reduceCtorEq, reduceIte, k0, k1, k5, k6, k7, t9, l0, l1]))
        case' inr.inl =>
          have l0 := l0 d1
          have BX := B4
          have PX := P4
          have hlX := hl4
          rename En => xX
          rename Rd => sX2
          repeat' (first
      | with_reducible first | refine Nx.h ?_ | (refine hK _ _ ?_; clear hK K)
      | ((with_reducible refine q_eo ?_ ?_); exact rfl)
      | ((with_reducible first | (refine Ny.h ?_; intro K hK) | (refine c_drw (by decide +kernel) ?_; intro K hK) | refine c_cond ?_ | show endW _ _ _ _ _ | (refine Nz.h ?_ ?_ <;> intro _) | fail) <;> try simp (disch := first | exact dz | fail) only [go_sem, i_0, i_1, i_2, i_3, i_4, i_5, i_6, i_7, i_8, n_0, n_1, n_2, n_3, n_4, n_5, reduceCtorEq, reduceIte, k0, k1, k5, k6, k7, t9, l0, l1]))
          rename AH => hX
        case' inr.inr.inl =>
          have l0 := l0 d1
          have BX := B4
          have PX := P4
          have hlX := hl4
          rename En => xX
          rename Rd => sX2
          repeat' (first
      | with_reducible first | refine Nx.h ?_ | (refine hK _ _ ?_; clear hK K)
      | ((with_reducible refine q_eo ?_ ?_); exact rfl)
      | ((with_reducible first | (refine Ny.h ?_; intro K hK) | (refine c_drw (by decide +kernel) ?_; intro K hK) | refine c_cond ?_ | show endW _ _ _ _ _ | (refine Nz.h ?_ ?_ <;> intro _) | fail) <;> try simp (disch := first | exact dz | fail) only [go_sem, i_0, i_1, i_2, i_3, i_4, i_5, i_6, i_7, i_8, n_0, n_1, n_2, n_3, n_4, n_5, reduceCtorEq, reduceIte, k0, k1, k5, k6, k7, t9, l0, l1]))
          rename AH => hX
        case' inr.inr.inr =>
          have BX := B4
          have PX := P4
          have hlX := hl4
          rename En => xX
          rename Rd => sX2
          repeat' (first
      | with_reducible first | refine Nx.h ?_ | (refine hK _ _ ?_; clear hK K)
      | ((with_reducible refine q_eo ?_ ?_); exact rfl)
      | ((with_reducible first | (refine Ny.h ?_; intro K hK) | (refine c_drw (by decide +kernel) ?_; intro K hK) | refine c_cond ?_ | show endW _ _ _ _ _ | (refine Nz.h ?_ ?_ <;> intro _) | fail) <;> try simp (disch := first | exact dz | fail) only [go_sem, i_0, i_1, i_2, i_3, i_4, i_5, i_6, i_7, i_8, n_0, n_1, n_2, n_3, n_4, n_5, reduceCtorEq, reduceIte, k0, k1, k5, k6, k7, t9, l1]))
          rename AH => hX
        all_goals
          refine callM_of (block e p i 0 xv xX fs hX BX.c PX.ok (by omega) lf (fun h _ _ => sf0.any h 0)) ?_
          rintro v h6 ⟨b, i', jb, rfl, hi', c6, hjb, hjbi, o6, b6⟩
          have B6 := BX.stepE b6 c6 hi'
          have hds := BX.r.ds
          have hqs := BX.r.ps
          have hjs := BX.r.is
          have z6 := b6.1
          clear c6 b6
          by_cases hE : blkE fs = 0
          · rw [hE]
            have hz := (blk_few hE).2.1
            have hlf := (blk_few hE).1
            have hln := blkS_len xX fs
            obtain ⟨q1, PY, kk, q2, q3, q4, q5, q6⟩ := blk_back (most := 32768) PX fs hE (by omega) (by omega)
            have hkk : kk = fs.length := by
              rcases Nat.lt_or_ge kk fs.length with h | h
              · have := q6 h
                have := szs_tk fs (kk + 1)
                omega
              · omega
            subst hkk
            rw [List.take_length] at q3
            have q4' : (dBlk 32768 (rd0 sX2 (blkB xX fs))).2.over = false := by rw [q4]; exact decide_eq_false (by omega)
            have hsl : sX2.l.length ≤ 500000 := by rw [PX.l]; omega
            have hbl := blkB_le xX fs
            refine vI ?_; repeat' (first
      | with_reducible first | refine Nx.h ?_ | (refine hK _ _ ?_; clear hK K)
      | ((with_reducible refine q_eo ?_ ?_); exact rfl)
      | ((with_reducible first | refine vO ?_ | (refine Ny.h ?_; intro K hK) | (refine c_drw (by decide +kernel) ?_; intro K hK) | refine c_cond ?_ | show endW _ _ _ _ _ | (refine Nz.h ?_ ?_ <;> intro _) | fail) <;> try simp (disch := first | exact dz | fail) only [go_sem, i_0, i_1, i_2, i_3, i_4, i_5, i_6, i_7, i_8, n_0, n_1, n_2, n_3, n_4, n_5, reduceCtorEq, reduceIte, k0, k1, k5, k6, k7, t9, l1]))
            refine callM_of (dblock d q j jb b (blkB xX fs) 32768 sX2 h6 B6.r hsl (by omega) (by omega) (fun h hb => (o6.frame (fun hs => hb.2 jb hs (by omega) (by omega) (by omega)) hb.1).sl)) ?_
            clear q4 q5 q6
            generalize dBlk 32768 (rd0 sX2 (blkB xX fs)) = R at *
            rintro v h7 ⟨(⟨-, o', jo, j', rfl, w7, -, -, D7, hj'⟩ | ⟨hR, -⟩), b7⟩
            · have B7 := B6.stepD b7 D7 hj'
              rw [q3] at w7
              rw [q4']
              have hdh := dheld d q j' R.2 h7 B7.r
              rw [PY.l] at hdh
              have heh := held e p i' (blkS xX fs) h7 B7.c
              have s7 := hs1.any h7 0
              have heq := eqFields o' xv jo 0 fs fs h7 w7.sl (sf0.any h7 0) (by omega)
              rw [show decide (fs = fs) = true from decide_eq_true rfl] at heq
              clear B6 BX o6 D7 w7 b7
              generalize W (szs (blkS xX fs).l) = hh at *
              refine vI ?_; repeat' (first
      | with_reducible first | refine Nx.h ?_ | (refine hK _ _ ?_; clear hK K)
      | ((with_reducible refine q_eo ?_ ?_); exact rfl)
      | ((with_reducible first | refine vO ?_ | (refine Ny.h ?_; intro K hK) | (refine c_drw (by decide +kernel) ?_; intro K hK) | refine c_cond ?_ | show endW _ _ _ _ _ | (refine Nz.h ?_ ?_ <;> intro _) | fail) <;> try simp (disch := first | exact dz | fail) only [go_sem, i_0, i_1, i_2, i_3, i_4, i_5, i_6, i_7, i_8, n_0, n_1, n_2, n_3, n_4, n_5, reduceCtorEq, reduceIte, k0, k1, k5, k6, k7, t9, l1]))
              refine callM_of heq ?_
              rintro v h8 ⟨rfl, rfl⟩
              refine vI ?_; repeat' (first
      | with_reducible first | refine Nx.h ?_ | (refine hK _ _ ?_; clear hK K)
      | ((with_reducible refine q_eo ?_ ?_); exact rfl)
      | ((with_reducible first | refine vO ?_ | (refine Ny.h ?_; intro K hK) | (refine c_drw (by decide +kernel) ?_; intro K hK) | refine c_cond ?_ | show endW _ _ _ _ _ | (refine Nz.h ?_ ?_ <;> intro _) | fail) <;> try simp (disch := first | exact dz | fail) only [go_sem, i_0, i_1, i_2, i_3, i_4, i_5, i_6, i_7, i_8, n_0, n_1, n_2, n_3, n_4, n_5, reduceCtorEq, reduceIte, k0, k1, k5, k6, k7, t9, l1]))
              refine callM_of hdh ?_
              rintro v h9 ⟨rfl, rfl⟩
              refine vI ?_; repeat' (first
      | with_reducible first | refine Nx.h ?_ | (refine hK _ _ ?_; clear hK K)
      | ((with_reducible refine q_eo ?_ ?_); exact rfl)
      | ((with_reducible first | refine vO ?_ | (refine Ny.h ?_; intro K hK) | (refine c_drw (by decide +kernel) ?_; intro K hK) | refine c_cond ?_ | show endW _ _ _ _ _ | (refine Nz.h ?_ ?_ <;> intro _) | fail) <;> try simp (disch := first | exact dz | fail) only [go_sem, i_0, i_1, i_2, i_3, i_4, i_5, i_6, i_7, i_8, n_0, n_1, n_2, n_3, n_4, n_5, reduceCtorEq, reduceIte, k0, k1, k5, k6, k7, t9, l1]))
              refine callM_of heh ?_
              rintro v h9 ⟨rfl, rfl⟩
              refine vI ?_; repeat' (first
      | with_reducible first | refine Nx.h ?_ | (refine hK _ _ ?_; clear hK K)
      | ((with_reducible refine q_eo ?_ ?_); exact rfl)
      | ((with_reducible first | refine vO ?_ | (refine Ny.h ?_; intro K hK) | (refine c_drw (by decide +kernel) ?_; intro K hK) | refine c_cond ?_ | show endW _ _ _ _ _ | (refine Nz.h ?_ ?_ <;> intro _) | fail) <;> try simp (disch := first | exact dz | fail) only [go_sem, i_0, i_1, i_2, i_3, i_4, i_5, i_6, i_7, i_8, n_0, n_1, n_2, n_3, n_4, n_5, reduceCtorEq, reduceIte, k0, k1, k5, k6, k7, t9, l1]))
              try dsimp only
              refine ⟨rfl, 20 - (k + 1), by omega, k + 1, i', j', blkS xX fs, R.2, ?_, B7, PY, by omega, by omega, by omega, rfl⟩
              (first | with_reducible rfl | (simp (disch := first | exact dz | fail) only [go_sem, i_0, i_1, i_2, i_3, i_4, i_5, i_6, i_7, i_8, n_0, n_1, n_2, n_3, n_4, n_5, reduceCtorEq, reduceIte, t9] <;> first | with_reducible rfl | (congr 1 <;> omega)))
            · exact absurd q1 hR
          · have e1 : blkB xX fs = [] := if_neg hE
            have e2 : blkS xX fs = xX := if_neg hE
            rw [e1] at o6
            rw [e2] at B6
            have sb := o6.sl
            have hln : ([] : List UInt8).length = 0 := rfl
            refine vI ?_; repeat' (first
      | with_reducible first | refine Nx.h ?_ | (refine hK _ _ ?_; clear hK K)
      | ((with_reducible refine q_eo ?_ ?_); exact rfl)
      | ((with_reducible first | refine vO ?_ | (refine Ny.h ?_; intro K hK) | (refine c_drw (by decide +kernel) ?_; intro K hK) | refine c_cond ?_ | show endW _ _ _ _ _ | (refine Nz.h ?_ ?_ <;> intro _) | fail) <;> try simp (disch := first | exact dz | fail) only [go_sem, i_0, i_1, i_2, i_3, i_4, i_5, i_6, i_7, i_8, n_0, n_1, n_2, n_3, n_4, n_5, reduceCtorEq, reduceIte, k0, k1, k5, k6, k7, t9, l1, hln]))
            try dsimp only
            refine ⟨rfl, 20 - (k + 1), by omega, k + 1, i', j, xX, sX2, ?_, B6, PX, by omega, by omega, by omega, rfl⟩
            (first | with_reducible rfl | (simp (disch := first | exact dz | fail) only [go_sem, i_0, i_1, i_2, i_3, i_4, i_5, i_6, i_7, i_8, n_0, n_1, n_2, n_3, n_4, n_5, reduceCtorEq, reduceIte, t9] <;> first | with_reducible rfl | (congr 1 <;> omega)))
      · repeat' (first
      | with_reducible first | refine Nx.h ?_ | (refine hK _ _ ?_; clear hK K)
      | ((with_reducible refine q_eo ?_ ?_); exact rfl)
      | ((with_reducible first | (refine Ny.h ?_; intro K hK) | (refine c_drw (by decide +kernel) ?_; intro K hK) | refine c_cond ?_ | show endW _ _ _ _ _ | (refine Nz.h ?_ ?_ <;> intro _) | fail) <;> try simp (disch := first | exact dz | fail) only [go_sem, i_0, i_1, i_2, i_3, i_4, i_5, i_6, i_7, i_8, n_0, n_1, n_2, n_3, n_4, n_5, reduceCtorEq, reduceIte, k0, k1, k5, k6, k7, t9]))
    · repeat' (first
      | with_reducible first | refine Nx.h ?_ | (refine hK _ _ ?_; clear hK K)
      | ((with_reducible refine q_eo ?_ ?_); exact rfl)
      | ((with_reducible first | (refine Ny.h ?_; intro K hK) | (refine c_drw (by decide +kernel) ?_; intro K hK) | refine c_cond ?_ | show endW _ _ _ _ _ | (refine Nz.h ?_ ?_ <;> intro _) | fail) <;> try simp (disch := first | exact dz | fail) only [go_sem, i_0, i_1, i_2, i_3, i_4, i_5, i_6, i_7, i_8, n_0, n_1, n_2, n_3, n_4, n_5, reduceCtorEq, reduceIte, k0, k1, k5, k6, k7, t9]))
theorem lifted14 (os : Os) (started : os.Started) (H : Type) (enc : TypeId × Value → H) :
    ReturnsInHanded {} Try.checked os 14 .any (Rows.unpackBackSpec.pre6 enc Try.prog Try.f14 Rows.unpackBackRow.domain false) (Rows.unpackBackSpec.post enc Try.prog Try.f14 false true false false) := by
  refine returnsInHanded_of_change_sized (C := Try.checked) own started (by kernel_rfl) Try.func14
    (ChangeSpec.witness6 (enc := enc) (C := Try.checked) false ⟨#[], #[.slice none 0 0, .slice none 0 0], []⟩ 8 (by kernel_rfl) (by kernel_rfl) (by kernel_rfl) (by kernel_rfl)) ?_
  intro W base args ds gs before hval hW _ hz _
  have hW' := hW
  obtain ⟨p, q, hA0, hV, rfl, _, _⟩ := hW
  have hA : DataW.TrodAll enc Try.prog W 0 (fun _ => true) true Try.f14.params.toList args.toList ds p := hA0
  rw [Try.params14] at hA hval
  obtain ⟨v0, vs0, d0, ds0, p0, q0, hargs, rfl, rfl, k0, r0⟩ := trodAll_cons hA
  obtain ⟨v1, vs1, d1, ds1, p1, q1, rfl, rfl, rfl, k1, r1⟩ := trodAll_cons r0
  obtain ⟨rfl, rfl, rfl⟩ := trodAll_nil r1
  obtain rfl : args = #[v0, v1] := by cases args; simp_all
  obtain ⟨rfl, rfl⟩ := trodVars_none hV
  have hz0 : (DataW.weightsEach Try.prog [57, 58] [d0, d1]).all (· ≤ reachBytes) = true := hz
  obtain ⟨z0, hz1⟩ := reach_hd hz0
  obtain ⟨z1, hz2⟩ := reach_hd hz1
  obtain ⟨a0, w0, D0, g0, s0⟩ := arg_readB tok cl_reach (n := 2) (by rfl) (hval 0 57 v0 rfl rfl) z0 k0
  rw [s0 (by rfl)] at D0
  obtain ⟨a1, w1, D1, g1, s1⟩ := arg_readB tok cl_reach (n := 4) (by rfl) (hval 1 58 v1 rfl rfl) z1 k1
  rw [s1 (by rfl)] at D1
  obtain ⟨n, h', hr⟩ := callW_run (backRun a0 a1 D0 D1)
  refine (calls_true mixed tok fok hr (.cons _ _ _ _ w0 (.cons _ _ _ _ w1 .nil))).mono ?_
  rintro e W' ⟨rfl, hb⟩
  exact ⟨_, rfl, post_true laidOut (by kernel_rfl) (by kernel_rfl) Try.underlying4 rfl hW' rfl hb⟩
theorem unpackBack : Rows.UnpackBackSaid :=
  OpenClaim.holds_of_wide 14 Try.f14 rfl rfl rfl rfl rfl rfl rfl ⟨rfl, rfl, rfl, rfl, rfl⟩ rfl rfl rfl rfl rfl (by kernel_rfl) Try.func14 (by kernel_rfl)
    (of_decide_eq_true (by kernel_rfl)) (by unfold Func.isWrapper; first | (rw [if_pos (by decide +kernel)]; kernel_rfl) | (rw [if_neg (by decide +kernel)]; exact ⟨rfl, rfl⟩))
    (fun os started H enc _ => lifted14 os started H enc)
#print axioms unpackBack
end Go.Proofs.Ytmpeofjfagdgkaa
