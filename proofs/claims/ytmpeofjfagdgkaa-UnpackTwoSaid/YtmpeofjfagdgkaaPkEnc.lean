/- pack: fields as they stand in blocks; the encoder in memory: find, update, Limit, of code and reference. -/
import Derived.Test.YtmpeofjfagdgkaaPkStat
set_option linter.unusedSimpArgs false
set_option linter.unusedVariables false
namespace Go.Proofs.Ytmpeofjfagdgkaa
open Go.Abs
open Int renaming reduceEq → i_0, reduceLE → i_1, reduceLT → i_2, reduceNe → i_3, reduceNeg → i_4, reduceAdd → i_5, reduceSub → i_6, reduceMul → i_7, reduceToNat → i_8
open Nat renaming reduceLT → n_0, reduceLeDiff → n_1, reduceEqDiff → n_2, reduceAdd → n_3, reduceSub → n_4, reduceMul → n_5
set_option maxRecDepth 100000
def litB (b f n : Int) (x : Fd) : List UInt8 := numB b f n ++ ((if n = 0 then textB x.1 else []) ++ textB x.2.1)
theorem bitsLen_len (s : List UInt8) : (bitsLen s + 7) / 8 ≤ 4 * s.length + 1 := by
  have := bitsLen_le s
  omega
theorem textB_len (s : List UInt8) : (textB s).length ≤ 400000 := by
  unfold textB
  split
  · simp
  · split
    · have h1 := numB_len 7 128 ((bitsLen s + 7) / 8)
      have h2 := putB_len2 s
      have h3 := bitsLen_len s
      rw [List.length_append]; omega
    · have h1 := numB_len 7 0 s.length
      rw [List.length_append]; omega
theorem litB_len (b f n : Int) (x : Fd) : (litB b f n x).length ≤ 900000 := by
  unfold litB
  have h1 := numB_len b f n
  have h2 := textB_len x.1
  have h3 := textB_len x.2.1
  rw [List.length_append, List.length_append]
  split
  · omega
  · simp only [List.length_nil]; omega
theorem AppB.trans {h h1 h2 : AH} {i i1 : Nat} {l l2 : List UInt8} {v v2 : AV} (hi : i1 = i ∨ h.size ≤ i1) (hz : h.size ≤ h1.size) (hf : ∀ j, j < h.size → ¬ j = i → h1.get j = h.get j) (a : AppB h1 i1 l2 v2 h2) : AppB h i l2 v2 h2 := by
  obtain ⟨i2, o2, hi2, hz2, hf2⟩ := a
  exact ⟨i2, o2, by omega, by omega, fun j hj hji => by rw [hf2 j (by omega) (by omega), hf j hj hji]⟩
theorem idx_off {h0 : AH} {i : Nat} {a : AV} {l : List UInt8} (o : Ow E8 h0 i a l) : ∃ I, (I < h0.size ∨ h0.size + 10 ≤ I) ∧ Ow E8 h0 I a l ∧ ∀ l v h', AppB h0 I l v h' → AppB h0 i l v h' := by
  by_cases hi : i < h0.size
  · exact ⟨i, .inl hi, o, fun _ _ _ h => h⟩
  · refine ⟨h0.size + 10, .inr (Nat.le_refl _), ?_, fun l v h' ⟨i', o', a, b, c⟩ => ⟨i', o', by omega, b, fun j hj hji => c j hj (by omega)⟩⟩
    cases o with
    | nil0 ex z => exact .nil0 ex z
    | blk n cap ex l junk q hs hn hc hj => exact absurd hs hi
set_option maxHeartbeats 4000000 in
theorem literal (a : AV) (i : Nat) (l : List UInt8) (b f n : Int) (x : Fd) (h0 : AH) (ha : Ow E8 h0 i a l) (hl : l.length ≤ 5000000000) :
    callW Try.prog Try.T 38 [a, .int .i64 b, .int .i64 f, .int .i64 n, .agg (EF.f x)] h0 fun v h' => AppB h0 i (l ++ litB b f n x) v h' := by
  obtain ⟨I, hI, haI, hAI⟩ := idx_off ha
  refine callW_mono (K := fun v h' => AppB h0 I (l ++ litB b f n x) v h') ?_ (fun v h' h => hAI _ _ _ h)
  clear ha hAI
  refine callW_hide fun KK hKK => ?_
  obtain ⟨x1, x2, x3⟩ := x
  refine callW_in (n := 28) (rs := [.tmp 10]) (m := 28) Try.func38 rfl rfl rfl rfl fun tr ht => ?_; have e0 := ht 0 _ rfl; have e1 := ht 1 _ rfl; have e2 := ht 2 _ rfl; have e3 := ht 3 _ rfl; have e4 := ht 4 _ rfl; clear ht
  rw [EFf] at e4
  have hnl := numB_len b f n
  have ht1 := textB_len x1
  have ht2 := textB_len x2
  refine c_seq ?_
  refine c_reg fun K hK => ?_
  simp (disch := first | exact dz | fail) only [go_sem, i_0, i_1, i_2, i_3, i_4, i_5, i_6, i_7, i_8, n_0, n_1, n_2, n_3, n_4, n_5, reduceCtorEq, reduceIte, e0, e1, e2, e3, e4]
  refine hK _ _ ?_
  clear hK K
  refine q_nn ?_
  refine c_hide fun h1 hh1 => ?_
  have k1 : Keeps h0.size h0 h1 := by rw [hh1]; exact (Keeps.refl _ _).push (Nat.le_refl _) _
  have z1 : h1.size = h0.size + 1 := by rw [hh1]; simp (disch := first | exact dz | fail) only [go_sem, i_0, i_1, i_2, i_3, i_4, i_5, i_6, i_7, i_8, n_0, n_1, n_2, n_3, n_4, n_5, reduceCtorEq, reduceIte]
  have bx : h1.get h0.size = some (.cells [.str x1, .str x2, .bool x3]) := by rw [hh1]; simp (disch := first | exact dz | fail) only [go_sem, i_0, i_1, i_2, i_3, i_4, i_5, i_6, i_7, i_8, n_0, n_1, n_2, n_3, n_4, n_5, reduceCtorEq, reduceIte]
  clear hh1
  have a1 := haI.frame (h' := h1) (fun hi => k1.2 I hi) k1.1
  have hIx : ¬ h0.size = I := by omega
  repeat' (first
      | with_reducible first | refine Nx.h ?_ | (refine hK _ _ ?_; clear hK K)
      | ((with_reducible refine q_eo ?_ ?_); exact rfl)
      | ((with_reducible first | (refine Ny.h ?_; intro K hK) | (refine c_drw (by decide +kernel) ?_; intro K hK) | refine c_cond ?_ | show endW _ _ _ _ _ | (refine Nz.h ?_ ?_ <;> intro _) | fail) <;> try simp (disch := first | exact dz | fail) only [go_sem, i_0, i_1, i_2, i_3, i_4, i_5, i_6, i_7, i_8, n_0, n_1, n_2, n_3, n_4, n_5, reduceCtorEq, reduceIte, e0, e1, e2, e3]))
  refine callM_of (number a I l b f n h1 a1 (by omega)) ?_
  rintro v2 h2 ⟨i2, o2, hi2, z2, f2⟩
  have bx2 := (f2 _ (by omega) hIx).trans bx
  have hln2 : (l ++ numB b f n).length ≤ 5000000006 := by rw [List.length_append]; omega
  by_cases hn : n = 0
  · refine vI ?_; repeat' (first
      | with_reducible first | refine Nx.h ?_ | (refine hK _ _ ?_; clear hK K)
      | ((with_reducible refine q_eo ?_ ?_); exact rfl)
      | ((with_reducible first | refine vO ?_ | (refine Ny.h ?_; intro K hK) | (refine c_drw (by decide +kernel) ?_; intro K hK) | refine c_cond ?_ | show endW _ _ _ _ _ | (refine Nz.h ?_ ?_ <;> intro _) | fail) <;> try simp (disch := first | exact dz | fail) only [go_sem, i_0, i_1, i_2, i_3, i_4, i_5, i_6, i_7, i_8, n_0, n_1, n_2, n_3, n_4, n_5, reduceCtorEq, reduceIte, e0, e1, e2, e3, bx2, hn]))
    refine callM_of (text x1 h2) ?_
    rintro v3 h3 ⟨⟨j3, hj3, o3⟩, k3⟩
    have o2' := o2.frame (h' := h3) (fun hi => k3.2 i2 hi) k3.1
    have z3 := k3.1
    have bx3 := (k3.2 _ (by omega)).trans bx2
    refine vI ?_; repeat' (first
      | with_reducible first | refine Nx.h ?_ | (refine hK _ _ ?_; clear hK K)
      | ((with_reducible refine q_eo ?_ ?_); exact rfl)
      | ((with_reducible first | refine vO ?_ | (refine Ny.h ?_; intro K hK) | (refine c_drw (by decide +kernel) ?_; intro K hK) | refine c_cond ?_ | show endW _ _ _ _ _ | (refine Nz.h ?_ ?_ <;> intro _) | fail) <;> try simp (disch := first | exact dz | fail) only [go_sem, i_0, i_1, i_2, i_3, i_4, i_5, i_6, i_7, i_8, n_0, n_1, n_2, n_3, n_4, n_5, reduceCtorEq, reduceIte, e0, e1, e2, e3, bx3, hn]))
    refine Try.ap33 o2' o3.sl (by exact .mk) (by omega) fun v4 h4 i4 o4 hi4 z4 f4 => ?_
    have bx4 := (f4 _ (by omega) (by omega)).trans bx3
    refine vI ?_; repeat' (first
      | with_reducible first | refine Nx.h ?_ | (refine hK _ _ ?_; clear hK K)
      | ((with_reducible refine q_eo ?_ ?_); exact rfl)
      | ((with_reducible first | refine vO ?_ | (refine Ny.h ?_; intro K hK) | (refine c_drw (by decide +kernel) ?_; intro K hK) | refine c_cond ?_ | show endW _ _ _ _ _ | (refine Nz.h ?_ ?_ <;> intro _) | fail) <;> try simp (disch := first | exact dz | fail) only [go_sem, i_0, i_1, i_2, i_3, i_4, i_5, i_6, i_7, i_8, n_0, n_1, n_2, n_3, n_4, n_5, reduceCtorEq, reduceIte, e0, e1, e2, e3, bx4, hn]))
    refine callM_of (text x2 h4) ?_
    rintro v5 h5 ⟨⟨j5, hj5, o5⟩, k5⟩
    have o4' := o4.frame (h' := h5) (fun hi => k5.2 i4 hi) k5.1
    have z5 := k5.1
    refine vI ?_; repeat' (first
      | with_reducible first | refine Nx.h ?_ | (refine hK _ _ ?_; clear hK K)
      | ((with_reducible refine q_eo ?_ ?_); exact rfl)
      | ((with_reducible first | refine vO ?_ | (refine Ny.h ?_; intro K hK) | (refine c_drw (by decide +kernel) ?_; intro K hK) | refine c_cond ?_ | show endW _ _ _ _ _ | (refine Nz.h ?_ ?_ <;> intro _) | fail) <;> try simp (disch := first | exact dz | fail) only [go_sem, i_0, i_1, i_2, i_3, i_4, i_5, i_6, i_7, i_8, n_0, n_1, n_2, n_3, n_4, n_5, reduceCtorEq, reduceIte, e0, e1, e2, e3]))
    refine Try.ap33 o4' o5.sl (by exact .mk) (by rw [List.length_append]; omega) fun v6 h6 i6 o6 hi6 z6 f6 => ?_
    refine vI ?_; repeat' (first
      | with_reducible first | refine Nx.h ?_ | (refine hK _ _ ?_; clear hK K)
      | ((with_reducible refine q_eo ?_ ?_); exact rfl)
      | ((with_reducible first | refine vO ?_ | (refine Ny.h ?_; intro K hK) | (refine c_drw (by decide +kernel) ?_; intro K hK) | refine c_cond ?_ | show endW _ _ _ _ _ | (refine Nz.h ?_ ?_ <;> intro _) | fail) <;> try simp (disch := first | exact dz | fail) only [go_sem, i_0, i_1, i_2, i_3, i_4, i_5, i_6, i_7, i_8, n_0, n_1, n_2, n_3, n_4, n_5, reduceCtorEq, reduceIte, e0, e1, e2, e3]))
    refine hKK _ _ ⟨i6, ?_, by omega, by omega, fun j hj hji => ?_⟩
    · unfold litB; rw [if_pos hn, ← List.append_assoc, ← List.append_assoc]; exact o6
    · rw [f6 j (by omega) (by omega), k5.2 j (by omega), f4 j (by omega) (by omega), k3.2 j (by omega), f2 j (by omega) hji, k1.2 j hj]
  · refine vI ?_; repeat' (first
      | with_reducible first | refine Nx.h ?_ | (refine hK _ _ ?_; clear hK K)
      | ((with_reducible refine q_eo ?_ ?_); exact rfl)
      | ((with_reducible first | refine vO ?_ | (refine Ny.h ?_; intro K hK) | (refine c_drw (by decide +kernel) ?_; intro K hK) | refine c_cond ?_ | show endW _ _ _ _ _ | (refine Nz.h ?_ ?_ <;> intro _) | fail) <;> try simp (disch := first | exact dz | fail) only [go_sem, i_0, i_1, i_2, i_3, i_4, i_5, i_6, i_7, i_8, n_0, n_1, n_2, n_3, n_4, n_5, reduceCtorEq, reduceIte, e0, e1, e2, e3, bx2]))
    refine callM_of (text x2 h2) ?_
    rintro v5 h5 ⟨⟨j5, hj5, o5⟩, k5⟩
    have o4' := o2.frame (h' := h5) (fun hi => k5.2 i2 hi) k5.1
    have z5 := k5.1
    refine vI ?_; repeat' (first
      | with_reducible first | refine Nx.h ?_ | (refine hK _ _ ?_; clear hK K)
      | ((with_reducible refine q_eo ?_ ?_); exact rfl)
      | ((with_reducible first | refine vO ?_ | (refine Ny.h ?_; intro K hK) | (refine c_drw (by decide +kernel) ?_; intro K hK) | refine c_cond ?_ | show endW _ _ _ _ _ | (refine Nz.h ?_ ?_ <;> intro _) | fail) <;> try simp (disch := first | exact dz | fail) only [go_sem, i_0, i_1, i_2, i_3, i_4, i_5, i_6, i_7, i_8, n_0, n_1, n_2, n_3, n_4, n_5, reduceCtorEq, reduceIte, e0, e1, e2, e3]))
    refine Try.ap33 o4' o5.sl (by exact .mk) (by omega) fun v6 h6 i6 o6 hi6 z6 f6 => ?_
    refine vI ?_; repeat' (first
      | with_reducible first | refine Nx.h ?_ | (refine hK _ _ ?_; clear hK K)
      | ((with_reducible refine q_eo ?_ ?_); exact rfl)
      | ((with_reducible first | refine vO ?_ | (refine Ny.h ?_; intro K hK) | (refine c_drw (by decide +kernel) ?_; intro K hK) | refine c_cond ?_ | show endW _ _ _ _ _ | (refine Nz.h ?_ ?_ <;> intro _) | fail) <;> try simp (disch := first | exact dz | fail) only [go_sem, i_0, i_1, i_2, i_3, i_4, i_5, i_6, i_7, i_8, n_0, n_1, n_2, n_3, n_4, n_5, reduceCtorEq, reduceIte, e0, e1, e2, e3]))
    refine hKK _ _ ⟨i6, ?_, by omega, by omega, fun j hj hji => ?_⟩
    · unfold litB; rw [if_neg hn, List.nil_append, ← List.append_assoc]; exact o6
    · rw [f6 j (by omega) (by omega), k5.2 j (by omega), f2 j (by omega) hji, k1.2 j hj]
/-- An encoder: its list, the size that is known, the least and the last that were told. -/
structure En where
  l : List Fd
  known : Int
  least : Int
  last : Int
/-- The code's encoder in memory: its block, its table's, its list's. -/
structure EnC (h : AH) (e p i : Nat) (s : En) : Prop where
  g : h.get e = some (.cells [.ptr (some (p, 0)), .int .i64 s.known, .int .i64 s.least, .int .i64 s.last])
  t : ∃ a, Tb h p i s.l s.known a
  es : e < h.size
  ep : ¬ e = p
  ei : ¬ e = i
structure EnR (h : AH) (e p i : Nat) (s : En) : Prop where
  g : h.get e = some (.cells [.ptr (some (p, 0)), .int .i64 s.known, .int .i64 s.least, .int .i64 s.last])
  t : ∃ a, Rb h p i s.l s.known a
  es : e < h.size
  ep : ¬ e = p
  ei : ¬ e = i
def But3 (e p i : Nat) (h h' : AH) : Prop := h.size ≤ h'.size ∧ ∀ b, b < h.size → ¬ b = e → ¬ b = p → ¬ b = i → h'.get b = h.get b
theorem Tb.frame {h h' : AH} {p i : Nat} {l : List Fd} {M : Int} {a : AV} (t : Tb h p i l M a) (h1 : h'.get p = h.get p) (h2 : h'.get i = h.get i) (h3 : h.size ≤ h'.size) : Tb h' p i l M a := by
  obtain ⟨q1, q2, q3, q4, q5⟩ := t
  exact ⟨h1.trans q1, q2.frame (fun _ => h2) h3, by omega, by omega, q5⟩
theorem Rb.frame {h h' : AH} {p i : Nat} {l : List Fd} {M : Int} {a : AV} (t : Rb h p i l M a) (h1 : h'.get p = h.get p) (h2 : h'.get i = h.get i) (h3 : h.size ≤ h'.size) : Rb h' p i l M a := by
  obtain ⟨q1, q2, q3, q4, q5⟩ := t
  exact ⟨h1.trans q1, q2.frame (fun _ => h2) h3, by omega, by omega, q5⟩
theorem EnC.frame {h h' : AH} {e p i : Nat} {s : En} (t : EnC h e p i s) (hf : ∀ b, b < h.size → (b = e ∨ b = p ∨ b = i) → h'.get b = h.get b) (hz : h.size ≤ h'.size) : EnC h' e p i s := by
  obtain ⟨g, ⟨a, ta⟩, es, ep, ei⟩ := t
  exact ⟨(hf e es (.inl rfl)).trans g, ⟨a, ta.frame (hf _ ta.ps (.inr (.inl rfl))) (hf _ ta.is (.inr (.inr rfl))) hz⟩, by omega, ep, ei⟩
theorem EnR.frame {h h' : AH} {e p i : Nat} {s : En} (t : EnR h e p i s) (hf : ∀ b, b < h.size → (b = e ∨ b = p ∨ b = i) → h'.get b = h.get b) (hz : h.size ≤ h'.size) : EnR h' e p i s := by
  obtain ⟨g, ⟨a, ta⟩, es, ep, ei⟩ := t
  exact ⟨(hf e es (.inl rfl)).trans g, ⟨a, ta.frame (hf _ ta.ps (.inr (.inl rfl))) (hf _ ta.is (.inr (.inr rfl))) hz⟩, by omega, ep, ei⟩
def mix (s d : Int) : Int := if s = 0 ∧ d > 0 then 61 + d else s
def findE (x y : List UInt8) (l : List Fd) : Int × Int := (mix (fnd x y statL 1).1 (fnd x y l.reverse 1).1, mix (fnd x y statL 1).2 (fnd x y l.reverse 1).2)
theorem fnd_le (x y : List UInt8) : ∀ (l : List Fd) (k : Int), 0 ≤ k → 0 ≤ (fnd x y l k).1 ∧ (fnd x y l k).1 ≤ k + l.length ∧ 0 ≤ (fnd x y l k).2 ∧ (fnd x y l k).2 ≤ k + l.length
  | [], k, hk => by simp [fnd]; exact hk
  | f :: r, k, hk => by
    have := fnd_le x y r (k + 1) (by omega)
    rw [fnd_cons]
    simp only [List.length_cons]
    refine ⟨?_, ?_, ?_, ?_⟩ <;> split <;> omega
set_option maxHeartbeats 4000000 in
theorem efind (e p i : Nat) (s : En) (x : Fd) (h0 : AH) (he : EnC h0 e p i s) (hl : s.l.length ≤ 1000000) :
    callW Try.prog Try.T 37 [.ptr (some (e, 0)), .agg (EF.f x)] h0 fun v h' => v = .tuple [.int .i64 (findE x.1 x.2.1 s.l).1, .int .i64 (findE x.1 x.2.1 s.l).2] ∧ Keeps h0.size h0 h' := by
  refine callW_hide fun KK hKK => ?_
  obtain ⟨x1, x2, x3⟩ := x
  unfold findE mix at hKK
  refine callW_in (n := 48) (rs := [.tmp 4, .tmp 5]) (m := 48) Try.func37 rfl rfl rfl rfl fun tr ht => ?_; have e0 := ht 0 _ rfl; have e1 := ht 1 _ rfl; clear ht
  rw [EFf] at e1
  refine c_seq ?_
  refine c_reg fun K hK => ?_
  simp (disch := first | exact dz | fail) only [go_sem, i_0, i_1, i_2, i_3, i_4, i_5, i_6, i_7, i_8, n_0, n_1, n_2, n_3, n_4, n_5, reduceCtorEq, reduceIte, e0, e1]
  refine hK _ _ ?_
  clear hK K
  refine q_nn ?_
  refine c_hide fun h1 hh1 => ?_
  have k1 : Keeps h0.size h0 h1 := by rw [hh1]; exact (Keeps.refl _ _).push (Nat.le_refl _) _
  have z1 : h1.size = h0.size + 1 := by rw [hh1]; simp (disch := first | exact dz | fail) only [go_sem, i_0, i_1, i_2, i_3, i_4, i_5, i_6, i_7, i_8, n_0, n_1, n_2, n_3, n_4, n_5, reduceCtorEq, reduceIte]
  have bx : h1.get h0.size = some (.cells [.str x1, .str x2, .bool x3]) := by rw [hh1]; simp (disch := first | exact dz | fail) only [go_sem, i_0, i_1, i_2, i_3, i_4, i_5, i_6, i_7, i_8, n_0, n_1, n_2, n_3, n_4, n_5, reduceCtorEq, reduceIte]
  clear hh1
  repeat' (first
      | with_reducible first | refine Nx.h ?_ | (refine hK _ _ ?_; clear hK K)
      | ((with_reducible refine q_eo ?_ ?_); exact rfl)
      | ((with_reducible first | (refine Ny.h ?_; intro K hK) | (refine c_drw (by decide +kernel) ?_; intro K hK) | refine c_cond ?_ | show endW _ _ _ _ _ | (refine Nz.h ?_ ?_ <;> intro _) | fail) <;> try simp (disch := first | exact dz | fail) only [go_sem, i_0, i_1, i_2, i_3, i_4, i_5, i_6, i_7, i_8, n_0, n_1, n_2, n_3, n_4, n_5, reduceCtorEq, reduceIte, e0, bx]))
  refine callM_of (sfind x1 x2 h1) ?_
  rintro v h2 ⟨rfl, k2⟩
  have z2 := k2.1
  have bx2 := (k2.2 _ (by omega)).trans bx
  have kk : Keeps h0.size h0 h2 := ⟨by omega, fun b hb => by rw [k2.2 b (by omega), k1.2 b hb]⟩
  have he2 := he.frame (h' := h2) (fun b hb _ => kk.2 b hb) kk.1
  obtain ⟨g, ⟨a, ta⟩, es, ep, ei⟩ := he2
  refine vI ?_; repeat' (first
      | with_reducible first | refine Nx.h ?_ | (refine hK _ _ ?_; clear hK K)
      | ((with_reducible refine q_eo ?_ ?_); exact rfl)
      | ((with_reducible first | refine vO ?_ | (refine Ny.h ?_; intro K hK) | (refine c_drw (by decide +kernel) ?_; intro K hK) | refine c_cond ?_ | show endW _ _ _ _ _ | (refine Nz.h ?_ ?_ <;> intro _) | fail) <;> try simp (disch := first | exact dz | fail) only [go_sem, i_0, i_1, i_2, i_3, i_4, i_5, i_6, i_7, i_8, n_0, n_1, n_2, n_3, n_4, n_5, reduceCtorEq, reduceIte, e0, bx2, g]))
  refine callM_of (tFind p i s.l s.known x1 x2 a h2 ta hl) ?_
  rintro v h3 ⟨rfl, rfl⟩
  have hb1 := fnd_le x1 x2 statL 1 (by omega)
  have hb2 := fnd_le x1 x2 s.l.reverse 1 (by omega)
  rw [stat_len] at hb1
  rw [List.length_reverse] at hb2
  simp only at hKK
  generalize (fnd x1 x2 statL 1).1 = s1 at *
  generalize (fnd x1 x2 statL 1).2 = s2 at *
  generalize (fnd x1 x2 s.l.reverse 1).1 = d1 at *
  generalize (fnd x1 x2 s.l.reverse 1).2 = d2 at *
  by_cases c1 : s1 = 0 ∧ d1 > 0
  · by_cases c2 : s2 = 0 ∧ d2 > 0
    · rw [if_pos c1, if_pos c2] at hKK
      obtain ⟨rfl, c1⟩ := c1
      obtain ⟨rfl, c2⟩ := c2
      refine vI ?_; repeat' (first
      | with_reducible first | refine Nx.h ?_ | (refine hK _ _ ?_; clear hK K)
      | ((with_reducible refine q_eo ?_ ?_); exact rfl)
      | ((with_reducible first | refine vO ?_ | (refine Ny.h ?_; intro K hK) | (refine c_drw (by decide +kernel) ?_; intro K hK) | refine c_cond ?_ | show endW _ _ _ _ _ | (refine Nz.h ?_ ?_ <;> intro _) | fail) <;> try simp (disch := first | exact dz | fail) only [go_sem, i_0, i_1, i_2, i_3, i_4, i_5, i_6, i_7, i_8, n_0, n_1, n_2, n_3, n_4, n_5, reduceCtorEq, reduceIte, e0]))
      exact hKK _ _ ⟨rfl, kk⟩
    · rw [if_pos c1, if_neg c2] at hKK
      obtain ⟨rfl, c1⟩ := c1
      refine vI ?_; repeat' (first
      | with_reducible first | refine Nx.h ?_ | (refine hK _ _ ?_; clear hK K)
      | ((with_reducible refine q_eo ?_ ?_); exact rfl)
      | ((with_reducible first | refine vO ?_ | (refine Ny.h ?_; intro K hK) | (refine c_drw (by decide +kernel) ?_; intro K hK) | refine c_cond ?_ | show endW _ _ _ _ _ | (refine Nz.h ?_ ?_ <;> intro _) | fail) <;> try simp (disch := first | exact dz | fail) only [go_sem, i_0, i_1, i_2, i_3, i_4, i_5, i_6, i_7, i_8, n_0, n_1, n_2, n_3, n_4, n_5, reduceCtorEq, reduceIte, e0]))
      all_goals first | exact hKK _ _ ⟨rfl, kk⟩ | (exfalso; omega)
  · by_cases c2 : s2 = 0 ∧ d2 > 0
    · rw [if_neg c1, if_pos c2] at hKK
      obtain ⟨rfl, c2⟩ := c2
      refine vI ?_; repeat' (first
      | with_reducible first | refine Nx.h ?_ | (refine hK _ _ ?_; clear hK K)
      | ((with_reducible refine q_eo ?_ ?_); exact rfl)
      | ((with_reducible first | refine vO ?_ | (refine Ny.h ?_; intro K hK) | (refine c_drw (by decide +kernel) ?_; intro K hK) | refine c_cond ?_ | show endW _ _ _ _ _ | (refine Nz.h ?_ ?_ <;> intro _) | fail) <;> try simp (disch := first | exact dz | fail) only [go_sem, i_0, i_1, i_2, i_3, i_4, i_5, i_6, i_7, i_8, n_0, n_1, n_2, n_3, n_4, n_5, reduceCtorEq, reduceIte, e0]))
      all_goals first | exact hKK _ _ ⟨rfl, kk⟩ | (exfalso; omega)
    · rw [if_neg c1, if_neg c2] at hKK
      refine vI ?_; repeat' (first
      | with_reducible first | refine Nx.h ?_ | (refine hK _ _ ?_; clear hK K)
      | ((with_reducible refine q_eo ?_ ?_); exact rfl)
      | ((with_reducible first | refine vO ?_ | (refine Ny.h ?_; intro K hK) | (refine c_drw (by decide +kernel) ?_; intro K hK) | refine c_cond ?_ | show endW _ _ _ _ _ | (refine Nz.h ?_ ?_ <;> intro _) | fail) <;> try simp (disch := first | exact dz | fail) only [go_sem, i_0, i_1, i_2, i_3, i_4, i_5, i_6, i_7, i_8, n_0, n_1, n_2, n_3, n_4, n_5, reduceCtorEq, reduceIte, e0]))
      all_goals first | exact hKK _ _ ⟨rfl, kk⟩ | (exfalso; omega)
end Go.Proofs.Ytmpeofjfagdgkaa
