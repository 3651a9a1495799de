/- The reference's Long, Order, Codes. -/
import Derived.Test.YtmpeofjfagdgkaaHufRows
set_option linter.unusedSimpArgs false
set_option linter.unusedVariables false
namespace Go.Proofs.Ytmpeofjfagdgkaa
open Go.Abs
open Int renaming reduceEq → i_0, reduceLE → i_1, reduceLT → i_2, reduceNe → i_3, reduceNeg → i_4, reduceAdd → i_5, reduceSub → i_6, reduceMul → i_7, reduceToNat → i_8
open Nat renaming reduceLT → n_0, reduceLeDiff → n_1, reduceEqDiff → n_2, reduceAdd → n_3, reduceSub → n_4, reduceMul → n_5
set_option maxRecDepth 100000
theorem ctab_len : ctab.length = 257 := stC_len 257
def ctabN : List (Int × Int) := (stN 257).2
theorem ctab_eq : ctab = ctabN := by unfold ctab ctabN; rw [stC_eq']
theorem ctab_ok : ∀ s : Nat, s < 257 → 5 ≤ (ctab[s]!).1 ∧ (ctab[s]!).1 ≤ 30 ∧ 0 ≤ (ctab[s]!).2 ∧ (ctab[s]!).2 < 2 ^ (ctab[s]!).1.toNat := by rw [ctab_eq]; decide +kernel
def lenOk (L : List UInt8) : Bool := L.length == 257 && (List.range 257).all fun s => ((L[s]!).toNat : Int) == (ctabN[s]!).1 + 92
theorem long_key {s : Int} (h1 : 0 ≤ s) (h2 : s ≤ 256) (L : List UInt8) (hL : lenOk L = true) : ixR Try.T 9 (some (.str L)) (some (.int .i64 s)) = some (.int .u8 ((ctab[s.toNat]!).1 + 92)) := by
  unfold lenOk at hL
  simp only [Bool.and_eq_true, beq_iff_eq, List.all_eq_true] at hL
  rw [Try.ix9 h1 (by omega), hL.2 s.toNat (by simp; omega), ctab_eq]
set_option maxHeartbeats 4000000 in
theorem long (s : Int) (h0 : AH) (h1 : 0 ≤ s) (h2 : s ≤ 256) : callW Try.prog Try.T 65 [.int .i64 s] h0 fun v h' => v = .int .i64 (ctab[s.toNat]!).1 ∧ h' = h0 := by
  have hk := long_key h1 h2
  have hc := ctab_ok s.toNat (by omega)
  refine callW_in (n := 8) (rs := [.tmp 2]) (m := 8) Try.func65 rfl rfl rfl rfl fun tr ht => ?_; have e0 := ht 0 _ rfl; clear ht
  repeat' (first
      | with_reducible first | refine Nx.h ?_ | (refine hK _ _ ?_; clear hK K)
      | ((with_reducible refine q_eo ?_ ?_); exact rfl)
      | ((with_reducible first | (refine Ny.h ?_; intro K hK) | (refine c_drw (by decide +kernel) ?_; intro K hK) | refine c_cond ?_ | show endW _ _ _ _ _ | (refine Nz.h ?_ ?_ <;> intro _) | fail) <;> try simp (disch := first | exact dz | fail) only [go_sem, i_0, i_1, i_2, i_3, i_4, i_5, i_6, i_7, i_8, n_0, n_1, n_2, n_3, n_4, n_5, reduceCtorEq, reduceIte, e0]))
  simp (disch := decide +kernel) only [hk]
  refine vI ?_; repeat' (first
      | with_reducible first | refine Nx.h ?_ | (refine hK _ _ ?_; clear hK K)
      | ((with_reducible refine q_eo ?_ ?_); exact rfl)
      | ((with_reducible first | refine vO ?_ | (refine Ny.h ?_; intro K hK) | (refine c_drw (by decide +kernel) ?_; intro K hK) | refine c_cond ?_ | show endW _ _ _ _ _ | (refine Nz.h ?_ ?_ <;> intro _) | fail) <;> try simp (disch := first | exact dz | fail) only [go_sem, i_0, i_1, i_2, i_3, i_4, i_5, i_6, i_7, i_8, n_0, n_1, n_2, n_3, n_4, n_5, reduceCtorEq, reduceIte, e0]))
  congr 1; omega
/-! ### Order -/
def inRow (n : Int) (s : Nat) : Bool := (ctab[s]!).1 == n
def rowUp (n : Int) (m : Nat) : List Int := ((List.range m).filter (inRow n)).map fun s : Nat => (s : Int)
theorem rowUp_succ (n : Int) (m : Nat) : rowUp n (m + 1) = if (ctab[m]!).1 = n then rowUp n m ++ [(m : Int)] else rowUp n m := by
  unfold rowUp
  rw [List.range_succ, List.filter_append, List.map_append]
  by_cases h : (ctab[m]!).1 = n
  · have e : [m].filter (inRow n) = [m] := by
      have : inRow n m = true := by simpa only [inRow, beq_iff_eq] using h
      rw [List.filter_cons, if_pos this]; rfl
    rw [if_pos h, e]; rfl
  · have e : [m].filter (inRow n) = [] := by
      have : ¬ inRow n m = true := by simpa only [inRow, beq_iff_eq] using h
      rw [List.filter_cons, if_neg this]; rfl
    rw [if_neg h, e, List.map_nil, List.append_nil]
def upTo : Nat → List Int
  | 0 => []
  | n + 1 => upTo n ++ rowUp (5 + (n : Int)) 257
theorem order_eq : upTo 26 = syms.map (·.1) := by
  have h1 : ∀ n m, rowUp n m = ((List.range m).filter fun s => (ctabN[s]!).1 == n).map fun s : Nat => (s : Int) := by intro n m; unfold rowUp inRow; rw [ctab_eq]
  rw [syms_eq]
  simp only [upTo, h1]
  decide +kernel
theorem rowUp_len (n : Int) (m : Nat) : (rowUp n m).length ≤ m := by
  unfold rowUp
  rw [List.length_map]
  exact Nat.le_trans (List.length_filter_le _ _) (by simp)
theorem upTo_len (n : Nat) : (upTo n).length ≤ 257 * n := by
  induction n with
  | zero => exact Nat.le_refl _
  | succ n ih => have := rowUp_len (5 + (n : Int)) 257; simp [upTo]; omega
set_option maxHeartbeats 4000000 in
theorem order (h0 : AH) : callW Try.prog Try.T 84 [] h0 fun v h' => (∃ i, h0.size ≤ i ∧ Ow EI h' i v (syms.map (·.1))) ∧ Keeps h0.size h0 h' := by
  refine callW_in (n := 21) (rs := [.tmp 0]) (m := 21) Try.func84 rfl rfl rfl rfl fun tr ht => ?_; clear ht
  repeat' (first
      | with_reducible first | refine Nx.h ?_ | (refine hK _ _ ?_; clear hK K)
      | ((with_reducible refine q_eo ?_ ?_); exact rfl)
      | ((with_reducible first | (refine Ny.h ?_; intro K hK) | (refine c_drw (by decide +kernel) ?_; intro K hK) | refine c_cond ?_ | show endW _ _ _ _ _ | (refine Nz.h ?_ ?_ <;> intro _) | fail) <;> try simp (disch := first | exact dz | fail) only [go_sem, i_0, i_1, i_2, i_3, i_4, i_5, i_6, i_7, i_8, n_0, n_1, n_2, n_3, n_4, n_5, reduceCtorEq, reduceIte]))
  refine c_loopF 1048574 (fun m tm h => ∃ (n : Nat) (a : AV) (i : Nat), tm.get 2 = .int .i64 (5 + (n : Int)) ∧ tm.get 1 = a ∧ Ow EI h i a (upTo n) ∧ h0.size ≤ i ∧ Keeps h0.size h0 h ∧ n ≤ 26 ∧ m = 26 - n) (26) (by kernel_rfl) ?_ ?_
  · refine ⟨0, _, h0.size, ?_, ?_, .nil0 true 0, Nat.le_refl _, Keeps.refl _ _, by omega, rfl⟩ <;> (first | with_reducible rfl | (simp (disch := first | exact dz | fail) only [go_sem, i_0, i_1, i_2, i_3, i_4, i_5, i_6, i_7, i_8, n_0, n_1, n_2, n_3, n_4, n_5, reduceCtorEq, reduceIte] <;> first | with_reducible rfl | (congr 1 <;> omega)))
  · rintro m tr2 h2 ho ⟨n, a, i, t2, t1, oa, hi, hk, hn, rfl⟩
    repeat' (first
      | with_reducible first | refine Nx.h ?_ | (refine hK _ _ ?_; clear hK K)
      | ((with_reducible refine q_eo ?_ ?_); exact rfl)
      | ((with_reducible first | (refine Ny.h ?_; intro K hK) | (refine c_drw (by decide +kernel) ?_; intro K hK) | refine c_cond ?_ | show endW _ _ _ _ _ | (refine Nz.h ?_ ?_ <;> intro _) | fail) <;> try simp (disch := first | exact dz | fail) only [go_sem, i_0, i_1, i_2, i_3, i_4, i_5, i_6, i_7, i_8, n_0, n_1, n_2, n_3, n_4, n_5, reduceCtorEq, reduceIte, t2, t1]))
    · refine c_loopF 1048330 (fun m tm h => ∃ (s : Nat) (a : AV) (i : Nat), tm.get 3 = .int .i64 s ∧ tm.get 1 = a ∧ Ow EI h i a (upTo n ++ rowUp (5 + (n : Int)) s) ∧ h0.size ≤ i ∧ Keeps h0.size h0 h ∧ s ≤ 257 ∧ m = 257 - s) (257) (by kernel_rfl) ?_ ?_
      · refine ⟨0, a, i, ?_, ?_, by simpa [rowUp] using oa, hi, hk, by omega, rfl⟩ <;> (first | with_reducible rfl | (simp (disch := first | exact dz | fail) only [go_sem, i_0, i_1, i_2, i_3, i_4, i_5, i_6, i_7, i_8, n_0, n_1, n_2, n_3, n_4, n_5, reduceCtorEq, reduceIte, t1] <;> first | with_reducible rfl | (congr 1 <;> omega)))
      · rintro m tr3 h3 ho3 ⟨s, a, i, t3, t1, oa, hi, hk, hs, rfl⟩
        have q2 := ho3 2 (Seen.of rfl); simp (disch := first | exact dz | fail) only [go_sem, i_0, i_1, i_2, i_3, i_4, i_5, i_6, i_7, i_8, n_0, n_1, n_2, n_3, n_4, n_5, reduceCtorEq, reduceIte, t2] at q2
        have hl1 := upTo_len n
        have hl2 := rowUp_len (5 + (n : Int)) s
        repeat' (first
      | with_reducible first | refine Nx.h ?_ | (refine hK _ _ ?_; clear hK K)
      | ((with_reducible refine q_eo ?_ ?_); exact rfl)
      | ((with_reducible first | (refine Ny.h ?_; intro K hK) | (refine c_drw (by decide +kernel) ?_; intro K hK) | refine c_cond ?_ | show endW _ _ _ _ _ | (refine Nz.h ?_ ?_ <;> intro _) | fail) <;> try simp (disch := first | exact dz | fail) only [go_sem, i_0, i_1, i_2, i_3, i_4, i_5, i_6, i_7, i_8, n_0, n_1, n_2, n_3, n_4, n_5, reduceCtorEq, reduceIte, t3, t1, q2]))
        · refine callM_of (long s h3 (by omega) (by omega)) ?_
          rintro v h4 ⟨rfl, rfl⟩
          have hsu := rowUp_succ (5 + (n : Int)) s
          refine vI ?_; repeat' (first
      | with_reducible first | refine Nx.h ?_ | (refine hK _ _ ?_; clear hK K)
      | ((with_reducible refine q_eo ?_ ?_); exact rfl)
      | ((with_reducible first | refine vO ?_ | (refine Ny.h ?_; intro K hK) | (refine c_drw (by decide +kernel) ?_; intro K hK) | refine c_cond ?_ | show endW _ _ _ _ _ | (refine Nz.h ?_ ?_ <;> intro _) | fail) <;> try simp (disch := first | exact dz | fail) only [go_sem, i_0, i_1, i_2, i_3, i_4, i_5, i_6, i_7, i_8, n_0, n_1, n_2, n_3, n_4, n_5, reduceCtorEq, reduceIte, t3, t1, q2]))
          · rename_i hc
            rw [if_pos hc] at hsu
            refine Try.al57 (s : Int) oa rfl rfl (by exact .mk) (by rw [List.length_append]; omega) fun z h5 i5 ho5 hi5 hz5 hf5 => ?_
            refine vI ?_; repeat' (first
      | with_reducible first | refine Nx.h ?_ | (refine hK _ _ ?_; clear hK K)
      | ((with_reducible refine q_eo ?_ ?_); exact rfl)
      | ((with_reducible first | refine vO ?_ | (refine Ny.h ?_; intro K hK) | (refine c_drw (by decide +kernel) ?_; intro K hK) | refine c_cond ?_ | show endW _ _ _ _ _ | (refine Nz.h ?_ ?_ <;> intro _) | fail) <;> try simp (disch := first | exact dz | fail) only [go_sem, i_0, i_1, i_2, i_3, i_4, i_5, i_6, i_7, i_8, n_0, n_1, n_2, n_3, n_4, n_5, reduceCtorEq, reduceIte, t3, t1, q2]))
            try dsimp only
            refine ⟨rfl, _, ?_, s + 1, z, i5, ?_, ?_, by rw [hsu, ← List.append_assoc]; exact ho5, ?_, ?_, by omega, rfl⟩
            · omega
            · (first | with_reducible rfl | (simp (disch := first | exact dz | fail) only [go_sem, i_0, i_1, i_2, i_3, i_4, i_5, i_6, i_7, i_8, n_0, n_1, n_2, n_3, n_4, n_5, reduceCtorEq, reduceIte, t3] <;> first | with_reducible rfl | (congr 1 <;> omega)))
            · (first | with_reducible rfl | (simp (disch := first | exact dz | fail) only [go_sem, i_0, i_1, i_2, i_3, i_4, i_5, i_6, i_7, i_8, n_0, n_1, n_2, n_3, n_4, n_5, reduceCtorEq, reduceIte, t3] <;> first | with_reducible rfl | (congr 1 <;> omega)))
            · have := hk.1; omega
            · exact ⟨by have := hk.1; omega, fun j hj => (hf5 j (by have := hk.1; omega) (by omega)).trans (hk.2 j hj)⟩
          · rename_i hc
            rw [if_neg hc] at hsu
            refine ⟨rfl, _, ?_, s + 1, a, i, ?_, ?_, by rw [hsu]; exact oa, hi, hk, by omega, rfl⟩
            · omega
            · (first | with_reducible rfl | (simp (disch := first | exact dz | fail) only [go_sem, i_0, i_1, i_2, i_3, i_4, i_5, i_6, i_7, i_8, n_0, n_1, n_2, n_3, n_4, n_5, reduceCtorEq, reduceIte, t3] <;> first | with_reducible rfl | (congr 1 <;> omega)))
            · (first | with_reducible rfl | (simp (disch := first | exact dz | fail) only [go_sem, i_0, i_1, i_2, i_3, i_4, i_5, i_6, i_7, i_8, n_0, n_1, n_2, n_3, n_4, n_5, reduceCtorEq, reduceIte, t1] <;> first | with_reducible rfl | (congr 1 <;> omega)))
        · have : s = 257 := by omega
          subst this
          refine ⟨rfl, _, ?_, n + 1, a, i, ?_, ?_, oa, hi, hk, by omega, rfl⟩
          · omega
          · (first | with_reducible rfl | (simp (disch := first | exact dz | fail) only [go_sem, i_0, i_1, i_2, i_3, i_4, i_5, i_6, i_7, i_8, n_0, n_1, n_2, n_3, n_4, n_5, reduceCtorEq, reduceIte, q2] <;> first | with_reducible rfl | (congr 1 <;> omega)))
          · (first | with_reducible rfl | (simp (disch := first | exact dz | fail) only [go_sem, i_0, i_1, i_2, i_3, i_4, i_5, i_6, i_7, i_8, n_0, n_1, n_2, n_3, n_4, n_5, reduceCtorEq, reduceIte, t1] <;> first | with_reducible rfl | (congr 1 <;> omega)))
    · have : n = 26 := by omega
      subst this
      rw [order_eq] at oa
      exact ⟨⟨i, hi, oa⟩, hk⟩
/-! ### Codes -/
def ctabW : List Int := ctab.map (·.2)
theorem ctabW_len : ctabW.length = 257 := by unfold ctabW; rw [List.length_map, ctab_len]
theorem ctabW_at {s : Nat} (h : s < 257) : ctabW[s]! = (ctab[s]!).2 := by
  have := ctab_len
  unfold ctabW
  rw [getElem!_pos _ s (by rw [List.length_map]; omega), getElem!_pos ctab s (by omega), List.getElem_map]
theorem syms_len_of : ∀ k : Nat, k < 257 → (syms[k]!).2 = (ctab[(syms[k]!).1.toNat]!).1 := by rw [ctab_eq, syms_eq]; decide +kernel
set_option maxHeartbeats 4000000 in
theorem refCodes (h0 : AH) : callW Try.prog Try.T 75 [] h0 fun v h' => (∃ i, h0.size ≤ i ∧ Ow EI h' i v ctabW) ∧ Keeps h0.size h0 h' := by
  refine callW_in (n := 35) (rs := [.tmp 0]) (m := 35) Try.func75 rfl rfl rfl rfl fun tr ht => ?_; clear ht
  repeat' (first
      | with_reducible first | refine Nx.h ?_ | (refine hK _ _ ?_; clear hK K)
      | ((with_reducible refine q_eo ?_ ?_); exact rfl)
      | ((with_reducible first | (refine Ny.h ?_; intro K hK) | (refine c_drw (by decide +kernel) ?_; intro K hK) | refine c_cond ?_ | show endW _ _ _ _ _ | (refine Nz.h ?_ ?_ <;> intro _) | fail) <;> try simp (disch := first | exact dz | fail) only [go_sem, i_0, i_1, i_2, i_3, i_4, i_5, i_6, i_7, i_8, n_0, n_1, n_2, n_3, n_4, n_5, reduceCtorEq, reduceIte]))
  refine callM_of (order h0) ?_
  rintro v h1 ⟨⟨i, hi, oi⟩, hk⟩
  refine vI ?_; repeat' (first
      | with_reducible first | refine Nx.h ?_ | (refine hK _ _ ?_; clear hK K)
      | ((with_reducible refine q_eo ?_ ?_); exact rfl)
      | ((with_reducible first | refine vO ?_ | (refine Ny.h ?_; intro K hK) | (refine c_drw (by decide +kernel) ?_; intro K hK) | refine c_cond ?_ | show endW _ _ _ _ _ | (refine Nz.h ?_ ?_ <;> intro _) | fail) <;> try simp (disch := first | exact dz | fail) only [go_sem, i_0, i_1, i_2, i_3, i_4, i_5, i_6, i_7, i_8, n_0, n_1, n_2, n_3, n_4, n_5, reduceCtorEq, reduceIte]))
  obtain ⟨a, h2, e2, o2, z2, f2⟩ := make_ow (h := h1) (T := Try.T) (E := EI) (t := 111) (k := .i64) (k' := .i64) (n := 257) (m := 257) 0 rfl rfl rfl rfl (by decide) (by decide) (by decide) (by decide)
  refine vI ?_; repeat' (first
      | with_reducible first | refine Nx.h ?_ | (refine hK _ _ ?_; clear hK K)
      | ((with_reducible refine q_eo ?_ ?_); exact rfl)
      | ((with_reducible first | refine vO ?_ | (refine Ny.h ?_; intro K hK) | (refine c_drw (by decide +kernel) ?_; intro K hK) | refine c_cond ?_ | show endW _ _ _ _ _ | (refine Nz.h ?_ ?_ <;> intro _) | fail) <;> try simp (disch := first | exact dz | fail) only [go_sem, i_0, i_1, i_2, i_3, i_4, i_5, i_6, i_7, i_8, n_0, n_1, n_2, n_3, n_4, n_5, reduceCtorEq, reduceIte, e2]))
  have hsl := syms_len
  have hml : (syms.map (·.1)).length = 257 := by rw [List.length_map, hsl]
  have hilt : i < h1.size := oi.lt (by intro e; have := congrArg List.length e; rw [hml] at this; simp at this)
  have oi2 := oi.frame (h' := h2) (fun hb => f2 _ hb) (by omega)
  have hk1 := hk.1
  refine c_loopF 17179868984 (fun m tm h => ∃ (k : Nat), tm.get 5 = .int .i64 k ∧ tm.get 3 = .int .i64 ((stC k).1.2 + 1) ∧ tm.get 4 = .int .i64 (stC k).1.1 ∧ Ow EI h h1.size a ((stC k).2.map (·.2)) ∧ h.size = h2.size ∧ (∀ b, ¬ b = h1.size → h.get b = h2.get b) ∧ k ≤ 257 ∧ m = 257 - k) (257) (by kernel_rfl) ?_ ?_
  · refine ⟨0, ?_, ?_, ?_, o2, rfl, fun _ _ => rfl, by omega, rfl⟩ <;> (first | with_reducible rfl | (simp (disch := first | exact dz | fail) only [go_sem, i_0, i_1, i_2, i_3, i_4, i_5, i_6, i_7, i_8, n_0, n_1, n_2, n_3, n_4, n_5, reduceCtorEq, reduceIte] <;> first | with_reducible rfl | (congr 1 <;> omega)))
  · rintro m tr2 h3 ho ⟨k, t5, t3, t4, oa, z3, f3, hk257, rfl⟩
    have k1 := ho 1 (Seen.of rfl); simp (disch := first | exact dz | fail) only [go_sem, i_0, i_1, i_2, i_3, i_4, i_5, i_6, i_7, i_8, n_0, n_1, n_2, n_3, n_4, n_5, reduceCtorEq, reduceIte, e2] at k1; have k2 := ho 2 (Seen.of rfl); simp (disch := first | exact dz | fail) only [go_sem, i_0, i_1, i_2, i_3, i_4, i_5, i_6, i_7, i_8, n_0, n_1, n_2, n_3, n_4, n_5, reduceCtorEq, reduceIte, e2] at k2
    have oi3 := oi2.frame (h' := h3) (fun hb => by
      exact f3 _ (by omega)) (by omega)
    have si3 := oi3.sl
    have sa3 := oa.sl
    by_cases hkk : k < 257
    · have hkl : k < syms.length := by omega
      have hks : syms[k]? = some ((syms[k]!).1, (syms[k]!).2) := by rw [List.getElem?_eq_getElem hkl, getElem!_pos syms k hkl]
      obtain ⟨c1, c2, c3, c4, c5, c6, c7⟩ := syms_ok hks
      have hsc := stC_succ hks
      have hle := stC_len k
      have hsn := syms_len_of k hkk
      have hmk : (syms.map (·.1))[k]! = (syms[k]!).1 := by rw [getElem!_pos _ k (by omega), getElem!_pos syms k hkl, List.getElem_map]
      generalize hsy : syms[k]! = sy at *
      obtain ⟨s, n⟩ := sy
      generalize hst : stC k = st at *
      obtain ⟨⟨lb, lw⟩, lt⟩ := st
      simp only at hmk
      have hlm : (lt.map (·.2)).length = 257 := by rw [List.length_map]; exact hle
      simp only at c1 c2 c3 c5 c6 c7 c4 t3 t4 oa hle hsn sa3
      repeat' (first
      | with_reducible first | refine Nx.h ?_ | (refine hK _ _ ?_; clear hK K)
      | ((with_reducible refine q_eo ?_ ?_); exact rfl)
      | ((with_reducible first | (refine Ny.h ?_; intro K hK) | (refine c_drw (by decide +kernel) ?_; intro K hK) | refine c_cond ?_ | show endW _ _ _ _ _ | (refine Nz.h ?_ ?_ <;> intro _) | fail) <;> try simp (disch := first | exact dz | fail) only [go_sem, i_0, i_1, i_2, i_3, i_4, i_5, i_6, i_7, i_8, n_0, n_1, n_2, n_3, n_4, n_5, reduceCtorEq, reduceIte, t5, t3, t4, k1, k2, hmk]))
      refine c_loopF 33538072 (fun m tm h => ∃ (j : Nat), tm.get 4 = .int .i64 (lb + j) ∧ tm.get 3 = .int .i64 ((lw + 1) * 2 ^ j) ∧ h = h3 ∧ lb + j ≤ n ∧ m = (n - lb).toNat - j) ((n - lb).toNat) (by kernel_rfl) ?_ ?_
      · refine ⟨0, ?_, ?_, rfl, by omega, rfl⟩ <;> (first | with_reducible rfl | (simp (disch := first | exact dz | fail) only [go_sem, i_0, i_1, i_2, i_3, i_4, i_5, i_6, i_7, i_8, n_0, n_1, n_2, n_3, n_4, n_5, reduceCtorEq, reduceIte, t3, t4] <;> first | with_reducible rfl | (congr 1 <;> omega)))
      · rintro m tr3 h4 ho3 ⟨j, t4, t3, rfl, hj, rfl⟩
        have q1 := ho3 1 (Seen.of rfl); simp (disch := first | exact dz | fail) only [go_sem, i_0, i_1, i_2, i_3, i_4, i_5, i_6, i_7, i_8, n_0, n_1, n_2, n_3, n_4, n_5, reduceCtorEq, reduceIte, k1, k2, t5] at q1; have q2 := ho3 2 (Seen.of rfl); simp (disch := first | exact dz | fail) only [go_sem, i_0, i_1, i_2, i_3, i_4, i_5, i_6, i_7, i_8, n_0, n_1, n_2, n_3, n_4, n_5, reduceCtorEq, reduceIte, k1, k2, t5] at q2; have q5 := ho3 5 (Seen.of rfl); simp (disch := first | exact dz | fail) only [go_sem, i_0, i_1, i_2, i_3, i_4, i_5, i_6, i_7, i_8, n_0, n_1, n_2, n_3, n_4, n_5, reduceCtorEq, reduceIte, k1, k2, t5] at q5
        repeat' (first
      | with_reducible first | refine Nx.h ?_ | (refine hK _ _ ?_; clear hK K)
      | ((with_reducible refine q_eo ?_ ?_); exact rfl)
      | ((with_reducible first | (refine Ny.h ?_; intro K hK) | (refine c_drw (by decide +kernel) ?_; intro K hK) | refine c_cond ?_ | show endW _ _ _ _ _ | (refine Nz.h ?_ ?_ <;> intro _) | fail) <;> try simp (disch := first | exact dz | fail) only [go_sem, i_0, i_1, i_2, i_3, i_4, i_5, i_6, i_7, i_8, n_0, n_1, n_2, n_3, n_4, n_5, reduceCtorEq, reduceIte, t4, t3, q1, q2, q5, hmk]))
        refine callM_of (long s h4 (by omega) (by omega)) ?_
        rintro v h5 ⟨rfl, rfl⟩
        rw [← hsn]
        have hpj : (2 : Int) ^ (j + 1) = 2 ^ j * 2 := Int.pow_succ ..
        have hp0 : (0 : Int) < 2 ^ j := Int.pow_pos (by decide)
        have hnn : 0 ≤ (lw + 1) * 2 ^ j := Int.mul_nonneg (by omega) (by omega)
        have hpm := pow_mono2 (a := j) (b := (n - lb).toNat) (by omega)
        have hle1 : (lw + 1) * 2 ^ j ≤ (lw + 1) * 2 ^ (n - lb).toNat := Int.mul_le_mul_of_nonneg_left hpm (by omega)
        by_cases hlt : lb + j < n
        · have hpm2 := pow_mono2 (a := j + 1) (b := (n - lb).toNat) (by omega)
          have hle2 : (lw + 1) * 2 ^ (j + 1) ≤ (lw + 1) * 2 ^ (n - lb).toNat := Int.mul_le_mul_of_nonneg_left hpm2 (by omega)
          have hmm : (lw + 1) * 2 ^ (j + 1) = (lw + 1) * 2 ^ j * 2 := by rw [hpj, Int.mul_assoc]
          refine vI ?_; repeat' (first
      | with_reducible first | refine Nx.h ?_ | (refine hK _ _ ?_; clear hK K)
      | ((with_reducible refine q_eo ?_ ?_); exact rfl)
      | ((with_reducible first | refine vO ?_ | (refine Ny.h ?_; intro K hK) | (refine c_drw (by decide +kernel) ?_; intro K hK) | refine c_cond ?_ | show endW _ _ _ _ _ | (refine Nz.h ?_ ?_ <;> intro _) | fail) <;> try simp (disch := first | exact dz | fail) only [go_sem, i_0, i_1, i_2, i_3, i_4, i_5, i_6, i_7, i_8, n_0, n_1, n_2, n_3, n_4, n_5, reduceCtorEq, reduceIte, t4, t3, q1, q2, q5, hmk]))
          try dsimp only
          refine ⟨rfl, _, ?_, j + 1, ?_, ?_, rfl, by omega, rfl⟩
          · omega
          · (first | with_reducible rfl | (simp (disch := first | exact dz | fail) only [go_sem, i_0, i_1, i_2, i_3, i_4, i_5, i_6, i_7, i_8, n_0, n_1, n_2, n_3, n_4, n_5, reduceCtorEq, reduceIte, t4] <;> first | with_reducible rfl | (congr 1 <;> omega)))
          · (first | with_reducible rfl | (simp (disch := first | exact dz | fail) only [go_sem, i_0, i_1, i_2, i_3, i_4, i_5, i_6, i_7, i_8, n_0, n_1, n_2, n_3, n_4, n_5, reduceCtorEq, reduceIte, t3, hmm] <;> first | with_reducible rfl | (congr 1 <;> omega)))
        · have hjn : (n - lb).toNat = j := by omega
          have hjn2 : lb + j = n := by omega
          rw [hjn] at c7
          refine vI ?_; repeat' (first
      | with_reducible first | refine Nx.h ?_ | (refine hK _ _ ?_; clear hK K)
      | ((with_reducible refine q_eo ?_ ?_); exact rfl)
      | ((with_reducible first | refine vO ?_ | (refine Ny.h ?_; intro K hK) | (refine c_drw (by decide +kernel) ?_; intro K hK) | refine c_cond ?_ | show endW _ _ _ _ _ | (refine Nz.h ?_ ?_ <;> intro _) | fail) <;> try simp (disch := first | exact dz | fail) only [go_sem, i_0, i_1, i_2, i_3, i_4, i_5, i_6, i_7, i_8, n_0, n_1, n_2, n_3, n_4, n_5, reduceCtorEq, reduceIte, t4, t3, q1, q2, q5, hmk]))
          refine Try.wr2 oa ((lw + 1) * 2 ^ j) (by rfl) (by omega) (by rw [List.length_map]; omega) (by exact .mk) fun h9 o9 z9 f9 => ?_
          refine vI ?_; repeat' (first
      | with_reducible first | refine Nx.h ?_ | (refine hK _ _ ?_; clear hK K)
      | ((with_reducible refine q_eo ?_ ?_); exact rfl)
      | ((with_reducible first | refine vO ?_ | (refine Ny.h ?_; intro K hK) | (refine c_drw (by decide +kernel) ?_; intro K hK) | refine c_cond ?_ | show endW _ _ _ _ _ | (refine Nz.h ?_ ?_ <;> intro _) | fail) <;> try simp (disch := first | exact dz | fail) only [go_sem, i_0, i_1, i_2, i_3, i_4, i_5, i_6, i_7, i_8, n_0, n_1, n_2, n_3, n_4, n_5, reduceCtorEq, reduceIte, t4, t3, q1, q2, q5, hmk]))
          have e1 : (stC (k + 1)).1 = (n, (lw + 1) * 2 ^ j) := by rw [hsc]; simp only [stepT, stepL, hjn]
          have e2 : (stC (k + 1)).2.map (·.2) = (lt.map (·.2)).set s.toNat ((lw + 1) * 2 ^ j) := by rw [hsc]; simp only [stepT, stepL, hjn, List.map_set]
          try dsimp only
          refine ⟨rfl, _, ?_, k + 1, ?_, ?_, ?_, by rw [e2]; exact o9, by omega, fun b hb => ?_, by omega, rfl⟩
          · omega
          · (first | with_reducible rfl | (simp (disch := first | exact dz | fail) only [go_sem, i_0, i_1, i_2, i_3, i_4, i_5, i_6, i_7, i_8, n_0, n_1, n_2, n_3, n_4, n_5, reduceCtorEq, reduceIte, q5] <;> first | with_reducible rfl | (congr 1 <;> omega)))
          · rw [e1]; (first | with_reducible rfl | (simp (disch := first | exact dz | fail) only [go_sem, i_0, i_1, i_2, i_3, i_4, i_5, i_6, i_7, i_8, n_0, n_1, n_2, n_3, n_4, n_5, reduceCtorEq, reduceIte, t3] <;> first | with_reducible rfl | (congr 1 <;> omega)))
          · rw [e1, ← hjn2]; (first | with_reducible rfl | (simp (disch := first | exact dz | fail) only [go_sem, i_0, i_1, i_2, i_3, i_4, i_5, i_6, i_7, i_8, n_0, n_1, n_2, n_3, n_4, n_5, reduceCtorEq, reduceIte, t4] <;> first | with_reducible rfl | (congr 1 <;> omega)))
          · rw [f9 b hb]; exact f3 b hb
    · have : k = 257 := by omega
      subst this
      repeat' (first
      | with_reducible first | refine Nx.h ?_ | (refine hK _ _ ?_; clear hK K)
      | ((with_reducible refine q_eo ?_ ?_); exact rfl)
      | ((with_reducible first | (refine Ny.h ?_; intro K hK) | (refine c_drw (by decide +kernel) ?_; intro K hK) | refine c_cond ?_ | show endW _ _ _ _ _ | (refine Nz.h ?_ ?_ <;> intro _) | fail) <;> try simp (disch := first | exact dz | fail) only [go_sem, i_0, i_1, i_2, i_3, i_4, i_5, i_6, i_7, i_8, n_0, n_1, n_2, n_3, n_4, n_5, reduceCtorEq, reduceIte, t5, t3, t4, k1, k2, hml]))
      refine ⟨⟨h1.size, by omega, oa⟩, by omega, fun b hb => ?_⟩
      rw [f3 b (by omega), f2 b (by omega)]
      exact hk.2 b hb
/-! ### length, Len, Code -/
def bitsLen (s : List UInt8) : Int := (s.map fun c => (ctab[c.toNat]!).1).sum
theorem bitsLen_nil : bitsLen [] = 0 := rfl
theorem bitsLen_le (s : List UInt8) : 0 ≤ bitsLen s ∧ bitsLen s ≤ 30 * s.length := by
  induction s with
  | nil => exact ⟨Int.le_refl _, Int.le_refl _⟩
  | cons c r ih =>
    have := ctab_ok c.toNat (by have := c.toNat_lt; omega)
    simp only [bitsLen, List.map_cons, List.sum_cons, List.length_cons] at ih ⊢
    omega
theorem bitsLen_take {s : List UInt8} {k : Nat} (h : k < s.length) : bitsLen (s.take (k + 1)) = bitsLen (s.take k) + (ctab[(s[k]!).toNat]!).1 := by
  unfold bitsLen
  rw [List.take_add_one, List.getElem?_eq_getElem h, getElem!_pos s k h, List.map_append, List.sum_append]
  simp
set_option maxHeartbeats 4000000 in
theorem length (a : AV) (i : Nat) (s : List UInt8) (h0 : AH) (ha : Sl EC h0 i a ctab) (hs : s.length ≤ 100000) : callW Try.prog Try.T 63 [a, .str s] h0 fun v h' => v = .int .i64 ((bitsLen s + 7) / 8) ∧ h' = h0 := by
  refine callW_in (n := 25) (rs := [.tmp 4]) (m := 25) Try.func63 rfl rfl rfl rfl fun tr ht => ?_; have e0 := ht 0 _ rfl; have e1 := ht 1 _ rfl; clear ht
  repeat' (first
      | with_reducible first | refine Nx.h ?_ | (refine hK _ _ ?_; clear hK K)
      | ((with_reducible refine q_eo ?_ ?_); exact rfl)
      | ((with_reducible first | (refine Ny.h ?_; intro K hK) | (refine c_drw (by decide +kernel) ?_; intro K hK) | refine c_cond ?_ | show endW _ _ _ _ _ | (refine Nz.h ?_ ?_ <;> intro _) | fail) <;> try simp (disch := first | exact dz | fail) only [go_sem, i_0, i_1, i_2, i_3, i_4, i_5, i_6, i_7, i_8, n_0, n_1, n_2, n_3, n_4, n_5, reduceCtorEq, reduceIte, e0, e1]))
  refine c_loopF 4193888 (fun m tm h => ∃ (k : Nat), tm.get 9 = .int .i64 k ∧ tm.get 5 = .int .i64 (bitsLen (s.take k)) ∧ h = h0 ∧ k ≤ s.length ∧ m = s.length - k) (s.length) (by kernel_rfl) ?_ ?_
  · refine ⟨0, ?_, ?_, rfl, by omega, rfl⟩ <;> (first | with_reducible rfl | (simp (disch := first | exact dz | fail) only [go_sem, i_0, i_1, i_2, i_3, i_4, i_5, i_6, i_7, i_8, n_0, n_1, n_2, n_3, n_4, n_5, reduceCtorEq, reduceIte, List.take_zero, bitsLen_nil] <;> first | with_reducible rfl | (congr 1 <;> omega)))
  · rintro m tr2 h2 ho ⟨k, t9, t5, rfl, hk, rfl⟩
    have k0 := ho 0 (Seen.of rfl); simp (disch := first | exact dz | fail) only [go_sem, i_0, i_1, i_2, i_3, i_4, i_5, i_6, i_7, i_8, n_0, n_1, n_2, n_3, n_4, n_5, reduceCtorEq, reduceIte, e0, e1] at k0; have k1 := ho 1 (Seen.of rfl); simp (disch := first | exact dz | fail) only [go_sem, i_0, i_1, i_2, i_3, i_4, i_5, i_6, i_7, i_8, n_0, n_1, n_2, n_3, n_4, n_5, reduceCtorEq, reduceIte, e0, e1] at k1; have k8 := ho 8 (Seen.of rfl); simp (disch := first | exact dz | fail) only [go_sem, i_0, i_1, i_2, i_3, i_4, i_5, i_6, i_7, i_8, n_0, n_1, n_2, n_3, n_4, n_5, reduceCtorEq, reduceIte, e0, e1] at k8
    have hb := bitsLen_le (s.take k)
    rw [List.length_take] at hb
    have hcl := ctab_len
    by_cases hks : k < s.length
    · have hbt := bitsLen_take hks
      generalize hc : s[k]! = c at *
      have hc2 := c.toNat_lt
      have hco := ctab_ok c.toNat (by omega)
      have hld : loadA Try.T h2 3 (a.at EC.sz 0 (c.toNat : Int)) = some (.int .i64 (ctab[c.toNat]!).1) := Sl.ld ha (by omega) (by omega) (by rw [Int.toNat_natCast]; rfl) (by decide) rfl rfl
      repeat' (first
      | with_reducible first | refine Nx.h ?_ | (refine hK _ _ ?_; clear hK K)
      | ((with_reducible refine q_eo ?_ ?_); exact rfl)
      | ((with_reducible first | (refine Ny.h ?_; intro K hK) | (refine c_drw (by decide +kernel) ?_; intro K hK) | refine c_cond ?_ | show endW _ _ _ _ _ | (refine Nz.h ?_ ?_ <;> intro _) | fail) <;> try simp (disch := first | exact dz | fail) only [go_sem, i_0, i_1, i_2, i_3, i_4, i_5, i_6, i_7, i_8, n_0, n_1, n_2, n_3, n_4, n_5, reduceCtorEq, reduceIte, t9, t5, k0, k1, k8, hc, hld]))
      refine ⟨rfl, _, ?_, k + 1, ?_, ?_, rfl, by omega, rfl⟩
      · omega
      · (first | with_reducible rfl | (simp (disch := first | exact dz | fail) only [go_sem, i_0, i_1, i_2, i_3, i_4, i_5, i_6, i_7, i_8, n_0, n_1, n_2, n_3, n_4, n_5, reduceCtorEq, reduceIte, t9] <;> first | with_reducible rfl | (congr 1 <;> omega)))
      · rw [hbt]; (first | with_reducible rfl | (simp (disch := first | exact dz | fail) only [go_sem, i_0, i_1, i_2, i_3, i_4, i_5, i_6, i_7, i_8, n_0, n_1, n_2, n_3, n_4, n_5, reduceCtorEq, reduceIte, t5] <;> first | with_reducible rfl | (congr 1 <;> omega)))
    · have hks' : s.take k = s := List.take_of_length_le (by omega)
      rw [hks'] at t5 hb
      repeat' (first
      | with_reducible first | refine Nx.h ?_ | (refine hK _ _ ?_; clear hK K)
      | ((with_reducible refine q_eo ?_ ?_); exact rfl)
      | ((with_reducible first | (refine Ny.h ?_; intro K hK) | (refine c_drw (by decide +kernel) ?_; intro K hK) | refine c_cond ?_ | show endW _ _ _ _ _ | (refine Nz.h ?_ ?_ <;> intro _) | fail) <;> try simp (disch := first | exact dz | fail) only [go_sem, i_0, i_1, i_2, i_3, i_4, i_5, i_6, i_7, i_8, n_0, n_1, n_2, n_3, n_4, n_5, reduceCtorEq, reduceIte, t9, t5, k0, k1, k8]))
set_option maxHeartbeats 4000000 in
theorem hlen (s : List UInt8) (h0 : AH) (hs : s.length ≤ 100000) : callW Try.prog Try.T 47 [.str s] h0 fun v h' => v = .int .i64 ((bitsLen s + 7) / 8) ∧ Keeps h0.size h0 h' := by
  refine callW_in (n := 8) (rs := [.tmp 2]) (m := 8) Try.func47 rfl rfl rfl rfl fun tr ht => ?_; have e0 := ht 0 _ rfl; clear ht
  repeat' (first
      | with_reducible first | refine Nx.h ?_ | (refine hK _ _ ?_; clear hK K)
      | ((with_reducible refine q_eo ?_ ?_); exact rfl)
      | ((with_reducible first | (refine Ny.h ?_; intro K hK) | (refine c_drw (by decide +kernel) ?_; intro K hK) | refine c_cond ?_ | show endW _ _ _ _ _ | (refine Nz.h ?_ ?_ <;> intro _) | fail) <;> try simp (disch := first | exact dz | fail) only [go_sem, i_0, i_1, i_2, i_3, i_4, i_5, i_6, i_7, i_8, n_0, n_1, n_2, n_3, n_4, n_5, reduceCtorEq, reduceIte, e0]))
  · rename_i hc
    subst hc
    exact ⟨rfl, Keeps.refl _ _⟩
  · refine callM_of (codes h0) ?_
    rintro v h1 ⟨⟨i, hi, oi⟩, hk⟩
    refine vI ?_; repeat' (first
      | with_reducible first | refine Nx.h ?_ | (refine hK _ _ ?_; clear hK K)
      | ((with_reducible refine q_eo ?_ ?_); exact rfl)
      | ((with_reducible first | refine vO ?_ | (refine Ny.h ?_; intro K hK) | (refine c_drw (by decide +kernel) ?_; intro K hK) | refine c_cond ?_ | show endW _ _ _ _ _ | (refine Nz.h ?_ ?_ <;> intro _) | fail) <;> try simp (disch := first | exact dz | fail) only [go_sem, i_0, i_1, i_2, i_3, i_4, i_5, i_6, i_7, i_8, n_0, n_1, n_2, n_3, n_4, n_5, reduceCtorEq, reduceIte, e0]))
    refine callM_of (length v i s h1 oi.sl hs) ?_
    rintro v h2 ⟨rfl, rfl⟩
    refine vI ?_; repeat' (first
      | with_reducible first | refine Nx.h ?_ | (refine hK _ _ ?_; clear hK K)
      | ((with_reducible refine q_eo ?_ ?_); exact rfl)
      | ((with_reducible first | refine vO ?_ | (refine Ny.h ?_; intro K hK) | (refine c_drw (by decide +kernel) ?_; intro K hK) | refine c_cond ?_ | show endW _ _ _ _ _ | (refine Nz.h ?_ ?_ <;> intro _) | fail) <;> try simp (disch := first | exact dz | fail) only [go_sem, i_0, i_1, i_2, i_3, i_4, i_5, i_6, i_7, i_8, n_0, n_1, n_2, n_3, n_4, n_5, reduceCtorEq, reduceIte, e0]))
    exact hk
end Go.Proofs.Ytmpeofjfagdgkaa
