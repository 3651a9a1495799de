/- The reference's Long, Order, Codes. -/
import Derived.Test.YtmpeofjfagdgkaaHufRows
set_option linter.unusedSimpArgs false
set_option linter.unusedVariables false
namespace Go.Proofs.Ytmpeofjfagdgkaa
open Go.Abs
open Int renaming reduceEq → i_0, reduceLE → i_1, reduceLT → i_2, reduceNe → i_3, reduceNeg → i_4, reduceAdd → i_5, reduceSub → i_6, reduceMul → i_7, reduceToNat → i_8
open Nat renaming reduceLT → n_0, reduceLeDiff → n_1, reduceEqDiff → n_2, reduceAdd → n_3, reduceSub → n_4, reduceMul → n_5
set_option maxRecDepth 100000
theorem ctab_len : ctab.length = 257 := stC_len 257
def ctabN : List (Int × Int) := (stN 257).2
theorem ctab_eq : ctab = ctabN := by unfold ctab ctabN; rw [stC_eq']
theorem ctab_ok : ∀ s : Nat, s < 257 → 5 ≤ (ctab[s]!).1 ∧ (ctab[s]!).1 ≤ 30 ∧ 0 ≤ (ctab[s]!).2 ∧ (ctab[s]!).2 < 2 ^ (ctab[s]!).1.toNat := by rw [ctab_eq]; decide +kernel
def lenOk (L : List UInt8) : Bool := L.length == 257 && (List.range 257).all fun s => ((L[s]!).toNat : Int) == (ctabN[s]!).1 + 92
theorem long_key {s : Int} (h1 : 0 ≤ s) (h2 : s ≤ 256) (L : List UInt8) (hL : lenOk L = true) : ixR Try.T 9 (some (.str L)) (some (.int .i64 s)) = some (.int .u8 ((ctab[s.toNat]!).1 + 92)) := by
  unfold lenOk at hL
  simp only [Bool.and_eq_true, beq_iff_eq, List.all_eq_true] at hL
  rw [Try.ix9 h1 (by omega), hL.2 s.toNat (by simp; omega), ctab_eq]
set_option maxHeartbeats 4000000 in
theorem long (s : Int) (h0 : AH) (h1 : 0 ≤ s) (h2 : s ≤ 256) : callW Try.prog Try.T 65 [.int .i64 s] h0 fun v h' => v = .int .i64 (ctab[s.toNat]!).1 ∧ h' = h0 := by
  have hk := long_key h1 h2
  have hc := ctab_ok s.toNat (by omega)
  refine callW_in (n := 8) (rs := [.tmp 2]) (m := 8) Try.func65 rfl rfl rfl rfl fun tr ht => ?_; have e0 := ht 0 _ rfl; clear ht
  repeat' (first
      | with_reducible first | refine Nx.h ?_ | (refine hK _ _ ?_; clear hK K)
      | ((with_reducible refine q_eo ?_ ?_); exact rfl)
      | ((with_reducible first | (refine Ny.h ?_; intro K hK) | (refine c_drw (by decide +kernel) ?_; intro K hK) | refine c_cond ?_ | show endW _ _ _ _ _ | (refine Nz.h ?_ ?_ <;> intro _) | fail) <;> try simp (disch := first | exact dz | fail) only [go_sem, i_0, i_1, i_2, i_3, i_4, i_5, i_6, i_7, i_8, n_0, n_1, n_2, n_3, n_4, n_5, reduceCtorEq, reduceIte, e0]))
  simp (disch := decide +kernel) only [hk]
  refine vI ?_; repeat' (first
      | with_reducible first | refine Nx.h ?_ | (refine hK _ _ ?_; clear hK K)
      | ((with_reducible refine q_eo ?_ ?_); exact rfl)
      | ((with_reducible first | refine vO ?_ | (refine Ny.h ?_; intro K hK) | (refine c_drw (by decide +kernel) ?_; intro K hK) | refine c_cond ?_ | show endW _ _ _ _ _ | (refine Nz.h ?_ ?_ <;> intro _) | fail) <;> try simp (disch := first | exact dz | fail) only [go_sem, i_0, i_1, i_2, i_3, i_4, i_5, i_6, i_7, i_8, n_0, n_1, n_2, n_3, n_4, n_5, reduceCtorEq, reduceIte, e0]))
  congr 1; omega
/-! ### Order -/
/-! ### Codes -/
/-! ### length, Len, Code -/
def bitsLen (s : List UInt8) : Int := (s.map fun c => (ctab[c.toNat]!).1).sum
theorem bitsLen_nil : bitsLen [] = 0 := rfl
theorem bitsLen_le (s : List UInt8) : 0 ≤ bitsLen s ∧ bitsLen s ≤ 30 * s.length := by
  induction s with
  | nil => exact ⟨Int.le_refl _, Int.le_refl _⟩
  | cons c r ih =>
    have := ctab_ok c.toNat (by have := c.toNat_lt; omega)
    simp only [bitsLen, List.map_cons, List.sum_cons, List.length_cons] at ih ⊢
    omega
theorem bitsLen_take {s : List UInt8} {k : Nat} (h : k < s.length) : bitsLen (s.take (k + 1)) = bitsLen (s.take k) + (ctab[(s[k]!).toNat]!).1 := by
  unfold bitsLen
  rw [List.take_add_one, List.getElem?_eq_getElem h, getElem!_pos s k h, List.map_append, List.sum_append]
  simp
set_option maxHeartbeats 4000000 in
theorem length (a : AV) (i : Nat) (s : List UInt8) (h0 : AH) (ha : Sl EC h0 i a ctab) (hs : s.length ≤ 100000) : callW Try.prog Try.T 63 [a, .str s] h0 fun v h' => v = .int .i64 ((bitsLen s + 7) / 8) ∧ h' = h0 := by
  refine callW_in (n := 25) (rs := [.tmp 4]) (m := 25) Try.func63 rfl rfl rfl rfl fun tr ht => ?_; have e0 := ht 0 _ rfl; have e1 := ht 1 _ rfl; clear ht
  repeat' (first
      | with_reducible first | refine Nx.h ?_ | (refine hK _ _ ?_; clear hK K)
      | ((with_reducible refine q_eo ?_ ?_); exact rfl)
      | ((with_reducible first | (refine Ny.h ?_; intro K hK) | (refine c_drw (by decide +kernel) ?_; intro K hK) | refine c_cond ?_ | show endW _ _ _ _ _ | (refine Nz.h ?_ ?_ <;> intro _) | fail) <;> try simp (disch := first | exact dz | fail) only [go_sem, i_0, i_1, i_2, i_3, i_4, i_5, i_6, i_7, i_8, n_0, n_1, n_2, n_3, n_4, n_5, reduceCtorEq, reduceIte, e0, e1]))
  refine c_loopF 4193888 (fun m tm h => ∃ (k : Nat), tm.get 9 = .int .i64 k ∧ tm.get 5 = .int .i64 (bitsLen (s.take k)) ∧ h = h0 ∧ k ≤ s.length ∧ m = s.length - k) (s.length) (by kernel_rfl) ?_ ?_
  · refine ⟨0, ?_, ?_, rfl, by omega, rfl⟩ <;> (first | with_reducible rfl | (simp (disch := first | exact dz | fail) only [go_sem, i_0, i_1, i_2, i_3, i_4, i_5, i_6, i_7, i_8, n_0, n_1, n_2, n_3, n_4, n_5, reduceCtorEq, reduceIte, List.take_zero, bitsLen_nil] <;> first | with_reducible rfl | (congr 1 <;> omega)))
  · rintro m tr2 h2 ho ⟨k, t9, t5, rfl, hk, rfl⟩
    have k0 := ho 0 (Seen.of rfl); simp (disch := first | exact dz | fail) only [go_sem, i_0, i_1, i_2, i_3, i_4, i_5, i_6, i_7, i_8, n_0, n_1, n_2, n_3, n_4, n_5, reduceCtorEq, reduceIte, e0, e1] at k0; have k1 := ho 1 (Seen.of rfl); simp (disch := first | exact dz | fail) only [go_sem, i_0, i_1, i_2, i_3, i_4, i_5, i_6, i_7, i_8, n_0, n_1, n_2, n_3, n_4, n_5, reduceCtorEq, reduceIte, e0, e1] at k1; have k8 := ho 8 (Seen.of rfl); simp (disch := first | exact dz | fail) only [go_sem, i_0, i_1, i_2, i_3, i_4, i_5, i_6, i_7, i_8, n_0, n_1, n_2, n_3, n_4, n_5, reduceCtorEq, reduceIte, e0, e1] at k8
    have hb := bitsLen_le (s.take k)
    rw [List.length_take] at hb
    have hcl := ctab_len
    by_cases hks : k < s.length
    · have hbt := bitsLen_take hks
      generalize hc : s[k]! = c at *
      have hc2 := c.toNat_lt
      have hco := ctab_ok c.toNat (by omega)
      have hld : loadA Try.T h2 3 (a.at EC.sz 0 (c.toNat : Int)) = some (.int .i64 (ctab[c.toNat]!).1) := Sl.ld ha (by omega) (by omega) (by rw [Int.toNat_natCast]; rfl) (by decide) rfl rfl
      repeat' (first
      | with_reducible first | refine Nx.h ?_ | (refine hK _ _ ?_; clear hK K)
      | ((with_reducible refine q_eo ?_ ?_); exact rfl)
      | ((with_reducible first | (refine Ny.h ?_; intro K hK) | (refine c_drw (by decide +kernel) ?_; intro K hK) | refine c_cond ?_ | show endW _ _ _ _ _ | (refine Nz.h ?_ ?_ <;> intro _) | fail) <;> try simp (disch := first | exact dz | fail) only [go_sem, i_0, i_1, i_2, i_3, i_4, i_5, i_6, i_7, i_8, n_0, n_1, n_2, n_3, n_4, n_5, reduceCtorEq, reduceIte, t9, t5, k0, k1, k8, hc, hld]))
      refine ⟨rfl, _, ?_, k + 1, ?_, ?_, rfl, by omega, rfl⟩
      · omega
      · (first | with_reducible rfl | (simp (disch := first | exact dz | fail) only [go_sem, i_0, i_1, i_2, i_3, i_4, i_5, i_6, i_7, i_8, n_0, n_1, n_2, n_3, n_4, n_5, reduceCtorEq, reduceIte, t9] <;> first | with_reducible rfl | (congr 1 <;> omega)))
      · rw [hbt]; (first | with_reducible rfl | (simp (disch := first | exact dz | fail) only [go_sem, i_0, i_1, i_2, i_3, i_4, i_5, i_6, i_7, i_8, n_0, n_1, n_2, n_3, n_4, n_5, reduceCtorEq, reduceIte, t5] <;> first | with_reducible rfl | (congr 1 <;> omega)))
    · have hks' : s.take k = s := List.take_of_length_le (by omega)
      rw [hks'] at t5 hb
      repeat' (first
      | with_reducible first | refine Nx.h ?_ | (refine hK _ _ ?_; clear hK K)
      | ((with_reducible refine q_eo ?_ ?_); exact rfl)
      | ((with_reducible first | (refine Ny.h ?_; intro K hK) | (refine c_drw (by decide +kernel) ?_; intro K hK) | refine c_cond ?_ | show endW _ _ _ _ _ | (refine Nz.h ?_ ?_ <;> intro _) | fail) <;> try simp (disch := first | exact dz | fail) only [go_sem, i_0, i_1, i_2, i_3, i_4, i_5, i_6, i_7, i_8, n_0, n_1, n_2, n_3, n_4, n_5, reduceCtorEq, reduceIte, t9, t5, k0, k1, k8]))
set_option maxHeartbeats 4000000 in
theorem hlen (s : List UInt8) (h0 : AH) (hs : s.length ≤ 100000) : callW Try.prog Try.T 47 [.str s] h0 fun v h' => v = .int .i64 ((bitsLen s + 7) / 8) ∧ Keeps h0.size h0 h' := by
  refine callW_in (n := 8) (rs := [.tmp 2]) (m := 8) Try.func47 rfl rfl rfl rfl fun tr ht => ?_; have e0 := ht 0 _ rfl; clear ht
  repeat' (first
      | with_reducible first | refine Nx.h ?_ | (refine hK _ _ ?_; clear hK K)
      | ((with_reducible refine q_eo ?_ ?_); exact rfl)
      | ((with_reducible first | (refine Ny.h ?_; intro K hK) | (refine c_drw (by decide +kernel) ?_; intro K hK) | refine c_cond ?_ | show endW _ _ _ _ _ | (refine Nz.h ?_ ?_ <;> intro _) | fail) <;> try simp (disch := first | exact dz | fail) only [go_sem, i_0, i_1, i_2, i_3, i_4, i_5, i_6, i_7, i_8, n_0, n_1, n_2, n_3, n_4, n_5, reduceCtorEq, reduceIte, e0]))
  · rename_i hc
    subst hc
    exact ⟨rfl, Keeps.refl _ _⟩
  · refine callM_of (codes h0) ?_
    rintro v h1 ⟨⟨i, hi, oi⟩, hk⟩
    refine vI ?_; repeat' (first
      | with_reducible first | refine Nx.h ?_ | (refine hK _ _ ?_; clear hK K)
      | ((with_reducible refine q_eo ?_ ?_); exact rfl)
      | ((with_reducible first | refine vO ?_ | (refine Ny.h ?_; intro K hK) | (refine c_drw (by decide +kernel) ?_; intro K hK) | refine c_cond ?_ | show endW _ _ _ _ _ | (refine Nz.h ?_ ?_ <;> intro _) | fail) <;> try simp (disch := first | exact dz | fail) only [go_sem, i_0, i_1, i_2, i_3, i_4, i_5, i_6, i_7, i_8, n_0, n_1, n_2, n_3, n_4, n_5, reduceCtorEq, reduceIte, e0]))
    refine callM_of (length v i s h1 oi.sl hs) ?_
    rintro v h2 ⟨rfl, rfl⟩
    refine vI ?_; repeat' (first
      | with_reducible first | refine Nx.h ?_ | (refine hK _ _ ?_; clear hK K)
      | ((with_reducible refine q_eo ?_ ?_); exact rfl)
      | ((with_reducible first | refine vO ?_ | (refine Ny.h ?_; intro K hK) | (refine c_drw (by decide +kernel) ?_; intro K hK) | refine c_cond ?_ | show endW _ _ _ _ _ | (refine Nz.h ?_ ?_ <;> intro _) | fail) <;> try simp (disch := first | exact dz | fail) only [go_sem, i_0, i_1, i_2, i_3, i_4, i_5, i_6, i_7, i_8, n_0, n_1, n_2, n_3, n_4, n_5, reduceCtorEq, reduceIte, e0]))
    exact hk
end Go.Proofs.Ytmpeofjfagdgkaa
