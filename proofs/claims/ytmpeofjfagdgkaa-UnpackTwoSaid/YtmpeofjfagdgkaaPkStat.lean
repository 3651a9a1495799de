/- pack: the static table, of code and reference. -/
import Derived.Test.YtmpeofjfagdgkaaPkText
set_option linter.unusedSimpArgs false
set_option linter.unusedVariables false
namespace Go.Proofs.Ytmpeofjfagdgkaa
open Go.Abs
open Int renaming reduceEq → i_0, reduceLE → i_1, reduceLT → i_2, reduceNe → i_3, reduceNeg → i_4, reduceAdd → i_5, reduceSub → i_6, reduceMul → i_7, reduceToNat → i_8
open Nat renaming reduceLT → n_0, reduceLeDiff → n_1, reduceEqDiff → n_2, reduceAdd → n_3, reduceSub → n_4, reduceMul → n_5
set_option maxRecDepth 100000
/-- The static table. -/
def statL : List Fd := [([58, 97, 117, 116, 104, 111, 114, 105, 116, 121], [], false),
  ([58, 109, 101, 116, 104, 111, 100], [71, 69, 84], false),
  ([58, 109, 101, 116, 104, 111, 100], [80, 79, 83, 84], false),
  ([58, 112, 97, 116, 104], [47], false),
  ([58, 112, 97, 116, 104], [47, 105, 110, 100, 101, 120, 46, 104, 116, 109, 108], false),
  ([58, 115, 99, 104, 101, 109, 101], [104, 116, 116, 112], false),
  ([58, 115, 99, 104, 101, 109, 101], [104, 116, 116, 112, 115], false),
  ([58, 115, 116, 97, 116, 117, 115], [50, 48, 48], false),
  ([58, 115, 116, 97, 116, 117, 115], [50, 48, 52], false),
  ([58, 115, 116, 97, 116, 117, 115], [50, 48, 54], false),
  ([58, 115, 116, 97, 116, 117, 115], [51, 48, 52], false),
  ([58, 115, 116, 97, 116, 117, 115], [52, 48, 48], false),
  ([58, 115, 116, 97, 116, 117, 115], [52, 48, 52], false),
  ([58, 115, 116, 97, 116, 117, 115], [53, 48, 48], false),
  ([97, 99, 99, 101, 112, 116, 45, 99, 104, 97, 114, 115, 101, 116], [], false),
  ([97, 99, 99, 101, 112, 116, 45, 101, 110, 99, 111, 100, 105, 110, 103], [103, 122, 105, 112, 44, 32, 100, 101, 102, 108, 97, 116, 101], false),
  ([97, 99, 99, 101, 112, 116, 45, 108, 97, 110, 103, 117, 97, 103, 101], [], false),
  ([97, 99, 99, 101, 112, 116, 45, 114, 97, 110, 103, 101, 115], [], false),
  ([97, 99, 99, 101, 112, 116], [], false),
  ([97, 99, 99, 101, 115, 115, 45, 99, 111, 110, 116, 114, 111, 108, 45, 97, 108, 108, 111, 119, 45, 111, 114, 105, 103, 105, 110], [], false),
  ([97, 103, 101], [], false),
  ([97, 108, 108, 111, 119], [], false),
  ([97, 117, 116, 104, 111, 114, 105, 122, 97, 116, 105, 111, 110], [], false),
  ([99, 97, 99, 104, 101, 45, 99, 111, 110, 116, 114, 111, 108], [], false),
  ([99, 111, 110, 116, 101, 110, 116, 45, 100, 105, 115, 112, 111, 115, 105, 116, 105, 111, 110], [], false),
  ([99, 111, 110, 116, 101, 110, 116, 45, 101, 110, 99, 111, 100, 105, 110, 103], [], false),
  ([99, 111, 110, 116, 101, 110, 116, 45, 108, 97, 110, 103, 117, 97, 103, 101], [], false),
  ([99, 111, 110, 116, 101, 110, 116, 45, 108, 101, 110, 103, 116, 104], [], false),
  ([99, 111, 110, 116, 101, 110, 116, 45, 108, 111, 99, 97, 116, 105, 111, 110], [], false),
  ([99, 111, 110, 116, 101, 110, 116, 45, 114, 97, 110, 103, 101], [], false),
  ([99, 111, 110, 116, 101, 110, 116, 45, 116, 121, 112, 101], [], false),
  ([99, 111, 111, 107, 105, 101], [], false),
  ([100, 97, 116, 101], [], false),
  ([101, 116, 97, 103], [], false),
  ([101, 120, 112, 101, 99, 116], [], false),
  ([101, 120, 112, 105, 114, 101, 115], [], false),
  ([102, 114, 111, 109], [], false),
  ([104, 111, 115, 116], [], false),
  ([105, 102, 45, 109, 97, 116, 99, 104], [], false),
  ([105, 102, 45, 109, 111, 100, 105, 102, 105, 101, 100, 45, 115, 105, 110, 99, 101], [], false),
  ([105, 102, 45, 110, 111, 110, 101, 45, 109, 97, 116, 99, 104], [], false),
  ([105, 102, 45, 114, 97, 110, 103, 101], [], false),
  ([105, 102, 45, 117, 110, 109, 111, 100, 105, 102, 105, 101, 100, 45, 115, 105, 110, 99, 101], [], false),
  ([108, 97, 115, 116, 45, 109, 111, 100, 105, 102, 105, 101, 100], [], false),
  ([108, 105, 110, 107], [], false),
  ([108, 111, 99, 97, 116, 105, 111, 110], [], false),
  ([109, 97, 120, 45, 102, 111, 114, 119, 97, 114, 100, 115], [], false),
  ([112, 114, 111, 120, 121, 45, 97, 117, 116, 104, 101, 110, 116, 105, 99, 97, 116, 101], [], false),
  ([112, 114, 111, 120, 121, 45, 97, 117, 116, 104, 111, 114, 105, 122, 97, 116, 105, 111, 110], [], false),
  ([114, 97, 110, 103, 101], [], false),
  ([114, 101, 102, 101, 114, 101, 114], [], false),
  ([114, 101, 102, 114, 101, 115, 104], [], false),
  ([114, 101, 116, 114, 121, 45, 97, 102, 116, 101, 114], [], false),
  ([115, 101, 114, 118, 101, 114], [], false),
  ([115, 101, 116, 45, 99, 111, 111, 107, 105, 101], [], false),
  ([115, 116, 114, 105, 99, 116, 45, 116, 114, 97, 110, 115, 112, 111, 114, 116, 45, 115, 101, 99, 117, 114, 105, 116, 121], [], false),
  ([116, 114, 97, 110, 115, 102, 101, 114, 45, 101, 110, 99, 111, 100, 105, 110, 103], [], false),
  ([117, 115, 101, 114, 45, 97, 103, 101, 110, 116], [], false),
  ([118, 97, 114, 121], [], false),
  ([118, 105, 97], [], false),
  ([119, 119, 119, 45, 97, 117, 116, 104, 101, 110, 116, 105, 99, 97, 116, 101], [], false)]
def statS : List (List UInt8) := statL.map fun f => if f.2.1 = [] then f.1 else f.1 ++ 32 :: f.2.1
def statR : List (List UInt8) := statL.flatMap fun f => [f.1, f.2.1]
theorem statF (h0 : AH) : callW Try.prog Try.T 80 [] h0 fun v h' => v = .slice (some (h0.size, 0)) 61 61 1 true ∧ h' = h0.push (.cells (ES.all statS)) :=
  callW_eval (n := 10) (v := .slice (some (h0.size, 0)) 61 61 1 true) (h' := h0.push (.cells (ES.all statS))) (by kernel_rfl) ⟨rfl, rfl⟩
theorem ibs (s : List UInt8) (c : Int) (h0 : AH) : callW Try.prog Try.T 97 [.str s, .int .u8 c] h0 fun v h' => v = .int .i64 (Lib.indexByte s c.toNat.toUInt8) ∧ h' = h0 :=
  callW_ibs Try.func97 rfl (by kernel_rfl) (by kernel_rfl) ⟨rfl, rfl⟩
theorem ibs2 (s : List UInt8) (c : Int) (h0 : AH) : callW Try.prog Try.T 93 [.str s, .int .u8 c] h0 fun v h' => v = .int .i64 (Lib.indexByte s c.toNat.toUInt8) ∧ h' = h0 := by
  refine callW_in (n := 8) (rs := [.tmp 4]) (m := 8) Try.func93 rfl rfl rfl rfl fun tr ht => ?_; have e0 := ht 0 _ rfl; have e1 := ht 1 _ rfl; clear ht
  repeat' (first
      | with_reducible first | refine Nx.h ?_ | (refine hK _ _ ?_; clear hK K)
      | ((with_reducible refine q_eo ?_ ?_); exact rfl)
      | ((with_reducible first | (refine Ny.h ?_; intro K hK) | (refine c_drw (by decide +kernel) ?_; intro K hK) | refine c_cond ?_ | show endW _ _ _ _ _ | (refine Nz.h ?_ ?_ <;> intro _) | fail) <;> try simp (disch := first | exact dz | fail) only [go_sem, i_0, i_1, i_2, i_3, i_4, i_5, i_6, i_7, i_8, n_0, n_1, n_2, n_3, n_4, n_5, reduceCtorEq, reduceIte, e0, e1]))
  refine callM_of (ibs s c h0) ?_
  rintro v h1 ⟨rfl, rfl⟩
  refine vI ?_; repeat' (first
      | with_reducible first | refine Nx.h ?_ | (refine hK _ _ ?_; clear hK K)
      | ((with_reducible refine q_eo ?_ ?_); exact rfl)
      | ((with_reducible first | refine vO ?_ | (refine Ny.h ?_; intro K hK) | (refine c_drw (by decide +kernel) ?_; intro K hK) | refine c_cond ?_ | show endW _ _ _ _ _ | (refine Nz.h ?_ ?_ <;> intro _) | fail) <;> try simp (disch := first | exact dz | fail) only [go_sem, i_0, i_1, i_2, i_3, i_4, i_5, i_6, i_7, i_8, n_0, n_1, n_2, n_3, n_4, n_5, reduceCtorEq, reduceIte, e0, e1]))
theorem index1 (s : List UInt8) (h0 : AH) : callW Try.prog Try.T 92 [.str s, .str [32]] h0 fun v h' => v = .int .i64 (Lib.indexByte s 32) ∧ h' = h0 := by
  refine callW_hide fun KK hKK => ?_
  refine callW_in (n := 143) (rs := [.tmp 4]) (m := 143) Try.func92 rfl rfl rfl rfl fun tr ht => ?_; have e0 := ht 0 _ rfl; have e1 := ht 1 _ rfl; clear ht
  have hix : ixR Try.T 9 (some (.str [32])) (some (.int .i64 0)) = some (.int .u8 32) := rfl
  by_cases hs : [32] = s
  · subst hs
    repeat' (first
      | with_reducible first | refine Nx.h ?_ | (refine hK _ _ ?_; clear hK K)
      | ((with_reducible refine q_eo ?_ ?_); exact rfl)
      | ((with_reducible first | (refine Ny.h ?_; intro K hK) | (refine c_drw (by decide +kernel) ?_; intro K hK) | refine c_cond ?_ | show endW _ _ _ _ _ | (refine Nz.h ?_ ?_ <;> intro _) | fail) <;> try simp (disch := first | exact dz | fail) only [go_sem, i_0, i_1, i_2, i_3, i_4, i_5, i_6, i_7, i_8, n_0, n_1, n_2, n_3, n_4, n_5, reduceCtorEq, reduceIte, e0, e1]))
    all_goals exact hKK _ _ ⟨rfl, rfl⟩
  · repeat' (first
      | with_reducible first | refine Nx.h ?_ | (refine hK _ _ ?_; clear hK K)
      | ((with_reducible refine q_eo ?_ ?_); exact rfl)
      | ((with_reducible first | (refine Ny.h ?_; intro K hK) | (refine c_drw (by decide +kernel) ?_; intro K hK) | refine c_cond ?_ | show endW _ _ _ _ _ | (refine Nz.h ?_ ?_ <;> intro _) | fail) <;> try simp (disch := first | exact dz | fail) only [go_sem, i_0, i_1, i_2, i_3, i_4, i_5, i_6, i_7, i_8, n_0, n_1, n_2, n_3, n_4, n_5, reduceCtorEq, reduceIte, e0, e1, hix]))
    refine callM_of (ibs2 s 32 h0) ?_
    rintro v h1 ⟨rfl, rfl⟩
    refine vI ?_; repeat' (first
      | with_reducible first | refine Nx.h ?_ | (refine hK _ _ ?_; clear hK K)
      | ((with_reducible refine q_eo ?_ ?_); exact rfl)
      | ((with_reducible first | refine vO ?_ | (refine Ny.h ?_; intro K hK) | (refine c_drw (by decide +kernel) ?_; intro K hK) | refine c_cond ?_ | show endW _ _ _ _ _ | (refine Nz.h ?_ ?_ <;> intro _) | fail) <;> try simp (disch := first | exact dz | fail) only [go_sem, i_0, i_1, i_2, i_3, i_4, i_5, i_6, i_7, i_8, n_0, n_1, n_2, n_3, n_4, n_5, reduceCtorEq, reduceIte, e0, e1]))
    exact hKK _ _ ⟨rfl, rfl⟩
theorem indexByte_le (c : UInt8) : ∀ (l : List UInt8), -1 ≤ Lib.indexByte l c ∧ Lib.indexByte l c < l.length := by
  intro l
  induction l with
  | nil => simp [Lib.indexByte]
  | cons b l ih =>
    unfold Lib.indexByte
    rw [List.length_cons]
    split
    · omega
    · split <;> omega
def cutS (s : List UInt8) : List UInt8 × List UInt8 := if 0 ≤ Lib.indexByte s 32 then (s.take (Lib.indexByte s 32).toNat, s.drop ((Lib.indexByte s 32).toNat + 1)) else (s, [])
set_option maxHeartbeats 4000000 in
theorem cut1 (s : List UInt8) (h0 : AH) (hs : s.length ≤ 1000000) : callW Try.prog Try.T 91 [.str s, .str [32]] h0 fun v h' => (∃ f, v = .tuple [.str (cutS s).1, .str (cutS s).2, .bool f]) ∧ h' = h0 := by
  refine callW_hide fun KK hKK => ?_
  refine callW_in (n := 23) (rs := [.tmp 4, .tmp 5, .tmp 6]) (m := 23) Try.func91 rfl rfl rfl rfl fun tr ht => ?_; have e0 := ht 0 _ rfl; have e1 := ht 1 _ rfl; clear ht
  repeat' (first
      | with_reducible first | refine Nx.h ?_ | (refine hK _ _ ?_; clear hK K)
      | ((with_reducible refine q_eo ?_ ?_); exact rfl)
      | ((with_reducible first | (refine Ny.h ?_; intro K hK) | (refine c_drw (by decide +kernel) ?_; intro K hK) | refine c_cond ?_ | show endW _ _ _ _ _ | (refine Nz.h ?_ ?_ <;> intro _) | fail) <;> try simp (disch := first | exact dz | fail) only [go_sem, i_0, i_1, i_2, i_3, i_4, i_5, i_6, i_7, i_8, n_0, n_1, n_2, n_3, n_4, n_5, reduceCtorEq, reduceIte, e0, e1]))
  refine callM_of (index1 s h0) ?_
  rintro v h1 ⟨rfl, rfl⟩
  have hle := indexByte_le 32 s
  unfold cutS at hKK
  generalize Lib.indexByte s 32 = k at *
  have h32 : (([32] : List UInt8).length : Int) = 1 := rfl
  by_cases hk : 0 ≤ k
  · rw [if_pos hk] at hKK
    have e1' : (k + ((1 : Nat) : Int)).toNat = k.toNat + 1 := by omega
    refine vI ?_; repeat' (first
      | with_reducible first | refine Nx.h ?_ | (refine hK _ _ ?_; clear hK K)
      | ((with_reducible refine q_eo ?_ ?_); exact rfl)
      | ((with_reducible first | refine vO ?_ | (refine Ny.h ?_; intro K hK) | (refine c_drw (by decide +kernel) ?_; intro K hK) | refine c_cond ?_ | show endW _ _ _ _ _ | (refine Nz.h ?_ ?_ <;> intro _) | fail) <;> try simp (disch := first | exact dz | fail) only [go_sem, i_0, i_1, i_2, i_3, i_4, i_5, i_6, i_7, i_8, n_0, n_1, n_2, n_3, n_4, n_5, reduceCtorEq, reduceIte, e0, e1, h32]))
    rw [e1']
    exact hKK _ _ ⟨⟨_, rfl⟩, rfl⟩
  · rw [if_neg hk] at hKK
    refine vI ?_; repeat' (first
      | with_reducible first | refine Nx.h ?_ | (refine hK _ _ ?_; clear hK K)
      | ((with_reducible refine q_eo ?_ ?_); exact rfl)
      | ((with_reducible first | refine vO ?_ | (refine Ny.h ?_; intro K hK) | (refine c_drw (by decide +kernel) ?_; intro K hK) | refine c_cond ?_ | show endW _ _ _ _ _ | (refine Nz.h ?_ ?_ <;> intro _) | fail) <;> try simp (disch := first | exact dz | fail) only [go_sem, i_0, i_1, i_2, i_3, i_4, i_5, i_6, i_7, i_8, n_0, n_1, n_2, n_3, n_4, n_5, reduceCtorEq, reduceIte, e0, e1]))
    exact hKK _ _ ⟨⟨_, rfl⟩, rfl⟩
theorem cut2 (s : List UInt8) (h0 : AH) (hs : s.length ≤ 1000000) : callW Try.prog Try.T 89 [.str s, .str [32]] h0 fun v h' => (∃ f, v = .tuple [.str (cutS s).1, .str (cutS s).2, .bool f]) ∧ h' = h0 := by
  refine callW_hide fun KK hKK => ?_
  refine callW_in (n := 13) (rs := [.tmp 4, .tmp 5, .tmp 6]) (m := 13) Try.func89 rfl rfl rfl rfl fun tr ht => ?_; have e0 := ht 0 _ rfl; have e1 := ht 1 _ rfl; clear ht
  repeat' (first
      | with_reducible first | refine Nx.h ?_ | (refine hK _ _ ?_; clear hK K)
      | ((with_reducible refine q_eo ?_ ?_); exact rfl)
      | ((with_reducible first | (refine Ny.h ?_; intro K hK) | (refine c_drw (by decide +kernel) ?_; intro K hK) | refine c_cond ?_ | show endW _ _ _ _ _ | (refine Nz.h ?_ ?_ <;> intro _) | fail) <;> try simp (disch := first | exact dz | fail) only [go_sem, i_0, i_1, i_2, i_3, i_4, i_5, i_6, i_7, i_8, n_0, n_1, n_2, n_3, n_4, n_5, reduceCtorEq, reduceIte, e0, e1]))
  refine callM_of (cut1 s h0 hs) ?_
  rintro v h1 ⟨⟨f, rfl⟩, rfl⟩
  refine vI ?_; repeat' (first
      | with_reducible first | refine Nx.h ?_ | (refine hK _ _ ?_; clear hK K)
      | ((with_reducible refine q_eo ?_ ?_); exact rfl)
      | ((with_reducible first | refine vO ?_ | (refine Ny.h ?_; intro K hK) | (refine c_drw (by decide +kernel) ?_; intro K hK) | refine c_cond ?_ | show endW _ _ _ _ _ | (refine Nz.h ?_ ?_ <;> intro _) | fail) <;> try simp (disch := first | exact dz | fail) only [go_sem, i_0, i_1, i_2, i_3, i_4, i_5, i_6, i_7, i_8, n_0, n_1, n_2, n_3, n_4, n_5, reduceCtorEq, reduceIte, e0, e1]))
  exact hKK _ _ ⟨⟨_, rfl⟩, rfl⟩
set_option maxHeartbeats 4000000 in
theorem cut3 (s : List UInt8) (h0 : AH) (hs : s.length ≤ 1000000) : callW Try.prog Try.T 81 [.str s] h0 fun v h' => v = .agg (EF.f ((cutS s).1, (cutS s).2, false)) ∧ Keeps h0.size h0 h' := by
  refine callW_hide fun KK hKK => ?_
  rw [EFf] at hKK
  refine callW_in (n := 15) (rs := [.cell 2 45]) (m := 15) Try.func81 rfl rfl rfl rfl fun tr ht => ?_; have e0 := ht 0 _ rfl; clear ht
  repeat' (first
      | with_reducible first | refine Nx.h ?_ | (refine hK _ _ ?_; clear hK K)
      | ((with_reducible refine q_eo ?_ ?_); exact rfl)
      | ((with_reducible first | (refine Ny.h ?_; intro K hK) | (refine c_drw (by decide +kernel) ?_; intro K hK) | refine c_cond ?_ | show endW _ _ _ _ _ | (refine Nz.h ?_ ?_ <;> intro _) | fail) <;> try simp (disch := first | exact dz | fail) only [go_sem, i_0, i_1, i_2, i_3, i_4, i_5, i_6, i_7, i_8, n_0, n_1, n_2, n_3, n_4, n_5, reduceCtorEq, reduceIte, e0]))
  refine callM_of (cut2 s _ hs) ?_
  rintro v h1 ⟨⟨f, rfl⟩, rfl⟩
  refine vI ?_; repeat' (first
      | with_reducible first | refine Nx.h ?_ | (refine hK _ _ ?_; clear hK K)
      | ((with_reducible refine q_eo ?_ ?_); exact rfl)
      | ((with_reducible first | refine vO ?_ | (refine Ny.h ?_; intro K hK) | (refine c_drw (by decide +kernel) ?_; intro K hK) | refine c_cond ?_ | show endW _ _ _ _ _ | (refine Nz.h ?_ ?_ <;> intro _) | fail) <;> try simp (disch := first | exact dz | fail) only [go_sem, i_0, i_1, i_2, i_3, i_4, i_5, i_6, i_7, i_8, n_0, n_1, n_2, n_3, n_4, n_5, reduceCtorEq, reduceIte, e0]))
  exact hKK _ _ ⟨rfl, ((Keeps.refl _ _).push (Nat.le_refl _) _).set (Nat.le_refl _) _⟩
theorem stat_len : statL.length = 61 := rfl
theorem statS_len : statS.length = 61 := rfl
theorem stat_cut : ∀ k, k < 61 → cutS (statS[k]!) = ((statL[k]!).1, (statL[k]!).2.1) ∧ (statL[k]!).2.2 = false ∧ (statS[k]!).length ≤ 1000 ∧ statR[2 * k]! = (statL[k]!).1 ∧ statR[2 * k + 1]! = (statL[k]!).2.1 := by decide +kernel
set_option maxHeartbeats 4000000 in
/-- A range over the static table: I holds ahead of round k, Fin behind an early end. -/
theorem statIter (L : Nat) (h0 : AH) (Fin : AH → Prop) (I : Nat → AH → Prop) (h0I : I 0 h0)
    (hst : ∀ k h h', I k h → h0.size ≤ h.size → Keeps h.size h h' → I k h')
    (hy : ∀ k h1 x, statL[k]? = some x → I k h1 → h0.size ≤ h1.size → yieldW Try.prog Try.T L [.int .i64 ((k : Int) + 1), .agg (EF.f x)] h1 fun v h2 => (v = .bool true ∧ I (k + 1) h2 ∧ h1.size ≤ h2.size ∧ ∀ b, h0.size ≤ b → b < h1.size → h2.get b = h1.get b) ∨ v = .bool false ∧ Fin h2)
    (hf : ∀ h, I 61 h → Fin h) : callW Try.prog Try.T 79 [.yield L] h0 fun _ h2 => Fin h2 := by
  refine callW_hide fun KK hKK => ?_
  refine callW_in (n := 19) (rs := []) (m := 19) Try.func79 rfl rfl rfl rfl fun tr ht => ?_; have e0 := ht 0 _ rfl; clear ht
  repeat' (first
      | with_reducible first | refine Nx.h ?_ | (refine hK _ _ ?_; clear hK K)
      | ((with_reducible refine q_eo ?_ ?_); exact rfl)
      | ((with_reducible first | (refine Ny.h ?_; intro K hK) | (refine c_drw (by decide +kernel) ?_; intro K hK) | refine c_cond ?_ | show endW _ _ _ _ _ | (refine Nz.h ?_ ?_ <;> intro _) | fail) <;> try simp (disch := first | exact dz | fail) only [go_sem, i_0, i_1, i_2, i_3, i_4, i_5, i_6, i_7, i_8, n_0, n_1, n_2, n_3, n_4, n_5, reduceCtorEq, reduceIte, e0]))
  refine callM_of (statF h0) ?_
  rintro v h1 ⟨rfl, hh1⟩
  have z1 : h1.size = h0.size + 1 := by rw [hh1]; simp (disch := first | exact dz | fail) only [go_sem, i_0, i_1, i_2, i_3, i_4, i_5, i_6, i_7, i_8, n_0, n_1, n_2, n_3, n_4, n_5, reduceCtorEq, reduceIte]
  have g1 : h1.get h0.size = some (.cells (ES.all statS)) := by rw [hh1]; simp (disch := first | exact dz | fail) only [go_sem, i_0, i_1, i_2, i_3, i_4, i_5, i_6, i_7, i_8, n_0, n_1, n_2, n_3, n_4, n_5, reduceCtorEq, reduceIte]
  have k1 : Keeps h0.size h0 h1 := by rw [hh1]; exact (Keeps.refl _ _).push (Nat.le_refl _) _
  clear hh1
  have i1 := hst _ _ _ h0I (Nat.le_refl _) k1
  have o1 : Ow ES h1 h0.size (.slice (some (h0.size, 0)) 61 61 1 true) statS := .full _ _ _ g1 (by omega) rfl
  generalize (AV.slice (some (h0.size, 0)) 61 61 1 true) = a at *
  have sl := o1.sl
  have hsl := statS_len
  refine vI ?_; repeat' (first
      | with_reducible first | refine Nx.h ?_ | (refine hK _ _ ?_; clear hK K)
      | ((with_reducible refine q_eo ?_ ?_); exact rfl)
      | ((with_reducible first | refine vO ?_ | (refine Ny.h ?_; intro K hK) | (refine c_drw (by decide +kernel) ?_; intro K hK) | refine c_cond ?_ | show endW _ _ _ _ _ | (refine Nz.h ?_ ?_ <;> intro _) | fail) <;> try simp (disch := first | exact dz | fail) only [go_sem, i_0, i_1, i_2, i_3, i_4, i_5, i_6, i_7, i_8, n_0, n_1, n_2, n_3, n_4, n_5, reduceCtorEq, reduceIte, e0]))
  refine c_loopF 524236 (fun m tm h => ∃ (k : Nat), tm.get 6 = .int .i64 k ∧ k ≤ 61 ∧ I k h ∧ h0.size < h.size ∧ h.get h0.size = some (.cells (ES.all statS)) ∧ m = 61 - k) (61) (by kernel_rfl) ?_ ?_
  · refine ⟨0, ?_, by omega, i1, by omega, g1, rfl⟩
    (first | with_reducible rfl | (simp (disch := first | exact dz | fail) only [go_sem, i_0, i_1, i_2, i_3, i_4, i_5, i_6, i_7, i_8, n_0, n_1, n_2, n_3, n_4, n_5, reduceCtorEq, reduceIte] <;> first | with_reducible rfl | (congr 1 <;> omega)))
  · rintro m tr2 h2 ho ⟨k, t6, hk, hi, hz, hg, rfl⟩
    have k0 := ho 0 (Seen.of rfl); simp (disch := first | exact dz | fail) only [go_sem, i_0, i_1, i_2, i_3, i_4, i_5, i_6, i_7, i_8, n_0, n_1, n_2, n_3, n_4, n_5, reduceCtorEq, reduceIte, e0] at k0; have k4 := ho 4 (Seen.of rfl); simp (disch := first | exact dz | fail) only [go_sem, i_0, i_1, i_2, i_3, i_4, i_5, i_6, i_7, i_8, n_0, n_1, n_2, n_3, n_4, n_5, reduceCtorEq, reduceIte, e0] at k4; have k5 := ho 5 (Seen.of rfl); simp (disch := first | exact dz | fail) only [go_sem, i_0, i_1, i_2, i_3, i_4, i_5, i_6, i_7, i_8, n_0, n_1, n_2, n_3, n_4, n_5, reduceCtorEq, reduceIte, e0] at k5
    have o2 := o1.frame (h' := h2) (fun _ => hg.trans g1.symm) (by omega)
    have s2 := o2.sl
    by_cases hc : k < 61
    · obtain ⟨hcut, hnv, hln, _⟩ := stat_cut k hc
      have ld : loadA Try.T h2 9 (a.at ES.sz 0 (k : Int)) = some (.str (statS[k]!)) := s2.ld (by omega) (by omega) (by rw [Int.toNat_natCast]; rfl) (by decide) rfl rfl
      have hx : statL[k]? = some (statL[k]!) := bang_some (by rw [stat_len]; exact hc)
      repeat' (first
      | with_reducible first | refine Nx.h ?_ | (refine hK _ _ ?_; clear hK K)
      | ((with_reducible refine q_eo ?_ ?_); exact rfl)
      | ((with_reducible first | (refine Ny.h ?_; intro K hK) | (refine c_drw (by decide +kernel) ?_; intro K hK) | refine c_cond ?_ | show endW _ _ _ _ _ | (refine Nz.h ?_ ?_ <;> intro _) | fail) <;> try simp (disch := first | exact dz | fail) only [go_sem, i_0, i_1, i_2, i_3, i_4, i_5, i_6, i_7, i_8, n_0, n_1, n_2, n_3, n_4, n_5, reduceCtorEq, reduceIte, k0, k4, k5, t6, ld]))
      refine callM_of (cut3 (statS[k]!) h2 (by omega)) ?_
      rintro v h3 ⟨rfl, k3⟩
      rw [hcut]
      have hfl : ((statL[k]!).1, (statL[k]!).2.1, false) = statL[k]! := by rw [← hnv]
      simp only [hfl]
      generalize statL[k]! = x at *
      have i3 := hst _ _ _ hi (by omega) k3
      have z3 := k3.1
      refine vI ?_; repeat' (first
      | with_reducible first | refine Nx.h ?_ | (refine hK _ _ ?_; clear hK K)
      | ((with_reducible refine q_eo ?_ ?_); exact rfl)
      | ((with_reducible first | refine vO ?_ | (refine Ny.h ?_; intro K hK) | (refine c_drw (by decide +kernel) ?_; intro K hK) | refine c_cond ?_ | show endW _ _ _ _ _ | (refine Nz.h ?_ ?_ <;> intro _) | fail) <;> try simp (disch := first | exact dz | fail) only [go_sem, i_0, i_1, i_2, i_3, i_4, i_5, i_6, i_7, i_8, n_0, n_1, n_2, n_3, n_4, n_5, reduceCtorEq, reduceIte, k0, k4, k5, t6]))
      refine yieldM_of (hy k h3 x hx i3 (by omega)) ?_
      rintro v h4 (⟨rfl, hi4, z4, f4⟩ | ⟨rfl, hF⟩)
      · refine vI ?_; repeat' (first
      | with_reducible first | refine Nx.h ?_ | (refine hK _ _ ?_; clear hK K)
      | ((with_reducible refine q_eo ?_ ?_); exact rfl)
      | ((with_reducible first | refine vO ?_ | (refine Ny.h ?_; intro K hK) | (refine c_drw (by decide +kernel) ?_; intro K hK) | refine c_cond ?_ | show endW _ _ _ _ _ | (refine Nz.h ?_ ?_ <;> intro _) | fail) <;> try simp (disch := first | exact dz | fail) only [go_sem, i_0, i_1, i_2, i_3, i_4, i_5, i_6, i_7, i_8, n_0, n_1, n_2, n_3, n_4, n_5, reduceCtorEq, reduceIte, k0, k4, k5, t6]))
        try dsimp only
        refine ⟨rfl, 61 - (k + 1), by omega, k + 1, ?_, by omega, hi4, by omega, (f4 _ (Nat.le_refl _) (by omega)).trans ((k3.2 _ (by omega)).trans hg), rfl⟩
        (first | with_reducible rfl | (simp (disch := first | exact dz | fail) only [go_sem, i_0, i_1, i_2, i_3, i_4, i_5, i_6, i_7, i_8, n_0, n_1, n_2, n_3, n_4, n_5, reduceCtorEq, reduceIte, t6] <;> first | with_reducible rfl | (congr 1 <;> omega)))
      · refine vI ?_; repeat' (first
      | with_reducible first | refine Nx.h ?_ | (refine hK _ _ ?_; clear hK K)
      | ((with_reducible refine q_eo ?_ ?_); exact rfl)
      | ((with_reducible first | refine vO ?_ | (refine Ny.h ?_; intro K hK) | (refine c_drw (by decide +kernel) ?_; intro K hK) | refine c_cond ?_ | show endW _ _ _ _ _ | (refine Nz.h ?_ ?_ <;> intro _) | fail) <;> try simp (disch := first | exact dz | fail) only [go_sem, i_0, i_1, i_2, i_3, i_4, i_5, i_6, i_7, i_8, n_0, n_1, n_2, n_3, n_4, n_5, reduceCtorEq, reduceIte, k0, k4, k5, t6]))
        exact hKK _ _ hF
    · have : k = 61 := by omega
      subst this
      repeat' (first
      | with_reducible first | refine Nx.h ?_ | (refine hK _ _ ?_; clear hK K)
      | ((with_reducible refine q_eo ?_ ?_); exact rfl)
      | ((with_reducible first | (refine Ny.h ?_; intro K hK) | (refine c_drw (by decide +kernel) ?_; intro K hK) | refine c_cond ?_ | show endW _ _ _ _ _ | (refine Nz.h ?_ ?_ <;> intro _) | fail) <;> try simp (disch := first | exact dz | fail) only [go_sem, i_0, i_1, i_2, i_3, i_4, i_5, i_6, i_7, i_8, n_0, n_1, n_2, n_3, n_4, n_5, reduceCtorEq, reduceIte, k0, k4, k5, t6]))
      exact hKK _ _ (hf _ hi)
theorem allS (h0 : AH) : callW Try.prog Try.T 71 [] h0 fun v h' => v = .func 79 [] ∧ h' = h0 := by
  refine callW_in (n := 1) (rs := [.tmp 0]) (m := 1) Try.func71 rfl rfl rfl rfl fun tr ht => ?_; clear ht
  repeat' (first
      | with_reducible first | refine Nx.h ?_ | (refine hK _ _ ?_; clear hK K)
      | ((with_reducible refine q_eo ?_ ?_); exact rfl)
      | ((with_reducible first | (refine Ny.h ?_; intro K hK) | (refine c_drw (by decide +kernel) ?_; intro K hK) | refine c_cond ?_ | show endW _ _ _ _ _ | (refine Nz.h ?_ ?_ <;> intro _) | fail) <;> try simp (disch := first | exact dz | fail) only [go_sem, i_0, i_1, i_2, i_3, i_4, i_5, i_6, i_7, i_8, n_0, n_1, n_2, n_3, n_4, n_5, reduceCtorEq, reduceIte]))
theorem fnd_cons (x y : List UInt8) (f : Fd) (r : List Fd) (k : Int) : fnd x y (f :: r) k = (if f.1 = x ∧ f.2.1 = y then k else (fnd x y r (k + 1)).1, if f.1 = x then k else (fnd x y r (k + 1)).2) := rfl
set_option maxHeartbeats 4000000 in
theorem sfind (x y : List UInt8) (h0 : AH) : callW Try.prog Try.T 54 [.str x, .str y] h0 fun v h' => v = .tuple [.int .i64 (fnd x y statL 1).1, .int .i64 (fnd x y statL 1).2] ∧ Keeps h0.size h0 h' := by
  refine callW_hide fun KK hKK => ?_
  refine callW_in (n := 27) (rs := [.tmp 4, .tmp 5]) (m := 27) Try.func54 rfl rfl rfl rfl fun tr ht => ?_; have e0 := ht 0 _ rfl; have e1 := ht 1 _ rfl; clear ht
  repeat' (first
      | with_reducible first | refine Nx.h ?_ | (refine hK _ _ ?_; clear hK K)
      | ((with_reducible refine q_eo ?_ ?_); exact rfl)
      | ((with_reducible first | (refine Ny.h ?_; intro K hK) | (refine c_drw (by decide +kernel) ?_; intro K hK) | refine c_cond ?_ | show endW _ _ _ _ _ | (refine Nz.h ?_ ?_ <;> intro _) | fail) <;> try simp (disch := first | exact dz | fail) only [go_sem, i_0, i_1, i_2, i_3, i_4, i_5, i_6, i_7, i_8, n_0, n_1, n_2, n_3, n_4, n_5, reduceCtorEq, reduceIte, e0, e1]))
  refine cM_hide fun h1 hh1 => ?_
  have z1 : h1.size = h0.size + 4 := by rw [hh1]; simp (disch := first | exact dz | fail) only [go_sem, i_0, i_1, i_2, i_3, i_4, i_5, i_6, i_7, i_8, n_0, n_1, n_2, n_3, n_4, n_5, reduceCtorEq, reduceIte]
  have gx : h1.get h0.size = some (.cells [.str x]) := by rw [hh1]; simp (disch := first | exact dz | fail) only [go_sem, i_0, i_1, i_2, i_3, i_4, i_5, i_6, i_7, i_8, n_0, n_1, n_2, n_3, n_4, n_5, reduceCtorEq, reduceIte]
  have gy : h1.get (h0.size + 1) = some (.cells [.str y]) := by rw [hh1]; simp (disch := first | exact dz | fail) only [go_sem, i_0, i_1, i_2, i_3, i_4, i_5, i_6, i_7, i_8, n_0, n_1, n_2, n_3, n_4, n_5, reduceCtorEq, reduceIte]
  have g6 : h1.get (h0.size + 1 + 1) = some (.cells [.int .i64 0]) := by rw [hh1]; simp (disch := first | exact dz | fail) only [go_sem, i_0, i_1, i_2, i_3, i_4, i_5, i_6, i_7, i_8, n_0, n_1, n_2, n_3, n_4, n_5, reduceCtorEq, reduceIte]
  have g7 : h1.get (h0.size + 1 + 1 + 1) = some (.cells [.int .i64 0]) := by rw [hh1]; simp (disch := first | exact dz | fail) only [go_sem, i_0, i_1, i_2, i_3, i_4, i_5, i_6, i_7, i_8, n_0, n_1, n_2, n_3, n_4, n_5, reduceCtorEq, reduceIte]
  have k1 : Keeps h0.size h0 h1 := ⟨by omega, fun b hb => by rw [hh1]; simp (disch := first | exact dz | fail) only [go_sem, i_0, i_1, i_2, i_3, i_4, i_5, i_6, i_7, i_8, n_0, n_1, n_2, n_3, n_4, n_5, reduceCtorEq, reduceIte]⟩
  clear hh1
  obtain ⟨b6, hb6⟩ : ∃ b6, b6 = h0.size + 1 + 1 := ⟨_, rfl⟩
  obtain ⟨b7, hb7⟩ : ∃ b7, b7 = h0.size + 1 + 1 + 1 := ⟨_, rfl⟩
  rw [← hb7] at g7 ⊢
  rw [← hb6] at g6 ⊢
  refine callM_of (allS h1) ?_
  rintro v h2 ⟨rfl, rfl⟩
  refine vI ?_; repeat' (first
      | with_reducible first | refine Nx.h ?_ | (refine hK _ _ ?_; clear hK K)
      | ((with_reducible refine q_eo ?_ ?_); exact rfl)
      | ((with_reducible first | refine vO ?_ | (refine Ny.h ?_; intro K hK) | (refine c_drw (by decide +kernel) ?_; intro K hK) | refine c_cond ?_ | show endW _ _ _ _ _ | (refine Nz.h ?_ ?_ <;> intro _) | fail) <;> try simp (disch := first | exact dz | fail) only [go_sem, i_0, i_1, i_2, i_3, i_4, i_5, i_6, i_7, i_8, n_0, n_1, n_2, n_3, n_4, n_5, reduceCtorEq, reduceIte, e0, e1]))
  refine codeW_base fun tr3 ho3 => ?_
  have q2 := ho3 2 (Seen.of rfl); simp (disch := first | exact dz | fail) only [go_sem, i_0, i_1, i_2, i_3, i_4, i_5, i_6, i_7, i_8, n_0, n_1, n_2, n_3, n_4, n_5, reduceCtorEq, reduceIte, e0, e1] at q2; have q3 := ho3 3 (Seen.of rfl); simp (disch := first | exact dz | fail) only [go_sem, i_0, i_1, i_2, i_3, i_4, i_5, i_6, i_7, i_8, n_0, n_1, n_2, n_3, n_4, n_5, reduceCtorEq, reduceIte, e0, e1] at q3; have q6 := ho3 6 (Seen.of rfl); simp (disch := first | exact dz | fail) only [go_sem, i_0, i_1, i_2, i_3, i_4, i_5, i_6, i_7, i_8, n_0, n_1, n_2, n_3, n_4, n_5, reduceCtorEq, reduceIte, e0, e1] at q6; have q7 := ho3 7 (Seen.of rfl); simp (disch := first | exact dz | fail) only [go_sem, i_0, i_1, i_2, i_3, i_4, i_5, i_6, i_7, i_8, n_0, n_1, n_2, n_3, n_4, n_5, reduceCtorEq, reduceIte, e0, e1] at q7; have q10 := ho3 10 (Seen.of rfl); simp (disch := first | exact dz | fail) only [go_sem, i_0, i_1, i_2, i_3, i_4, i_5, i_6, i_7, i_8, n_0, n_1, n_2, n_3, n_4, n_5, reduceCtorEq, reduceIte, e0, e1] at q10
  refine c_rangeR (g := 79) (cap := []) (by simp (disch := first | exact dz | fail) only [go_sem, i_0, i_1, i_2, i_3, i_4, i_5, i_6, i_7, i_8, n_0, n_1, n_2, n_3, n_4, n_5, reduceCtorEq, reduceIte, q10]) fun R hR => ?_
  have zb : ((h2.push (.defs false)).push R).size = h2.size + 2 := by simp (disch := first | exact dz | fail) only [go_sem, i_0, i_1, i_2, i_3, i_4, i_5, i_6, i_7, i_8, n_0, n_1, n_2, n_3, n_4, n_5, reduceCtorEq, reduceIte]
  have fb : ∀ b, b < h2.size → ((h2.push (.defs false)).push R).get b = h2.get b := fun b hb => by simp (disch := first | exact dz | fail) only [go_sem, i_0, i_1, i_2, i_3, i_4, i_5, i_6, i_7, i_8, n_0, n_1, n_2, n_3, n_4, n_5, reduceCtorEq, reduceIte]
  have gR : ((h2.push (.defs false)).push R).get (h2.size + 1) = some R := by simp (disch := first | exact dz | fail) only [go_sem, i_0, i_1, i_2, i_3, i_4, i_5, i_6, i_7, i_8, n_0, n_1, n_2, n_3, n_4, n_5, reduceCtorEq, reduceIte]
  have gm : ((h2.push (.defs false)).push R).get h2.size = some (.defs false) := by simp (disch := first | exact dz | fail) only [go_sem, i_0, i_1, i_2, i_3, i_4, i_5, i_6, i_7, i_8, n_0, n_1, n_2, n_3, n_4, n_5, reduceCtorEq, reduceIte]
  generalize (h2.push (.defs false)).push R = hb at *
  refine callW_mono (statIter _ hb
    (fun h => ∃ e : Ex, (e = .normal ∨ e = .exit 0) ∧ hb.size ≤ h.size ∧ (∀ b, b < hb.size → ¬ b = b6 → ¬ b = b7 → ¬ b = h2.size + 1 → h.get b = hb.get b) ∧ h.get b6 = some (.cells [.int .i64 (fnd x y statL 1).1]) ∧ h.get b7 = some (.cells [.int .i64 (fnd x y statL 1).2]) ∧ h.get (h2.size + 1) = some (R.fin e))
    (fun k h => hb.size ≤ h.size ∧ (∀ b, b < hb.size → ¬ b = b6 → ¬ b = b7 → ¬ b = h2.size + 1 → h.get b = hb.get b) ∧ h.get b6 = some (.cells [.int .i64 0]) ∧ (∃ one : Int, h.get b7 = some (.cells [.int .i64 one]) ∧ 0 ≤ one ∧ (fnd x y statL 1).1 = (fnd x y (statL.drop k) ((k : Int) + 1)).1 ∧ (fnd x y statL 1).2 = if one = 0 then (fnd x y (statL.drop k) ((k : Int) + 1)).2 else one) ∧ h.get (h2.size + 1) = some R) ?_ ?_ ?_ ?_) ?_
  · exact ⟨Nat.le_refl _, fun _ _ _ _ _ => rfl, (fb _ (by omega)).trans g6, ⟨0, (fb _ (by omega)).trans g7, by omega, rfl, rfl⟩, gR⟩
  · rintro k h h' ⟨hz, hf, c6, ⟨one, c7, h2', h1', h3'⟩, cR⟩ _ kp
    have := kp.1
    exact ⟨by omega, fun b b1 b2 b3 b4 => by rw [kp.2 b (by omega)]; exact hf b b1 b2 b3 b4, (kp.2 _ (by omega)).trans c6, ⟨one, (kp.2 _ (by omega)).trans c7, h2', h1', h3'⟩, (kp.2 _ (by omega)).trans cR⟩
  · rintro k hz1 f hx ⟨hz, hf, c6, ⟨one, c7, h2', h1', h3'⟩, cR⟩ _
    have hkl := (List.getElem?_eq_some_iff.1 hx).1
    rw [stat_len] at hkl
    have hdr : statL.drop k = f :: statL.drop (k + 1) := by
      obtain ⟨a, b⟩ := List.getElem?_eq_some_iff.1 hx
      rw [List.drop_eq_getElem_cons a, b]
    rw [hdr, fnd_cons] at h1' h3'
    simp only at h1' h3'
    obtain ⟨f1, f2, f3⟩ := f
    rw [EFf]
    simp only at h1' h3'
    refine y_roundR hR cR (setAll_two .mk .mk) ?_
    refine codeW_hide fun Q1 hQ1 => ?_
    repeat' (first
      | with_reducible first | refine Nx.h ?_ | (refine hK _ _ ?_; clear hK K)
      | ((with_reducible refine q_eo ?_ ?_); exact rfl)
      | ((with_reducible first | (refine Ny.h ?_; intro K hK) | (refine c_drw (by decide +kernel) ?_; intro K hK) | refine c_cond ?_ | show endW _ _ _ _ _ | (refine Nz.h ?_ ?_ <;> intro _) | fail) <;> try simp (disch := first | exact dz | fail) only [go_sem, i_0, i_1, i_2, i_3, i_4, i_5, i_6, i_7, i_8, n_0, n_1, n_2, n_3, n_4, n_5, reduceCtorEq, reduceIte]))
    refine hQ1 _ _ ?_
    clear hQ1 Q1
    refine ⟨rfl, by simp (disch := first | exact dz | fail) only [go_sem, i_0, i_1, i_2, i_3, i_4, i_5, i_6, i_7, i_8, n_0, n_1, n_2, n_3, n_4, n_5, reduceCtorEq, reduceIte, cR], fun hy zy fy ly => ?_⟩
    dsimp only at zy fy
    have zy : hy.size = hz1.size + 1 := by rw [zy]; simp (disch := first | exact dz | fail) only [go_sem, i_0, i_1, i_2, i_3, i_4, i_5, i_6, i_7, i_8, n_0, n_1, n_2, n_3, n_4, n_5, reduceCtorEq, reduceIte]
    have bX : hy.get hz1.size = some (.cells [.str f1, .str f2, .bool f3]) := by rw [fy _ (by omega)]; simp (disch := first | exact dz | fail) only [go_sem, i_0, i_1, i_2, i_3, i_4, i_5, i_6, i_7, i_8, n_0, n_1, n_2, n_3, n_4, n_5, reduceCtorEq, reduceIte]
    have fy : ∀ b, b < hz1.size → ¬ b = h2.size + 1 → hy.get b = hz1.get b := by intro b hb1 hb2; rw [fy b (by omega)]; simp (disch := first | exact dz | fail) only [go_sem, i_0, i_1, i_2, i_3, i_4, i_5, i_6, i_7, i_8, n_0, n_1, n_2, n_3, n_4, n_5, reduceCtorEq, reduceIte]
    have x6 := (fy b6 (by omega) (by omega)).trans c6
    have x7 := (fy b7 (by omega) (by omega)).trans c7
    have xx := (fy h0.size (by omega) (by omega)).trans ((hf _ (by omega) (by omega) (by omega) (by omega)).trans ((fb _ (by omega)).trans gx))
    have xy := (fy (h0.size + 1) (by omega) (by omega)).trans ((hf _ (by omega) (by omega) (by omega) (by omega)).trans ((fb _ (by omega)).trans gy))
    refine codeW_hide fun Q2 hQ2 => ?_
    -- a round that goes on
    have finN : ∀ (tm : Tm) (mk : List Nat) (hE : AH) (one' : Int), hE.size = hy.size → (∀ b, ¬ b = b7 → hE.get b = hy.get b) → hE.get b7 = some (.cells [.int .i64 one']) → 0 ≤ one' → (fnd x y statL 1).1 = (fnd x y (statL.drop (k + 1)) ((k : Int) + 1 + 1)).1 → (fnd x y statL 1).2 = (if one' = 0 then (fnd x y (statL.drop (k + 1)) ((k : Int) + 1 + 1)).2 else one') → Q2 .normal ⟨tm, mk, hE⟩ := fun tm mk hE one' ze fe ce h4 h5 h6 => by
      refine hQ2 _ _ ?_
      refine ⟨(fe _ (by omega)).trans ly, fun hx zx fx lx => ?_⟩
      dsimp only at zx fx
      refine .inl ⟨rfl, ⟨by omega, fun b b1 b2 b3 b4 => ?_, ?_, ⟨one', ?_, h4, ?_, ?_⟩, lx.trans (congrArg some (AO.fin_normal hR))⟩, by omega, fun b b1 b2 => ?_⟩
      · rw [fx b b4, fe b b3, fy b (by omega) b4, hf b b1 b2 b3 b4]
      · rw [fx _ (by omega), fe _ (by omega)]; exact x6
      · rw [fx _ (by omega)]; exact ce
      · rw [show ((k + 1 : Nat) : Int) + 1 = (k : Int) + 1 + 1 by omega]; exact h5
      · rw [show ((k + 1 : Nat) : Int) + 1 = (k : Int) + 1 + 1 by omega]; exact h6
      · rw [fx b (by omega), fe b (by omega), fy b b2 (by omega)]
    -- a round that ends it
    have finE : ∀ (tm : Tm) (mk : List Nat) (hE : AH), hE.size = hy.size → (∀ b, ¬ b = b7 → ¬ b = b6 → hE.get b = hy.get b) → hE.get b6 = some (.cells [.int .i64 (fnd x y statL 1).1]) → hE.get b7 = some (.cells [.int .i64 (fnd x y statL 1).2]) → Q2 (.exit 0) ⟨tm, mk, hE⟩ := fun tm mk hE ze fe c6' c7' => by
      refine hQ2 _ _ ?_
      refine ⟨(fe _ (by omega) (by omega)).trans ly, fun hx zx fx lx => ?_⟩
      dsimp only at zx fx
      refine .inr ⟨rfl, .exit 0, .inr rfl, by omega, fun b b1 b2 b3 b4 => ?_, ?_, ?_, lx⟩
      · rw [fx b b4, fe b b3 b2, fy b (by omega) b4, hf b b1 b2 b3 b4]
      · rw [fx _ (by omega)]; exact c6'
      · rw [fx _ (by omega)]; exact c7'
    by_cases d1 : f1 = x
    · by_cases d2 : one = 0
      · by_cases d3 : f2 = y
        · rw [if_pos ⟨d1, d3⟩] at h1'
          rw [if_pos d2, if_pos d1] at h3'
          repeat' (first
      | with_reducible first | refine Nx.h ?_ | (refine hK _ _ ?_; clear hK K)
      | ((with_reducible refine q_eo ?_ ?_); exact rfl)
      | ((with_reducible first | (refine Ny.h ?_; intro K hK) | (refine c_drw (by decide +kernel) ?_; intro K hK) | refine c_cond ?_ | show endW _ _ _ _ _ | (refine Nz.h ?_ ?_ <;> intro _) | fail) <;> try simp (disch := first | exact dz | fail) only [go_sem, i_0, i_1, i_2, i_3, i_4, i_5, i_6, i_7, i_8, n_0, n_1, n_2, n_3, n_4, n_5, reduceCtorEq, reduceIte, q2, q3, q6, q7, bX, x6, x7, xx, xy, d1, d2, d3]))
          refine finE _ _ _ (by simp) (fun b b1 b2 => by rw [AH.get_set, if_neg b2, AH.get_set, if_neg b1]) (by rw [AH.get_set, if_pos rfl, h1']) (by rw [AH.get_set, if_neg (by omega), AH.get_set, if_pos rfl, h3'])
        · rw [if_neg (fun h => d3 h.2)] at h1'
          rw [if_pos d2, if_pos d1] at h3'
          repeat' (first
      | with_reducible first | refine Nx.h ?_ | (refine hK _ _ ?_; clear hK K)
      | ((with_reducible refine q_eo ?_ ?_); exact rfl)
      | ((with_reducible first | (refine Ny.h ?_; intro K hK) | (refine c_drw (by decide +kernel) ?_; intro K hK) | refine c_cond ?_ | show endW _ _ _ _ _ | (refine Nz.h ?_ ?_ <;> intro _) | fail) <;> try simp (disch := first | exact dz | fail) only [go_sem, i_0, i_1, i_2, i_3, i_4, i_5, i_6, i_7, i_8, n_0, n_1, n_2, n_3, n_4, n_5, reduceCtorEq, reduceIte, q2, q3, q6, q7, bX, x6, x7, xx, xy, d1, d2]))
          exact finN _ _ _ ((k : Int) + 1) (by simp) (fun b b1 => by rw [AH.get_set, if_neg b1]) (by rw [AH.get_set, if_pos rfl]) (by omega) h1' (by rw [if_neg (by omega)]; exact h3')
      · by_cases d3 : f2 = y
        · rw [if_pos ⟨d1, d3⟩] at h1'
          rw [if_neg d2] at h3'
          repeat' (first
      | with_reducible first | refine Nx.h ?_ | (refine hK _ _ ?_; clear hK K)
      | ((with_reducible refine q_eo ?_ ?_); exact rfl)
      | ((with_reducible first | (refine Ny.h ?_; intro K hK) | (refine c_drw (by decide +kernel) ?_; intro K hK) | refine c_cond ?_ | show endW _ _ _ _ _ | (refine Nz.h ?_ ?_ <;> intro _) | fail) <;> try simp (disch := first | exact dz | fail) only [go_sem, i_0, i_1, i_2, i_3, i_4, i_5, i_6, i_7, i_8, n_0, n_1, n_2, n_3, n_4, n_5, reduceCtorEq, reduceIte, q2, q3, q6, q7, bX, x6, x7, xx, xy, d1, d3]))
          refine finE _ _ _ (by simp) (fun b b1 b2 => by rw [AH.get_set, if_neg b2]) (by rw [AH.get_set, if_pos rfl, h1']) (by rw [AH.get_set, if_neg (by omega), h3']; exact x7)
        · rw [if_neg (fun h => d3 h.2)] at h1'
          rw [if_neg d2] at h3'
          repeat' (first
      | with_reducible first | refine Nx.h ?_ | (refine hK _ _ ?_; clear hK K)
      | ((with_reducible refine q_eo ?_ ?_); exact rfl)
      | ((with_reducible first | (refine Ny.h ?_; intro K hK) | (refine c_drw (by decide +kernel) ?_; intro K hK) | refine c_cond ?_ | show endW _ _ _ _ _ | (refine Nz.h ?_ ?_ <;> intro _) | fail) <;> try simp (disch := first | exact dz | fail) only [go_sem, i_0, i_1, i_2, i_3, i_4, i_5, i_6, i_7, i_8, n_0, n_1, n_2, n_3, n_4, n_5, reduceCtorEq, reduceIte, q2, q3, q6, q7, bX, x6, x7, xx, xy, d1]))
          exact finN _ _ _ one rfl (fun b b1 => rfl) x7 h2' h1' (by rw [if_neg d2]; exact h3')
    · rw [if_neg (fun h => d1 h.1)] at h1'
      rw [if_neg d1] at h3'
      repeat' (first
      | with_reducible first | refine Nx.h ?_ | (refine hK _ _ ?_; clear hK K)
      | ((with_reducible refine q_eo ?_ ?_); exact rfl)
      | ((with_reducible first | (refine Ny.h ?_; intro K hK) | (refine c_drw (by decide +kernel) ?_; intro K hK) | refine c_cond ?_ | show endW _ _ _ _ _ | (refine Nz.h ?_ ?_ <;> intro _) | fail) <;> try simp (disch := first | exact dz | fail) only [go_sem, i_0, i_1, i_2, i_3, i_4, i_5, i_6, i_7, i_8, n_0, n_1, n_2, n_3, n_4, n_5, reduceCtorEq, reduceIte, q2, q3, q6, q7, bX, x6, x7, xx, xy]))
      exact finN _ _ _ one rfl (fun b b1 => rfl) x7 h2' h1' h3'
  · rintro h ⟨hz, hf, c6, ⟨one, c7, h2', h1', h3'⟩, cR⟩
    have hd : statL.drop 61 = [] := List.drop_of_length_le (by rw [stat_len]; omega)
    rw [hd] at h1' h3'
    simp only [fnd] at h1' h3'
    refine ⟨.normal, .inl rfl, hz, hf, by rw [h1']; exact c6, ?_, by rw [AO.fin_normal hR]; exact cR⟩
    have : (fnd x y statL 1).2 = one := by rw [h3']; split <;> omega
    rw [this]; exact c7
  · rintro _ hh ⟨e, he, hz, hf, c6, c7, cR⟩
    refine EndR_fin (e := e) hR cR ?_
    have x6 : (hh.set (h2.size + 1) .dead).get b6 = some (.cells [.int .i64 (fnd x y statL 1).1]) := by rw [AH.get_set, if_neg (by omega)]; exact c6
    have x7 : (hh.set (h2.size + 1) .dead).get b7 = some (.cells [.int .i64 (fnd x y statL 1).2]) := by rw [AH.get_set, if_neg (by omega)]; exact c7
    have xm : (hh.set (h2.size + 1) .dead).get h2.size = some (.defs false) := by rw [AH.get_set, if_neg (by omega), hf _ (by omega) (by omega) (by omega) (by omega)]; exact gm
    have kk : ∀ o, Keeps h0.size h0 ((hh.set (h2.size + 1) .dead).set h2.size o) := fun o => ⟨by simp; omega, fun b hb => by
      rw [AH.get_set, if_neg (by omega), AH.get_set, if_neg (by omega), hf b (by omega) (by omega) (by omega) (by omega), fb b (by omega), k1.2 b hb]⟩
    rcases he with rfl | rfl
    all_goals
      repeat' (first
      | with_reducible first | refine Nx.h ?_ | (refine hK _ _ ?_; clear hK K)
      | ((with_reducible refine q_eo ?_ ?_); exact rfl)
      | ((with_reducible first | (refine Ny.h ?_; intro K hK) | (refine c_drw (by decide +kernel) ?_; intro K hK) | refine c_cond ?_ | show endW _ _ _ _ _ | (refine Nz.h ?_ ?_ <;> intro _) | fail) <;> try simp (disch := first | exact dz | fail) only [go_sem, i_0, i_1, i_2, i_3, i_4, i_5, i_6, i_7, i_8, n_0, n_1, n_2, n_3, n_4, n_5, reduceCtorEq, reduceIte, x6, x7, xm, q6, q7]))
      exact hKK _ _ ⟨rfl, kk _⟩
end Go.Proofs.Ytmpeofjfagdgkaa
